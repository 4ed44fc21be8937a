/- Reached states: what the laws say of them; in plain words. -/
import Derived.Test.YtphlojgmfkgeiaaGreatDoorKj
import Derived.Test.YtphlojgmfkgeiaaGreatDoorKm
import Derived.Test.YtphlojgmfkgeiaaGreatDoorIP
import Derived.Test.YtphlojgmfkgeiaaGreatDoorKb
namespace Go.Proofs.YtphlojgmfkgeiaaGreatDoor
theorem base_get {z y : Yd} (hw : z.w.map Sw.base = y.w.map Sw.base) : z.w.length = y.w.length ∧ ∀ i, (h : i < z.w.length) → (h' : i < y.w.length) → z.w[i].n = y.w[i].n ∧ z.w[i].k = y.w[i].k ∧ z.w[i].a = y.w[i].a ∧ z.w[i].b = y.w[i].b := by
  have hl : z.w.length = y.w.length := by simpa using congrArg List.length hw
  refine ⟨hl, fun i h h' => ?_⟩
  have e : (z.w.map Sw.base)[i]'(by simpa using h) = (y.w.map Sw.base)[i]'(by simpa using h') := by simp only [hw]
  simp only [List.getElem_map, Sw.base] at e
  injection e with e1 e2 e3 e4 e5
  exact ⟨e1, e2, e3, e4⟩
/-- The errors of the parts do not look at what is closed. -/
theorem partsE_base {z y : Yd} (hs : z.s = y.s) (hp : z.p = y.p) (hw : z.w.map Sw.base = y.w.map Sw.base) : partsE z = partsE y := by
  have e : (z.w.map fun x => (x.n, swE y.s.length x)) = y.w.map fun x => (x.n, swE y.s.length x) := by
    have key : ∀ l : List Sw, (l.map fun x => (x.n, swE y.s.length x)) = (l.map Sw.base).map fun x => (x.n, swE y.s.length x) := fun l => by
      rw [List.map_map]
      rfl
    rw [key z.w, key y.w, hw]
  unfold partsE swChk
  rw [hs, hp, e]
theorem partsE_at (y : Yd) (s : Int) : partsE (y.at s) = partsE y := partsE_base rfl rfl (withL_base _ _)
theorem partsE_mv (y : Yd) (i : Nat) : partsE (y.mv i) = partsE y := partsE_base rfl rfl (moved_base _ _)
theorem yardE_zero {y : Yd} : yardE y = 0 ↔ partsE y = 0 ∧ soundB y = true := by
  constructor
  · intro h
    exact ⟨(or0_zero h).1, (yard_ok h).2⟩
  · rintro ⟨h1, h2⟩
    unfold yardE
    rw [h1, h2]
    rfl
/-- Where no lock forbids a move, what comes out is sound. -/
theorem why_sound {y : Yd} {i : Nat} (hi : i < y.w.length) (h : whyN y i = 0) : soundB (y.mv i) = true := by
  unfold whyN at h
  rw [List.getElem?_eq_getElem hi] at h
  dsimp only at h
  split at h
  · cases h
  · split at h
    · cases h
    · rename_i h2
      split at h
      · cases h
      · split at h
        · cases h
        · rename_i h4
          unfold soundB
          simp only [Bool.not_eq_true] at h2 h4
          rw [h2, h4]
          rfl
theorem y0_at (y : Yd) : y.at (y0 y) = y := by
  obtain ⟨s, w, p⟩ := y
  show (⟨s, withL w (stUp w w.length), p⟩ : Yd) = _
  rw [withL_self]
theorem at_next (y : Yd) (s : Int) (i : Nat) : y.at (nextS y s i) = (y.at s).mv i := by
  show (⟨y.s, withL y.w (nextS y s i), y.p⟩ : Yd) = ⟨y.s, moved (withL y.w s) i, y.p⟩
  rw [nextS, moved_with]
theorem at_len (y : Yd) (s : Int) : (y.at s).w.length = y.w.length := withL_len _ _
theorem mv_len (y : Yd) (i : Nat) : (y.mv i).w.length = y.w.length := moved_len _ _
theorem reach_ind {y : Yd} (P : Int → Prop) (h0 : P (y0 y)) (h1 : ∀ s i, P s → i < y.w.length → freeS y s i = true → P (nextS y s i)) : ∀ s ∈ reachB y, P s := by
  intro s hs
  refine ((reachB_ok y).mem.1 hs) P h0 fun c k hc hk => ?_
  simp only [nbS, outS, List.mem_filterMap, List.mem_range] at hk
  obtain ⟨i, hi, hk⟩ := hk
  split at hk
  · rename_i hf
    cases hk
    exact h1 c i hc hi hf
  · cases hk
theorem mem_reachL {y : Yd} {s : Int} : s ∈ reachL y ↔ s ∈ reachB y := by
  unfold reachL; exact mem_sortI
theorem reach_rng {y : Yd} {s : Int} (h : s ∈ reachB y) : 0 ≤ s ∧ s < 2 ^ y.w.length := by
  have := mem_rng.1 ((reachB_ok y).un s h)
  refine ⟨this.1, ?_⟩
  simpa using this.2
theorem reachL_sorted (y : Yd) : (reachL y).Pairwise (· < ·) := sortI_sorted (reachB_ok y).nd
theorem reachL_len (y : Yd) : (reachL y).length ≤ 2 ^ y.w.length := by
  have := nodup_len ((reachL_sorted y).imp (fun h => by omega)) (U := rng (2 ^ y.w.length)) (fun z hz => (reachB_ok y).un z (mem_reachL.1 hz))
  rwa [rng_len] at this
theorem y0_reachL (y : Yd) : y0 y ∈ reachL y := mem_reachL.2 (y0_reach y)
theorem reach_sound {y : Yd} (h : yardE y = 0) : ∀ s ∈ reachB y, yardE (y.at s) = 0 := by
  have hp := (yardE_zero.1 h).1
  refine reach_ind _ (by rw [y0_at]; exact h) fun s i _ hi hf => ?_
  rw [at_next]
  refine yardE_zero.2 ⟨by rw [partsE_mv, partsE_at, hp], why_sound (by rw [at_len]; exact hi) ?_⟩
  unfold freeS at hf
  exact eq_of_beq hf
/-- A search that finds something, and one that finds nothing. -/
theorem search_iff (y : Yd) (f : Int → Bool) : (searchL y f).2.isSome = (reachL y).any f := by
  cases h : (searchL y f).2 with
  | none =>
    have := (search_none h).2
    symm
    rw [Option.isSome_none, List.any_eq_false]
    intro s hs
    rw [this s (mem_reachL.1 hs)]
    decide
  | some p =>
    obtain ⟨h1, h2, _⟩ := search_some h
    symm
    rw [Option.isSome_some, List.any_eq_true]
    exact ⟨p.s, mem_reachL.2 (run_reach _ _ h1), h2⟩
theorem search_barr {y : Yd} {f : Int → Bool} (h : (searchL y f).2 = none) : sortI ((searchL y f).1.map Pl.s) = reachL y := by
  rw [(search_none h).1]; rfl
/-- The number of the switch with its own name. -/
theorem idx_uniq {l : List Sw} (h : l.Pairwise (fun p q => (p.n.toList == q.n.toList) = false)) (nm : ByteArray) : ∀ (i k : Nat) (hi : i < l.length), (l[i].n.toList == nm.toList) = true → idxP (fun x : Sw => x.n.toList == nm.toList) k l = ((k + i : Nat) : Int) := by
  induction l with
  | nil => intro i k hi; simp at hi
  | cons x r ih =>
    intro i k hi he
    rw [idxP_cons]
    cases i with
    | zero =>
      simp only [List.getElem_cons_zero] at he
      rw [if_pos he]
      simp
    | succ i =>
      simp only [List.getElem_cons_succ] at he
      obtain ⟨h1, h2⟩ := List.pairwise_cons.1 h
      have hi' : i < r.length := by simpa using hi
      have h3 := h1 r[i] (List.getElem_mem hi')
      have e2 := eq_of_beq he
      rw [if_neg, ih h2 i (k + 1) hi' he]
      · omega
      · rw [← e2, h3]; decide
theorem at_own {y : Yd} (h : yardE y = 0) {i : Nat} (hi : i < y.w.length) : atB y y.w[i].n = i := by
  unfold atB
  rw [idx_uniq (sw_uniq h) _ i 0 hi (beq_self_eq_true _)]
  simp
theorem names_base {z y : Yd} (hw : z.w.map Sw.base = y.w.map Sw.base) (nm : ByteArray) : atB z nm = atB y nm := by
  have key : ∀ (l m : List Sw), l.map Sw.base = m.map Sw.base → ∀ k, idxP (fun x : Sw => x.n.toList == nm.toList) k l = idxP (fun x : Sw => x.n.toList == nm.toList) k m := by
    intro l
    induction l with
    | nil =>
      intro m h k
      cases m with
      | nil => rfl
      | cons => simp at h
    | cons x r ih =>
      intro m h k
      cases m with
      | nil => simp at h
      | cons x' r' =>
        simp only [List.map_cons, List.cons.injEq] at h
        have hn : x.n = x'.n := by
          have := congrArg Sw.n h.1
          exact this
        rw [idxP_cons, idxP_cons, hn, ih r' h.2]
  exact key _ _ hw 0
theorem atB_at (y : Yd) (s : Int) (nm : ByteArray) : atB (y.at s) nm = atB y nm := names_base (withL_base _ _) nm
theorem atB_mv (y : Yd) (i : Nat) (nm : ByteArray) : atB (y.mv i) nm = atB y nm := names_base (moved_base _ _) nm
theorem secAt_at (y : Yd) (s : Int) (nm : ByteArray) : secAtB (y.at s) nm = secAtB y nm := rfl
/-- Moving from a state by a switch's name. -/
theorem move_at {y : Yd} (h : yardE y = 0) {s : Int} (hs : s ∈ reachB y) {i : Nat} (hi : i < y.w.length) : moveE (y.at s) y.w[i].n = (if freeS y s i then 0 else 21) ∧ (atB (y.at s) y.w[i].n).toNat = i := by
  have h1 := reach_sound h s hs
  have h2 : atB (y.at s) y.w[i].n = i := by rw [atB_at]; exact at_own h hi
  refine ⟨?_, by rw [h2]; rfl⟩
  unfold moveE findE freeS
  rw [h1, h2]
  have e : decide ((i : Int) < 0) = false := by simp
  rw [e]
  cases hw : (whyN (y.at s) i == 0)
  · simp only [Int.toNat_natCast, hw]; rfl
  · simp only [Int.toNat_natCast, hw]; rfl
theorem state_at {y : Yd} {s : Int} (hs : s ∈ reachB y) : y0 (y.at s) = s := by
  have h := reach_rng hs
  show stUp (withL y.w s) (withL y.w s).length = s
  rw [withL_len]
  exact stUp_with_eq h.1 h.2
theorem state_next (y : Yd) (s : Int) (i : Nat) : y0 ((y.at s).mv i) = nextS y s i := by
  show stUp (moved (withL y.w s) i) (moved (withL y.w s) i).length = _
  rw [moved_len, withL_len]
  rfl
theorem free_next {y : Yd} {s : Int} (hs : s ∈ reachB y) {i : Nat} (hi : i < y.w.length) (hf : freeS y s i = true) : nextS y s i ∈ reachB y := reach_step hs hi hf
/-- What is reached is a barrier if the goal holds nowhere there. -/
theorem closed_reach {y : Yd} (h : yardE y = 0) (gk gs : ByteArray) {s : Int} (hs : s ∈ reachB y) : closedB y gk gs s (reachL y) = !holdsF y gk gs s := by
  unfold closedB
  have h1 := (yardE_zero.1 (reach_sound h s hs)).2
  rw [h1, Bool.true_and]
  have h2 : closedTo y s (reachL y) y.w.length = true := by
    unfold closedTo
    rw [List.all_eq_true]
    intro i hi
    have hi := List.mem_range.1 hi
    cases hf : freeS y s i with
    | false => simp
    | true => rw [(hasI_iff _ _).2 (mem_reachL.2 (reach_step hs hi hf))]; rfl
  rw [h2, Bool.and_true]
  rfl
theorem leak_reach {y : Yd} (h : yardE y = 0) (gk gs : ByteArray) : leakB y gk gs (reachL y) = (reachL y).any (holdsF y gk gs) := by
  unfold leakB
  rw [Bool.eq_iff_iff, List.any_eq_true, List.any_eq_true]
  constructor
  · rintro ⟨s, hs, e⟩
    rw [closed_reach h gk gs (mem_reachL.1 hs), Bool.not_not] at e
    exact ⟨s, hs, e⟩
  · rintro ⟨s, hs, e⟩
    refine ⟨s, hs, ?_⟩
    rw [closed_reach h gk gs (mem_reachL.1 hs), Bool.not_not]
    exact e
theorem sts_sorted {n : Nat} : ∀ {l : List Int} {last : Int}, (∀ s ∈ l, 0 ≤ s ∧ s < 2 ^ n) → (∀ s ∈ l, last < s) → l.Pairwise (· < ·) → stsE n last l = 0
  | [], _, _, _, _ => rfl
  | s :: r, last, h1, h2, h3 => by
    obtain ⟨h4, h5⟩ := List.pairwise_cons.1 h3
    have e1 : stE n s = 0 := by
      unfold stE
      rw [decide_eq_true (h1 s (List.mem_cons_self ..))]
      rfl
    have e2 : decide (s ≤ last) = false := by
      have := h2 s (List.mem_cons_self ..)
      simp; omega
    unfold stsE
    rw [e1, e2]
    exact sts_sorted (fun s hs => h1 s (List.mem_cons_of_mem _ hs)) h4 h5
theorem states_reach {y : Yd} (h8 : y.w.length ≤ 8) : statesE y.w.length (reachL y) = 0 := by
  have hl := reachL_len y
  have hp : 2 ^ y.w.length ≤ 2 ^ 8 := Nat.pow_le_pow_right (by decide) h8
  unfold statesE
  rw [if_neg (by omega)]
  exact sts_sorted (fun s hs => reach_rng (mem_reachL.1 hs)) (fun s hs => by have := (reach_rng (mem_reachL.1 hs)).1; omega) (reachL_sorted y)
theorem barr_reach {y : Yd} {gk gs : ByteArray} (h : goalE y gk gs = 0) : barrCE y gk gs (reachL y) = whenE ((reachL y).any (holdsF y gk gs)) 19 := by
  have h0 := (goalE_zero h).1
  have h8 := (yard_ok h0).1.w8
  unfold barrCE
  rw [h, states_reach h8, leak_reach h0, (hasI_iff _ _).2 (y0_reachL y)]
  simp [or0]
/-- The way is shorter than there are states. -/
theorem dst_chain {y : Yd} {f : Int → Bool} (M : Nat) : ∀ (d : Nat) (s : Int), dst y f M s = d → ∃ l : List Int, l.length = d + 1 ∧ l.Nodup ∧ (∀ z ∈ l, z ∈ reachB y ∧ 0 ≤ dst y f M z ∧ dst y f M z ≤ d)
  | 0, s, h => ⟨[s], rfl, by simp, fun z hz => by
    simp at hz
    subst hz
    exact ⟨dst_in (found := f) M z (by omega), by omega, by omega⟩⟩
  | d + 1, s, h => by
    obtain ⟨k, hk, hf, hd⟩ := dst_next h
    obtain ⟨l, h1, h2, h3⟩ := dst_chain M d _ hd
    refine ⟨s :: l, by simp [h1], List.nodup_cons.2 ⟨fun hs => ?_, h2⟩, fun z hz => ?_⟩
    · have := (h3 s hs).2.2
      omega
    · rcases List.mem_cons.1 hz with rfl | hz
      · exact ⟨dst_in (found := f) M z (by omega), by omega, by omega⟩
      · have := h3 z hz
        exact ⟨this.1, this.2.1, by omega⟩
theorem way_short {y : Yd} {f : Int → Bool} {p : Pl} (h : (searchL y f).2 = some p) : p.m.length < (reachL y).length := by
  obtain ⟨h1, _⟩ := order_some h
  obtain ⟨l, g1, g2, g3⟩ := dst_chain _ p.m.length _ h1
  have := nodup_len g2 (U := reachL y) (fun z hz => mem_reachL.2 (g3 z hz).1)
  omega
/-- With one more permit no more is free. -/
def addP (y : Yd) (x : Pm) : Yd := { y with p := y.p ++ [x] }
theorem why_add {y : Yd} {x : Pm} {i : Nat} (h : whyN (addP y x) i = 0) : whyN y i = 0 := by
  unfold whyN at h ⊢
  have e1 : enL (addP y x) = enL y := rfl
  have e2 : enL ((addP y x).mv i) = enL (y.mv i) := rfl
  have e3 : shortB ((addP y x).mv i) = shortB (y.mv i) := rfl
  have e4 : ∀ a, sepB ((addP y x).mv i) a = sepB (y.mv i) a := fun _ => rfl
  have e5 : (addP y x).w[i]? = y.w[i]? := rfl
  have e6 : openB ((addP y x).mv i) = (openB (y.mv i) || !secB (y.mv i) x.s) := by
    show List.any (y.p ++ [x]) _ = _
    rw [List.any_append]
    simp [openB]
    rfl
  rw [e5] at h
  cases hx : y.w[i]? with
  | none => rfl
  | some z =>
    rw [hx] at h
    dsimp only at h ⊢
    rw [e1, e2, e3, e4, e6] at h
    split at h
    · cases h
    · rename_i g1
      rw [if_neg g1]
      split at h
      · cases h
      · rename_i g2
        rw [if_neg g2]
        split at h
        · cases h
        · rename_i g3
          rw [if_neg g3]
          split at h
          · cases h
          · rename_i g4
            simp only [Bool.or_eq_true, not_or] at g4
            rw [if_neg g4.1]
theorem free_add {y : Yd} {x : Pm} {s : Int} {i : Nat} (h : freeS (addP y x) s i = true) : freeS y s i = true := by
  unfold freeS at h ⊢
  have e : (addP y x).at s = addP (y.at s) x := rfl
  rw [e] at h
  rw [why_add (eq_of_beq h)]
  rfl
theorem reach_add {y : Yd} {x : Pm} : ∀ s ∈ reachB (addP y x), s ∈ reachB y :=
  reach_ind (y := addP y x) _ (y0_reach y) fun _ _ hs hi hf => reach_step (y := y) hs hi (free_add hf)
theorem reachL_add {y : Yd} {x : Pm} : (∀ s ∈ reachL (addP y x), s ∈ reachL y) ∧ (reachL (addP y x)).length ≤ (reachL y).length := by
  have h : ∀ s ∈ reachL (addP y x), s ∈ reachL y := fun s hs => mem_reachL.2 (reach_add s (mem_reachL.1 hs))
  exact ⟨h, nodup_len ((reachL_sorted _).imp (fun h => by omega)) h⟩
end Go.Proofs.YtphlojgmfkgeiaaGreatDoor
