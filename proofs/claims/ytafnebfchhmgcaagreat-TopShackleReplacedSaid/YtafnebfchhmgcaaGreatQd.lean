/- Joined texts: UI UJ UK UL UM UN UO. -/
import Derived.Test.YtafnebfchhmgcaaGreatQc
/- Arms in plain words: what a choice keeps: switchings, the best ones, the bound of the spread. -/
namespace Go.Proofs.YtafnebfchhmgcaaGreat
open Go.RowKit Go.Sort Go.Shelf
set_option linter.unusedSimpArgs false
set_option linter.unusedVariables false
theorem nodup_len : ∀ {l U : List Int}, l.Nodup → (∀ z ∈ l, z ∈ U) → l.length ≤ U.length
  | [], _, _, _ => by simp
  | a :: r, U, h, hs => by
    rw [List.nodup_cons] at h
    have ha : a ∈ U := hs a List.mem_cons_self
    have := nodup_len (U := U.erase a) h.2 (fun z hz => by
      have hne : z ≠ a := by rintro rfl; exact h.1 hz
      exact (List.mem_erase_of_ne hne).2 (hs z (List.mem_cons_of_mem _ hz)))
    rw [List.length_erase_of_mem ha] at this
    have : 0 < U.length := List.length_pos_of_mem ha
    simp only [List.length_cons]; omega
theorem chg_le_us {U s0 set : List Int} (h0 : s0.Nodup) (hs : set.Nodup) (h0U : ∀ x ∈ s0, x ∈ U) (hsU : ∀ x ∈ set, x ∈ U) : chgN s0 set ≤ U.length := by
  have hn : (wout s0 set ++ wout set s0).Nodup := List.nodup_append.2 ⟨wout_nodup h0, wout_nodup hs, fun a ha b hb e => (mem_wout.1 ha).2 (e ▸ (mem_wout.1 hb).1)⟩
  have := nodup_len hn (U := U) fun x hx => by
    rcases List.mem_append.1 hx with h | h
    · exact h0U x (mem_wout.1 h).1
    · exact hsU x (mem_wout.1 h).1
  rw [List.length_append] at this
  exact this
theorem exTo_chg {c : Ck} {U s0 : List Int} {lim : Int} {n : Nat} (h0 : s0.Nodup) (hs : ∀ x ∈ s0, x ∈ U) : ∀ (f : Nat) (set : List Int), ExI c U s0 n lim f set → (chgN s0 set : Int) ≤ lim → (chgN s0 (exTo c U lim f (chgN s0 set) set) : Int) ≤ lim
  | 0, _, _, h => h
  | f + 1, set, hE, h => by
    unfold exTo
    cases hg : goB c U lim (chgN s0 set) set with
    | false => exact h
    | true =>
      obtain ⟨g, hfg, h2, h3⟩ := hE.step h0 hs hg
      cases hfg
      have hl := (goB_iff.1 hg).2.2.1
      rw [if_pos rfl]
      have := exTo_chg (c := c) (U := U) (lim := lim) h0 hs f _ h2 (by rw [h3]; omega)
      rw [h3] at this
      exact this
/-- A choice makes at most as many switchings as permitted. -/
theorem setU_chg {a : Ar} {o : Od} (hF : Fit a) (hn : 0 ≤ o.n) (hr : refE a o = 0) : (chgN (onL a) (setU a o) : Int) ≤ a.lim := by
  obtain ⟨_, h2, h3⟩ := ref_zero hr
  have hU : (usL a).Nodup := idxs_nodup _ _ _
  have h0 : (onL a).Nodup := idxs_nodup _ _ _
  have hnU : o.n.toNat ≤ (usL a).length := by omega
  obtain ⟨_, f2, f3⟩ := first_spec (c := ckA a o.c) (n := o.n.toNat) hU h0 (on_sub hF) hnU
  have hE := ExI.start (c := ckA a o.c) (lim := a.lim) hU h0 (on_sub hF) hnU
  have := exTo_chg h0 (on_sub hF) _ _ hE (by rw [f3]; unfold absI at h3; omega)
  exact this
/-- Where the limit holds nothing back, none that is out is strictly better than one that is in. -/
theorem setU_best {a : Ar} {o : Od} (hF : Fit a) (hn : 0 ≤ o.n) (hr : refE a o = 0) (hl : ((usL a).length : Int) ≤ a.lim) {i k : Int} (hi : i ∈ usL a) (hi2 : i ∉ setU a o) (hk : k ∈ setU a o) : strictB ((ckA a o.c).ch i) ((ckA a o.c).ch k) o.c = false := by
  obtain ⟨hf, hlen, hg⟩ := setU_spec hF hn hr
  have h0 : (onL a).Nodup := idxs_nodup _ _ _
  generalize hs : setU a o = set at *
  have hne : set ≠ [] := by intro e; rw [e] at hk; cases hk
  have hnu : wout (usL a) set ≠ [] := by
    intro e
    have : i ∈ wout (usL a) set := mem_wout.2 ⟨hi, hi2⟩
    rw [e] at this
    cases this
  have hst : strictB ((ckA a o.c).ch (bestL (ckA a o.c) (wout (usL a) set))) ((ckA a o.c).ch (worstL (ckA a o.c) set)) (ckA a o.c).cur = false := by
    cases hq : strictB ((ckA a o.c).ch (bestL (ckA a o.c) (wout (usL a) set))) ((ckA a o.c).ch (worstL (ckA a o.c) set)) (ckA a o.c).cur with
    | false => rfl
    | true =>
      obtain ⟨a1, a2, a3⟩ := hf.exch (on_sub hF) hne hnu hq
      have hm := (worstL_spec (c := ckA a o.c) hne).1
      have hc := chg_exch (set := set) h0 hm a2 a1
      have hle := chg_le_us h0 a3.nd (on_sub hF) a3.sub
      have : goB (ckA a o.c) (usL a) a.lim (chgN (onL a) set) set = true := goB_iff.2 ⟨hne, hnu, by omega, hq⟩
      rw [this] at hg
      cases hg
  have hb := (bestL_spec (c := ckA a o.c) hnu).2 i (mem_wout.2 ⟨hi, hi2⟩)
  have hw := (worstL_spec (c := ckA a o.c) hne).2 k hk
  generalize bestL (ckA a o.c) (wout (usL a) set) = b at *
  generalize worstL (ckA a o.c) set = w at *
  have key : ∀ x y, leB (ckA a o.c) x y → k1 (ckA a o.c) x ≤ k1 (ckA a o.c) y := fun x y h => by
    rcases le_cases h with e | e
    · rw [e]; exact Int.le_refl _
    · have := (bet_iff _ _ _).1 e
      omega
  have e1 := key _ _ hb
  have e2 := key _ _ hw
  cases hq : strictB ((ckA a o.c).ch i) ((ckA a o.c).ch k) o.c with
  | false => rfl
  | true =>
    have e3 := (strict_iff (ckA a o.c) i k).1 hq
    have e4 : ¬ k1 (ckA a o.c) b < k1 (ckA a o.c) w := fun e => by rw [(strict_iff (ckA a o.c) b w).2 e] at hst; cases hst
    omega
/-- The charges after a step. -/
theorem step_us {a : Ar} (o : Od) : usL (stepA a o) = usL a := by
  have key : ∀ (set : List Int) (c : Int) (l : List Md) (k : Nat), idxs usB k (stepMs set c k l) = idxs usB k l := by
    intro set c l
    induction l with
    | nil => intro k; rfl
    | cons x r ih =>
      intro k
      have e : stepMs set c k (x :: r) = ⟨x.n, if hasI set k then x.q + c else x.q, hasI set k, x.by_⟩ :: stepMs set c (k + 1) r := rfl
      rw [e]
      unfold idxs
      rw [ih]
      rfl
  exact key _ _ _ _
theorem step_ch {a : Ar} {o : Od} {c : Int} {i : Int} (hi : i ∈ usL a) : (ckA (stepA a o) c).ch i = (ckA a c).ch i + (if hasI (choiceA a o) i then o.c else 0) := by
  obtain ⟨j, hj, e, _⟩ := mem_idxs.1 hi
  show (((stepMs (choiceA a o) o.c 0 a.m)[i.toNat]?).map Md.q).getD 0 = ((a.m[i.toNat]?).map Md.q).getD 0 + _
  rw [stepMs_get, e, Nat.zero_add, Int.toNat_natCast, Nat.zero_add, List.getElem?_eq_getElem hj]
  simp only [Option.map_some, Option.getD_some]
  split <;> omega
/-- What a spread is. -/
theorem spread_le {a : Ar} {b : Int} (hb : 0 ≤ b) (h : ∀ i ∈ usL a, ∀ j ∈ usL a, (ckA a 1).ch i - (ckA a 1).ch j ≤ b) : spreadL a ≤ b := by
  by_cases hu : usL a = []
  · unfold spreadL
    rw [(us_nil a).1 hu]
    exact hb
  · rw [spread_best hu]
    exact h _ (worstL_spec (c := ckA a 1) hu).1 _ (bestL_spec (c := ckA a 1) hu).1
theorem spread_ge {a : Ar} {i j : Int} (hi : i ∈ usL a) (hj : j ∈ usL a) : (ckA a 1).ch i - (ckA a 1).ch j ≤ spreadL a := by
  have hu : usL a ≠ [] := by intro e; rw [e] at hi; cases hi
  have key : ∀ x y, leB (ckA a 1) x y → (ckA a 1).ch x ≤ (ckA a 1).ch y := fun x y h => by
    rcases le_cases h with e | e
    · rw [e]; exact Int.le_refl _
    · have := (bet_iff _ _ _).1 e
      unfold k1 at this
      rw [if_pos (show (0 : Int) ≤ (ckA a 1).cur by show (0 : Int) ≤ 1; decide), if_pos (show (0 : Int) ≤ (ckA a 1).cur by show (0 : Int) ≤ 1; decide)] at this
      omega
  rw [spread_best hu]
  have e1 := key _ _ ((worstL_spec (c := ckA a 1) hu).2 i hi)
  have e2 := key _ _ ((bestL_spec (c := ckA a 1) hu).2 j hj)
  omega
theorem spread_nonneg (a : Ar) : 0 ≤ spreadL a := by
  by_cases hu : usL a = []
  · unfold spreadL
    rw [(us_nil a).1 hu]
    exact Int.le_refl _
  · obtain ⟨b1, _⟩ := bestL_spec (c := ckA a 1) hu
    have := spread_ge b1 b1
    omega
theorem ch_cur (a : Ar) (c d : Int) (i : Int) : (ckA a c).ch i = (ckA a d).ch i := rfl
theorem us_len_le (a : Ar) : (usL a).length ≤ a.m.length := idxs_len _ _ _
theorem mem_choice {a : Ar} {o : Od} {i : Int} : hasI (choiceA a o) i = true ↔ i ∈ setU a o := by
  rw [hasI_iff]
  exact mem_sortI
/-- The spread after an order is not above its bound. -/
theorem step_spread {a : Ar} {o : Od} (hF : Fit a) (hn : 0 ≤ o.n) (hr : refE a o = 0) : spreadL (stepA a o) ≤ boundL a o := by
  have hs0 := spread_nonneg a
  unfold boundL
  have habs : 0 ≤ absI o.c ∧ o.c ≤ absI o.c ∧ -o.c ≤ absI o.c ∧ (absI o.c = o.c ∨ absI o.c = -o.c) := by unfold absI; omega
  split
  · rename_i hl
    have hlu := us_len_le a
    refine spread_le (by omega) fun i hi j hj => ?_
    rw [step_us] at hi hj
    rw [step_ch hi, step_ch hj]
    have hg := spread_ge hi hj
    cases h1 : hasI (choiceA a o) i with
    | true =>
      cases h2 : hasI (choiceA a o) j with
      | true => simp only [if_true]; omega
      | false =>
        have hb := setU_best hF hn hr (by omega) hj (fun e => by rw [mem_choice.2 e] at h2; cases h2) (mem_choice.1 h1)
        unfold strictB at hb
        rw [ch_cur a o.c 1, ch_cur a o.c 1] at hb
        simp only [if_true, Bool.false_eq_true, if_false]
        split at hb
        · have := of_decide_eq_false hb
          omega
        · omega
    | false =>
      cases h2 : hasI (choiceA a o) j with
      | true =>
        have hb := setU_best hF hn hr (by omega) hi (fun e => by rw [mem_choice.2 e] at h1; cases h1) (mem_choice.1 h2)
        unfold strictB at hb
        rw [ch_cur a o.c 1, ch_cur a o.c 1] at hb
        simp only [if_true, Bool.false_eq_true, if_false]
        split at hb
        · omega
        · have := of_decide_eq_false hb
          omega
      | false => simp only [Bool.false_eq_true, if_false]; omega
  · refine spread_le (by omega) fun i hi j hj => ?_
    rw [step_us] at hi hj
    rw [step_ch hi, step_ch hj]
    have hg := spread_ge hi hj
    split <;> split <;> omega
end Go.Proofs.YtafnebfchhmgcaaGreat
/- Arms in plain words: what a step keeps, and what it adds up to. -/
namespace Go.Proofs.YtafnebfchhmgcaaGreat
open Go.RowKit Go.Sort Go.Shelf
set_option linter.unusedSimpArgs false
set_option linter.unusedVariables false
theorem mdE_of {pre : List Md} {lo hi : Int} {x : Md} (h1 : nameB x.n = true) (h2 : twiceB pre x = false) (h3 : 0 ≤ x.q ∧ x.q ≤ 16384) (h4 : x.on = true → x.by_ = false) (h5 : x.by_ = false → lo ≤ x.q ∧ x.q ≤ hi) : mdE pre lo hi x = 0 := by
  unfold mdE
  rw [firstE_cons, firstE_cons, firstE_cons, firstE_cons, firstE_cons, firstE_nil]
  refine or0_of ?_ (or0_of ?_ (or0_of (ckR_yes h3) (or0_of ?_ (or0_of ?_ rfl))))
  · unfold nameE; rw [h1]; rfl
  · rw [h2]; rfl
  · cases ho : x.on with
    | false => rfl
    | true => rw [h4 ho]; rfl
  · cases hb : x.by_ with
    | true => rfl
    | false =>
      have := h5 hb
      unfold inB
      simp [whenE, this]
theorem twice_names {pre pre' : List Md} {x x' : Md} (h : pre.map Md.n = pre'.map Md.n) (hx : x.n = x'.n) : twiceB pre x = twiceB pre' x' := by
  have e : ∀ (l : List Md) (z : Md), twiceB l z = (l.map Md.n).any fun s => s.toList == z.n.toList := fun l z => by
    unfold twiceB
    rw [List.any_map]
    rfl
  rw [e, e, h, hx]
/-- The names stay: then charges and states decide. -/
theorem mds_keep {lo hi : Int} : ∀ {l l' pre pre' : List Md}, l.map Md.n = l'.map Md.n → pre.map Md.n = pre'.map Md.n → mdsGo lo hi pre l = 0 → (∀ x ∈ l', (0 ≤ x.q ∧ x.q ≤ 16384) ∧ (x.on = true → x.by_ = false) ∧ (x.by_ = false → lo ≤ x.q ∧ x.q ≤ hi)) → mdsGo lo hi pre' l' = 0
  | [], [], _, _, _, _, _, _ => rfl
  | [], _ :: _, _, _, h, _, _, _ => by cases h
  | _ :: _, [], _, _, h, _, _, _ => by cases h
  | x :: r, x' :: r', pre, pre', hn, hp, h, hq => by
    injection hn with hx hr
    have h' : or0 (mdE pre lo hi x) (mdsGo lo hi (pre ++ [x]) r) = 0 := h
    obtain ⟨h1, h2⟩ := or0_zero h'
    obtain ⟨g1, g2, _⟩ := mdE_zero h1
    obtain ⟨q1, q2, q3⟩ := hq x' (List.mem_cons_self ..)
    exact or0_of (mdE_of (hx ▸ g1) (by rw [← twice_names hp hx]; exact g2) q1 q2 q3) (mds_keep hr (by rw [List.map_append, List.map_append, hp, List.map_cons, List.map_cons, hx]) h2 fun z hz => hq z (List.mem_cons_of_mem _ hz))
theorem arm_keep {a a' : Ar} (h : armE a = 0) (hn : a.m.map Md.n = a'.m.map Md.n) (h1 : a.lo = a'.lo) (h2 : a.hi = a'.hi) (h3 : a.cur = a'.cur) (h4 : ckR a'.lim 0 16 = 0) (hq : ∀ x ∈ a'.m, (0 ≤ x.q ∧ x.q ≤ 16384) ∧ (x.on = true → x.by_ = false) ∧ (x.by_ = false → a.lo ≤ x.q ∧ x.q ≤ a.hi)) : armE a' = 0 := by
  unfold armE at h ⊢
  obtain ⟨g1, g2⟩ := or0_zero h
  have hl : a.m.length = a'.m.length := by simpa using congrArg List.length hn
  refine or0_of ?_ (by rw [← h1, ← h2]; exact mds_keep hn rfl g2 hq)
  unfold headE at g1 ⊢
  rw [← hl, ← h1, ← h2, ← h3, h4]
  rw [firstE_cons, firstE_cons, firstE_cons, firstE_cons, firstE_cons, firstE_cons, firstE_cons] at g1 ⊢
  obtain ⟨b1, g1⟩ := or0_zero g1
  obtain ⟨b2, g1⟩ := or0_zero g1
  obtain ⟨b3, g1⟩ := or0_zero g1
  obtain ⟨b4, g1⟩ := or0_zero g1
  obtain ⟨b5, g1⟩ := or0_zero g1
  obtain ⟨b6, g1⟩ := or0_zero g1
  exact or0_of b1 (or0_of b2 (or0_of b3 (or0_of b4 (or0_of b5 (or0_of b6 (or0_of rfl rfl))))))
theorem stepMs_names (set : List Int) (c : Int) : ∀ (l : List Md) (k : Nat), (stepMs set c k l).map Md.n = l.map Md.n
  | [], _ => rfl
  | x :: r, k => by
    show x.n :: (stepMs set c (k + 1) r).map Md.n = x.n :: r.map Md.n
    rw [stepMs_names set c r (k + 1)]
theorem choice_us {a : Ar} {o : Od} (hF : Fit a) (hn : 0 ≤ o.n) (hr : refE a o = 0) {i : Int} (h : hasI (choiceA a o) i = true) : i ∈ usL a := (setU_spec hF hn hr).1.sub i (mem_choice.1 h)
/-- An arm stays valid. -/
theorem step_ok {a : Ar} {o : Od} (h : armE a = 0) (hn : 0 ≤ o.n) (hs : stepE a o = 0) : armE (stepA a o) = 0 := by
  have hF := fit_of h
  unfold stepE at hs
  obtain ⟨hr, hb⟩ := or0_zero hs
  have hb := whenE_zero (by decide) hb
  have hlim : ckR a.lim 0 16 = 0 := ckR_yes hF.lim
  refine arm_keep h (stepMs_names _ _ _ _).symm rfl rfl rfl hlim fun x hx => ?_
  obtain ⟨i, hi, ex⟩ := List.mem_iff_getElem.1 (show x ∈ stepMs (choiceA a o) o.c 0 a.m from hx)
  have hg := stepMs_get (choiceA a o) o.c a.m 0 i
  have hi' : i < a.m.length := by rwa [stepMs_len] at hi
  rw [List.getElem?_eq_getElem hi, ex, List.getElem?_eq_getElem hi', Option.map_some, Nat.zero_add] at hg
  injection hg with hg
  have hm := List.getElem_mem hi'
  have hout : outB a.lo a.hi x = false := by
    rw [List.any_eq_false] at hb
    simpa using hb x hx
  cases hc : hasI (choiceA a o) (i : Int) with
  | true =>
    obtain ⟨j, hj, ej, hu⟩ := mem_idxs.1 (choice_us hF hn hr hc)
    obtain rfl : i = j := by omega
    have hby : (a.m[i]).by_ = false := by simpa [usB] using hu
    have hx' : x.on = true ∧ x.by_ = false := by rw [hg, hc]; exact ⟨rfl, hby⟩
    unfold outB inB at hout
    rw [hx'.1] at hout
    simp at hout
    have := hF.lo
    have := hF.hi
    exact ⟨⟨by omega, by omega⟩, fun _ => hx'.2, fun _ => hout⟩
  | false =>
    have hx' : x.on = false ∧ x.q = (a.m[i]).q ∧ x.by_ = (a.m[i]).by_ := by rw [hg, hc]; exact ⟨rfl, rfl, rfl⟩
    refine ⟨by rw [hx'.2.1]; exact hF.q _ hm, fun e => ?_, fun e => ?_⟩
    · rw [hx'.1] at e; cases e
    · rw [hx'.2.1]; exact hF.band _ hm (by rw [← hx'.2.2]; exact e)
/-- Those that are on after a step are the choice. -/
theorem onL_step {a : Ar} {o : Od} (hF : Fit a) (hn : 0 ≤ o.n) (hr : refE a o = 0) : onL (stepA a o) = choiceA a o := by
  have hsp := (setU_spec hF hn hr).1
  refine sorted_ext (idxs_sorted _ _ _) (sortI_sorted hsp.nd) fun z => ?_
  constructor
  · intro hz
    obtain ⟨j, hj, e, hq⟩ := mem_idxs.1 (show z ∈ idxs (fun x => x.on) 0 (stepMs (choiceA a o) o.c 0 a.m) from hz)
    have hg := stepMs_get (choiceA a o) o.c a.m 0 j
    have hj' : j < a.m.length := by rwa [stepMs_len] at hj
    rw [List.getElem?_eq_getElem hj', List.getElem?_eq_getElem hj, Option.map_some, Nat.zero_add] at hg
    injection hg with hg
    have hq' : ((stepMs (choiceA a o) o.c 0 a.m)[j]'hj).on = true := hq
    rw [hg] at hq'
    rw [e, Nat.zero_add]
    exact (hasI_iff _ _).1 hq'
  · intro hz
    have hc : hasI (choiceA a o) z = true := (hasI_iff _ _).2 hz
    obtain ⟨j, hj, e, _⟩ := mem_idxs.1 (choice_us hF hn hr hc)
    have hg := stepMs_get (choiceA a o) o.c a.m 0 j
    have hj' : j < (stepMs (choiceA a o) o.c 0 a.m).length := by rw [stepMs_len]; exact hj
    rw [List.getElem?_eq_getElem hj, List.getElem?_eq_getElem hj', Option.map_some, Nat.zero_add] at hg
    injection hg with hg
    refine mem_idxs.2 ⟨j, hj', e, ?_⟩
    show ((stepMs (choiceA a o) o.c 0 a.m)[j]'hj').on = true
    rw [hg]
    show hasI (choiceA a o) ((j : Nat) : Int) = true
    rw [Nat.zero_add] at e
    rw [← e]
    exact hc
theorem choice_len {a : Ar} {o : Od} (hF : Fit a) (hn : 0 ≤ o.n) (hr : refE a o = 0) : ((choiceA a o).length : Int) = o.n := by
  have h := (setU_spec hF hn hr).2.1
  have : (choiceA a o).length = (setU a o).length := (sortI_perm _).length_eq
  omega
/-- The work of a step. -/
def wkGo (set : List Int) (c : Int) : Nat → List Md → Int
  | _, [] => 0
  | k, x :: r => (if hasI set k then c * (x.q + (x.q + c)) else 0) + wkGo set c (k + 1) r
theorem sumI_cons (f : Md → Int) (x : Md) (r : List Md) : sumI f (x :: r) = f x + sumI f r := by simp [sumI]
theorem ener_step (set : List Int) (c : Int) : ∀ (l : List Md) (k : Nat), (∀ i, (h : i < l.length) → hasI set ((k + i : Nat) : Int) = true → (l[i]).by_ = false) → sumI (fun x => if x.by_ then 0 else x.q * x.q) (stepMs set c k l) = sumI (fun x => if x.by_ then 0 else x.q * x.q) l + wkGo set c k l
  | [], _, _ => rfl
  | x :: r, k, h => by
    have ih := ener_step set c r (k + 1) fun i hi hq => h (i + 1) (by simpa using hi) (by rw [show k + (i + 1) = k + 1 + i by omega]; exact hq)
    have h0 := h 0 (by simp)
    rw [Nat.add_zero] at h0
    show sumI _ (_ :: stepMs set c (k + 1) r) = _
    rw [sumI_cons, sumI_cons, ih]
    show (if x.by_ = true then (0 : Int) else (if hasI set k then x.q + c else x.q) * (if hasI set k then x.q + c else x.q)) + _ = _ + ((if hasI set k then c * (x.q + (x.q + c)) else 0) + _)
    cases hc : hasI set (k : Int) with
    | true =>
      have hby : x.by_ = false := h0 hc
      rw [hby]
      simp only [if_true, Bool.false_eq_true, if_false, Int.add_mul, Int.mul_add]
      have := Int.mul_comm c x.q
      omega
    | false => simp only [Bool.false_eq_true, if_false]; omega
theorem idxs_cons (p : Md → Bool) (k : Nat) (x : Md) (r : List Md) : idxs p k (x :: r) = if p x then (k : Int) :: idxs p (k + 1) r else idxs p (k + 1) r := rfl
theorem sum_step (set : List Int) (c : Int) : ∀ (l : List Md) (k : Nat), sumI Md.q (stepMs set c k l) = sumI Md.q l + c * ((idxs (fun x => x.on) k (stepMs set c k l)).length : Int)
  | [], _ => by simp [stepMs, sumI, idxs]
  | x :: r, k => by
    have ih := sum_step set c r (k + 1)
    show sumI _ (_ :: stepMs set c (k + 1) r) = _ + c * ((idxs _ k (_ :: stepMs set c (k + 1) r)).length : Int)
    rw [sumI_cons, sumI_cons, ih]
    rw [idxs_cons]
    show (if hasI set k then x.q + c else x.q) + _ = _ + c * (((if hasI set k = true then _ else _ : List Int)).length : Int)
    cases hc : hasI set (k : Int) with
    | true =>
      simp only [if_true, List.length_cons, Int.natCast_add, Int.mul_add]
      omega
    | false => simp only [Bool.false_eq_true, if_false]; omega
end Go.Proofs.YtafnebfchhmgcaaGreat
/- Arms in plain words: the mirrored arm; guaranteed steps. -/
namespace Go.Proofs.YtafnebfchhmgcaaGreat
open Go.RowKit Go.Sort Go.Shelf
set_option linter.unusedSimpArgs false
set_option linter.unusedVariables false
def mirM (s : Int) (x : Md) : Md := if x.by_ then x else ⟨x.n, s - x.q, x.on, x.by_⟩
def mirA (a : Ar) : Ar := ⟨a.m.map (mirM (a.lo + a.hi)), a.lo, a.hi, a.cur, a.lim⟩
theorem mirM_n (s : Int) (x : Md) : (mirM s x).n = x.n := by unfold mirM; split <;> rfl
theorem mirM_on (s : Int) (x : Md) : (mirM s x).on = x.on := by unfold mirM; split <;> rfl
theorem mirM_by (s : Int) (x : Md) : (mirM s x).by_ = x.by_ := by unfold mirM; split <;> rfl
theorem mirM_q {s : Int} {x : Md} (h : x.by_ = false) : (mirM s x).q = s - x.q := by unfold mirM; rw [h]; rfl
theorem mirM_by' {s : Int} {x : Md} (h : x.by_ = true) : mirM s x = x := by unfold mirM; rw [h]; rfl
theorem mir_mir (a : Ar) : mirA (mirA a) = a := by
  unfold mirA
  have h : (a.m.map (mirM (a.lo + a.hi))).map (mirM (a.lo + a.hi)) = a.m := by
    rw [List.map_map]
    have : (mirM (a.lo + a.hi) ∘ mirM (a.lo + a.hi)) = id := by
      funext x
      show mirM _ (mirM _ x) = x
      cases hb : x.by_ with
      | true => rw [mirM_by' hb, mirM_by' hb]
      | false =>
        obtain ⟨n, q, o, b⟩ := x
        have hb : b = false := hb
        subst hb
        show Md.mk n (a.lo + a.hi - (a.lo + a.hi - q)) o false = _
        rw [show a.lo + a.hi - (a.lo + a.hi - q) = q by omega]
    rw [this, List.map_id]
  dsimp only
  rw [h]
theorem mir_ok {a : Ar} (h : armE a = 0) : armE (mirA a) = 0 := by
  have hF := fit_of h
  refine arm_keep h ?_ rfl rfl rfl (ckR_yes hF.lim) fun x hx => ?_
  · show _ = (a.m.map _).map _
    rw [List.map_map]
    congr 1
    funext x
    exact (mirM_n _ x).symm
  · obtain ⟨z, hz, rfl⟩ := List.mem_map.1 (show x ∈ a.m.map (mirM (a.lo + a.hi)) from hx)
    have h1 := hF.lo
    have h2 := hF.hi
    cases hb : z.by_ with
    | true =>
      rw [mirM_by' hb]
      exact ⟨hF.q z hz, hF.cf z hz, fun e => by rw [hb] at e; cases e⟩
    | false =>
      have h3 := hF.band z hz hb
      rw [mirM_q hb, mirM_by, hb]
      exact ⟨⟨by omega, by omega⟩, fun _ => rfl, fun _ => ⟨by omega, by omega⟩⟩
theorem idxs_mapM {p : Md → Bool} {f : Md → Md} (h : ∀ x, p (f x) = p x) : ∀ (l : List Md) (k : Nat), idxs p k (l.map f) = idxs p k l
  | [], _ => rfl
  | x :: r, k => by rw [List.map_cons, idxs_cons, idxs_cons, h, idxs_mapM h r (k + 1)]
theorem mir_us (a : Ar) : usL (mirA a) = usL a := idxs_mapM (fun x => by unfold usB; rw [mirM_by]) _ _
theorem mir_on (a : Ar) : onL (mirA a) = onL a := idxs_mapM (fun x => mirM_on _ x) _ _
theorem mir_ch {a : Ar} {c d : Int} {i : Int} (hi : i ∈ usL a) : (ckA (mirA a) c).ch i = a.lo + a.hi - (ckA a d).ch i := by
  obtain ⟨j, hj, e, hu⟩ := mem_idxs.1 hi
  have hb : (a.m[j]).by_ = false := by simpa [usB] using hu
  show ((((a.m.map (mirM (a.lo + a.hi))))[i.toNat]?).map Md.q).getD 0 = a.lo + a.hi - ((a.m[i.toNat]?).map Md.q).getD 0
  rw [e, Nat.zero_add, Int.toNat_natCast, List.getElem?_map, List.getElem?_eq_getElem hj]
  simp only [Option.map_some, Option.getD_some]
  exact mirM_q hb
theorem mir_onB {a : Ar} {c d : Int} (i : Int) : (ckA (mirA a) c).on i = (ckA a d).on i := by
  show ((((a.m.map (mirM (a.lo + a.hi))))[i.toNat]?).map Md.on).getD false = ((a.m[i.toNat]?).map Md.on).getD false
  rw [List.getElem?_map]
  cases a.m[i.toNat]? with
  | none => rfl
  | some x => exact mirM_on _ x
/-- Choices by two orders that agree on the usable ones. -/
structure Agree (c d : Ck) (U : List Int) : Prop where
  b : ∀ i ∈ U, ∀ k ∈ U, betB c i k = betB d i k
  s : ∀ i ∈ U, ∀ k ∈ U, strictB (c.ch i) (c.ch k) c.cur = strictB (d.ch i) (d.ch k) d.cur
theorem Agree.le {c d : Ck} {U : List Int} (h : Agree c d U) {i k : Int} (hi : i ∈ U) (hk : k ∈ U) (hl : leB c i k) : leB d i k := by
  show betB d k i = false
  rw [← h.b k hk i hi]
  exact hl
theorem Agree.best {c d : Ck} {U l : List Int} (h : Agree c d U) (hl : ∀ x ∈ l, x ∈ U) : bestL c l = bestL d l := by
  by_cases hn : l = []
  · rw [hn]; rfl
  · obtain ⟨h1, h2⟩ := bestL_spec (c := c) hn
    exact (best_unique h1 fun z hz => h.le (hl _ h1) (hl z hz) (h2 z hz)).symm
theorem Agree.worst {c d : Ck} {U l : List Int} (h : Agree c d U) (hl : ∀ x ∈ l, x ∈ U) : worstL c l = worstL d l := by
  by_cases hn : l = []
  · rw [hn]; rfl
  · obtain ⟨h1, h2⟩ := worstL_spec (c := c) hn
    exact (worst_unique h1 fun z hz => h.le (hl z hz) (hl _ h1) (h2 z hz)).symm
theorem wout_sub {U o : List Int} : ∀ x ∈ wout U o, x ∈ U := fun _ hx => (mem_wout.1 hx).1
theorem Agree.add {c d : Ck} {U : List Int} (h : Agree c d U) : ∀ (k : Nat) (set : List Int), addTo c U k set = addTo d U k set
  | 0, _ => rfl
  | k + 1, set => by
    show addTo c U k _ = addTo d U k _
    rw [h.best wout_sub]
    exact h.add k _
theorem Agree.del {c d : Ck} {U : List Int} (h : Agree c d U) : ∀ (k : Nat) (set : List Int), (∀ x ∈ set, x ∈ U) → delTo c k set = delTo d k set
  | 0, _, _ => rfl
  | k + 1, set, hs => by
    show delTo c k _ = delTo d k _
    rw [h.worst hs]
    exact h.del k _ fun x hx => hs x (wout_sub x hx)
theorem Agree.go {c d : Ck} {U set : List Int} {lim ch : Int} (h : Agree c d U) (hs : ∀ x ∈ set, x ∈ U) : goB c U lim ch set = goB d U lim ch set := by
  unfold goB
  rw [h.best wout_sub, h.worst hs]
  by_cases h1 : set = []
  · rw [h1]; rfl
  · by_cases h2 : wout U set = []
    · rw [h2]; simp
    · rw [h.s _ (wout_sub _ (bestL_spec (c := d) h2).1) _ (hs _ (worstL_spec (c := d) h1).1)]
theorem Agree.ex {c d : Ck} {U : List Int} {lim : Int} (h : Agree c d U) : ∀ (f : Nat) (ch : Int) (set : List Int), (∀ x ∈ set, x ∈ U) → exTo c U lim f ch set = exTo d U lim f ch set
  | 0, _, _, _ => rfl
  | f + 1, ch, set, hs => by
    unfold exTo
    rw [h.go hs]
    cases hg : goB d U lim ch set with
    | false => rfl
    | true =>
      rw [if_pos rfl, if_pos rfl, h.best wout_sub, h.worst hs]
      refine h.ex f _ _ fun x hx => ?_
      rcases mem_exch.1 hx with ⟨hx, _⟩ | rfl
      · exact hs x hx
      · exact wout_sub _ (bestL_spec (c := d) (goB_iff.1 hg).2.1).1
theorem Agree.choice {c d : Ck} {U s0 : List Int} {n : Nat} {lim : Int} (h : Agree c d U) (hU : U.Nodup) (h0 : s0.Nodup) (hs : ∀ x ∈ s0, x ∈ U) (hn : n ≤ U.length) : choiceU c U s0 n lim = choiceU d U s0 n lim := by
  have e : firstSet c U s0 n = firstSet d U s0 n := by
    unfold firstSet
    rw [h.add, h.del _ _ hs]
  unfold choiceU
  rw [e]
  exact h.ex _ _ _ (first_spec (c := d) hU h0 hs hn).1.sub
theorem mir_agree {a : Ar} {c : Int} (hc : c ≠ 0) : Agree (ckA (mirA a) (-c)) (ckA a c) (usL a) := by
  have hk : ∃ s : Int, ∀ i ∈ usL a, k1 (ckA (mirA a) (-c)) i = k1 (ckA a c) i + s := by
    rcases Int.lt_or_le c 0 with h | h
    · refine ⟨a.lo + a.hi, fun i hi => ?_⟩
      unfold k1
      rw [if_pos (show (0 : Int) ≤ (ckA (mirA a) (-c)).cur by show (0 : Int) ≤ -c; omega), if_neg (show ¬ (0 : Int) ≤ (ckA a c).cur by show ¬ (0 : Int) ≤ c; omega), mir_ch (d := c) hi]
      omega
    · refine ⟨-(a.lo + a.hi), fun i hi => ?_⟩
      unfold k1
      rw [if_neg (show ¬ (0 : Int) ≤ (ckA (mirA a) (-c)).cur by show ¬ (0 : Int) ≤ -c; omega), if_pos (show (0 : Int) ≤ (ckA a c).cur by show (0 : Int) ≤ c; omega), mir_ch (d := c) hi]
      omega
  obtain ⟨s, hk⟩ := hk
  have h2 : ∀ i, k2 (ckA (mirA a) (-c)) i = k2 (ckA a c) i := fun i => by
    unfold k2
    rw [mir_onB (d := c)]
  refine ⟨fun i hi k hk' => ?_, fun i hi k hk' => ?_⟩
  · rw [Bool.eq_iff_iff, bet_iff, bet_iff, hk i hi, hk k hk', h2, h2]
    omega
  · rw [Bool.eq_iff_iff, strict_iff, strict_iff, hk i hi, hk k hk']
    omega
theorem mir_ref (a : Ar) (o : Od) : refE (mirA a) ⟨o.n, -o.c⟩ = refE a o := by
  unfold refE
  rw [mir_us, mir_on, show absI (-o.c) = absI o.c by unfold absI; omega]
  rfl
theorem mir_choice {a : Ar} {o : Od} (hF : Fit a) (hn : 0 ≤ o.n) (hr : refE a o = 0) (hc : o.c ≠ 0) : choiceA (mirA a) ⟨o.n, -o.c⟩ = choiceA a o := by
  obtain ⟨_, h2, _⟩ := ref_zero hr
  unfold choiceA setU
  rw [mir_us, mir_on]
  congr 1
  exact (mir_agree hc).choice (idxs_nodup _ _ _) (idxs_nodup _ _ _) (on_sub hF) (show o.n.toNat ≤ (usL a).length by omega)
/-- Guaranteed steps. -/
def hitB (a : Ar) (n : Int) (x : Md) : Bool := !x.by_ && (decide (x.q - n < a.lo) || decide (a.hi < x.q + n))
def guarGo (a : Ar) : Nat → Nat → Nat
  | 0, k => k
  | f + 1, k => if a.m.any (hitB a (((k : Int) + 1) * a.cur)) then k else guarGo a f (k + 1)
def guarL (a : Ar) : Nat := guarGo a 256 0
theorem guarGo_spec (a : Ar) : ∀ (f k : Nat), k ≤ guarGo a f k ∧ guarGo a f k ≤ k + f ∧ ∀ i, k ≤ i → i < guarGo a f k → a.m.any (hitB a (((i : Int) + 1) * a.cur)) = false
  | 0, k => ⟨Nat.le_refl _, Nat.le_refl _, fun i h1 h2 => absurd h2 (by show ¬ i < k; omega)⟩
  | f + 1, k => by
    have e : guarGo a (f + 1) k = if a.m.any (hitB a (((k : Int) + 1) * a.cur)) then k else guarGo a f (k + 1) := rfl
    cases h : a.m.any (hitB a (((k : Int) + 1) * a.cur)) with
    | true =>
      rw [e, h, if_pos rfl]
      exact ⟨Nat.le_refl _, by omega, fun i h1 h2 => absurd h2 (by omega)⟩
    | false =>
      rw [e, h, if_neg (by decide)]
      obtain ⟨h1, h2, h3⟩ := guarGo_spec a f (k + 1)
      refine ⟨by omega, by omega, fun i hi1 hi2 => ?_⟩
      rcases Nat.eq_or_lt_of_le hi1 with rfl | hlt
      · exact h
      · exact h3 i hlt hi2
theorem guar_le (a : Ar) : guarL a ≤ 256 := by
  have := (guarGo_spec a 256 0).2.1
  unfold guarL
  omega
theorem guar_in {a : Ar} {i : Nat} (h : i < guarL a) {x : Md} (hx : x ∈ a.m) (hb : x.by_ = false) : a.lo ≤ x.q - ((i : Int) + 1) * a.cur ∧ x.q + ((i : Int) + 1) * a.cur ≤ a.hi := by
  have := (guarGo_spec a 256 0).2.2 i (Nat.zero_le _) h
  rw [List.any_eq_false] at this
  have := this x hx
  unfold hitB at this
  rw [hb] at this
  simp at this
  omega
end Go.Proofs.YtafnebfchhmgcaaGreat
/- Arms in plain words: sorting by insertion. -/
namespace Go.Proofs.YtafnebfchhmgcaaGreat
open Go.RowKit Go.Sort Go.Shelf
set_option linter.unusedSimpArgs false
set_option linter.unusedVariables false
/-- An element that is put into a sorted list at its place. -/
theorem ins_sorted {c : Ck} {R : List Int} {x : Int} {j : Nat} (h : R.Pairwise (leB c)) (hgt : ∀ y ∈ R.drop j, betB c x y = true) (hle : ∀ y ∈ (R.take j).getLast?, leB c y x) : (R.take j ++ x :: R.drop j).Pairwise (leB c) := by
  have hs : (R.take j ++ R.drop j).Pairwise (leB c) := by rw [List.take_append_drop]; exact h
  obtain ⟨h1, h2, h3⟩ := List.pairwise_append.1 hs
  have hall : ∀ y ∈ R.take j, leB c y x := by
    generalize R.take j = L at *
    intro y hy
    rcases List.eq_nil_or_concat L with e | ⟨M, z, e⟩
    · rw [e] at hy; cases hy
    · subst e
      have hz : leB c z x := hle z (by simp)
      rw [List.concat_eq_append] at h1 hy
      rcases List.mem_append.1 hy with hm | hm
      · exact le_trans_ ((List.pairwise_append.1 h1).2.2 y hm z (List.mem_singleton.2 rfl)) hz
      · rw [List.mem_singleton.1 hm]; exact hz
  refine List.pairwise_append.2 ⟨h1, List.pairwise_cons.2 ⟨fun y hy => le_of_bet (hgt y hy), h2⟩, fun y hy z hz => ?_⟩
  rcases List.mem_cons.1 hz with rfl | hz
  · exact hall y hy
  · exact h3 y hy z hz
theorem ins_perm {R l : List Int} {x : Int} {j : Nat} (h : R.Perm l) : (R.take j ++ x :: R.drop j).Perm (l ++ [x]) := by
  have h1 : (R.take j ++ x :: R.drop j).Perm (x :: (R.take j ++ R.drop j)) := List.perm_middle
  rw [List.take_append_drop] at h1
  exact h1.trans ((h.cons x).trans (List.perm_append_singleton x l).symm)
/-- One swap on the way down. -/
theorem ins_swap {R rest : List Int} {x : Int} {j : Nat} (hj : j < R.length) : ((R.take (j + 1) ++ x :: R.drop (j + 1) ++ rest).set (j + 1) R[j]).set j x = R.take j ++ x :: R.drop j ++ rest := by
  have e1 : R.take (j + 1) = R.take j ++ [R[j]] := List.take_succ_eq_append_getElem hj
  have e2 : R.drop j = R[j] :: R.drop (j + 1) := List.drop_eq_getElem_cons hj
  have hl : (R.take j).length = j := by rw [List.length_take]; omega
  rw [e1, e2, List.append_assoc, List.append_assoc, List.set_append_right _ _ (by omega), hl, show j + 1 - j = 1 by omega, List.set_append_right _ _ (by omega), hl, Nat.sub_self]
  simp
  rw [e2]
  rfl
/-- Ascending indices: a later one is better than an earlier one only by its charge or its state. -/
theorem bet_later {c : Ck} {x y : Int} (h : y < x) : betB c x y = true ↔ k1 c x < k1 c y ∨ (k1 c x = k1 c y ∧ k2 c x < k2 c y) := by
  rw [bet_iff]
  omega
end Go.Proofs.YtafnebfchhmgcaaGreat
/- Arms in plain words: orders one after the other; switchings, energies and charges over them. -/
namespace Go.Proofs.YtafnebfchhmgcaaGreat
open Go.RowKit Go.Sort Go.Shelf
set_option linter.unusedSimpArgs false
set_option linter.unusedVariables false
def goTo : Ar → List Od → Option Ar
  | a, [] => some a
  | a, o :: r => if stepE a o = 0 then goTo (stepA a o) r else none
def wkA (a : Ar) (o : Od) : Int := wkGo (choiceA a o) o.c 0 a.m
def workL : Ar → List Od → Int
  | _, [] => 0
  | a, o :: r => wkA a o + workL (stepA a o) r
/-- What a log holds: the charges after each order. -/
def logL : Ar → List Od → List (List Int)
  | _, [] => []
  | a, o :: r => (stepA a o).m.map Md.q :: logL (stepA a o) r
theorem goTo_snoc {o : Od} : ∀ {pre : List Od} {a b : Ar}, goTo a pre = some b → goTo a (pre ++ [o]) = if stepE b o = 0 then some (stepA b o) else none
  | [], a, b, h => by
    cases h
    show (if stepE a o = 0 then goTo (stepA a o) [] else none) = _
    rfl
  | x :: r, a, b, h => by
    have h' : (if stepE a x = 0 then goTo (stepA a x) r else none) = some b := h
    show (if stepE a x = 0 then goTo (stepA a x) (r ++ [o]) else none) = _
    split at h'
    · rename_i h0
      rw [if_pos h0]
      exact goTo_snoc h'
    · cases h'
theorem runGo_run {r : List Od} : ∀ {pre : List Od} {a b : Ar} {k : Nat}, goTo a pre = some b → runGo k a (pre ++ r) = runGo (k + pre.length) b r
  | [], a, b, k, h => by
    cases h
    rfl
  | x :: q, a, b, k, h => by
    have h' : (if stepE a x = 0 then goTo (stepA a x) q else none) = some b := h
    show (if stepE a x = 0 then runGo (k + 1) (stepA a x) (q ++ r) else _) = _
    split at h'
    · rename_i h0
      rw [if_pos h0, runGo_run h', List.length_cons, show k + 1 + q.length = k + (q.length + 1) by omega]
    · cases h'
theorem runGo_all {l : List Od} {a b : Ar} (h : goTo a l = some b) : runGo 0 a l = (b, 0, 0) := by
  have := runGo_run (r := []) (k := 0) h
  rw [List.append_nil] at this
  exact this
theorem runGo_no {r : List Od} {pre : List Od} {a b : Ar} {o : Od} (h : goTo a pre = some b) (h2 : stepE b o ≠ 0) : runGo 0 a (pre ++ o :: r) = (nilA, pre.length, stepE b o) := by
  rw [runGo_run h, Nat.zero_add]
  exact if_neg h2
theorem workL_snoc {o : Od} : ∀ {pre : List Od} {a b : Ar}, goTo a pre = some b → workL a (pre ++ [o]) = workL a pre + wkA b o
  | [], a, b, h => by
    cases h
    show wkA a o + 0 = 0 + wkA a o
    omega
  | x :: r, a, b, h => by
    have h' : (if stepE a x = 0 then goTo (stepA a x) r else none) = some b := h
    split at h'
    · show wkA a x + workL (stepA a x) (r ++ [o]) = wkA a x + workL (stepA a x) r + _
      rw [workL_snoc h']
      omega
    · cases h'
theorem logL_snoc {o : Od} : ∀ {pre : List Od} {a b : Ar}, goTo a pre = some b → logL a (pre ++ [o]) = logL a pre ++ [(stepA b o).m.map Md.q]
  | [], a, b, h => by
    cases h
    rfl
  | x :: r, a, b, h => by
    have h' : (if stepE a x = 0 then goTo (stepA a x) r else none) = some b := h
    split at h'
    · show _ :: logL (stepA a x) (r ++ [o]) = (_ :: logL (stepA a x) r) ++ _
      rw [logL_snoc h']
      rfl
    · cases h'
theorem step_zero {a : Ar} {o : Od} (h : stepE a o = 0) : refE a o = 0 := (or0_zero h).1
/-- A valid arm stays valid over orders; the same names, bands and limits. -/
structure Same4 (a b : Ar) : Prop where
  lo : b.lo = a.lo
  hi : b.hi = a.hi
  cur : b.cur = a.cur
  lim : b.lim = a.lim
  n : b.m.map Md.n = a.m.map Md.n
  by_ : b.m.map Md.by_ = a.m.map Md.by_
theorem Same4.len {a b : Ar} (h : Same4 a b) : b.m.length = a.m.length := by simpa using congrArg List.length h.n
theorem stepMs_by (set : List Int) (c : Int) : ∀ (l : List Md) (k : Nat), (stepMs set c k l).map Md.by_ = l.map Md.by_
  | [], _ => rfl
  | x :: r, k => by
    show x.by_ :: (stepMs set c (k + 1) r).map Md.by_ = x.by_ :: r.map Md.by_
    rw [stepMs_by set c r (k + 1)]
theorem goTo_ok : ∀ {l : List Od} {a b : Ar}, armE a = 0 → (∀ o ∈ l, orderE o = 0) → goTo a l = some b → armE b = 0 ∧ Same4 a b
  | [], a, b, h, _, hg => by
    cases hg
    exact ⟨h, rfl, rfl, rfl, rfl, rfl, rfl⟩
  | o :: r, a, b, h, ho, hg => by
    have h' : (if stepE a o = 0 then goTo (stepA a o) r else none) = some b := hg
    split at h'
    · rename_i h0
      obtain ⟨g1, g2⟩ := goTo_ok (step_ok h (order_zero (ho o (List.mem_cons_self ..))).1.1 h0) (fun z hz => ho z (List.mem_cons_of_mem _ hz)) h'
      exact ⟨g1, g2.lo, g2.hi, g2.cur, g2.lim, g2.n.trans (stepMs_names _ _ _ _), g2.by_.trans (stepMs_by _ _ _ _)⟩
    · cases h'
theorem ener_one {a : Ar} {o : Od} (hF : Fit a) (hn : 0 ≤ o.n) (hr : refE a o = 0) : enerL (stepA a o) = enerL a + wkA a o := by
  refine ener_step (choiceA a o) o.c a.m 0 fun i hi hq => ?_
  rw [Nat.zero_add] at hq
  obtain ⟨j, hj, e, hu⟩ := mem_idxs.1 (choice_us hF hn hr hq)
  obtain rfl : i = j := by omega
  simpa [usB] using hu
theorem sum_one {a : Ar} {o : Od} (hF : Fit a) (hn : 0 ≤ o.n) (hr : refE a o = 0) : sumI Md.q (stepA a o).m = sumI Md.q a.m + o.n * o.c := by
  have h := sum_step (choiceA a o) o.c a.m 0
  have h2 : idxs (fun x => x.on) 0 (stepMs (choiceA a o) o.c 0 a.m) = choiceA a o := onL_step hF hn hr
  rw [h2, choice_len hF hn hr, Int.mul_comm] at h
  exact h
/-- The switchings of a step, module by module. -/
def swGo : List Md → List Md → Nat
  | x :: r, z :: t => (if z.on != x.on then 1 else 0) + swGo r t
  | _, _ => 0
theorem sw_idxs (set : List Int) (c : Int) : ∀ (l : List Md) (k : Nat), swGo l (stepMs set c k l) = ((idxs (fun x => x.on) k l).filter fun i => !(hasI set i)).length + ((idxs (fun x => !x.on) k l).filter (hasI set)).length
  | [], _ => rfl
  | x :: r, k => by
    have ih := sw_idxs set c r (k + 1)
    show (if (hasI set k != x.on) then 1 else 0) + swGo r (stepMs set c (k + 1) r) = _
    rw [idxs_cons, idxs_cons, ih]
    cases ho : x.on <;> cases hc : hasI set (k : Int) <;> simp [hc] <;> omega
theorem len_eq_of {l m : List Int} (h1 : l.Nodup) (h2 : m.Nodup) (h : ∀ x, x ∈ l ↔ x ∈ m) : l.length = m.length :=
  Nat.le_antisymm (nodup_len h1 fun z hz => (h z).1 hz) (nodup_len h2 fun z hz => (h z).2 hz)
theorem sw_chg {a : Ar} {o : Od} (hF : Fit a) (hn : 0 ≤ o.n) (hr : refE a o = 0) : swGo a.m (stepA a o).m = chgN (onL a) (setU a o) := by
  have hsp := (setU_spec hF hn hr).1
  have e : swGo a.m (stepA a o).m = _ := sw_idxs (choiceA a o) o.c a.m 0
  rw [e]
  unfold chgN
  congr 1
  · refine len_eq_of ((idxs_nodup _ _ _).sublist List.filter_sublist) (wout_nodup (idxs_nodup _ _ _)) fun x => ?_
    rw [List.mem_filter, mem_wout]
    have := mem_choice (a := a) (o := o) (i := x)
    constructor
    · rintro ⟨h1, h2⟩
      exact ⟨h1, fun q => by rw [this.2 q] at h2; cases h2⟩
    · rintro ⟨h1, h2⟩
      refine ⟨h1, ?_⟩
      cases hq : hasI (choiceA a o) x with
      | false => rfl
      | true => exact absurd (this.1 hq) h2
  · refine len_eq_of ((idxs_nodup _ _ _).sublist List.filter_sublist) (wout_nodup hsp.nd) fun x => ?_
    rw [List.mem_filter, mem_wout]
    have := mem_choice (a := a) (o := o) (i := x)
    constructor
    · rintro ⟨h1, h2⟩
      obtain ⟨j, hj, e1, hq⟩ := mem_idxs.1 h1
      refine ⟨this.1 h2, fun q => ?_⟩
      obtain ⟨j2, hj2, e2, hq2⟩ := mem_idxs.1 q
      obtain rfl : j = j2 := by omega
      rw [hq2] at hq
      cases hq
    · rintro ⟨h1, h2⟩
      obtain ⟨j, hj, e1, _⟩ := mem_idxs.1 (hsp.sub x h1)
      refine ⟨mem_idxs.2 ⟨j, hj, e1, ?_⟩, this.2 h1⟩
      cases hq : (a.m[j]).on with
      | false => rfl
      | true => exact absurd (mem_idxs.2 ⟨j, hj, e1, hq⟩) h2
/-- Over orders: the energy grows by the work, the charges by what was ordered. -/
def ordSum : List Od → Int
  | [] => 0
  | o :: r => o.n * o.c + ordSum r
theorem goTo_sums : ∀ {l : List Od} {a b : Ar}, armE a = 0 → (∀ o ∈ l, orderE o = 0) → goTo a l = some b → enerL b = enerL a + workL a l ∧ sumI Md.q b.m = sumI Md.q a.m + ordSum l
  | [], a, b, _, _, hg => by
    cases hg
    exact ⟨(Int.add_zero _).symm, (Int.add_zero _).symm⟩
  | o :: r, a, b, h, ho, hg => by
    have h' : (if stepE a o = 0 then goTo (stepA a o) r else none) = some b := hg
    split at h'
    · rename_i h0
      have hn := (order_zero (ho o (List.mem_cons_self ..))).1.1
      obtain ⟨g1, g2⟩ := goTo_sums (step_ok h hn h0) (fun z hz => ho z (List.mem_cons_of_mem _ hz)) h'
      have e1 := ener_one (fit_of h) hn (step_zero h0)
      have e2 := sum_one (fit_of h) hn (step_zero h0)
      refine ⟨?_, ?_⟩
      · show _ = _ + (wkA a o + workL (stepA a o) r); omega
      · show _ = _ + (o.n * o.c + ordSum r); omega
    · cases h'
/-- An order is refused by one of four errors. -/
theorem stepE_four {a : Ar} {o : Od} (h : stepE a o ≠ 0) : stepE a o = 31 ∨ stepE a o = 18 ∨ stepE a o = 21 ∨ stepE a o = 30 := by
  unfold stepE refE at h ⊢
  rw [firstE_cons, firstE_cons, firstE_cons, firstE_nil] at h ⊢
  unfold or0 whenE at h ⊢
  generalize decide (a.cur < absI o.c) = b1 at *
  generalize decide (((usL a).length : Int) < o.n) = b2 at *
  generalize decide (a.lim < absI (o.n - (onL a).length)) = b3 at *
  generalize (stepMs (choiceA a o) o.c 0 a.m).any (outB a.lo a.hi) = b4 at *
  cases b1 <;> cases b2 <;> cases b3 <;> cases b4 <;> simp at h ⊢
/-- As long as steps are guaranteed no order fails by the band. -/
structure Near (a b : Ar) (d : Int) : Prop where
  s : Same4 a b
  q : ∀ i, (h : i < a.m.length) → (h' : i < b.m.length) → (a.m[i]).by_ = false → (a.m[i]).q - d ≤ (b.m[i]).q ∧ (b.m[i]).q ≤ (a.m[i]).q + d
theorem Near.start {a : Ar} : Near a a 0 := ⟨⟨rfl, rfl, rfl, rfl, rfl, rfl⟩, fun i h _ _ => ⟨by omega, by omega⟩⟩
theorem stepMs_at {set : List Int} {c : Int} {l : List Md} {i : Nat} (h : i < l.length) (h' : i < (stepMs set c 0 l).length) : (stepMs set c 0 l)[i] = ⟨(l[i]).n, if hasI set (i : Int) then (l[i]).q + c else (l[i]).q, hasI set (i : Int), (l[i]).by_⟩ := by
  have hg := stepMs_get set c l 0 i
  rw [List.getElem?_eq_getElem h, List.getElem?_eq_getElem h', Option.map_some, Nat.zero_add] at hg
  injection hg
theorem Near.step {a b : Ar} {d : Int} (h : Near a b d) {o : Od} (hr : refE b o = 0) (hc : 0 ≤ a.cur) : Near a (stepA b o) (d + a.cur) := by
  obtain ⟨h1, _, _⟩ := ref_zero hr
  have h4 : Same4 a (stepA b o) := ⟨h.s.lo, h.s.hi, h.s.cur, h.s.lim, (stepMs_names _ _ _ _).trans h.s.n, (stepMs_by _ _ _ _).trans h.s.by_⟩
  refine ⟨h4, fun i hi hi' hb => ?_⟩
  have hib : i < b.m.length := by rw [h.s.len]; exact hi
  obtain ⟨q1, q2⟩ := h.q i hi hib hb
  have e : (stepMs (choiceA b o) o.c 0 b.m)[i]'hi' = _ := stepMs_at hib hi'
  have e' : ((stepA b o).m[i]'hi').q = if hasI (choiceA b o) (i : Int) then (b.m[i]).q + o.c else (b.m[i]).q := congrArg Md.q e
  rw [e']
  have := h.s.cur
  unfold absI at h1
  split <;> omega
theorem near_band {a b : Ar} {i : Nat} (h : Near a b ((i : Int) * a.cur)) (hg : i < guarL a) (hF : Fit b) {o : Od} (hn : 0 ≤ o.n) : stepE b o ≠ 30 := by
  intro he
  by_cases hr : refE b o = 0
  · obtain ⟨h1, _, _⟩ := ref_zero hr
    unfold stepE at he
    rw [hr] at he
    have hany : (stepMs (choiceA b o) o.c 0 b.m).any (outB b.lo b.hi) = false := by
      rw [List.any_eq_false]
      intro x hx
      obtain ⟨j, hj, ex⟩ := List.mem_iff_getElem.1 hx
      have hjb : j < b.m.length := by rwa [stepMs_len] at hj
      have e := stepMs_at (set := choiceA b o) (c := o.c) hjb hj
      rw [ex] at e
      unfold outB
      cases hc : hasI (choiceA b o) (j : Int) with
      | false =>
        rw [hc] at e
        rw [e]
        simp
      | true =>
        rw [hc] at e
        obtain ⟨k, hk, ek, hu⟩ := mem_idxs.1 (choice_us hF hn hr hc)
        obtain rfl : j = k := by omega
        have hbb : (b.m[j]).by_ = false := by simpa [usB] using hu
        have hja : j < a.m.length := by rw [← h.s.len]; exact hjb
        have hab : (a.m[j]).by_ = false := by
          have e1 : (b.m.map Md.by_)[j]'(by simpa using hjb) = (a.m.map Md.by_)[j]'(by simpa using hja) := by simp only [h.s.by_]
          simp only [List.getElem_map] at e1
          rw [← e1]
          exact hbb
        obtain ⟨q1, q2⟩ := h.q j hja hjb hab
        obtain ⟨g1, g2⟩ := guar_in hg (List.getElem_mem hja) hab
        have eq : x.q = (b.m[j]).q + o.c := by rw [e]; rfl
        have c1 := h.s.cur
        have c2 := h.s.lo
        have c3 := h.s.hi
        rw [Int.add_mul, Int.one_mul] at g1 g2
        unfold absI at h1
        generalize (i : Int) * a.cur = p at *
        unfold inB
        rw [eq]
        simp
        intro _
        constructor <;> omega
    rw [hany] at he
    cases he
  · have e : stepE b o = refE b o := by unfold stepE or0; rw [if_neg hr]
    rw [e] at he
    unfold refE at he
    rw [firstE_cons, firstE_cons, firstE_cons, firstE_nil] at he
    unfold or0 whenE at he
    revert he
    cases decide (b.cur < absI o.c) <;> cases decide (((usL b).length : Int) < o.n) <;> cases decide (b.lim < absI (o.n - (onL b).length)) <;> simp
end Go.Proofs.YtafnebfchhmgcaaGreat
/- Arms in plain words: modules by their names; bypassed and replaced. -/
namespace Go.Proofs.YtafnebfchhmgcaaGreat
open Go.RowKit Go.Sort Go.Shelf
set_option linter.unusedSimpArgs false
set_option linter.unusedVariables false
def mdIdx (l : List Md) (nm : ByteArray) : Int := idxP (fun x : Md => x.n.toList == nm.toList) 0 l
theorem idxP_at {α : Type} {p : α → Bool} : ∀ {l : List α} {k : Nat} {i : Nat}, (h : i < l.length) → p l[i] = true → (∀ j, (hj : j < i) → p (l[j]'(by omega)) = false) → idxP p k l = ((k + i : Nat) : Int)
  | [], _, _, h, _, _ => by simp at h
  | x :: r, k, 0, _, hp, _ => by
    have hp' : p x = true := hp
    rw [idxP_cons, if_pos hp']
    rfl
  | x :: r, k, i + 1, h, hp, hn => by
    have h0 : p x = false := hn 0 (by omega)
    rw [idxP_cons, h0, if_neg (by decide), idxP_at (k := k + 1) (i := i) (by simpa using h) hp (fun j hj => hn (j + 1) (by omega)), show k + 1 + i = k + (i + 1) by omega]
theorem idxP_some {α : Type} {p : α → Bool} : ∀ {l : List α} {k : Nat}, 0 ≤ idxP p k l → ∃ i, ∃ h : i < l.length, idxP p k l = ((k + i : Nat) : Int) ∧ p l[i] = true
  | [], k, h => by simp [idxP] at h
  | x :: r, k, h => by
    rw [idxP_cons] at h ⊢
    cases hp : p x with
    | true => exact ⟨0, by simp, by simp, hp⟩
    | false =>
      rw [hp, if_neg (by decide)] at h
      rw [if_neg (by decide)]
      obtain ⟨i, hi, e, hq⟩ := idxP_some h
      exact ⟨i + 1, by simpa using hi, by rw [e]; omega, hq⟩
/-- The names of a valid arm differ. -/
theorem mds_names {lo hi : Int} : ∀ {l pre : List Md}, mdsGo lo hi pre l = 0 → ∀ i, (h : i < l.length) → twiceB (pre ++ l.take i) l[i] = false
  | [], _, _, i, h => by simp at h
  | x :: r, pre, hm, 0, _ => by
    have h' : or0 (mdE pre lo hi x) (mdsGo lo hi (pre ++ [x]) r) = 0 := hm
    simpa using (mdE_zero (or0_zero h').1).2.1
  | x :: r, pre, hm, i + 1, h => by
    have h' : or0 (mdE pre lo hi x) (mdsGo lo hi (pre ++ [x]) r) = 0 := hm
    have := mds_names (or0_zero h').2 i (by simpa using h)
    rw [List.append_assoc] at this
    exact this
theorem md_self {a : Ar} (h : armE a = 0) {k : Nat} (hk : k < a.m.length) : mdIdx a.m (a.m[k]).n = (k : Int) := by
  unfold armE at h
  have hn := mds_names (or0_zero h).2 k hk
  unfold mdIdx
  rw [idxP_at (i := k) hk (by simp) (fun j hj => ?_), Nat.zero_add]
  unfold twiceB at hn
  rw [List.nil_append, List.any_eq_false] at hn
  have hm : a.m[j]'(by omega) ∈ a.m.take k := by
    rw [List.mem_take_iff_getElem]
    exact ⟨j, by omega, rfl⟩
  simpa using hn _ hm
/-- A module put in the place of another one. -/
def putM (a : Ar) (i : Nat) (x : Md) : Ar := ⟨a.m.set i x, a.lo, a.hi, a.cur, a.lim⟩
def bypM (x : Md) : Md := ⟨x.n, x.q, false, true⟩
def repM (x : Md) (q : Int) : Md := ⟨x.n, q, x.on, false⟩
def bypE (a : Ar) (nm : ByteArray) : Int :=
  or0 (firstE [armE a, whenE (decide (mdIdx a.m nm < 0)) 10]) (whenE ((((a.m[(mdIdx a.m nm).toNat]?).map Md.by_).getD false)) 9)
def bypA (a : Ar) (nm : ByteArray) : Ar := match a.m[(mdIdx a.m nm).toNat]? with
  | some x => putM a (mdIdx a.m nm).toNat (bypM x)
  | none => a
def repE (a : Ar) (nm : ByteArray) (q : Int) : Int :=
  or0 (firstE [armE a, whenE (decide (mdIdx a.m nm < 0)) 10]) (firstE [whenE (!(((a.m[(mdIdx a.m nm).toNat]?).map Md.by_).getD false)) 22, ckR q 0 16384, whenE (!inB a.lo a.hi q) 30])
def repA (a : Ar) (nm : ByteArray) (q : Int) : Ar := match a.m[(mdIdx a.m nm).toNat]? with
  | some x => putM a (mdIdx a.m nm).toNat (repM x q)
  | none => a
theorem set_same {α : Type} {l : List α} {i : Nat} {z : α} (h : l[i]? = some z) : l.set i z = l := by
  obtain ⟨hi, e⟩ := List.getElem?_eq_some_iff.1 h
  rw [← e]
  exact List.set_getElem_self hi
theorem set_names {l : List Md} {i : Nat} {x z : Md} (h : l[i]? = some z) (hx : x.n = z.n) : l.map Md.n = (l.set i x).map Md.n := by
  rw [List.map_set, hx]
  refine (set_same ?_).symm
  rw [List.getElem?_map, h]
  rfl
/-- A valid arm in which one module's charge and state are changed to valid ones. -/
theorem put_ok {a : Ar} (h : armE a = 0) {i : Nat} {x z : Md} (hz : a.m[i]? = some z) (hx : x.n = z.n) (h1 : 0 ≤ x.q ∧ x.q ≤ 16384) (h2 : x.on = true → x.by_ = false) (h3 : x.by_ = false → a.lo ≤ x.q ∧ x.q ≤ a.hi) : armE (putM a i x) = 0 := by
  have hF := fit_of h
  refine arm_keep h (set_names hz hx) rfl rfl rfl (ckR_yes hF.lim) fun y hy => ?_
  rcases List.mem_or_eq_of_mem_set (show y ∈ a.m.set i x from hy) with hm | rfl
  · exact ⟨hF.q y hm, hF.cf y hm, hF.band y hm⟩
  · exact ⟨h1, h2, h3⟩
theorem idx_at (a : Ar) {k : Nat} (hk : k < a.m.length) (h : armE a = 0) : a.m[(mdIdx a.m (a.m[k]).n).toNat]? = some a.m[k] := by
  rw [md_self h hk, Int.toNat_natCast, List.getElem?_eq_getElem hk]
/-- Bypassed, a valid arm stays valid. -/
theorem byp_self {a : Ar} (h : armE a = 0) {k : Nat} (hk : k < a.m.length) : bypE a (a.m[k]).n = (if (a.m[k]).by_ then 9 else 0) ∧ bypA a (a.m[k]).n = putM a k (bypM a.m[k]) := by
  have e := idx_at a hk h
  have e2 := md_self h hk
  unfold bypE bypA
  rw [e, e2, h]
  refine ⟨?_, by rw [Int.toNat_natCast]⟩
  rw [show decide ((k : Int) < 0) = false by simp]
  cases hb : (a.m[k]).by_ <;> simp [hb, firstE, whenE, or0]
theorem bypA_ok {a : Ar} (h : armE a = 0) {k : Nat} (hk : k < a.m.length) : armE (putM a k (bypM a.m[k])) = 0 := by
  have hF := fit_of h
  exact put_ok h (List.getElem?_eq_getElem hk) rfl (hF.q a.m[k] (List.getElem_mem hk)) (fun e => by cases e) (fun e => by cases e)
/-- Replaced with its own charge it is off; all else is as it was. -/
theorem rep_self {a : Ar} (h : armE a = 0) {k : Nat} (hk : k < a.m.length) (hb : (a.m[k]).by_ = false) :
    repE (putM a k (bypM a.m[k])) (a.m[k]).n (a.m[k]).q = 0 ∧ repA (putM a k (bypM a.m[k])) (a.m[k]).n (a.m[k]).q = putM a k ⟨(a.m[k]).n, (a.m[k]).q, false, false⟩ := by
  have hF := fit_of h
  have hk2 : k < (putM a k (bypM a.m[k])).m.length := by show k < (a.m.set k _).length; rw [List.length_set]; exact hk
  have hB := bypA_ok h hk
  have hx : (putM a k (bypM a.m[k])).m[k]'hk2 = bypM a.m[k] := List.getElem_set_self (l := a.m) (i := k) (a := bypM a.m[k]) (by rw [List.length_set]; exact hk)
  have e := idx_at _ hk2 hB
  have e2 := md_self hB hk2
  rw [hx] at e e2
  have hn : (bypM a.m[k]).n = (a.m[k]).n := rfl
  rw [hn] at e e2
  unfold repE repA
  rw [e, e2, hB]
  have hq := hF.q _ (List.getElem_mem hk)
  have hba := hF.band _ (List.getElem_mem hk) hb
  have hin : inB (putM a k (bypM a.m[k])).lo (putM a k (bypM a.m[k])).hi (a.m[k]).q = true := by
    show inB a.lo a.hi _ = true
    unfold inB
    simpa using hba
  refine ⟨?_, ?_⟩
  · rw [hin, ckR_yes hq, show decide ((k : Int) < 0) = false by simp]
    rfl
  · rw [Int.toNat_natCast]
    show (⟨(a.m.set k _).set k _, _, _, _, _⟩ : Ar) = _
    rw [List.set_set]
    rfl
end Go.Proofs.YtafnebfchhmgcaaGreat
/- The document's arm: what its mirrors give. -/
namespace Go.Proofs.YtafnebfchhmgcaaGreat
open Go.RowKit Go.Sort Go.Shelf
set_option linter.unusedSimpArgs false
set_option linter.unusedVariables false
def shA : Ar := ⟨[⟨⟨#[97]⟩, 120, true, false⟩, ⟨⟨#[98]⟩, 150, false, false⟩, ⟨⟨#[99]⟩, 110, false, false⟩, ⟨⟨#[100]⟩, 180, false, true⟩], 100, 200, 20, 2⟩
theorem sh_ok : armE shA = 0 := by decide +kernel
theorem sh_us : usL shA = [0, 1, 2] := by decide +kernel
theorem sh_volt : voltL shA = 120 := by decide +kernel
theorem sh_spread : spreadL shA = 40 := by decide +kernel
theorem sh_ener : enerL shA = 49000 := by decide +kernel
theorem sh_c1 : choiceA shA ⟨1, 10⟩ = [2] := by decide +kernel
theorem sh_c2 : choiceA shA ⟨1, -10⟩ = [1] := by decide +kernel
theorem sh_c3 : choiceA shA ⟨2, 10⟩ = [0, 2] := by decide +kernel
theorem sh_c4 : choiceA shA ⟨2, -10⟩ = [0, 1] := by decide +kernel
theorem sh_work : goTo shA [⟨1, 10⟩] = some (stepA shA ⟨1, 10⟩) ∧ workL shA [⟨1, 10⟩] = 2300 := by
  constructor
  · show (if stepE shA ⟨1, 10⟩ = 0 then some (stepA shA ⟨1, 10⟩) else none) = _
    rw [if_pos (by decide +kernel)]
  · decide +kernel
theorem sh_step : stepE shA ⟨1, 10⟩ = 0 ∧ (stepA shA ⟨1, 10⟩).m.map Md.q = [120, 150, 120, 180] ∧ (stepA shA ⟨1, 10⟩).m.map Md.on = [false, false, true, false] := by decide +kernel
theorem sh_bound : boundL shA ⟨1, 10⟩ = 50 := by decide +kernel
theorem sh_guar : guarL shA = 0 := by decide +kernel
theorem sh_mir : (mirA shA).m.map Md.q = [180, 150, 190, 180] := by decide +kernel
theorem sh_ref1 : refE shA ⟨4, 0⟩ = 18 := by decide +kernel
theorem sh_ref2 : refE shA ⟨1, 21⟩ = 31 := by decide +kernel
end Go.Proofs.YtafnebfchhmgcaaGreat
