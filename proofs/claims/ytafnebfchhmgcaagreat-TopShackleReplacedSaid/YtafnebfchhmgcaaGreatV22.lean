/- What the law of replaced modules needs: modules that failed, what is still to be replaced, contracts in one form. -/
import Derived.Test.YtafnebfchhmgcaaGreatV18
import Derived.Test.YtafnebfchhmgcaaGreatV21
import Derived.Test.YtafnebfchhmgcaaGreatV8
import Derived.Test.YtafnebfchhmgcaaGreatDI
namespace Go.Proofs.YtafnebfchhmgcaaGreat
open Go Go.RowKit Go.Sort Go.Shelf
set_option linter.unusedSimpArgs false
set_option linter.unusedVariables false
attribute [local go_sem] cell_if frozen_if grow_cell
theorem mods_differ {a : Ar} (h : armE a = 0) {i j : Nat} (hj : j < i) (hi : i < a.m.length) : sEq (a.m[j]'(by omega)).n (a.m[i]).n = false := by
  unfold armE at h
  have hn := mds_names (or0_zero h).2 i hi
  unfold twiceB at hn
  rw [List.nil_append, List.any_eq_false] at hn
  have hm : a.m[j]'(by omega) ∈ a.m.take i := by
    rw [List.mem_take_iff_getElem]
    exact ⟨j, by omega, rfl⟩
  have := hn _ hm
  unfold sEq
  simpa using this
/-- The modules that failed. -/
def vmF (a : Ar) (fs : List Nat) : List Vm := fs.map fun i => ⟨((a.m[i]?).map Md.n).getD ⟨#[]⟩, 0, 100000, 1⟩
structure FsOk (a : Ar) (fs : List Nat) (k : Nat) : Prop where
  up : fs.Pairwise (· < ·)
  lt : ∀ i ∈ fs, i < k
  le : k ≤ a.m.length
  len : fs.length ≤ 4
  by_ : ∀ i ∈ fs, ∀ x, a.m[i]? = some x → x.by_ = false
theorem FsOk.nil (a : Ar) : FsOk a [] 0 := ⟨List.Pairwise.nil, fun _ h => by simp at h, Nat.zero_le _, by simp, fun _ h => by simp at h⟩
theorem FsOk.skip {a : Ar} {fs : List Nat} {k : Nat} (h : FsOk a fs k) (hk : k < a.m.length) : FsOk a fs (k + 1) := ⟨h.up, fun i hi => by have := h.lt i hi; omega, hk, h.len, h.by_⟩
theorem FsOk.push {a : Ar} {fs : List Nat} {k : Nat} (h : FsOk a fs k) (hk : k < a.m.length) (hl : fs.length ≠ 4) (hb : (a.m[k]).by_ = false) : FsOk a (fs ++ [k]) (k + 1) := by
  refine ⟨List.pairwise_append.2 ⟨h.up, List.pairwise_singleton _ _, fun x hx y hy => ?_⟩, fun i hi => ?_, hk, by have := h.len; simp; omega, fun i hi x hx => ?_⟩
  · rw [List.mem_singleton.1 hy]
    exact h.lt x hx
  · rcases List.mem_append.1 hi with hi | hi
    · have := h.lt i hi
      omega
    · rw [List.mem_singleton.1 hi]
      omega
  · rcases List.mem_append.1 hi with hi | hi
    · exact h.by_ i hi x hx
    · rw [List.mem_singleton.1 hi, List.getElem?_eq_getElem hk] at hx
      cases hx
      exact hb
theorem FsOk.none {a : Ar} {fs : List Nat} {k : Nat} (h : FsOk a fs k) : fs.contains k = false := by
  rw [List.contains_eq_mem]
  exact decide_eq_false fun hm => by have := h.lt k hm; omega
theorem vmF_snoc (a : Ar) (fs : List Nat) {k : Nat} (hk : k < a.m.length) : vmF a (fs ++ [k]) = vmF a fs ++ [⟨(a.m[k]).n, 0, 100000, 1⟩] := by
  unfold vmF
  rw [List.map_append, List.map_cons, List.map_nil, List.getElem?_eq_getElem hk]
  rfl
theorem vmF_n {a : Ar} {fs : List Nat} {j : Nat} (h : j < (vmF a fs).length) (hj : j < fs.length) (hm : fs[j] < a.m.length) : ((vmF a fs)[j]).n = (a.m[fs[j]]).n := by
  have e : (vmF a fs)[j]? = some ⟨((a.m[fs[j]]?).map Md.n).getD ⟨#[]⟩, 0, 100000, 1⟩ := by
    unfold vmF
    rw [List.getElem?_map, List.getElem?_eq_getElem hj]
    rfl
  rw [List.getElem?_eq_getElem h] at e
  rw [Option.some.inj e, List.getElem?_eq_getElem hm]
  rfl
theorem vmF_len (a : Ar) (fs : List Nat) : (vmF a fs).length = fs.length := by unfold vmF; rw [List.length_map]
theorem vmF_ok {a : Ar} {fs : List Nat} {k : Nat} (hE : armE a = 0) (hF : FitA a) (h : FsOk a fs k) : VmsOk (vmF a fs) := by
  have hFi := fit_of hE
  have hlt : ∀ i ∈ fs, i < a.m.length := fun i hi => by have := h.lt i hi; have := h.le; omega
  refine ⟨fun x hx => ?_, fun i hi y hy => ?_, by unfold vmF; rw [List.length_map]; have := h.len; omega⟩
  · unfold vmF at hx
    obtain ⟨i, hi, rfl⟩ := List.mem_map.1 hx
    have hil := hlt i hi
    rw [List.getElem?_eq_getElem hil]
    exact ⟨hFi.nm _ (List.getElem_mem hil), hF.nm _ (List.getElem_mem hil), ⟨show (0 : Int) ≤ 0 by decide, show (0 : Int) ≤ 100000 by decide⟩, ⟨show (0 : Int) ≤ 100000 by decide, show (100000 : Int) ≤ 100000 by decide⟩, ⟨show (1 : Int) ≤ 1 by decide, show (1 : Int) ≤ 100 by decide⟩, show (0 : Int) ≤ 100000 by decide⟩
  · have hi' : i < fs.length := by rwa [vmF_len] at hi
    rw [List.mem_take_iff_getElem] at hy
    obtain ⟨j, hj, rfl⟩ := hy
    have hji : j < i := by omega
    have hj' : j < fs.length := by omega
    have hup := List.pairwise_iff_getElem.1 h.up j i hj' hi' hji
    have h1 := hlt _ (List.getElem_mem hi')
    rw [vmF_n _ hi' h1, vmF_n _ hj' (by omega)]
    exact mods_differ hE hup h1
/-- What is still to be replaced at outage k, ahead of the module at index i. -/
def pend (fs : List Nat) (ks : List Int) (k i : Nat) (m : Nat) : Bool := (List.range fs.length).any fun j => (fs.getD j 0 == m) && (decide ((k : Int) < ks.getD j 0) || (ks.getD j 0 == (k : Int) && decide (i ≤ j)))
theorem pend_iff {fs : List Nat} {ks : List Int} {k i m : Nat} : pend fs ks k i m = true ↔ ∃ j, j < fs.length ∧ fs.getD j 0 = m ∧ ((k : Int) < ks.getD j 0 ∨ (ks.getD j 0 = (k : Int) ∧ i ≤ j)) := by
  unfold pend
  rw [List.any_eq_true]
  constructor
  · rintro ⟨j, hj, h⟩
    refine ⟨j, List.mem_range.1 hj, ?_⟩
    simpa using h
  · rintro ⟨j, hj, h⟩
    exact ⟨j, List.mem_range.2 hj, by simpa using h⟩
theorem bool_iff {a b : Bool} (h : a = true ↔ b = true) : a = b := by
  cases a <;> cases b <;> simp_all
theorem pend_start {fs : List Nat} {ks : List Int} (hl : ks.length = fs.length) (h0 : ∀ z ∈ ks, 0 ≤ z) (m : Nat) : pend fs ks 0 0 m = fs.contains m := by
  refine bool_iff ?_
  rw [pend_iff, List.contains_iff_mem]
  constructor
  · rintro ⟨j, hj, rfl, _⟩
    rw [List.getD_eq_getElem?_getD, List.getElem?_eq_getElem hj]
    exact List.getElem_mem hj
  · intro hm
    obtain ⟨j, hj, rfl⟩ := List.getElem_of_mem hm
    refine ⟨j, hj, by rw [List.getD_eq_getElem?_getD, List.getElem?_eq_getElem hj]; rfl, ?_⟩
    have hjk : j < ks.length := by omega
    rw [List.getD_eq_getElem?_getD, List.getElem?_eq_getElem hjk, Option.getD_some]
    have := h0 _ (List.getElem_mem hjk)
    omega
theorem pend_end (fs : List Nat) (ks : List Int) (k m : Nat) : pend fs ks k fs.length m = pend fs ks (k + 1) 0 m := by
  refine bool_iff ?_
  rw [pend_iff, pend_iff]
  constructor
  · rintro ⟨j, hj, e, h⟩
    exact ⟨j, hj, e, by omega⟩
  · rintro ⟨j, hj, e, h⟩
    exact ⟨j, hj, e, by omega⟩
theorem pend_skip {fs : List Nat} {ks : List Int} {k i : Nat} (h : ks.getD i 0 ≠ (k : Int)) (m : Nat) : pend fs ks k (i + 1) m = pend fs ks k i m := by
  refine bool_iff ?_
  rw [pend_iff, pend_iff]
  constructor
  · rintro ⟨j, hj, e, h'⟩
    exact ⟨j, hj, e, by omega⟩
  · rintro ⟨j, hj, e, h'⟩
    refine ⟨j, hj, e, ?_⟩
    rcases h' with h' | ⟨h1, h2⟩
    · exact .inl h'
    · rcases Nat.lt_or_ge i j with h3 | h3
      · exact .inr ⟨h1, h3⟩
      · obtain rfl : i = j := by omega
        exact absurd h1 h
theorem pend_take {fs : List Nat} {ks : List Int} {k i : Nat} (hup : fs.Pairwise (· < ·)) (hi : i < fs.length) (h : ks.getD i 0 = (k : Int)) (m : Nat) : pend fs ks k (i + 1) m = (pend fs ks k i m && !(m == fs.getD i 0)) := by
  have hinj : ∀ j, j < fs.length → fs.getD j 0 = fs.getD i 0 → j = i := fun j hj e => by
    rw [List.getD_eq_getElem?_getD, List.getD_eq_getElem?_getD, List.getElem?_eq_getElem hj, List.getElem?_eq_getElem hi, Option.getD_some, Option.getD_some] at e
    rcases Nat.lt_trichotomy j i with h1 | h1 | h1
    · have := List.pairwise_iff_getElem.1 hup j i hj hi h1
      omega
    · exact h1
    · have := List.pairwise_iff_getElem.1 hup i j hi hj h1
      omega
  refine bool_iff ?_
  rw [Bool.and_eq_true, pend_iff, pend_iff, Bool.not_eq_true', beq_eq_false_iff_ne]
  constructor
  · rintro ⟨j, hj, e, h'⟩
    refine ⟨⟨j, hj, e, by omega⟩, fun e2 => ?_⟩
    have := hinj j hj (e.trans e2)
    subst this
    omega
  · rintro ⟨⟨j, hj, e, h'⟩, hne⟩
    refine ⟨j, hj, e, ?_⟩
    rcases h' with h' | ⟨h1, h2⟩
    · exact .inl h'
    · rcases Nat.lt_or_ge i j with h3 | h3
      · exact .inr ⟨h1, h3⟩
      · obtain rfl : i = j := by omega
        exact absurd e.symm hne
theorem pend_has {fs : List Nat} {ks : List Int} {k i : Nat} (hi : i < fs.length) (h : ks.getD i 0 = (k : Int)) : pend fs ks k i fs[i] = true := pend_iff.2 ⟨i, hi, by rw [List.getD_eq_getElem?_getD, List.getElem?_eq_getElem hi]; rfl, .inr ⟨h, Nat.le_refl _⟩⟩
/-- An arm as it is returned, in a row that stays. -/
def ArmR (w : World) (a : Ar) (n : Nat) (f : Value → Value) (e : Ending) (w' : World) : Prop := ∃ A c, e = .returned (f (.agg #[.slice A n c, .int .i64 a.lo, .int .i64 a.hi, .int .i64 a.cur, .int .i64 a.lim])) ∧ w'.ownsRow w.heap.size 115 4 (.slice A n c) n (mds a.m) ∧ n ≤ c ∧ Below w.heap.size w w'
theorem shMods_r (B : Nat) (A : Option Addr) (n c : Nat) (a : Ar) (w : World) (hM : MsAt w B A n a.m) (hB : B ≤ w.heap.size) (hn : n ≤ 1000) : Calls Tryz.prog 32 #[.agg #[.slice A n c, .int .i64 a.lo, .int .i64 a.hi, .int .i64 a.cur, .int .i64 a.lim]] w (ArmR w a n id) := by
  have hl := (md_at hM).1
  refine (shackleModules_any B A n c a w hM hB hn).mono ?_
  rintro e w' ⟨v, A', c', rfl, rfl, ho, hc, hb⟩
  subst hl
  exact ⟨A', c', rfl, ho, hc, hb⟩
theorem armE_r {w : World} {b : Ar} {n : Nat} {e : Ending} {w' : World} (h : ArmERes w b 0 e w') (hn : b.m.length = n) (h17 : n ≤ 17) : ArmR w b n (fun v => .tuple #[v, .int .i64 0]) e w' := by
  obtain ⟨hb, (⟨_, g, rfl, hg, hlt⟩ | ⟨h0, _⟩)⟩ := h
  · have hlen : (mds b.m).length = n * 4 := by unfold mds; rw [flat_len (f := Md.cells) (m := 4) (fun _ => rfl), hn]
    refine ⟨some ⟨g, 0, none⟩, b.m.length, by subst hn; rfl, ⟨hlen, .inr ⟨g, _, _, by rw [hn], hlt, hg, by omega, by unfold maxLen; omega, by rw [List.size_toArray, hlen], by rw [List.take_of_length_le (by rw [hlen]; omega)]⟩⟩, by omega, hb⟩
  · exact absurd rfl h0
theorem fitA_by {a x : Ar} {T : Nat → Bool} (h : ByA a x T) (hF : FitA a) : FitA x := by
  refine ⟨by rw [h.len]; exact hF.len, fun y hy => ?_⟩
  obtain ⟨i, hi, rfl⟩ := List.getElem_of_mem hy
  have hi' : i < a.m.length := by rw [← h.len]; exact hi
  rw [h.nm i hi']
  exact hF.nm _ (List.getElem_mem hi')
theorem resE_zero {x : Ar} (h : armE x = 0) : resE x 0 = 0 ∧ resV x 0 = ((usL x).length : Int) := by
  have e : resE x 0 = 0 := by
    unfold resE
    rw [h, ckR_yes (by decide), show decide (((usL x).length : Int) - 0 < 0) = false from decide_eq_false (by omega)]
    rfl
  refine ⟨e, ?_⟩
  unfold resV
  rw [if_pos e]
  omega
/-- The mask after k modules. -/
structure MkI (x : Ar) (k mask : Nat) : Prop where
  bit : ∀ j, mask.testBit j = (decide (j < k) && ((x.m[j]?).map Md.by_).getD false)
  lt : mask < 2 ^ k
theorem MkI.all {x : Ar} {k mask : Nat} (h : MkI x k mask) (hk : x.m.length = k) : MaskOk x mask := ⟨fun j => by
  rw [h.bit]
  by_cases hj : j < k
  · simp [hj]
  · rw [List.getElem?_eq_none (by omega)]
    simp⟩
theorem MkI.zero (x : Ar) : MkI x 0 0 := ⟨fun j => by simp, by decide⟩
theorem MkI.set {x y : Ar} {k mask : Nat} (h : MkI x k mask) (hxy : ∀ j, j < k → (y.m[j]?).map Md.by_ = (x.m[j]?).map Md.by_) (hy : (y.m[k]?).map Md.by_ = some true) : MkI y (k + 1) (mask ||| 2 ^ k) := by
  refine ⟨fun j => ?_, ?_⟩
  · rw [Nat.testBit_or, h.bit, Nat.testBit_two_pow]
    rcases Nat.lt_trichotomy j k with hj | hj | hj
    · rw [hxy j hj]
      have h1 : j < k + 1 := by omega
      have h2 : ¬ k = j := by omega
      simp [hj, h1, h2]
    · subst hj
      rw [hy]
      simp
    · have h0 : ¬ j < k := by omega
      have h1 : ¬ j < k + 1 := by omega
      have h2 : ¬ k = j := by omega
      simp [h0, h1, h2]
  · have h1 := h.lt
    refine Nat.or_lt_two_pow ?_ (Nat.pow_lt_pow_right (by decide) (by omega))
    exact Nat.lt_trans h1 (Nat.pow_lt_pow_right (by decide) (by omega))
theorem MkI.skip {x : Ar} {k mask : Nat} (h : MkI x k mask) (hy : (x.m[k]?).map Md.by_ = some false) : MkI x (k + 1) mask := by
  refine ⟨fun j => ?_, Nat.lt_trans h.lt (Nat.pow_lt_pow_right (by decide) (by omega))⟩
  rw [h.bit]
  rcases Nat.lt_trichotomy j k with hj | hj | hj
  · have h1 : j < k + 1 := by omega
    simp [hj, h1]
  · subst hj
    rw [hy]
    simp
  · have h0 : ¬ j < k := by omega
    have h1 : ¬ j < k + 1 := by omega
    simp [h0, h1]
theorem by_at {a x : Ar} {T : Nat → Bool} (h : ByA a x T) {j : Nat} (hj : j < a.m.length) : (x.m[j]?).map Md.by_ = some ((a.m[j]).by_ || T j) := by
  rw [List.getElem?_eq_getElem (show j < x.m.length by rw [h.len]; exact hj), Option.map_some, h.by_ j hj]
theorem ByA.eta {a x : Ar} {T : Nat → Bool} (h : ByA a x T) : x = ⟨x.m, a.lo, a.hi, a.cur, a.lim⟩ := by
  rw [← h.lo, ← h.hi, ← h.cur, ← h.lim]
/-- An arm with a's numbers. -/
def ArV (a : Ar) (A : Option Addr) (n c : Nat) : Value := .agg #[.slice A n c, .int .i64 a.lo, .int .i64 a.hi, .int .i64 a.cur, .int .i64 a.lim]
theorem byp_r {a x : Ar} {T : Nat → Bool} (h : ByA a x T) (hF : FitA a) {i : Nat} (hi : i < a.m.length) (hb : (a.m[i]).by_ = false) (hT : T i = false) (A : Option Addr) (n c : Nat) (W : World) (hM : MsAt W W.heap.size A n x.m) (hn : a.m.length = n) (h17 : n ≤ 17) (hc : n ≤ c) :
    Calls Tryz.prog 33 #[.agg #[.slice A n c, .int .i64 a.lo, .int .i64 a.hi, .int .i64 a.cur, .int .i64 a.lim], .string (a.m[i]).n] W fun e w' => ∃ A' c' x2, e = .returned (.tuple #[.agg #[.slice A' n c', .int .i64 a.lo, .int .i64 a.hi, .int .i64 a.cur, .int .i64 a.lim], .int .i64 0]) ∧ w'.ownsRow W.heap.size 115 4 (.slice A' n c') n (mds x2.m) ∧ n ≤ c' ∧ Below W.heap.size W w' ∧ ByA a x2 (fun j => T j || (j == i)) := by
  have h1 := Bypass_any W.heap.size A n c x (a.m[i]).n W hM (Nat.le_refl _) (fitA_by h hF) hc
  obtain ⟨h2, h3⟩ := h.byp hi hb hT
  rw [h2, h.lo, h.hi, h.cur, h.lim] at h1
  refine h1.mono fun e w' hh => ?_
  obtain ⟨A', c', e1, e2, e3, e4⟩ := armE_r hh (by rw [h3.len, hn]) h17
  rw [h3.lo, h3.hi, h3.cur, h3.lim] at e1
  exact ⟨A', c', _, e1, e2, e3, e4, h3⟩
theorem rep_r {a x : Ar} {T : Nat → Bool} (h : ByA a x T) (hF : FitA a) {i : Nat} (hi : i < a.m.length) (hb : (a.m[i]).by_ = false) (hT : T i = true) (A : Option Addr) (n c : Nat) (W : World) (hM : MsAt W W.heap.size A n x.m) (hn : a.m.length = n) (h17 : n ≤ 17) (hc : n ≤ c) :
    Calls Tryz.prog 45 #[.agg #[.slice A n c, .int .i64 a.lo, .int .i64 a.hi, .int .i64 a.cur, .int .i64 a.lim], .string (a.m[i]).n, .int .i64 a.lo] W fun e w' => ∃ A' c' x2, e = .returned (.tuple #[.agg #[.slice A' n c', .int .i64 a.lo, .int .i64 a.hi, .int .i64 a.cur, .int .i64 a.lim], .int .i64 0]) ∧ w'.ownsRow W.heap.size 115 4 (.slice A' n c') n (mds x2.m) ∧ n ≤ c' ∧ Below W.heap.size W w' ∧ ByA a x2 (fun j => T j && !(j == i)) ∧ (usL x2).length = (usL x).length + 1 := by
  have h1 := Replaced_any W.heap.size A n c x (a.m[i]).n a.lo W hM (Nat.le_refl _) (fitA_by h hF) hc
  obtain ⟨h2, h3, h4⟩ := h.rep hi hb hT
  rw [h2, h.lo, h.hi, h.cur, h.lim] at h1
  refine h1.mono fun e w' hh => ?_
  obtain ⟨A', c', e1, e2, e3, e4⟩ := armE_r hh (by rw [h3.len, hn]) h17
  rw [h3.lo, h3.hi, h3.cur, h3.lim] at e1
  exact ⟨A', c', _, e1, e2, e3, e4, h3, h4⟩
theorem own_apart {W : World} {base e size n k t : Nat} {v : Value} {xs : List Value} {c : Array Value} (h : W.ownsRow base e size v n xs) (hk : Blk W k t c) (ht : t ≠ e) : v.ownBlock ≠ some k := by
  rcases h.2 with ⟨rfl, _⟩ | ⟨g, cap, cur, rfl, _, hg, _⟩
  · simp [Value.ownBlock]
  · intro he
    simp [Value.ownBlock] at he
    subst he
    have h1 : W.heap[g]? = _ := hk
    rw [hg] at h1
    cases h1
    exact ht rfl
theorem use_r {a x : Ar} {T : Nat → Bool} (h : ByA a x T) (hF : FitA a) (A : Option Addr) (n c : Nat) (W : World) (hM : MsAt W W.heap.size A n x.m) (hc : n ≤ c) :
    Calls Tryz.prog 34 #[.agg #[.slice A n c, .int .i64 a.lo, .int .i64 a.hi, .int .i64 a.cur, .int .i64 a.lim]] W fun e w' => ∃ A' c', e = .returned (.tuple #[.slice A' (usL x).length c', .int .i64 0]) ∧ Reads w' w'.heap.size 1 A' (usL x).length ((usL x).map (.int .i64)) ∧ Below W.heap.size W w' := by
  have h1 := Usable_any W.heap.size A n c x W hM (Nat.le_refl _) (fitA_by h hF) hc
  rw [h.ok, h.lo, h.hi, h.cur, h.lim, show resI 0 (usL x) = usL x from rfl] at h1
  exact h1
theorem res_r {a x : Ar} {T : Nat → Bool} (h : ByA a x T) (hF : FitA a) (A : Option Addr) (n c : Nat) (W : World) (hM : MsAt W W.heap.size A n x.m) (hc : n ≤ c) :
    Calls Tryz.prog 35 #[.agg #[.slice A n c, .int .i64 a.lo, .int .i64 a.hi, .int .i64 a.cur, .int .i64 a.lim], .int .i64 0] W fun e w' => e = .returned (.tuple #[.int .i64 ((usL x).length : Nat), .int .i64 0]) ∧ Below W.heap.size W w' := by
  have h1 := Reserve_any W.heap.size A n c x 0 W hM (Nat.le_refl _) (fitA_by h hF) hc
  rw [(resE_zero h.ok).1, (resE_zero h.ok).2, h.lo, h.hi, h.cur, h.lim] at h1
  exact h1
theorem chk_r {a x : Ar} {T : Nat → Bool} (h : ByA a x T) (hF : FitA a) (A : Option Addr) (n c : Nat) (W : World) (hM : MsAt W W.heap.size A n x.m) (hc : n ≤ c) :
    Calls Tryz.prog 36 #[.agg #[.slice A n c, .int .i64 a.lo, .int .i64 a.hi, .int .i64 a.cur, .int .i64 a.lim]] W fun e w' => e = .returned (.int .i64 0) ∧ Below W.heap.size W w' := by
  have h1 := CheckArm_any W.heap.size A n c x W hM (Nat.le_refl _) (fitA_by h hF) hc
  rw [h.ok, h.lo, h.hi, h.cur, h.lim] at h1
  exact h1
theorem cho_r {a x : Ar} {T : Nat → Bool} (h : ByA a x T) (hF : FitA a) (o : Od) (A : Option Addr) (n c : Nat) (W : World) (hM : MsAt W W.heap.size A n x.m) (hc : n ≤ c) :
    Calls Tryz.prog 38 #[.agg #[.slice A n c, .int .i64 a.lo, .int .i64 a.hi, .int .i64 a.cur, .int .i64 a.lim], .agg #[.int .i64 o.n, .int .i64 o.c]] W (ChoRes W (choE x o) (choL x o)) := by
  have h1 := Choose_any W.heap.size A n c x o W hM (Nat.le_refl _) (fitA_by h hF) hc
  rw [h.lo, h.hi, h.cur, h.lim] at h1
  exact h1
theorem on_r {a x : Ar} {T : Nat → Bool} (h : ByA a x T) (A : Option Addr) (n c : Nat) (W : World) (hM : MsAt W W.heap.size A n x.m) (hn : n ≤ 12) :
    Calls Tryz.prog 39 #[.agg #[.slice A n c, .int .i64 a.lo, .int .i64 a.hi, .int .i64 a.cur, .int .i64 a.lim]] W fun e w' => e = .returned (.int .i64 (bitN (onL x) : Nat)) ∧ Below W.heap.size W w' := by
  have h1 := shackleOn_any W.heap.size A n c x W hM (Nat.le_refl _) hn
  rw [h.lo, h.hi, h.cur, h.lim] at h1
  exact h1
/-- The choice of all usable modules lies in them. -/
theorem cho_us {x : Ar} (h : armE x = 0) (h0 : choE x ⟨(usL x).length, 0⟩ = 0) : ∀ i ∈ choL x ⟨(usL x).length, 0⟩, i ∈ usL x := by
  intro i hi
  unfold choL at hi
  rw [if_pos h0] at hi
  unfold choE at h0
  exact choice_us (fit_of h) (by show (0 : Int) ≤ ((usL x).length : Int); omega) (or0_zero h0).2 ((hasI_iff _ _).2 hi)
theorem choL_len {x : Ar} (h : armE x = 0) : (choL x ⟨(usL x).length, 0⟩).length ≤ 16 := by
  unfold choL
  split
  · rename_i h0
    unfold choE at h0
    have hF := fit_of h
    have h3 := choice_len hF (show (0 : Int) ≤ ((usL x).length : Int) by omega) (or0_zero h0).2
    have h4 := us_len_le x
    have h5 := hF.n16
    have h6 : ((choiceA x ⟨(usL x).length, 0⟩).length : Int) = ((usL x).length : Int) := h3
    omega
  · simp
theorem us_lt {x : Ar} (hl : x.m.length ≤ 12) : ∀ i ∈ usL x, 0 ≤ i ∧ i < 12 := fun i hi => by
  obtain ⟨j, hj, e, _⟩ := mem_idxs.1 hi
  omega
theorem bits_zero {u m : Nat} (hu : u < 2 ^ 12) (hm : m < 2 ^ 12) (h : u &&& m = 0) : bits .and .i64 (u : Int) (m : Int) = 0 := by
  rw [bo_and (by omega) (by omega), h]
  rfl
end Go.Proofs.YtafnebfchhmgcaaGreat
