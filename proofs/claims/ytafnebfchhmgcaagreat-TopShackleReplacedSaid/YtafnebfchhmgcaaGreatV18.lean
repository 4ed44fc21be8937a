/- Arms with bypassed and replaced modules, in plain words. -/
import Derived.Test.YtafnebfchhmgcaaGreatQd
import Derived.Test.YtafnebfchhmgcaaGreatDE
import Derived.Test.YtafnebfchhmgcaaGreatV4
import Derived.Test.YtafnebfchhmgcaaGreatQk
namespace Go.Proofs.YtafnebfchhmgcaaGreat
open Go.RowKit Go.Sort Go.Shelf
set_option linter.unusedSimpArgs false
set_option linter.unusedVariables false
/-- The arm x is the arm a, of which besides the modules T are bypassed. -/
structure ByA (a x : Ar) (T : Nat → Bool) : Prop where
  ok : armE x = 0
  len : x.m.length = a.m.length
  lo : x.lo = a.lo
  hi : x.hi = a.hi
  cur : x.cur = a.cur
  lim : x.lim = a.lim
  nm : ∀ i, (h : i < a.m.length) → (x.m[i]'(by omega)).n = (a.m[i]).n
  by_ : ∀ i, (h : i < a.m.length) → (x.m[i]'(by omega)).by_ = ((a.m[i]).by_ || T i)
theorem ByA.start {a : Ar} (h : armE a = 0) : ByA a a fun _ => false := ⟨h, rfl, rfl, rfl, rfl, rfl, fun _ _ => rfl, fun _ _ => by simp⟩
theorem get_set_md {l : List Md} {i j : Nat} {z : Md} (h : j < (l.set i z).length) : (l.set i z)[j] = if i = j then z else l[j]'(by simpa using h) := List.getElem_set h
theorem ByA.byp {a x : Ar} {T : Nat → Bool} (h : ByA a x T) {i : Nat} (hi : i < a.m.length) (hb : (a.m[i]).by_ = false) (hT : T i = false) :
    bypE x (a.m[i]).n = 0 ∧ ByA a (bypA x (a.m[i]).n) fun j => T j || (j == i) := by
  have hx : i < x.m.length := by rw [h.len]; exact hi
  have hself := byp_self h.ok hx
  rw [h.nm i hi, h.by_ i hi, hb, hT] at hself
  refine ⟨by rw [hself.1]; rfl, ?_⟩
  rw [hself.2]
  refine ⟨bypA_ok h.ok hx, by show (x.m.set i _).length = _; rw [List.length_set, h.len], h.lo, h.hi, h.cur, h.lim, fun j hj => ?_, fun j hj => ?_⟩
  · show ((x.m.set i _)[j]'(by rw [List.length_set, h.len]; exact hj)).n = _
    rw [get_set_md]
    split
    · rename_i e
      subst e
      exact h.nm _ _
    · exact h.nm _ _
  · show ((x.m.set i _)[j]'(by rw [List.length_set, h.len]; exact hj)).by_ = _
    rw [get_set_md]
    split
    · rename_i e
      subst e
      simp [bypM]
    · rename_i e
      have : (j == i) = false := by simpa using fun e2 => e e2.symm
      rw [h.by_ j hj, this, Bool.or_false]
theorem idxs_set {p : Md → Bool} {z : Md} : ∀ {l : List Md} {k i : Nat}, (h : i < l.length) → p l[i] = false → p z = true → (idxs p k (l.set i z)).length = (idxs p k l).length + 1
  | [], _, _, h, _, _ => by simp at h
  | x :: r, k, 0, _, hx, hz => by
    have hx' : p x = false := hx
    show (if p z then (k : Int) :: idxs p (k + 1) r else idxs p (k + 1) r).length = (if p x then (k : Int) :: idxs p (k + 1) r else idxs p (k + 1) r).length + 1
    rw [hx', hz]
    rfl
  | x :: r, k, i + 1, h, hx, hz => by
    have ih := idxs_set (l := r) (k := k + 1) (i := i) (by simpa using h) (by simpa using hx) hz
    show (if p x then (k : Int) :: idxs p (k + 1) (r.set i z) else idxs p (k + 1) (r.set i z)).length = (if p x then (k : Int) :: idxs p (k + 1) r else idxs p (k + 1) r).length + 1
    cases p x
    · simpa using ih
    · simp [ih]
theorem ByA.rep {a x : Ar} {T : Nat → Bool} (h : ByA a x T) {i : Nat} (hi : i < a.m.length) (hb : (a.m[i]).by_ = false) (hT : T i = true) :
    repE x (a.m[i]).n a.lo = 0 ∧ ByA a (repA x (a.m[i]).n a.lo) (fun j => T j && !(j == i)) ∧ (usL (repA x (a.m[i]).n a.lo)).length = (usL x).length + 1 := by
  have hx : i < x.m.length := by rw [h.len]; exact hi
  have hF := fit_of h.ok
  have e := idx_at x hx h.ok
  have e2 := md_self h.ok hx
  have hby : (x.m[i]).by_ = true := by rw [h.by_ i hi, hb, hT]; rfl
  have hnm := h.nm i hi
  rw [hnm] at e e2
  have hq : 0 ≤ a.lo ∧ a.lo ≤ 16384 := by have := hF.lo; rw [h.lo] at this; exact this
  have hle : a.lo ≤ a.hi := by have := hF.le; rw [h.lo, h.hi] at this; exact this
  have hin : inB x.lo x.hi a.lo = true := by
    unfold inB
    rw [h.lo, h.hi]
    simpa using hle
  have hA : repA x (a.m[i]).n a.lo = putM x i (repM x.m[i] a.lo) := by
    unfold repA
    rw [e, e2]
    dsimp only
    rw [Int.toNat_natCast]
  have hon : (x.m[i]).on = false := by
    cases ho : (x.m[i]).on with
    | false => rfl
    | true =>
      have := hF.cf _ (List.getElem_mem hx) ho
      rw [hby] at this
      cases this
  refine ⟨?_, ?_, ?_⟩
  · unfold repE
    rw [e, e2, h.ok, hin, ckR_yes hq, show decide ((i : Int) < 0) = false by simp, Option.map_some, Option.getD_some, hby]
    rfl
  · rw [hA]
    refine ⟨put_ok h.ok (List.getElem?_eq_getElem hx) rfl hq (fun e => by rw [show (repM x.m[i] a.lo).on = (x.m[i]).on from rfl, hon] at e; cases e) (fun _ => by rw [h.lo, h.hi]; exact ⟨Int.le_refl _, hle⟩), by show (x.m.set i _).length = _; rw [List.length_set, h.len], h.lo, h.hi, h.cur, h.lim, fun j hj => ?_, fun j hj => ?_⟩
    · show ((x.m.set i _)[j]'(by rw [List.length_set, h.len]; exact hj)).n = _
      rw [get_set_md]
      split
      · rename_i e
        subst e
        exact h.nm _ _
      · exact h.nm _ _
    · show ((x.m.set i _)[j]'(by rw [List.length_set, h.len]; exact hj)).by_ = _
      rw [get_set_md]
      split
      · rename_i e
        subst e
        simp [repM, hb]
      · rename_i e
        have : (j == i) = false := by simpa using fun e2 => e e2.symm
        rw [h.by_ j hj, this, Bool.not_false, Bool.and_true]
  · rw [hA]
    show (idxs usB 0 (x.m.set i _)).length = _
    exact idxs_set hx (by unfold usB; rw [hby]; rfl) rfl
theorem ByA.congr {a x : Ar} {T U : Nat → Bool} (h : ByA a x T) (hT : ∀ i, i < a.m.length → T i = U i) : ByA a x U := ⟨h.ok, h.len, h.lo, h.hi, h.cur, h.lim, h.nm, fun i hi => by rw [h.by_ i hi, hT i hi]⟩
/-- The mask of all bypassed modules. -/
structure MaskOk (x : Ar) (mask : Nat) : Prop where
  bit : ∀ j, mask.testBit j = ((x.m[j]?).map Md.by_).getD false
theorem MaskOk.us {x : Ar} {mask : Nat} (h : MaskOk x mask) {i : Int} (hi : i ∈ usL x) : mask.testBit i.toNat = false := by
  obtain ⟨j, hj, e, hu⟩ := mem_idxs.1 hi
  rw [Nat.zero_add] at e
  subst e
  rw [Int.toNat_natCast, h.bit, List.getElem?_eq_getElem hj, Option.map_some, Option.getD_some]
  unfold usB at hu
  simpa using hu
theorem MaskOk.sub {x : Ar} {mask : Nat} (h : MaskOk x mask) {l : List Int} (h0 : ∀ i ∈ l, i ∈ usL x) (hF : Fit x) : bitN l &&& mask = 0 := by
  apply Nat.eq_of_testBit_eq
  intro j
  rw [Nat.testBit_and, bitN_has (fun i hi => (us_in hF i (h0 i hi)).1), Nat.zero_testBit]
  by_cases hj : (j : Int) ∈ l
  · have := h.us (h0 _ hj)
    rw [Int.toNat_natCast] at this
    rw [this, Bool.and_false]
  · simp [hj]
theorem cnt_two (t u a b v : Nat) (m : Nat) (ha : a &&& m = 0) (hb : b &&& m = 0) (hm : m.testBit v = true) : cntT (xrL [⟨(t : Int), (a : Int)⟩, ⟨(u : Int), (b : Int)⟩]) v = 0 := by
  have h1 : a.testBit v = false := by
    have := congrArg (fun z => z.testBit v) ha
    simpa [hm] using this
  have h2 : b.testBit v = false := by
    have := congrArg (fun z => z.testBit v) hb
    simpa [hm] using this
  show cntB [(b : Int).toNat ^^^ (a : Int).toNat] v = 0
  unfold cntB bitI
  simp [h1, h2]
/-- An order for all usable modules without a current is refused by switchings alone. -/
theorem all_ref {x : Ar} (h : armE x = 0) : choE x ⟨(usL x).length, 0⟩ = 0 ∨ choE x ⟨(usL x).length, 0⟩ = 21 := by
  have hF := fit_of h
  have hl : (usL x).length ≤ x.m.length := us_len_le x
  have h16 := hF.n16
  have h1 : orderE ⟨((usL x).length : Int), 0⟩ = 0 := by
    unfold orderE
    dsimp only
    rw [ckR_yes (by omega), ckR_yes (by omega)]
    rfl
  have e1 : decide (x.cur < absI (⟨((usL x).length : Int), 0⟩ : Od).c) = false := by
    have := hF.cur
    simp [absI]
    omega
  have e2 : decide (((usL x).length : Int) < (⟨((usL x).length : Int), 0⟩ : Od).n) = false := by simp
  unfold choE
  rw [h, h1]
  unfold refE
  rw [e1, e2]
  generalize decide (x.lim < _) = d
  cases d
  · exact .inl rfl
  · exact .inr rfl
end Go.Proofs.YtafnebfchhmgcaaGreat
