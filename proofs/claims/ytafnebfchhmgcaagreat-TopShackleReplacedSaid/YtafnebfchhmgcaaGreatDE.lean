/- Plain: the switchings to a set; what ArmSpreads says. -/
import Derived.Test.YtafnebfchhmgcaaGreatDC
import Derived.Test.YtafnebfchhmgcaaGreatQk
namespace Go.Proofs.YtafnebfchhmgcaaGreat
open Go Go.RowKit
def setGo (a : Ar) : Int → List Int → Int
  | _, [] => 0
  | last, i :: r => if hasI (usL a) i then (if i ≤ last then 11 else setGo a i r) else 10
def cntX (set : List Int) : Nat → List Md → Nat
  | _, [] => 0
  | k, x :: r => (if !x.by_ && (x.on != hasI set (k : Int)) then 1 else 0) + cntX set (k + 1) r
def chsE (a : Ar) (set : List Int) : Int := or0 (firstE [armE a, whenE (decide ((16 : Int) < set.length)) 5]) (setGo a (-1) set)
def chsV (a : Ar) (set : List Int) : Int := if chsE a set = 0 then (cntX set 0 a.m : Int) else 0
theorem setGo_ok {a : Ar} : ∀ {l : List Int} {last : Int}, (∀ i ∈ l, i ∈ usL a) → l.Pairwise (· < ·) → (∀ i ∈ l, last < i) → setGo a last l = 0
  | [], _, _, _, _ => rfl
  | i :: r, last, h, hp, hl => by
    obtain ⟨h1, h2⟩ := List.pairwise_cons.1 hp
    unfold setGo
    rw [if_pos ((hasI_iff _ _).2 (h i List.mem_cons_self)), if_neg (by have := hl i List.mem_cons_self; omega)]
    exact setGo_ok (fun j hj => h j (List.mem_cons_of_mem _ hj)) h2 h1
theorem cntX_sw (set : List Int) (c : Int) : ∀ (l : List Md) (k : Nat), (∀ i, (h : i < l.length) → (l[i]).by_ = true → (l[i]).on = false ∧ hasI set ((k + i : Nat) : Int) = false) → cntX set k l = swGo l (stepMs set c k l)
  | [], _, _ => rfl
  | x :: r, k, h => by
    have ih := cntX_sw set c r (k + 1) (fun i hi hb => by
      have := h (i + 1) (by rw [List.length_cons]; omega) hb
      rw [show k + 1 + i = k + (i + 1) by omega]
      exact this)
    show _ + cntX set (k + 1) r = (if (hasI set (k : Int) != x.on) then 1 else 0) + swGo r (stepMs set c (k + 1) r)
    rw [ih]
    congr 1
    cases hb : x.by_ with
    | false => cases x.on <;> cases hasI set (k : Int) <;> rfl
    | true =>
      obtain ⟨h1, h2⟩ := h 0 (by rw [List.length_cons]; omega) hb
      rw [Nat.add_zero] at h2
      rw [show x.on = false from h1, h2]
      rfl
/-- The choice, as a set that is told: without an error, with few switchings. -/
theorem cho_set {a : Ar} {o : Od} (hE : armE a = 0) (ho : orderE o = 0) (hr : refE a o = 0) : chsE a (choiceA a o) = 0 ∧ chsV a (choiceA a o) ≤ a.lim := by
  have hF := fit_of hE
  have hn := (order_zero ho).1
  have hU : ∀ i ∈ choiceA a o, i ∈ usL a := fun i hi => choice_us hF hn.1 hr ((hasI_iff _ _).2 hi)
  have hs : (choiceA a o).Pairwise (· < ·) := sortI_sorted (setU_spec hF hn.1 hr).1.nd
  have hlen := choice_len hF hn.1 hr
  have h0 : chsE a (choiceA a o) = 0 := by
    unfold chsE
    rw [firstE_cons, hE, firstE_cons, firstE_nil, setGo_ok hU hs (fun i hi => by have := us_in hF i (hU i hi); omega), decide_eq_false (by omega)]
    rfl
  refine ⟨h0, ?_⟩
  unfold chsV
  rw [if_pos h0, cntX_sw (choiceA a o) o.c a.m 0 (fun i hi hb => by
    refine ⟨?_, ?_⟩
    · cases hon : (a.m[i]).on with
      | false => rfl
      | true =>
        have := hF.cf _ (List.getElem_mem hi) hon
        rw [hb] at this
        cases this
    · cases hh : hasI (choiceA a o) ((0 + i : Nat) : Int) with
      | false => rfl
      | true =>
        obtain ⟨j, hj, e, hu⟩ := mem_idxs.1 (hU _ ((hasI_iff _ _).1 hh))
        have : i = j := by omega
        subst this
        unfold usB at hu
        rw [hb] at hu
        cases hu)]
  exact fl_sw hF hn.1 hr
/-- With the greatest limit. -/
def freeA (a : Ar) : Ar := ⟨a.m, a.lo, a.hi, a.cur, 16⟩
theorem free_ok {a : Ar} (h : armE a = 0) : armE (freeA a) = 0 := by
  have hF := fit_of h
  exact arm_keep h rfl rfl rfl rfl (show ckR (16 : Int) 0 16 = 0 by decide) (fun x hx => ⟨hF.q x hx, hF.cf x hx, hF.band x hx⟩)
theorem free_ref {a : Ar} {o : Od} (h : armE a = 0) (ho : orderE o = 0) : (refE a o = 0 → refE (freeA a) o = 0) ∧ (refE a o ≠ 0 → (refE a o = 21 ∧ refE (freeA a) o = 0) ∨ (refE a o ≠ 21 ∧ refE (freeA a) o = refE a o)) := by
  have hF := fit_of h
  have hn := (order_zero ho).1
  have h16 := hF.n16
  have hl : (onL a).length ≤ a.m.length := idxs_len _ _ _
  have e : decide ((freeA a).lim < absI (o.n - ((onL (freeA a)).length : Int))) = false := by
    refine decide_eq_false ?_
    show ¬ ((16 : Int) < absI (o.n - ((onL a).length : Int)))
    unfold absI
    omega
  unfold refE
  rw [e]
  rw [show usL (freeA a) = usL a from rfl, show (freeA a).cur = a.cur from rfl]
  generalize decide (a.cur < absI o.c) = b1
  generalize decide (((usL a).length : Int) < o.n) = b2
  generalize decide (a.lim < absI (o.n - ((onL a).length : Int))) = b3
  rw [firstE_cons, firstE_cons, firstE_cons, firstE_nil, firstE_cons, firstE_cons, firstE_cons, firstE_nil]
  unfold or0 whenE
  cases b1 <;> cases b2 <;> cases b3 <;> simp
theorem free_best {a : Ar} {o : Od} (h : armE a = 0) (ho : orderE o = 0) (hr : refE (freeA a) o = 0) {i k : Int} (hi : i ∈ usL a) (hi2 : hasI (choiceA (freeA a) o) i = false) (hk : k ∈ choiceA (freeA a) o) : strictB ((ckA a o.c).ch i) ((ckA a o.c).ch k) o.c = false := by
  have hF := fit_of (free_ok h)
  have hn := (order_zero ho).1
  have h16 := hF.n16
  have hl := us_len_le (freeA a)
  refine setU_best (a := freeA a) hF hn.1 hr (by show _ ≤ (16 : Int); omega) hi (fun e => ?_) (mem_choice.1 ((hasI_iff _ _).2 hk))
  have := mem_choice.2 e
  rw [hi2] at this
  cases this
/-- The voltage after a step, by the choice. -/
theorem sum_filter (p : Md → Bool) (f : Md → Int) : ∀ l : List Md, sumI (fun x => if p x then f x else 0) l = ((l.filter p).map f).sum
  | [] => rfl
  | x :: r => by
    rw [sumI_cons, sum_filter p f r, List.filter_cons]
    cases p x <;> simp
theorem volt_on (a : Ar) (c : Int) : voltL a = ((onL a).map (ckA a c).ch).sum := by
  have h := idxs_map (fun x => x.on) Md.q 0 a.m []
  have h2 : (onL a).map (ckA a c).ch = (a.m.filter fun x => x.on).map Md.q := h
  rw [h2]
  exact sum_filter (fun x => x.on) Md.q a.m
theorem volt_step {a : Ar} {o : Od} (hE : armE a = 0) (ho : orderE o = 0) (hr : refE a o = 0) : voltL (stepA a o) = ((choiceA a o).map fun i => (ckA a o.c).ch i + o.c).sum := by
  have hF := fit_of hE
  have hn := (order_zero ho).1
  rw [volt_on (stepA a o) o.c, onL_step hF hn.1 hr]
  congr 1
  refine List.map_congr_left fun i hi => ?_
  have hh := (hasI_iff _ _).2 hi
  rw [step_ch (choice_us hF hn.1 hr hh), hh, if_pos rfl]
theorem cho_at {a : Ar} {o : Od} (hE : armE a = 0) (ho : orderE o = 0) (hr : refE a o = 0) {i : Int} (hi : i ∈ choiceA a o) : ∃ j, ∃ h : j < a.m.length, i = (j : Int) ∧ (a.m[j]).by_ = false := by
  obtain ⟨j, hj, e, hu⟩ := mem_idxs.1 (choice_us (fit_of hE) (order_zero ho).1.1 hr ((hasI_iff _ _).2 hi))
  refine ⟨j, hj, by omega, ?_⟩
  unfold usB at hu
  simpa using hu
end Go.Proofs.YtafnebfchhmgcaaGreat
