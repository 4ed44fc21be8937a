/- Plain law of ArmFlows: what an order changes, counted. -/
import Derived.Test.YtafnebfchhmgcaaGreatQd
import Derived.Test.YtafnebfchhmgcaaGreatDA
import Derived.Test.YtafnebfchhmgcaaGreatQl
namespace Go.Proofs.YtafnebfchhmgcaaGreat
open Go Go.RowKit
def cntOn (l : List Md) : Nat := (l.filter fun x => x.on).length
theorem idxs_cnt (p : Md → Bool) : ∀ (l : List Md) (k : Nat), (idxs p k l).length = (l.filter p).length
  | [], _ => rfl
  | x :: r, k => by
    rw [idxs_cons]
    cases h : p x with
    | true => rw [if_pos rfl, List.length_cons, idxs_cnt p r (k + 1), List.filter_cons_of_pos h, List.length_cons]
    | false => rw [if_neg (by decide), idxs_cnt p r (k + 1), List.filter_cons_of_neg (by rw [h]; decide)]
theorem fl_on {b : Ar} {o : Od} (hF : Fit b) (hn : 0 ≤ o.n) (hr : refE b o = 0) : (cntOn (stepA b o).m : Int) = o.n := by
  have h1 := onL_step hF hn hr
  have h2 := choice_len hF hn hr
  have h3 : (onL (stepA b o)).length = cntOn (stepA b o).m := idxs_cnt (fun x => x.on) (stepA b o).m 0
  rw [← h3, h1]
  exact h2
theorem fl_sw {b : Ar} {o : Od} (hF : Fit b) (hn : 0 ≤ o.n) (hr : refE b o = 0) : (swGo b.m (stepA b o).m : Int) ≤ b.lim := by
  rw [sw_chg hF hn hr]
  exact setU_chg hF hn hr
theorem cnt_snoc (l : List Md) (x : Md) : cntOn (l ++ [x]) = cntOn l + (if x.on then 1 else 0) := by
  unfold cntOn
  rw [List.filter_append, List.length_append]
  cases h : x.on with
  | true => rw [List.filter_cons_of_pos (by simp [h])]; simp
  | false => rw [List.filter_cons_of_neg (by simp [h])]; simp
theorem sw_snoc (x z : Md) : ∀ (l m : List Md), l.length = m.length → swGo (l ++ [x]) (m ++ [z]) = swGo l m + (if z.on != x.on then 1 else 0)
  | [], [], _ => by
    show _ + swGo [] [] = swGo [] [] + _
    show _ + 0 = 0 + _
    omega
  | y :: r, u :: t, h => by
    have ih := sw_snoc x z r t (by simpa using h)
    show _ + swGo (r ++ [x]) (t ++ [z]) = (_ + swGo r t) + _
    rw [ih]
    omega
  | [], _ :: _, h => by simp at h
  | _ :: _, [], h => by simp at h
theorem cnt_le (l : List Md) : cntOn l ≤ l.length := List.length_filter_le _ _
theorem sw_le : ∀ (l m : List Md), swGo l m ≤ l.length
  | x :: r, z :: t => by
    have ih := sw_le r t
    show (if z.on != x.on then 1 else 0) + swGo r t ≤ (x :: r).length
    rw [List.length_cons]
    split <;> omega
  | [], _ => Nat.zero_le _
  | _ :: _, [] => Nat.zero_le _
theorem cnt_take {l : List Md} {k : Nat} (h : k < l.length) : cntOn (l.take (k + 1)) = cntOn (l.take k) + (if l[k].on then 1 else 0) := by
  rw [List.take_succ_eq_append_getElem h, cnt_snoc]
theorem sw_take {l m : List Md} {k : Nat} (h : k < l.length) (h2 : k < m.length) : swGo (l.take (k + 1)) (m.take (k + 1)) = swGo (l.take k) (m.take k) + (if m[k].on != l[k].on then 1 else 0) := by
  rw [List.take_succ_eq_append_getElem h, List.take_succ_eq_append_getElem h2, sw_snoc _ _ _ _ (by rw [List.length_take, List.length_take]; omega)]
theorem ordSum_snoc (o : Od) : ∀ l : List Od, ordSum (l ++ [o]) = ordSum l + o.n * o.c
  | [] => by show _ + 0 = 0 + _; omega
  | x :: r => by
    have ih := ordSum_snoc o r
    show _ + ordSum (r ++ [o]) = (_ + ordSum r) + _
    rw [ih]
    omega
theorem od_bd {o : Od} (h : orderE o = 0) : -16000 ≤ o.n * o.c ∧ o.n * o.c ≤ 16000 := by
  obtain ⟨h1, h2⟩ := order_zero h
  have e := Int.natAbs_mul o.n o.c
  have := Nat.mul_le_mul (show o.n.natAbs ≤ 16 by omega) (show o.c.natAbs ≤ 1000 by omega)
  omega
theorem ordSum_bd : ∀ {l : List Od}, (∀ o ∈ l, orderE o = 0) → -(16000 * (l.length : Int)) ≤ ordSum l ∧ ordSum l ≤ 16000 * (l.length : Int)
  | [], _ => ⟨by show _ ≤ (0 : Int); simp, by show (0 : Int) ≤ _; simp⟩
  | o :: r, h => by
    have ih := ordSum_bd (l := r) (fun x hx => h x (List.mem_cons_of_mem _ hx))
    have := od_bd (h o List.mem_cons_self)
    have e : ordSum (o :: r) = o.n * o.c + ordSum r := rfl
    rw [e, List.length_cons]
    omega
theorem rords_zero {l : List Od} (h : rordsE l = 0) : l.length ≤ 256 ∧ ∀ o ∈ l, orderE o = 0 := by
  unfold rordsE at h
  by_cases h2 : (256 : Int) < (l.length : Int)
  · rw [if_pos h2] at h
    cases h
  · rw [if_neg h2] at h
    refine ⟨by omega, ?_⟩
    clear h2
    induction l with
    | nil => intro o ho; cases ho
    | cons x r ih =>
      rw [List.map_cons, firstE_cons] at h
      obtain ⟨q1, q2⟩ := or0_zero h
      intro o ho
      rcases List.mem_cons.1 ho with rfl | ho
      · exact q1
      · exact ih q2 o ho
theorem ords_of {a : Ar} {l : List Od} (hE : armE a = 0) (h : rordsE l = 0) : ordsE a l = 0 := by
  obtain ⟨h1, h2⟩ := rords_zero h
  unfold ordsE
  have e : firstE (l.map orderE) = 0 := by
    clear h h1
    induction l with
    | nil => rfl
    | cons x r ih =>
      rw [List.map_cons, firstE_cons, h2 x List.mem_cons_self, or0_yes]
      exact ih (fun o ho => h2 o (List.mem_cons_of_mem _ ho))
  rw [firstE_cons, firstE_cons, hE, decide_eq_false (by omega), e]
  rfl
/-- An arm that follows an arm: the same but for its modules. -/
theorem same_mk {a b : Ar} (h : Same4 a b) : b = ⟨b.m, a.lo, a.hi, a.cur, a.lim⟩ := by
  obtain ⟨m, lo, hi, cu, li⟩ := b
  obtain ⟨h1, h2, h3, h4, _, _⟩ := h
  dsimp only at h1 h2 h3 h4
  subst h1
  subst h2
  subst h3
  subst h4
  rfl
theorem fit_step {a b : Ar} (hF : FitA a) (h : Same4 a b) : FitA b := by
  refine ⟨by rw [h.len]; exact hF.len, fun x hx => ?_⟩
  have h2 : x.n ∈ b.m.map Md.n := List.mem_map_of_mem hx
  rw [h.n] at h2
  obtain ⟨y, hy, e⟩ := List.mem_map.1 h2
  rw [← e]
  exact hF.nm y hy
theorem ms_kept {W W' : World} {A : Option Addr} {n : Nat} {m : List Md} (h : MsAt W W.heap.size A n m) (hb : Below W.heap.size W W') : MsAt W' W'.heap.size A n m := (h.below hb).more hb.size
theorem stp_eq {b : Ar} {o : Od} (hE : armE b = 0) (ho : orderE o = 0) : stpE b o = stepE b o := by
  unfold stpE
  rw [firstE_cons, firstE_cons, firstE_nil, hE, ho]
  rfl
end Go.Proofs.YtafnebfchhmgcaaGreat
