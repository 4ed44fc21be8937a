/- TopClampRecorded in plain words: what is recorded of each module, order by order. -/
import Derived.Test.YtafnebfchhmgcaaGreatN8
import Derived.Test.YtafnebfchhmgcaaGreatDC
namespace Go.Proofs.YtafnebfchhmgcaaGreat
open Go Go.RowKit
set_option linter.unusedSimpArgs false
set_option linter.unusedVariables false
theorem goTo_cut : ∀ {x y : List Od} {a b : Ar}, goTo a (x ++ y) = some b → ∃ c, goTo a x = some c ∧ goTo c y = some b ∧ logL a (x ++ y) = logL a x ++ logL c y
  | [], y, a, b, h => ⟨a, rfl, h, rfl⟩
  | o :: r, y, a, b, h => by
    have h' : (if stepE a o = 0 then goTo (stepA a o) (r ++ y) else none) = some b := h
    split at h'
    · rename_i h0
      obtain ⟨c, h1, h2, h3⟩ := goTo_cut h'
      refine ⟨c, ?_, h2, ?_⟩
      · show (if stepE a o = 0 then goTo (stepA a o) r else none) = some c
        rw [if_pos h0]
        exact h1
      · show _ :: logL (stepA a o) (r ++ y) = (_ :: logL (stepA a o) r) ++ _
        rw [h3]
        rfl
    · cases h'
/-- The charges recorded: at the start, and after each order. -/
def recL (a : Ar) (l : List Od) : List (List Int) := a.m.map Md.q :: logL a l
theorem recL_len (a : Ar) (l : List Od) : (recL a l).length = l.length + 1 := by
  have : ∀ (l : List Od) (a : Ar), (logL a l).length = l.length := by
    intro l
    induction l with
    | nil => intro a; rfl
    | cons x r ih => intro a; show (logL (stepA a x) r).length + 1 = _; rw [ih]; rfl
  unfold recL
  rw [List.length_cons, this]
theorem recL_at {l : List Od} {a b : Ar} (h : goTo a l = some b) : ∀ {i : Nat}, i ≤ l.length → ∃ c, goTo a (l.take i) = some c ∧ (recL a l)[i]? = some (c.m.map Md.q)
  | 0, _ => ⟨a, rfl, rfl⟩
  | i + 1, hi => by
    have hlt : i < l.length := hi
    have e : l = l.take (i + 1) ++ l.drop (i + 1) := (List.take_append_drop _ _).symm
    rw [e] at h
    obtain ⟨c, h1, h2, h3⟩ := goTo_cut h
    rw [← e] at h3
    refine ⟨c, h1, ?_⟩
    have ht := List.take_succ_eq_append_getElem hlt
    obtain ⟨d, g1, g2, g3⟩ := goTo_cut (x := l.take i) (y := [l[i]]) (by rw [← ht]; exact h1)
    rw [← ht] at g3
    have g4 : (if stepE d l[i] = 0 then goTo (stepA d l[i]) [] else none) = some c := g2
    split at g4
    · have g5 : some (stepA d l[i]) = some c := g4
      cases g5
      have hl : (logL a (l.take i)).length = i := by
        have := recL_len a (l.take i)
        unfold recL at this
        rw [List.length_cons, List.length_take, Nat.min_eq_left (Nat.le_of_lt hlt)] at this
        omega
      have hl2 : (logL a (l.take (i + 1))).length = i + 1 := by rw [g3, List.length_append, hl]; rfl
      unfold recL
      rw [List.getElem?_cons_succ, h3, List.getElem?_append_left (by rw [hl2]; omega), g3, List.getElem?_append_right (by rw [hl]; exact Nat.le_refl _), hl, Nat.sub_self]
      rfl
    · cases g4
/-- What is recorded of one module. -/
def recQ (a : Ar) (l : List Od) (k : Nat) : List Int := (recL a l).map fun r => r[k]?.getD 0
theorem recQ_len (a : Ar) (l : List Od) (k : Nat) : (recQ a l k).length = l.length + 1 := by
  unfold recQ
  rw [List.length_map, recL_len]
/-- One order among those that are not refused. -/
structure StAt (a : Ar) (l : List Od) (i : Nat) (o : Od) (c : Ar) : Prop where
  go : goTo a (l.take i) = some c
  go1 : goTo a (l.take (i + 1)) = some (stepA c o)
  ok : stepE c o = 0
  arm : armE c = 0
  s4 : Same4 a c
  was : ∀ k, (h : k < c.m.length) → (recQ a l k)[i]? = some (c.m[k]).q
  now : ∀ k, (h : k < (stepA c o).m.length) → (recQ a l k)[i + 1]? = some ((stepA c o).m[k]).q
theorem st_at {l : List Od} {a b : Ar} (hE : armE a = 0) (ho : ∀ o ∈ l, orderE o = 0) (h : goTo a l = some b) {i : Nat} (hi : i < l.length) : ∃ c, StAt a l i l[i] c := by
  obtain ⟨c, h1, h2⟩ := recL_at h (i := i) (Nat.le_of_lt hi)
  obtain ⟨d, h3, h4⟩ := recL_at h (i := i + 1) hi
  obtain ⟨g1, g2⟩ := goTo_ok hE (fun x hx => ho x (List.mem_of_mem_take hx)) h1
  have h5 := h3
  rw [List.take_succ_eq_append_getElem hi, goTo_snoc h1] at h5
  split at h5
  · rename_i h0
    cases h5
    refine ⟨c, h1, h3, h0, g1, g2, fun k hk => ?_, fun k hk => ?_⟩
    · unfold recQ
      rw [List.getElem?_map, h2]
      simp [hk]
    · unfold recQ
      rw [List.getElem?_map, h4]
      simp [hk]
  · cases h5
/-- The change of one module by an order. -/
structure OneMd (lo hi c : Int) (x z : Md) : Prop where
  by_ : z.by_ = x.by_
  q : z.q = x.q ∨ z.q = x.q + c
  stay : x.by_ = true → z.q = x.q
  band : x.by_ = false → lo ≤ z.q ∧ z.q ≤ hi
  on : z.on = true → z.q = x.q + c
  off : z.on = false → z.q = x.q
  xq : 0 ≤ x.q ∧ x.q ≤ 16384
  zq : 0 ≤ z.q ∧ z.q ≤ 16384
theorem one_md {c : Ar} {o : Od} (hE : armE c = 0) (ho : orderE o = 0) (h0 : stepE c o = 0) {k : Nat} (h : k < c.m.length) (h' : k < (stepA c o).m.length) : OneMd c.lo c.hi o.c c.m[k] (stepA c o).m[k] := by
  have hoo := order_zero ho
  have hE2 := step_ok hE hoo.1.1 h0
  have hF := fit_of hE
  have hF2 := fit_of hE2
  have e : (stepA c o).m[k] = _ := stepMs_at (set := choiceA c o) (c := o.c) h h'
  have hx := hF.q _ (List.getElem_mem h)
  have hz := hF2.q _ (List.getElem_mem h')
  have hb := hF2.band _ (List.getElem_mem h')
  have hcf := hF2.cf _ (List.getElem_mem h')
  rw [e] at hz hb hcf ⊢
  dsimp only at hz hb hcf ⊢
  refine ⟨rfl, ?_, fun hby => ?_, fun hby => hb hby, fun hon => ?_, fun hoff => ?_, hx, hz⟩
  · by_cases hs : hasI (choiceA c o) (k : Int) = true
    · exact .inr (if_pos hs)
    · exact .inl (if_neg hs)
  · by_cases hs : hasI (choiceA c o) (k : Int) = true
    · rw [hcf hs] at hby
      cases hby
    · exact if_neg hs
  · exact if_pos hon
  · exact if_neg (by show ¬ hasI (choiceA c o) (k : Int) = true; rw [show hasI (choiceA c o) (k : Int) = false from hoff]; decide)
/-- How many modules change. -/
def chN (c : Int) (l : List Md) : Nat := if c = 0 then 0 else cntOn l
theorem chN_take {c : Int} {l : List Md} {k : Nat} (h : k < l.length) : chN c (l.take (k + 1)) = chN c (l.take k) + (if c ≠ 0 ∧ l[k].on = true then 1 else 0) := by
  unfold chN
  by_cases hc : c = 0
  · rw [if_pos hc, if_pos hc, if_neg (fun h => h.1 hc)]
  · rw [if_neg hc, if_neg hc, cnt_take h]
    congr 1
    by_cases ho : l[k].on = true
    · rw [if_pos ho, if_pos ⟨hc, ho⟩]
    · rw [if_neg ho, if_neg fun h => ho h.2]
theorem chN_le (c : Int) (l : List Md) : chN c l ≤ l.length := by
  unfold chN
  split
  · omega
  · exact cnt_le l
theorem st_end {a c : Ar} {l : List Od} {i : Nat} {o : Od} (hE : armE a = 0) (ho : ∀ o ∈ l, orderE o = 0) (hi : i < l.length) (hoo : orderE o = 0) (h : StAt a l i o c) : enerL (stepA c o) = enerL a + workL a (l.take (i + 1)) ∧ (o.c ≠ 0 → (chN o.c (stepA c o).m : Int) = o.n) := by
  refine ⟨(goTo_sums hE (fun x hx => ho x (List.mem_of_mem_take hx)) h.go1).1, fun hc => ?_⟩
  have := fl_on (fit_of h.arm) (order_zero hoo).1.1 (step_zero h.ok)
  unfold chN
  rw [if_neg hc]
  exact this
end Go.Proofs.YtafnebfchhmgcaaGreat
