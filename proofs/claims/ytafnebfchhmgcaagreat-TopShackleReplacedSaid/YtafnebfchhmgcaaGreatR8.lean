/- A region that draws its order, within a round of a range over a function: walked as elsewhere. -/
import Derived.Test.YtafnebfchhmgcaaGreatQa
import Derived.RangeFuncNested
import Derived.OrdersIn
import Derived.RangeFuncCalls
namespace Go.Proofs.YtafnebfchhmgcaaGreat
open Go Go.RowKit Go.Sort
set_option linter.unusedVariables false
section
variable {P : Program} {ops : Array Oper} {md : Region.Mode} {Q : Exit → Act → World → Prop} {n l : Nat}
theorem uponIn_of {o : Oper} {a : Act} {K K' : Act → World → Prop} (hK : ∀ a w, K a w → K' a w) {r : Result Next} (h : o.upon P a K Q r) : o.uponIn (Fence.wide.inRound l) n P a K' Q r := by
  match r, h with
  | .ok (.value v) w', h => exact hK _ _ h
  | .ok .skip w', h => exact hK _ _ h
  | .ok (.defer d) w', h => exact hK _ _ h
  | .ok (.enter f args) w', h =>
    refine ⟨fun hh => by simp [Fence.wide] at hh, ((callsIn_wide.2 h).inRound l).mono ?_⟩
    intro e w'' he
    cases e with
    | returned v => exact hK _ _ he
    | panicked c => exact he
    | outgrown => exact he
  | .ok (.row row args) w', h =>
    refine ⟨fun hh => by simp [Fence.wide] at hh, fun c cs _ => ?_⟩
    obtain ⟨v, w1, hv, hs⟩ := h c cs
    exact ⟨v, w1, hK _ _ hv, stepsIn_wide.2 hs⟩
  | .halt (.panic v) w', h => exact h
theorem wpOpIn_of {i : Nat} {a : Act} {w : World} (hL : ¬ LetsOut Q) (hd : ∀ o : Oper, ops[i]? = some o → ∀ c : Call, o.op ≠ .defer c) {K K' : Act → World → Prop} (hK : ∀ a w, K a w → K' a w) (h : wpOp P ops Q i K a w) : wpOpIn (Fence.wide.inRound l) n P ops Q i K' a w := by
  unfold wpOp at h
  unfold wpOpIn
  cases ho : ops[i]? with
  | none =>
    rw [ho] at h
    exact hK _ _ h
  | some o =>
    simp only [ho] at h ⊢
    by_cases hw : Region.wanted o (yielded ops a.tmps) = true
    · rw [if_pos hw] at h ⊢
      rcases h with h | ⟨_, h⟩
      · refine ⟨fun _ _ => trivial, ?_⟩
        unfold Oper.wp at h
        rw [Oper.semAt_eq _ _ _ (hd o ho)]
        exact uponIn_of hK h
      · exact absurd h hL
    · rw [if_neg hw] at h ⊢
      exact ⟨fun _ _ => trivial, hK _ _ h⟩
theorem wpAnyIn_of (hL : ¬ LetsOut Q) (hd : ∀ (i : Nat) (o : Oper), ops[i]? = some o → ∀ c : Call, o.op ≠ .defer c) : ∀ (fuel : Nat) (listed : Array Bool) (a : Act) (w : World), wpAny P md ops Q fuel listed a w → wpAnyIn (Fence.wide.inRound l) n P md ops Q fuel listed a w
  | 0, _, _, _, h => h
  | fuel + 1, listed, a, w, h => ⟨h.1, fun i hi => wpOpIn_of hL (hd i) (fun a w hh => wpAnyIn_of hL hd fuel _ a w hh) (h.2 i hi)⟩
end
section
variable {P : Program} {Q : Exit → Act → World → Prop} {w0 : World}
/-- Nothing outgrows the machine in the region. -/
def Tame (Q : Exit → Act → World → Prop) : Exit → Act → World → Prop
  | .outgrown, _, _ => False
  | e, a, w => Q e a w
def noDefer (l : List Oper) : Bool := l.all fun o => match o.op with | .defer _ => false | _ => true
/-- Quiet operations first, in a round. -/
theorem wp_region_calm_in (X : List Nat) {id n l' : Nat} {a : Act} {l : List Oper} (is : List Nat) (fuel : Nat) (hm : P.follows .mixedOrders = true) (hfu : is.length + fuel = l.length) (hsel : Region.noSelect l.toArray = true) (hok : okB .any l.toArray is (Array.replicate l.length false) = true) (hlt : is.all (fun i => decide (i < l.length)) = true)
    (hdf : noDefer l = true)
    (h : quietL P l.toArray X w0 (fun a' => anyB P .any l.toArray (Calm (Tame Q)) X w0 fuel (setB is (Array.replicate l.length false)) a' w0) (pickB l.toArray is) a) : (Code.region id l.toArray true).wpIn (Fence.wide.inRound l') n P Q a w0 := by
  refine wpIn_mono (Q := Calm (Tame Q)) ?_ (fun e a w hh => by cases e <;> first | exact hh | exact False.elim hh)
  have H := anyB_quiet (md := .any) hsel (Q := Calm (Tame Q)) (fun _ _ _ _ _ h => h) fuel is _ a hok (fun i hi => by simpa using List.all_eq_true.1 hlt i hi) h
  rw [hfu] at H
  have hb : Below w0.heap.size w0 { w0 with drawn := w0.drawn + 1 } := ⟨rfl, rfl, rfl, Nat.le_refl _, fun _ _ => rfl⟩
  refine wpIn_region_any hm ?_
  have := any_of_B _ _ _ _ (anyB_grown hb H)
  refine wpAnyIn_of ?_ ?_ _ _ _ _ (by simpa using this)
  · exact fun ⟨_, _, hL⟩ => hL
  · intro i o ho c hc
    have hi := (Array.getElem?_eq_some_iff.1 ho)
    have := List.all_eq_true.1 hdf o (by obtain ⟨h1, h2⟩ := hi; rw [← h2]; simp)
    rw [hc] at this
    cases this
end
end Go.Proofs.YtafnebfchhmgcaaGreat
