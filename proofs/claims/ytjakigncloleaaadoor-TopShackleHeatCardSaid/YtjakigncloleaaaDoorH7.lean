/- Contracts of harmonic: the terms of an order, one by one (an iterator); an order; the spectrum. -/
import Derived.RangeFuncNested
import Derived.RangeFuncBound
import Derived.RangeFuncCalls
import Derived.RangeFuncLeaves
import Derived.Shelf.Abstract
import Derived.Shelf.RegionOpen
import Derived.OwnWalkIn
import Derived.TacticsInMore
import Derived.LoopNIn
import Derived.LoopIn
import Derived.Test.YtjakigncloleaaaDoorH5
namespace Go.Proofs.YtjakigncloleaaaDoor
open Go.RowKit Go.Sort Go.Shelf
set_option linter.unusedSimpArgs false
set_option linter.unusedVariables false
attribute [local go_sem] cell_if frozen_if grow_cell
attribute [local go_sem] Oper.semAt_some
theorem blk_own {β : Type} (B : Nat) (t : TypeId) (f : β → Array Value) : _root_.Go.Own (fun s W => Blk W B t (f s)) := fun s U V row hs hg hrow =>
  hs.grown hg (fun e => by
    obtain ⟨o, ho, hc⟩ := hrow B e.symm
    rw [show U.heap[B]? = _ from hs] at ho
    cases ho
    cases hc)
theorem grown_of_below {w w' : World} (h : Below w.heap.size w w') : w.grownBy w' none := ⟨h.os, h.tape, h.output, h.size, fun k hk _ => h.block k hk⟩
/-- The terms that have come when k rounds are over. -/
def trm (p : Nat → Int) (h : Int) (n : Nat) : Cy := tuC ⟨p n, 0, 0, 0⟩ (wrap64 (-h * (n : Int)))
def trms (p : Nat → Int) (h : Int) (k : Nat) : List Cy := (List.range k).map (trm p h)
theorem trms_succ (p : Nat → Int) (h : Int) (k : Nat) : trms p h (k + 1) = trms p h k ++ [trm p h k] := by simp [trms, List.range_succ]
theorem trms_length (p : Nat → Int) (h : Int) (k : Nat) : (trms p h k).length = k := by simp [trms]
def cyV (x : Cy) : Array Value := #[.agg #[.int .i64 x.a, .int .i64 x.b, .int .i64 x.c, .int .i64 x.d]]
theorem terms_any (p : Nat → Int) (h : Int) (w : World) :
    Calls Tryd.prog 67 #[.agg #[.int .i64 (p 0), .int .i64 (p 1), .int .i64 (p 2), .int .i64 (p 3), .int .i64 (p 4), .int .i64 (p 5), .int .i64 (p 6), .int .i64 (p 7), .int .i64 (p 8), .int .i64 (p 9), .int .i64 (p 10), .int .i64 (p 11)], .int .i64 h] w fun e w' => e = .returned (.func (.func 78) #[] #[.pointer (some ⟨w.heap.size, 0, none⟩), .pointer (some ⟨w.heap.size + 1, 0, none⟩)]) ∧ (w.alloc (.cells #[.int .i64 (p 0), .int .i64 (p 1), .int .i64 (p 2), .int .i64 (p 3), .int .i64 (p 4), .int .i64 (p 5), .int .i64 (p 6), .int .i64 (p 7), .int .i64 (p 8), .int .i64 (p 9), .int .i64 (p 10), .int .i64 (p 11)] 48)).alloc (.cells #[.int .i64 h] 3) = w' := by
  go_enter Tryd.func67, Tryd.ntmps67
  go_wp2
  go_ret
  exact ⟨rfl, rfl⟩
/-- What a round keeps: all below n₀, and block g. -/
def KpT (n₀ g : Nat) (W W' : World) : Prop := Below n₀ W W' ∧ W'.heap[g]? = W.heap[g]?
theorem KpT.t {n₀ g : Nat} {A B C : World} (h : KpT n₀ g A B) (k : KpT n₀ g B C) : KpT n₀ g A C := ⟨h.1.trans k.1, k.2.trans h.2⟩
theorem KpT.b {n₀ g : Nat} {w : World} (hn : n₀ ≤ w.heap.size) (hg : g < w.heap.size) (W : World) (l : Nat) (o o' : Obj) (hl : w.heap.size ≤ l) (h : W.heap[l]? = some o) (h1 : o.isCells = false) (h2 : o.isWalk = false) : KpT n₀ g W (W.putObj l o') :=
  ⟨belowK_b hn W l o o' hl h h1 h2, World.putObj_heap_other (by omega)⟩
theorem KpT.of {n₀ g : Nat} {A B : World} (hn : n₀ ≤ A.heap.size) (hg : g < A.heap.size) (h : Below A.heap.size A B) : KpT n₀ g A B := ⟨h.mono hn, h.block g hg⟩
theorem KpT.set {n₀ g : Nat} {A B : World} (h : KpT n₀ g A B) {p : Addr} (hp : n₀ ≤ p.block) (hg : g ≠ p.block) (v : Value) : KpT n₀ g A (B.setCell p v) := ⟨h.1.setCell hp v, (Below.heap_setCell B p v g hg).trans h.2⟩
set_option maxRecDepth 100000 in
set_option maxHeartbeats 2000000 in
theorem terms_stops (n gp gh n₀ : Nat) (p : Nat → Int) (h : Int) (w : World) (hn : 3 ≤ n) (hp : Blk w gp 48 #[.int .i64 (p 0), .int .i64 (p 1), .int .i64 (p 2), .int .i64 (p 3), .int .i64 (p 4), .int .i64 (p 5), .int .i64 (p 6), .int .i64 (p 7), .int .i64 (p 8), .int .i64 (p 9), .int .i64 (p 10), .int .i64 (p 11)]) (hh : Blk w gh 3 #[.int .i64 h]) (h0 : n₀ ≤ w.heap.size) (hP : Powers w) (hPn : 2 < n₀) (h1 : 0 ≤ h) (h2 : h ≤ 11) :
    SeqStopsK Fence.wide n Tryd.prog 78 #[.pointer (some ⟨gp, 0, none⟩), .pointer (some ⟨gh, 0, none⟩)] cyV (KpT n₀ gh) (fun xs => xs = trms p h 12) (fun _ => True) 12 w := fun l J Jx W hW hJ hJx hY hJ0 => by
  have hix : ∀ (k : Nat), k < 12 → ∀ w, (Instr.index 48 (.agg #[.int .i64 (p 0), .int .i64 (p 1), .int .i64 (p 2), .int .i64 (p 3), .int .i64 (p 4), .int .i64 (p 5), .int .i64 (p 6), .int .i64 (p 7), .int .i64 (p 8), .int .i64 (p 9), .int .i64 (p 10), .int .i64 (p 11)]) (.int .i64 k)).run Tryd.prog w = .ok (.int .i64 (p k)) w := fun k hk w => p12_index p hk w
  have HIX := Lib.hid hix
  clear hix
  have qp := (hp.kept hW).cell
  have hbH := hh.kept hW
  have qh := hbH.cell 0
  simp at qh
  have HPW := Lib.hid (hP.kept hW)
  have hnW : n₀ ≤ W.heap.size := Nat.le_trans h0 hW.size
  have hghW := hbH.lt
  clear hp hh hP
  refine callsIn_of_wp Tryd.func78 rfl trivial ?_ rfl
  simp only [Tryd.ntmps78, List.size_toArray, List.length_cons, List.length_nil, Nat.reduceAdd, Nat.reduceSub, Array.replicate_succ, Array.replicate_zero, List.push_toArray, List.append_toArray, List.nil_append, List.cons_append]
  gi_wp2
  gi_loopw [4, 5, 7] (fun _ _ i wr => ∃ k : Nat, k ≤ 12 ∧ i = .int .i64 k ∧ J (trms p h k) wr ∧ KpT n₀ gh W wr) (fun _ _ i _ => 12 - (intOf i).toNat)
  case atStart => exact ⟨0, Nat.zero_le _, rfl, hJ0, Below.refl _ _, rfl⟩
  case round =>
    obtain ⟨k, hk, rfl, hJs, hnx, hgx⟩ := hrel
    have hb2 : Blk wr gh 3 #[.int .i64 h] := hgx.trans hbH
    have qh2 := hb2.cell 0
    simp at qh2
    have hgw := hb2.lt
    clear qh qp
    by_cases hlt : k < 12
    · have hi := HIX.out k hlt
      have HPr := Lib.hid (HPW.out.below hPn hnx hnx.size)
      gi_wp2_with fail
      refine ⟨trivial, (fun _ => by omega), ?_⟩
      refine (callsIn_wide.2 (turnC_any ⟨p k, 0, 0, 0⟩ (wrap64 (-h * (k : Int))) wr HPr.out)).mono ?_
      rintro e w1 ⟨rfl, hb1⟩
      have hJ1 : J (trms p h k) w1 := hJ _ wr w1 none hJs (grown_of_below hb1) (fun r e => by cases e)
      obtain ⟨fn, tmps, assign, body, hy, hR⟩ := hY _ (trm p h k) w1 hJ1 (by rw [trms_length]; exact hlt)
      dsimp only [cyV, trm] at hy
      gi_wp2
      refine ⟨(fun _ => by omega), hR.mono ?_⟩
      rintro e W3 (⟨rfl, hJ3, hk3⟩ | ⟨rfl, hJx3⟩)
      · gi_wp2
        go_roundw
        case rel => exact ⟨k + 1, by omega, by simp, by rw [trms_succ]; exact hJ3, KpT.t ⟨hnx, hgx⟩ (KpT.t (KpT.of (Nat.le_trans hnW hnx.size) hgw hb1) hk3)⟩
        case measure => simp [intOf]; omega
      · gi_wp2
        refine bodyPost_ret (results_none rfl _ _ _) rfl ?_
        exact ⟨⟨_, rfl⟩, .inr ⟨_, trivial, hJx3⟩⟩
    · obtain rfl : k = 12 := by omega
      gi_wp2
      go_end0
      exact ⟨⟨_, rfl⟩, .inl ⟨_, rfl, hJs⟩⟩
/-- The sum of the terms that have come. -/
def ordL (xs : List Cy) : Cy := xs.foldl cyP ⟨0, 0, 0, 0⟩
theorem ordL_snoc (xs : List Cy) (x : Cy) : ordL (xs ++ [x]) = cyP (ordL xs) x := by simp [ordL]
set_option maxRecDepth 100000 in
set_option maxHeartbeats 4000000 in
theorem order_any (p : Nat → Int) (h : Int) (w : World) (hP : Powers w) (h1 : 0 ≤ h) (h2 : h ≤ 11) :
    Calls Tryd.prog 42 #[.agg #[.int .i64 (p 0), .int .i64 (p 1), .int .i64 (p 2), .int .i64 (p 3), .int .i64 (p 4), .int .i64 (p 5), .int .i64 (p 6), .int .i64 (p 7), .int .i64 (p 8), .int .i64 (p 9), .int .i64 (p 10), .int .i64 (p 11)], .int .i64 h] w fun e w' => e = .returned (.agg #[.int .i64 (ordL (trms p h 12)).a, .int .i64 (ordL (trms p h 12)).b, .int .i64 (ordL (trms p h 12)).c, .int .i64 (ordL (trms p h 12)).d]) ∧ Below w.heap.size w w' := by
  refine (callsIn_wide (n := 9)).1 ?_
  refine callsIn_of_wp_marks Tryd.func42 rfl trivial ?_ rfl
  simp only [Tryd.ntmps42, List.size_toArray, List.length_cons, List.length_nil, Nat.reduceAdd, Nat.reduceSub, Array.replicate_succ, Array.replicate_zero, List.push_toArray, List.append_toArray, List.nil_append, List.cons_append]
  gi_wp2_with (refine ⟨trivial, ?_⟩; gi_at_call 67; refine (callsIn_wide.2 (terms_any _ _ _)).mono ?_; rintro e w' ⟨rfl, rfl⟩)
  have bR : Blk (((((w.alloc (.cells #[.int .i64 (p 0), .int .i64 (p 1), .int .i64 (p 2), .int .i64 (p 3), .int .i64 (p 4), .int .i64 (p 5), .int .i64 (p 6), .int .i64 (p 7), .int .i64 (p 8), .int .i64 (p 9), .int .i64 (p 10), .int .i64 (p 11)] 48)).alloc (.cells #[.int .i64 0, .int .i64 0, .int .i64 0, .int .i64 0] 55)).alloc (.cells #[.int .i64 0, .int .i64 0, .int .i64 0, .int .i64 0] 55)).alloc (.cells #[.int .i64 (p 0), .int .i64 (p 1), .int .i64 (p 2), .int .i64 (p 3), .int .i64 (p 4), .int .i64 (p 5), .int .i64 (p 6), .int .i64 (p 7), .int .i64 (p 8), .int .i64 (p 9), .int .i64 (p 10), .int .i64 (p 11)] 48)).alloc (.cells #[.int .i64 h] 3)) (w.heap.size + 1) 55 #[.int .i64 0, .int .i64 0, .int .i64 0, .int .i64 0] := (by repeat (first | (with_reducible assumption) | ((with_reducible apply Blk.new_at); (first | (simp; done) | (simp; omega))) | (with_reducible apply Blk.drew) | (with_reducible refine Blk.alloc ?_ _) | (with_reducible apply blk_two) | ((with_reducible refine blk_far ?_ ?_ _); (· first | (simp; done) | (simp; omega) | omega)) | ((with_reducible apply blk_kept); (· with_reducible assumption))))
  have bS : Blk (((((w.alloc (.cells #[.int .i64 (p 0), .int .i64 (p 1), .int .i64 (p 2), .int .i64 (p 3), .int .i64 (p 4), .int .i64 (p 5), .int .i64 (p 6), .int .i64 (p 7), .int .i64 (p 8), .int .i64 (p 9), .int .i64 (p 10), .int .i64 (p 11)] 48)).alloc (.cells #[.int .i64 0, .int .i64 0, .int .i64 0, .int .i64 0] 55)).alloc (.cells #[.int .i64 0, .int .i64 0, .int .i64 0, .int .i64 0] 55)).alloc (.cells #[.int .i64 (p 0), .int .i64 (p 1), .int .i64 (p 2), .int .i64 (p 3), .int .i64 (p 4), .int .i64 (p 5), .int .i64 (p 6), .int .i64 (p 7), .int .i64 (p 8), .int .i64 (p 9), .int .i64 (p 10), .int .i64 (p 11)] 48)).alloc (.cells #[.int .i64 h] 3)) (w.heap.size + 1 + 1) 55 #[.int .i64 (ordL []).a, .int .i64 (ordL []).b, .int .i64 (ordL []).c, .int .i64 (ordL []).d] := (show Blk _ _ _ #[.int .i64 0, .int .i64 0, .int .i64 0, .int .i64 0] from (by repeat (first | (with_reducible assumption) | ((with_reducible apply Blk.new_at); (first | (simp; done) | (simp; omega))) | (with_reducible apply Blk.drew) | (with_reducible refine Blk.alloc ?_ _) | (with_reducible apply blk_two) | ((with_reducible refine blk_far ?_ ?_ _); (· first | (simp; done) | (simp; omega) | omega)) | ((with_reducible apply blk_kept); (· with_reducible assumption)))))
  have bP : Blk (((((w.alloc (.cells #[.int .i64 (p 0), .int .i64 (p 1), .int .i64 (p 2), .int .i64 (p 3), .int .i64 (p 4), .int .i64 (p 5), .int .i64 (p 6), .int .i64 (p 7), .int .i64 (p 8), .int .i64 (p 9), .int .i64 (p 10), .int .i64 (p 11)] 48)).alloc (.cells #[.int .i64 0, .int .i64 0, .int .i64 0, .int .i64 0] 55)).alloc (.cells #[.int .i64 0, .int .i64 0, .int .i64 0, .int .i64 0] 55)).alloc (.cells #[.int .i64 (p 0), .int .i64 (p 1), .int .i64 (p 2), .int .i64 (p 3), .int .i64 (p 4), .int .i64 (p 5), .int .i64 (p 6), .int .i64 (p 7), .int .i64 (p 8), .int .i64 (p 9), .int .i64 (p 10), .int .i64 (p 11)] 48)).alloc (.cells #[.int .i64 h] 3)) (w.heap.size + 1 + 1 + 1) 48 #[.int .i64 (p 0), .int .i64 (p 1), .int .i64 (p 2), .int .i64 (p 3), .int .i64 (p 4), .int .i64 (p 5), .int .i64 (p 6), .int .i64 (p 7), .int .i64 (p 8), .int .i64 (p 9), .int .i64 (p 10), .int .i64 (p 11)] := (by repeat (first | (with_reducible assumption) | ((with_reducible apply Blk.new_at); (first | (simp; done) | (simp; omega))) | (with_reducible apply Blk.drew) | (with_reducible refine Blk.alloc ?_ _) | (with_reducible apply blk_two) | ((with_reducible refine blk_far ?_ ?_ _); (· first | (simp; done) | (simp; omega) | omega)) | ((with_reducible apply blk_kept); (· with_reducible assumption))))
  have bH : Blk (((((w.alloc (.cells #[.int .i64 (p 0), .int .i64 (p 1), .int .i64 (p 2), .int .i64 (p 3), .int .i64 (p 4), .int .i64 (p 5), .int .i64 (p 6), .int .i64 (p 7), .int .i64 (p 8), .int .i64 (p 9), .int .i64 (p 10), .int .i64 (p 11)] 48)).alloc (.cells #[.int .i64 0, .int .i64 0, .int .i64 0, .int .i64 0] 55)).alloc (.cells #[.int .i64 0, .int .i64 0, .int .i64 0, .int .i64 0] 55)).alloc (.cells #[.int .i64 (p 0), .int .i64 (p 1), .int .i64 (p 2), .int .i64 (p 3), .int .i64 (p 4), .int .i64 (p 5), .int .i64 (p 6), .int .i64 (p 7), .int .i64 (p 8), .int .i64 (p 9), .int .i64 (p 10), .int .i64 (p 11)] 48)).alloc (.cells #[.int .i64 h] 3)) (w.heap.size + 1 + 1 + 1 + 1) 3 #[.int .i64 h] := (by repeat (first | (with_reducible assumption) | ((with_reducible apply Blk.new_at); (first | (simp; done) | (simp; omega))) | (with_reducible apply Blk.drew) | (with_reducible refine Blk.alloc ?_ _) | (with_reducible apply blk_two) | ((with_reducible refine blk_far ?_ ?_ _); (· first | (simp; done) | (simp; omega) | omega)) | ((with_reducible apply blk_kept); (· with_reducible assumption))))
  have hB0 : Below w.heap.size w (((((w.alloc (.cells #[.int .i64 (p 0), .int .i64 (p 1), .int .i64 (p 2), .int .i64 (p 3), .int .i64 (p 4), .int .i64 (p 5), .int .i64 (p 6), .int .i64 (p 7), .int .i64 (p 8), .int .i64 (p 9), .int .i64 (p 10), .int .i64 (p 11)] 48)).alloc (.cells #[.int .i64 0, .int .i64 0, .int .i64 0, .int .i64 0] 55)).alloc (.cells #[.int .i64 0, .int .i64 0, .int .i64 0, .int .i64 0] 55)).alloc (.cells #[.int .i64 (p 0), .int .i64 (p 1), .int .i64 (p 2), .int .i64 (p 3), .int .i64 (p 4), .int .i64 (p 5), .int .i64 (p 6), .int .i64 (p 7), .int .i64 (p 8), .int .i64 (p 9), .int .i64 (p 10), .int .i64 (p 11)] 48)).alloc (.cells #[.int .i64 h] 3)) := (by repeat (first | (with_reducible exact Below.refl _ _) | (with_reducible assumption) | ((with_reducible refine Below.alloc ?_ ?_ _); rotate_left; (· first | (simp; done) | (simp; omega) | omega)) | ((with_reducible refine Below.setCell ?_ ?_ _); rotate_left; (· first | (simp; done) | (simp; omega) | omega)) | (with_reducible apply Below.drew) | ((with_reducible apply below_step); (· with_reducible assumption); rotate_left; (· first | (simp; done) | (simp; omega) | omega))))
  have hsz : (((((w.alloc (.cells #[.int .i64 (p 0), .int .i64 (p 1), .int .i64 (p 2), .int .i64 (p 3), .int .i64 (p 4), .int .i64 (p 5), .int .i64 (p 6), .int .i64 (p 7), .int .i64 (p 8), .int .i64 (p 9), .int .i64 (p 10), .int .i64 (p 11)] 48)).alloc (.cells #[.int .i64 0, .int .i64 0, .int .i64 0, .int .i64 0] 55)).alloc (.cells #[.int .i64 0, .int .i64 0, .int .i64 0, .int .i64 0] 55)).alloc (.cells #[.int .i64 (p 0), .int .i64 (p 1), .int .i64 (p 2), .int .i64 (p 3), .int .i64 (p 4), .int .i64 (p 5), .int .i64 (p 6), .int .i64 (p 7), .int .i64 (p 8), .int .i64 (p 9), .int .i64 (p 10), .int .i64 (p 11)] 48)).alloc (.cells #[.int .i64 h] 3)).heap.size = w.heap.size + 5 := by simp
  obtain ⟨W0, hW0⟩ : ∃ W0, (((((w.alloc (.cells #[.int .i64 (p 0), .int .i64 (p 1), .int .i64 (p 2), .int .i64 (p 3), .int .i64 (p 4), .int .i64 (p 5), .int .i64 (p 6), .int .i64 (p 7), .int .i64 (p 8), .int .i64 (p 9), .int .i64 (p 10), .int .i64 (p 11)] 48)).alloc (.cells #[.int .i64 0, .int .i64 0, .int .i64 0, .int .i64 0] 55)).alloc (.cells #[.int .i64 0, .int .i64 0, .int .i64 0, .int .i64 0] 55)).alloc (.cells #[.int .i64 (p 0), .int .i64 (p 1), .int .i64 (p 2), .int .i64 (p 3), .int .i64 (p 4), .int .i64 (p 5), .int .i64 (p 6), .int .i64 (p 7), .int .i64 (p 8), .int .i64 (p 9), .int .i64 (p 10), .int .i64 (p 11)] 48)).alloc (.cells #[.int .i64 h] 3)) = W0 := ⟨_, rfl⟩
  rw [hW0] at bR bS bP bH hB0 hsz ⊢
  clear hW0
  refine wpIn_rangeFunc_ownH rfl (by omega) (gf := 78) (lb := #[.pointer (some ⟨w.heap.size + 1 + 1 + 1, 0, none⟩), .pointer (some ⟨w.heap.size + 1 + 1 + 1 + 1, 0, none⟩)]) rfl trivial (enters_of Tryd.func78 (by kernel_rfl) rfl)
    (terms_stops 8 (w.heap.size + 1 + 1 + 1) (w.heap.size + 1 + 1 + 1 + 1) w.heap.size p h W0 (by omega) bP bH (by omega) (hP.kept hB0) hP.lt h1 h2) KpT.t (KpT.b (by omega) (by omega)) (Below.refl _ _) (fun _ => rfl)
    (fun pre W => ((Blk W (w.heap.size + 1 + 1) 55 #[.int .i64 (ordL pre).a, .int .i64 (ordL pre).b, .int .i64 (ordL pre).c, .int .i64 (ordL pre).d] ∧ Blk W (w.heap.size + 1) 55 #[.int .i64 0, .int .i64 0, .int .i64 0, .int .i64 0]) ∧ Blk W (w.heap.size + 1 + 1 + 1 + 1) 3 #[.int .i64 h]) ∧ Below w.heap.size w W)
    (fun _ _ _ => False)
    (OwnFrom.and (OwnFrom.and (OwnFrom.and (_root_.Go.Own.from (blk_own _ _ (fun pre => #[.int .i64 (ordL pre).a, .int .i64 (ordL pre).b, .int .i64 (ordL pre).c, .int .i64 (ordL pre).d])) _) (_root_.Go.Own.from (blk_own _ _ (fun _ => #[.int .i64 0, .int .i64 0, .int .i64 0, .int .i64 0])) _)) (_root_.Go.Own.from (blk_own _ _ (fun _ => #[.int .i64 h])) _)) (ownFrom_below (Nat.le_refl _) (by omega)))
    (fun _ _ _ _ _ hs _ _ => hs)
    ⟨⟨⟨bS, bR⟩, bH⟩, hB0⟩
    (fun x a' W => ∃ Bx, w.heap.size + 1 + 1 + 1 + 1 < Bx ∧ Blk W Bx 55 #[.int .i64 x.a, .int .i64 x.b, .int .i64 x.c, .int .i64 x.d] ∧ a' = { tmps := #[.agg #[.int .i64 (p 0), .int .i64 (p 1), .int .i64 (p 2), .int .i64 (p 3), .int .i64 (p 4), .int .i64 (p 5), .int .i64 (p 6), .int .i64 (p 7), .int .i64 (p 8), .int .i64 (p 9), .int .i64 (p 10), .int .i64 (p 11)], .int .i64 h, .pointer (some ⟨w.heap.size, 0, none⟩), undef, .pointer (some ⟨w.heap.size + 1, 0, none⟩), .pointer (some ⟨w.heap.size + 1 + 1, 0, none⟩), .pointer (some ⟨Bx, 0, none⟩), .agg #[.int .i64 (p 0), .int .i64 (p 1), .int .i64 (p 2), .int .i64 (p 3), .int .i64 (p 4), .int .i64 (p 5), .int .i64 (p 6), .int .i64 (p 7), .int .i64 (p 8), .int .i64 (p 9), .int .i64 (p 10), .int .i64 (p 11)], .int .i64 h, .func (.func 78) #[] #[.pointer (some ⟨w.heap.size + 1 + 1 + 1, 0, none⟩), .pointer (some ⟨w.heap.size + 1 + 1 + 1 + 1, 0, none⟩)], .agg #[.int .i64 x.a, .int .i64 x.b, .int .i64 x.c, .int .i64 x.d], undef, undef, undef, undef], defers := [] })
    (fun x a' _ U V row hs hg hr => by obtain ⟨Bx, g1, g2, g3⟩ := hs; exact ⟨Bx, g1, blk_own Bx 55 (fun (_ : Unit) => #[.int .i64 x.a, .int .i64 x.b, .int .i64 x.c, .int .i64 x.d]) () U V row g2 hg (fun r e => (hr r e).2), g3⟩)
    ?assign ?body ?done ?stop
  case assign =>
    rintro l pre x W K ⟨⟨⟨bS1, bR1⟩, bH1⟩, hB1⟩ hK
    have lH := bH1.lt
    dsimp only [cyV]
    gi_wp2
    exact hK _ _ ((KeepsOthers.alloc _ _).from _) ⟨(Below.refl _ W).alloc hB1.size _, Below.heap_alloc W _ _ lH⟩ ⟨⟨⟨bS1.alloc _, bR1.alloc _⟩, bH1.alloc _⟩, hB1.alloc hB1.size _⟩ ⟨W.heap.size, lH, Blk.new _ _ _, rfl⟩
  case body =>
    rintro l pre x a' W hl ⟨r, hr⟩ ⟨⟨⟨bS1, bR1⟩, bH1⟩, hB1⟩ ⟨Bx, hBx, bX, rfl⟩ hlt
    have cS := bS1.cell
    have fS := bS1.frozen
    have cX := bX.cell
    have lS := bS1.lt
    have lX := bX.lt
    have lH := bH1.lt
    gi_wp2_with (refine ⟨trivial, ?_⟩; gi_at_call 68; refine (CallsIn.inRound l (callsIn_wide.2 (cplus_any _ _ _))).mono ?_; rintro e w1 ⟨rfl, hb1⟩; obtain ⟨hc1, hf1⟩ := ifs_of hb1; have hs1 := hb1.size; (try simp at hs1))
    have hn1 : w.heap.size + 1 + 1 ≠ w.heap.size + 1 + 1 + 1 + 1 := by omega
    refine ⟨?_, ?_, ⟨⟨?_, ?_⟩, ?_⟩, ?_⟩
    · exact (((((KeepsOthers.of_grownBy (grown_of_below hb1) (fun j o e => by cases e)).trans (KeepsOthers.setCell _ _ _)).trans (KeepsOthers.setCell _ _ _)).trans (KeepsOthers.setCell _ _ _)).trans (KeepsOthers.setCell _ _ _)).from _
    · exact ((((KpT.of hB1.size lH hb1).set (by simp; omega) (by first | (simp; done) | (simp; omega)) _).set (by simp; omega) (by first | (simp; done) | (simp; omega)) _).set (by simp; omega) (by first | (simp; done) | (simp; omega)) _).set (by simp; omega) (by first | (simp; done) | (simp; omega)) _
    · rw [ordL_snoc]
      exact blk_four (bS1.kept hb1)
    · exact ((((bR1.kept hb1).far (by first | (simp; done) | (simp; omega)) _).far (by first | (simp; done) | (simp; omega)) _).far (by first | (simp; done) | (simp; omega)) _).far (by first | (simp; done) | (simp; omega)) _
    · exact ((((bH1.kept hb1).far (by first | (simp; done) | (simp; omega)) _).far (by first | (simp; done) | (simp; omega)) _).far (by first | (simp; done) | (simp; omega)) _).far (by first | (simp; done) | (simp; omega)) _
    · exact (by repeat (first | (with_reducible exact Below.refl _ _) | (with_reducible assumption) | ((with_reducible refine Below.alloc ?_ ?_ _); rotate_left; (· first | (simp; done) | (simp; omega) | omega)) | ((with_reducible refine Below.setCell ?_ ?_ _); rotate_left; (· first | (simp; done) | (simp; omega) | omega)) | (with_reducible apply Below.drew) | ((with_reducible apply below_step); (· with_reducible assumption); rotate_left; (· first | (simp; done) | (simp; omega) | omega))))
  case done =>
    rintro D ys W hD rfl ⟨⟨⟨bS1, bR1⟩, bH1⟩, hB1⟩ hK
    have cS := bS1.cell
    have cR := bR1.cell
    have fR := bR1.frozen
    gi_wp2
    have hK' := (((((KeepsOthers.setCell W ⟨w.heap.size + 1, 0, none⟩ (.int .i64 (ordL (trms p h 12)).a)).trans (KeepsOthers.setCell _ ⟨w.heap.size + 1, 1, none⟩ (.int .i64 (ordL (trms p h 12)).b))).trans (KeepsOthers.setCell _ ⟨w.heap.size + 1, 2, none⟩ (.int .i64 (ordL (trms p h 12)).c))).trans (KeepsOthers.setCell _ ⟨w.heap.size + 1, 3, none⟩ (.int .i64 (ordL (trms p h 12)).d)))).same D _ hK rfl
    refine ⟨by simp, .inl ⟨_, _, rfl, run_takeDeferred hK', ?_⟩⟩
    have bZ := (blk_four (x := .int .i64 (ordL (trms p h 12)).a) (y := .int .i64 (ordL (trms p h 12)).b) (z := .int .i64 (ordL (trms p h 12)).c) (u := .int .i64 (ordL (trms p h 12)).d) bR1).grown (grownBy_putObj' _ D (.deferred none)) (by simp; omega)
    have cZ := bZ.cell
    refine ⟨.agg #[.int .i64 (ordL (trms p h 12)).a, .int .i64 (ordL (trms p h 12)).b, .int .i64 (ordL (trms p h 12)).c, .int .i64 (ordL (trms p h 12)).d], ?_, rfl, ?_⟩
    · simp [results, Tryd.results42, go_sem, cZ]
    · exact (show Below w.heap.size w _ from (by repeat (first | (with_reducible exact Below.refl _ _) | (with_reducible assumption) | ((with_reducible refine Below.alloc ?_ ?_ _); rotate_left; (· first | (simp; done) | (simp; omega) | omega)) | ((with_reducible refine Below.setCell ?_ ?_ _); rotate_left; (· first | (simp; done) | (simp; omega) | omega)) | (with_reducible apply Below.drew) | ((with_reducible apply below_step); (· with_reducible assumption); rotate_left; (· first | (simp; done) | (simp; omega) | omega))))).trans (belowK_b (w := w) (Nat.le_refl _) _ D _ _ (by omega) hK' rfl rfl)
  case stop =>
    rintro D c pre W _ _ hf _
    exact hf.elim
end Go.Proofs.YtjakigncloleaaaDoor
