/- The program's Parse. -/
import Derived.Test.YtphlojgmfkgeiaaGreatDoorTH
import Derived.Test.YtphlojgmfkgeiaaGreatDoorTF
namespace Go.Proofs.YtphlojgmfkgeiaaGreatDoor
open Go.RowKit Go.Sort Go.Shelf
set_option linter.unusedSimpArgs false
set_option linter.unusedVariables false
attribute [local go_sem] cell_if frozen_if grow_cell
attribute [local go_sem] Oper.semAt_some
theorem blk_turn {W W' : World} {k t : Nat} {d : Array Value} {row : Option Nat} (h : Blk W k t d) (hg : W.grownBy W' row) (hr : ∀ r, row = some r → r ≠ k ∨ ∃ o : Obj, W.heap[r]? = some o ∧ o.isCells = false) : Blk W' k t d :=
 h.grown hg (fun e => by
  rcases hr k e.symm with h1 | ⟨o, ho, hc⟩
  · exact h1 rfl
  · rw [show W.heap[k]? = _ from h] at ho
    cases ho
    cases hc)
def PaRes (w : World) (p : Yd × Nat × Int) (e : Ending) (w' : World) : Prop :=
 ∃ D0 D1 D2 d0 d1 d2, e = .returned (.tuple #[.agg #[.slice D0 p.1.s.length d0, .slice D1 p.1.w.length d1, .slice D2 p.1.p.length d2], .int .i64 p.2.1, .int .i64 p.2.2]) ∧ YdAt w' w'.heap.size D0 D1 D2 p.1.s.length p.1.w.length p.1.p.length p.1 ∧ Below w.heap.size w w'
/-- Between two lines: the yard so far, the number of lines, the results as they were laid. -/
structure PaW (b : Nat) (w : World) (z : Yd) (i : Nat) (W : World) : Prop where
 yd : ∃ v0 v1 v2, YdO (b + 1 + 1 + 1 + 1 + 1 + 1) (b + 1 + 1 + 1) 41 133 70 117 z v0 v1 v2 W
 nb : Blk W (b + 1 + 1 + 1 + 1) 3 #[.int .i64 (i : Int)]
 q2 : Blk W b 41 #[.slice none 0 0, .slice none 0 0, .slice none 0 0]
 q3 : Blk W (b + 1) 3 #[.int .i64 0]
 q4 : Blk W (b + 1 + 1) 34 #[.int .i64 0]
 low : Below b w W
 le : b + 1 + 1 + 1 + 1 + 1 + 1 ≤ W.heap.size
def PaI (b : Nat) (w : World) (pre : List Pc) (W : World) : Prop := ∃ z, runN nilY (pre.map Pc.x) = some z ∧ PaW b w z pre.length W
/-- A line was wrong: what is handed back. -/
structure PaE (b : Nat) (w : World) (i : Nat) (e : Int) (W : World) : Prop where
 q2 : Blk W b 41 #[.slice none 0 0, .slice none 0 0, .slice none 0 0]
 q3 : Blk W (b + 1) 3 #[.int .i64 (i : Int)]
 q4 : Blk W (b + 1 + 1) 34 #[.int .i64 e]
 low : Below b w W
 le : b + 1 + 1 + 1 + 1 + 1 + 1 ≤ W.heap.size
def PaX (b : Nat) (w : World) (pre : List Pc) (W : World) : Prop := ∃ (pr : List Pc) (x : Pc) (z : Yd), pre = pr ++ [x] ∧ runN nilY (pr.map Pc.x) = some z ∧ (stepN z x.x).1 ≠ 0 ∧ PaE b w pr.length (stepN z x.x).1 W
theorem PaI.at_ (b : Nat) (w : World) (B : Nat) (hB : b + 1 + 1 + 1 + 1 + 1 + 1 ≤ B) : AtBox (b + 1 + 1 + 1 + 1 + 1) B (PaI b w) := by
 rintro pre W W' row ⟨z, hz, h⟩ hg hr
 have hne : ∀ k, k < b + 1 + 1 + 1 + 1 + 1 → ∀ r, row = some r → r ≠ k ∨ ∃ o : Obj, W.heap[r]? = some o ∧ o.isCells = false := fun k hk r e => by
  rcases hr r e with h1 | ⟨h1, _⟩
  · exact .inl (by omega)
  · exact .inl (by omega)
 obtain ⟨v0, v1, v2, hy⟩ := h.yd
 refine ⟨z, hz, ⟨v0, v1, v2, hy.turn hg fun r e => ?_⟩, blk_turn h.nb hg (hne _ (by omega)), blk_turn h.q2 hg (hne _ (by omega)), blk_turn h.q3 hg (hne _ (by omega)), blk_turn h.q4 hg (hne _ (by omega)), h.low.grown hg (by have := h.le; omega) (fun r e => ?_), Nat.le_trans h.le hg.size⟩
 · rcases hr r e with h1 | ⟨h1, h2⟩
   · exact ⟨by omega, .inl (by omega)⟩
   · exact ⟨by omega, .inr h2⟩
 · rcases hr r e with h1 | ⟨h1, _⟩ <;> omega
theorem PaX.at_ (b : Nat) (w : World) (B : Nat) (hB : b + 1 + 1 + 1 + 1 + 1 + 1 ≤ B) : AtBox (b + 1 + 1 + 1 + 1 + 1) B (PaX b w) := by
 rintro pre W W' row ⟨pr, x, z, h1, h2, h3, h⟩ hg hr
 have hne : ∀ k, k < b + 1 + 1 + 1 + 1 + 1 → ∀ r, row = some r → r ≠ k ∨ ∃ o : Obj, W.heap[r]? = some o ∧ o.isCells = false := fun k hk r e => by
  rcases hr r e with h1 | ⟨h1, _⟩
  · exact .inl (by omega)
  · exact .inl (by omega)
 refine ⟨pr, x, z, h1, h2, h3, blk_turn h.q2 hg (hne _ (by omega)), blk_turn h.q3 hg (hne _ (by omega)), blk_turn h.q4 hg (hne _ (by omega)), h.low.grown hg (by have := h.le; omega) (fun r e => ?_), Nat.le_trans h.le hg.size⟩
 rcases hr r e with h1 | ⟨h1, _⟩ <;> omega
set_option maxHeartbeats 4000000 in
theorem PaW.fail {b : Nat} {w W : World} {z : Yd} {i : Nat} (h : PaW b w z i W) (B : Nat) (e : Int) : KeepsFrom B W (((((W.setCell ⟨b, 0, none⟩ (.slice none 0 0)).setCell ⟨b, 1, none⟩ (.slice none 0 0)).setCell ⟨b, 2, none⟩ (.slice none 0 0)).setCell ⟨b + 1, 0, none⟩ (.int .i64 (i : Int))).setCell ⟨b + 1 + 1, 0, none⟩ (.int .i64 e)).drew ∧
 PaE b w i e (((((W.setCell ⟨b, 0, none⟩ (.slice none 0 0)).setCell ⟨b, 1, none⟩ (.slice none 0 0)).setCell ⟨b, 2, none⟩ (.slice none 0 0)).setCell ⟨b + 1, 0, none⟩ (.int .i64 (i : Int))).setCell ⟨b + 1 + 1, 0, none⟩ (.int .i64 e)).drew := by
 refine ⟨((((((KeepsOthers.setCell W _ _).trans (KeepsOthers.setCell _ _ _)).trans (KeepsOthers.setCell _ _ _)).trans (KeepsOthers.setCell _ _ _)).trans (KeepsOthers.setCell _ _ _)).trans (KeepsOthers.drew _)).from B, ?_, ?_, ?_, ?_, ?_⟩
 · exact (((((h.q2.set_ 0 _).set_ 1 _).set_ 2 _).far (p := ⟨b + 1, 0, none⟩) (Nat.ne_of_lt (Nat.lt_succ_self b)) _).far (p := ⟨b + 1 + 1, 0, none⟩) (show b ≠ b + 1 + 1 by omega) _).drew
 · exact (((((h.q3.far (p := ⟨b, 0, none⟩) (show b + 1 ≠ b by omega) _).far (p := ⟨b, 1, none⟩) (show b + 1 ≠ b by omega) _).far (p := ⟨b, 2, none⟩) (show b + 1 ≠ b by omega) _).set_ 0 _).far (p := ⟨b + 1 + 1, 0, none⟩) (show b + 1 ≠ b + 1 + 1 by omega) _).drew
 · exact (((((h.q4.far (p := ⟨b, 0, none⟩) (show b + 1 + 1 ≠ b by omega) _).far (p := ⟨b, 1, none⟩) (show b + 1 + 1 ≠ b by omega) _).far (p := ⟨b, 2, none⟩) (show b + 1 + 1 ≠ b by omega) _).far (p := ⟨b + 1, 0, none⟩) (show b + 1 + 1 ≠ b + 1 by omega) _).set_ 0 _).drew
 · exact (((((h.low.setCell (p := ⟨b, 0, none⟩) (Nat.le_refl b) _).setCell (p := ⟨b, 1, none⟩) (Nat.le_refl b) _).setCell (p := ⟨b, 2, none⟩) (Nat.le_refl b) _).setCell (p := ⟨b + 1, 0, none⟩) (show b ≤ b + 1 by omega) _).setCell (p := ⟨b + 1 + 1, 0, none⟩) (show b ≤ b + 1 + 1 by omega) _).drew
 · have h0 := h.le
   have e : ∀ (V : World) (p : Addr) (u : Value), (V.setCell p u).heap.size = V.heap.size := fun V p u => by simp [World.setCell]
   show _ ≤ (World.setCell _ _ _).heap.size
   rw [e, e, e, e, e]
   exact h0
theorem PaW.kept {b : Nat} {w W W' : World} {z : Yd} {i : Nat} (h : PaW b w z i W) (hb : Below W.heap.size W W') : PaW b w z i W' := by
 obtain ⟨v0, v1, v2, hy⟩ := h.yd
 exact ⟨⟨v0, v1, v2, hy.kept hb⟩, h.nb.kept hb, h.q2.kept hb, h.q3.kept hb, h.q4.kept hb, h.low.trans (hb.mono (by have := h.le; omega)), Nat.le_trans h.le hb.size⟩
theorem YdO.yd {base g ty a b c : Nat} {y : Yd} {A0 A1 A2 : Option Addr} {n0 n1 n2 c0 c1 c2 : Nat} {W : World} (h : YdO base g ty a b c y (.slice A0 n0 c0) (.slice A1 n1 c1) (.slice A2 n2 c2) W) : YdAt W W.heap.size A0 A1 A2 y.s.length y.w.length y.p.length y := by
 obtain ⟨B0, B1, B2, d0, d1, d2, e0, e1, e2, hy⟩ := h.at_
 cases e0
 cases e1
 cases e2
 exact hy
set_option maxHeartbeats 4000000 in
theorem PaW.fin {b : Nat} {w W : World} {z : Yd} {i : Nat} (h : PaW b w z i W) {v0 v1 v2 : Value} (hY : YdO (b + 1 + 1 + 1 + 1 + 1 + 1) (b + 1 + 1 + 1) 41 133 70 117 z v0 v1 v2 W) :
 ∀ W', W' = ((((W.setCell ⟨b, 0, none⟩ v0).setCell ⟨b, 1, none⟩ v1).setCell ⟨b, 2, none⟩ v2).setCell ⟨b + 1, 0, none⟩ (.int .i64 0)).setCell ⟨b + 1 + 1, 0, none⟩ (.int .i64 0) →
 Blk W' b 41 #[v0, v1, v2] ∧ Blk W' (b + 1) 3 #[.int .i64 0] ∧ Blk W' (b + 1 + 1) 34 #[.int .i64 0] ∧ Below b w W' ∧
 YdO (b + 1 + 1 + 1 + 1 + 1 + 1) (b + 1 + 1 + 1) 41 133 70 117 z v0 v1 v2 W' := by
 rintro W' rfl
 have y1 := hY.set h.q2 (by omega) (by decide) (by decide) (by decide) 0 v0
 have y2 := y1.set (h.q2.set_ 0 v0) (by omega) (by decide) (by decide) (by decide) 1 v1
 have y3 := y2.set ((h.q2.set_ 0 v0).set_ 1 v1) (by omega) (by decide) (by decide) (by decide) 2 v2
 have q3 := (((h.q3.far (p := ⟨b, 0, none⟩) (show b + 1 ≠ b by omega) v0).far (p := ⟨b, 1, none⟩) (show b + 1 ≠ b by omega) v1).far (p := ⟨b, 2, none⟩) (show b + 1 ≠ b by omega) v2)
 have y4 := y3.set q3 (by omega) (by decide) (by decide) (by decide) 0 (.int .i64 0)
 have q4 := ((((h.q4.far (p := ⟨b, 0, none⟩) (show b + 1 + 1 ≠ b by omega) v0).far (p := ⟨b, 1, none⟩) (show b + 1 + 1 ≠ b by omega) v1).far (p := ⟨b, 2, none⟩) (show b + 1 + 1 ≠ b by omega) v2).far (p := ⟨b + 1, 0, none⟩) (show b + 1 + 1 ≠ b + 1 by omega) (.int .i64 0))
 have y5 := y4.set q4 (by omega) (by decide) (by decide) (by decide) 0 (.int .i64 0)
 refine ⟨((((h.q2.set_ 0 v0).set_ 1 v1).set_ 2 v2).far (p := ⟨b + 1, 0, none⟩) (show b ≠ b + 1 by omega) _).far (p := ⟨b + 1 + 1, 0, none⟩) (show b ≠ b + 1 + 1 by omega) _, (q3.set_ 0 (.int .i64 0)).far (p := ⟨b + 1 + 1, 0, none⟩) (show b + 1 ≠ b + 1 + 1 by omega) _, q4.set_ 0 (.int .i64 0), ?_, y5⟩
 exact ((((h.low.setCell (p := ⟨b, 0, none⟩) (Nat.le_refl b) _).setCell (p := ⟨b, 1, none⟩) (Nat.le_refl b) _).setCell (p := ⟨b, 2, none⟩) (Nat.le_refl b) _).setCell (p := ⟨b + 1, 0, none⟩) (show b ≤ b + 1 by omega) _).setCell (p := ⟨b + 1 + 1, 0, none⟩) (show b ≤ b + 1 + 1 by omega) _
theorem PaW.after {b : Nat} {w W W' : World} {z z' : Yd} {i : Nat} (h : PaW b w z i W) {u0 u1 u2 : Value} (hY : YdO (b + 1 + 1 + 1 + 1 + 1 + 1) (b + 1 + 1 + 1) 41 133 70 117 z' u0 u1 u2 W')
 (hF : Fr3 (b + 1 + 1 + 1 + 1 + 1 + 1) (b + 1 + 1 + 1) 133 70 117 W W') : PaW b w z' i W' :=
 ⟨⟨u0, u1, u2, hY⟩, (hF.low _ (by omega) (by omega)).trans h.nb, (hF.low _ (by omega) (by omega)).trans h.q2, (hF.low _ (by omega) (by omega)).trans h.q3, (hF.low _ (by omega) (by omega)).trans h.q4,
  h.low.trans ⟨hF.os, hF.tape, hF.output, hF.size, fun k hk => hF.low k (by omega) (by omega)⟩, Nat.le_trans h.le hF.size⟩
theorem PaW.next {b : Nat} {w W : World} {z : Yd} {i : Nat} (h : PaW b w z i W) : PaW b w z (i + 1) (W.setCell ⟨b + 1 + 1 + 1 + 1, 0, none⟩ (.int .i64 ((i : Int) + 1))) := by
 obtain ⟨v0, v1, v2, hy⟩ := h.yd
 refine ⟨⟨v0, v1, v2, hy.set h.nb (by omega) (by decide) (by decide) (by decide) 0 _⟩, h.nb.set_ 0 _, h.q2.far (p := ⟨b + 1 + 1 + 1 + 1, 0, none⟩) (show b ≠ b + 1 + 1 + 1 + 1 by omega) _, h.q3.far (p := ⟨b + 1 + 1 + 1 + 1, 0, none⟩) (show b + 1 ≠ b + 1 + 1 + 1 + 1 by omega) _, h.q4.far (p := ⟨b + 1 + 1 + 1 + 1, 0, none⟩) (show b + 1 + 1 ≠ b + 1 + 1 + 1 + 1 by omega) _, h.low.setCell (p := ⟨b + 1 + 1 + 1 + 1, 0, none⟩) (show b ≤ b + 1 + 1 + 1 + 1 by omega) _, ?_⟩
 have h0 := h.le
 have e : ∀ (V : World) (p : Addr) (u : Value), (V.setCell p u).heap.size = V.heap.size := fun V p u => by simp [World.setCell]
 rw [e]
 exact h0
theorem Parse_long (s : ByteArray) (w : World) (hs : 4096 < s.size) : Calls Tryz.prog 74 #[.string s] w (PaRes w (nilY, 0, 26)) := by
 have h1 : (4096 : Int) < (s.size : Int) := by omega
 go_enter Tryz.func74, Tryz.ntmps74
 go_wp2_with fail
 refine bodyPost_ret (v := .tuple #[.agg #[.slice none 0 0, .slice none 0 0, .slice none 0 0], .int .i64 0, .int .i64 26]) ?_ rfl ⟨none, none, none, 0, 0, 0, rfl, ⟨Reads.nil_, Reads.nil_, Reads.nil_⟩, bl_⟩
 have ck := (bk_ : Blk (((w.alloc (.cells #[.slice none 0 0, .slice none 0 0, .slice none 0 0] 41)).alloc (.cells #[.int .i64 0] 3)).alloc (.cells #[.int .i64 26] 34)) w.heap.size 41 #[.slice none 0 0, .slice none 0 0, .slice none 0 0]).cell
 have ck1 := (bk_ : Blk (((w.alloc (.cells #[.slice none 0 0, .slice none 0 0, .slice none 0 0] 41)).alloc (.cells #[.int .i64 0] 3)).alloc (.cells #[.int .i64 26] 34)) (w.heap.size + 1) 3 #[.int .i64 0]).cell
 have ck2 := (bk_ : Blk (((w.alloc (.cells #[.slice none 0 0, .slice none 0 0, .slice none 0 0] 41)).alloc (.cells #[.int .i64 0] 3)).alloc (.cells #[.int .i64 26] 34)) (w.heap.size + 1 + 1) 34 #[.int .i64 26]).cell
 simp [results, Tryz.results74, go_sem, ck, ck1, ck2]
set_option maxRecDepth 100000 in
set_option maxHeartbeats 4000000 in
theorem Parse_short (s : ByteArray) (w : World) (hT : Tabs w) (hs : s.size ≤ 4096) (hpn : (pieces s).length ≤ 300) : Calls Tryz.prog 74 #[.string s] w (PaRes w (goN nilY 0 (pieces s))) := by
 have h1 : ¬ (4096 : Int) < (s.size : Int) := by omega
 refine (callsIn_wide (n := 9)).1 ?_
 refine callsIn_of_wp_marks Tryz.func74 rfl trivial ?_ rfl
 refine wpIn_wide.2 ?_
 simp only [Tryz.ntmps74, List.size_toArray, List.length_cons, List.length_nil, Nat.reduceAdd, Nat.reduceSub, Array.replicate_succ, Array.replicate_zero, List.push_toArray, List.append_toArray, List.nil_append, List.cons_append]
 go_wp2_with fail
 refine (Lines_any s _).mono ?_
 rintro e wb ⟨rfl, hwb⟩
 have hsb : wb.heap.size = w.heap.size + 1 + 1 + 1 + 1 + 1 + 1 := by rw [← hwb]; simp
 have hbw : Below w.heap.size w wb := by rw [← hwb]; exact bl_
 have hbox : Blk wb (w.heap.size + 1 + 1 + 1 + 1 + 1) 9 #[.string s] := by rw [← hwb]; exact bk_
 have H0 : Hid (PaW w.heap.size w nilY 0 wb) := Lib.hid (by
  rw [← hwb]
  exact ⟨⟨.slice none 0 0, .slice none 0 0, .slice none 0 0, bk_, World.ownsRow_nil _ _ _ _, World.ownsRow_nil _ _ _ _, World.ownsRow_nil _ _ _ _⟩, (show Blk _ _ _ #[.int .i64 0] from bk_), bk_, bk_, bk_, bl_, by simp⟩)
 clear hwb
 simp only [World.size_alloc]
 go_wp2_with fail
 refine (wpIn_wide (n := 9)).1 ?_
 refine range_box rfl (by omega) (gf := 177) (lb := #[.pointer (some ⟨w.heap.size + 1 + 1 + 1 + 1 + 1, 0, none⟩)]) rfl trivial (enters_of Tryz.func177 (by kernel_rfl) rfl) (gb := w.heap.size + 1 + 1 + 1 + 1 + 1) (by omega)
  (lines_box 8 (w.heap.size + 1 + 1 + 1 + 1 + 1) s wb (by omega) (by omega) hbox) (fun _ => rfl) (PaI w.heap.size w) (PaX w.heap.size w) (PaI.at_ _ _ _ (by omega)) (PaX.at_ _ _ _ (by omega)) ⟨nilY, rfl, H0.out⟩
  (fun x => { tmps := #[.string s, undef, .pointer (some ⟨w.heap.size, 0, none⟩), .pointer (some ⟨w.heap.size + 1, 0, none⟩), .pointer (some ⟨w.heap.size + 1 + 1, 0, none⟩), .pointer (some ⟨w.heap.size + 1 + 1 + 1, 0, none⟩), .pointer (some ⟨w.heap.size + 1 + 1 + 1 + 1, 0, none⟩), .string x.x, undef, undef, undef, undef, .string s, .int .i64 (s.size : Int), .bool false, undef, .string s, .func (.func 177) #[] #[.pointer (some ⟨w.heap.size + 1 + 1 + 1 + 1 + 1, 0, none⟩)], .string x.x, undef, undef, undef, undef, undef, undef, undef, undef, undef, undef, undef, undef, undef, undef, undef, undef, undef, undef, undef, undef, undef, undef, undef, undef, undef, undef], defers := [] })
  ?assign ?body ?done ?stop
 case assign =>
  rintro l x W K hK
  dsimp only [pcV]
  gi_wp2
  exact hK
 case body =>
  rintro l pre x W ⟨z, hz, hP⟩ hlen
  dsimp only
  have HP := Lib.hid hP
  have cn := hP.nb.cell
  have fn := hP.nb.frozen
  have ln := hP.nb.lt
  have l2 := hP.q2.lt
  have l3 := hP.q3.lt
  have l4 := hP.q4.lt
  have HC := Lib.hid (fun W => CutSuffix_any x.x W (Nat.le_trans x.h (by decide)))
  clear hP
  cases hq : endB x.x with
  | false =>
   rw [hq] at HC
   simp only [if_false, Bool.false_eq_true] at HC
   have hst : Hid (stepN z x.x = (25, z)) := Lib.hid (by unfold stepN; rw [hq]; rfl)
   have c2 := HP.out.q2.cell
   have f2 := HP.out.q2.frozen
   have c3 := HP.out.q3.cell
   have f3 := HP.out.q3.frozen
   have c4 := HP.out.q4.cell
   have f4 := HP.out.q4.frozen
   gi_wp2_with (refine ⟨trivial, ?_⟩; gi_at_call 148; refine (CallsIn.inRound l (callsIn_wide.2 (HC.out _))).mono ?_; rintro e w1 ⟨rfl, rfl⟩)
   have mixed : Tryz.prog.follows .mixedOrders = true := by kernel_rfl
   gi_region_with_o fail
   all_goals
    gi_wp2
    exact ⟨(HP.out.fail _ 25).1, pre, x, z, rfl, hz, by rw [hst.out]; exact (by decide : (25 : Int) ≠ 0), by rw [hst.out]; exact (HP.out.fail wb.heap.size 25).2⟩
  | true =>
   rw [hq] at HC
   simp only [if_true] at HC
   have hst : Hid (stepN z x.x = prR z (spL (cutB x.x) 32)) := Lib.hid (by unfold stepN; rw [hq]; rfl)
   obtain ⟨v0, v1, v2, hY⟩ := HP.out.yd
   have hcs : (cutB x.x).size ≤ 90000 := by
    have := x.h
    unfold cutB
    rw [ByteArray.size_extract]
    omega
   have hle := HP.out.le
   have hLn := runN_len (M := 90000) (pre.map Pc.x) 0 nilY z (lenN_nil _) (fun u hu => by
    obtain ⟨c, _, rfl⟩ := List.mem_map.1 hu
    exact c.h) hz
   have hml : (pre.map Pc.x).length = pre.length := List.length_map _
   rw [hml] at hLn
   have hFt : FitsL z := ⟨by have := hLn.s; omega, by have := hLn.w; omega, by have := hLn.p; omega, fun u hu => Nat.le_trans (hLn.sn u hu) (by unfold maxLen; decide), fun u hu => Nat.le_trans (hLn.wn u hu) (by unfold maxLen; decide), fun u hu => Nat.le_trans (hLn.pn u hu) (by unfold maxLen; decide)⟩
   have HRd := Lib.hid (read_any (w.heap.size + 1 + 1 + 1 + 1 + 1 + 1) (w.heap.size + 1 + 1 + 1) z v0 v1 v2 (cutB x.x) W (hT.kept HP.out.low) hY hle hFt hcs)
   have HZ := Lib.hid hz
   clear hz hY hcs hFt hLn hml
   gi_wp2_with (refine ⟨trivial, ?_⟩; gi_at_call 148; refine (CallsIn.inRound l (callsIn_wide.2 (HC.out _))).mono ?_; rintro e w1 ⟨rfl, rfl⟩)
   refine ⟨trivial, ?_⟩
   gi_at_call 149
   refine (CallsIn.inRound l (callsIn_wide.2 HRd.out)).mono ?_
   rintro e w1 ⟨rfl, ⟨u0, u1, u2, hYn⟩, hFr⟩
   rw [← hst.out] at hYn
   rw [← hst.out]
   have HA := Lib.hid (HP.out.after hYn hFr)
   have HFr := Lib.hid hFr
   clear hYn hFr cn fn ln l2 l3 l4 HC HRd hst
   have hsn := Lib.hid (runN_snoc x.x (pre.map Pc.x) nilY z HZ.out)
   have cn := HA.out.nb.cell
   have fn := HA.out.nb.frozen
   have ln := HA.out.nb.lt
   have l2 := HA.out.q2.lt
   have l3 := HA.out.q3.lt
   have l4 := HA.out.q4.lt
   have c2 := HA.out.q2.cell
   have f2 := HA.out.q2.frozen
   have c3 := HA.out.q3.cell
   have f3 := HA.out.q3.frozen
   have c4 := HA.out.q4.cell
   have f4 := HA.out.q4.frozen
   have HNE : Hid ((stepN z x.x).1 = (stepN z x.x).1) := Lib.hid rfl
   by_cases he : (stepN z x.x).1 = 0
   · rw [if_pos he] at hsn
     rw [he]
     have hpl : pre.length ≤ 400 := by omega
     gi_wp2
     exact ⟨(HFr.out.oth.trans (KeepsOthers.setCell _ _ _)).from _, (Below.heap_setCell w1 ⟨w.heap.size + 1 + 1 + 1 + 1, 0, none⟩ _ _ (show w.heap.size + 1 + 1 + 1 + 1 + 1 ≠ w.heap.size + 1 + 1 + 1 + 1 by omega)).trans (HFr.out.low _ (by omega) (by omega)), (stepN z x.x).2, by rw [List.map_append]; exact hsn.out, by rw [List.length_append]; exact HA.out.next⟩
   · generalize hee : (stepN z x.x).1 = ee at *
     have hne : (ee != 0) = true := by simpa using he
     have HE := Lib.hid hee
     clear hee
     gi_wp2
     have mixed : Tryz.prog.follows .mixedOrders = true := by kernel_rfl
     gi_region_with_o fail
     all_goals
      gi_wp2
      exact ⟨(HFr.out.oth.from _).trans (HA.out.fail _ ee).1, pre, x, z, rfl, HZ.out, by rw [HE.out]; exact he, by rw [HE.out]; exact (HA.out.fail wb.heap.size ee).2⟩
 case done =>
  rintro D xs W hD hS ⟨z, hz, hP⟩ hK
  dsimp only
  have HP := Lib.hid hP
  have HK := Lib.hid hK
  have HD := Lib.hid hD
  have hgo : Hid (goN nilY 0 (pieces s) = if yardE z = 0 then (z, 0, 0) else (nilY, xs.length, yardE z)) := Lib.hid (by
   have h := goN_run (xs.map Pc.x) [] nilY z 0 hz
   rw [List.append_nil, hS, ← hS, List.length_map, Nat.zero_add, hS] at h
   rw [h]
   rfl)
  obtain ⟨v0, v1, v2, hY⟩ := hP.yd
  obtain ⟨A0, A1, A2, c0, c1, c2, rfl, rfl, rfl, hyat⟩ := hY.at_
  have hxl : xs.length ≤ 300 := by
   have h1 := congrArg List.length hS
   rw [List.length_map] at h1
   omega
  have hLn := runN_len (M := 90000) (xs.map Pc.x) 0 nilY z (lenN_nil _) (fun u hu => by
   obtain ⟨c, _, rfl⟩ := List.mem_map.1 hu
   exact c.h) hz
  have hml : (xs.map Pc.x).length = xs.length := List.length_map _
  rw [hml] at hLn
  have hFt : FitsL z := ⟨by have := hLn.s; omega, by have := hLn.w; omega, by have := hLn.p; omega, fun u hu => Nat.le_trans (hLn.sn u hu) (by unfold maxLen; decide), fun u hu => Nat.le_trans (hLn.wn u hu) (by unfold maxLen; decide), fun u hu => Nat.le_trans (hLn.pn u hu) (by unfold maxLen; decide)⟩
  have HC := Lib.hid (CheckYardL_any W.heap.size A0 A1 A2 z.s.length z.w.length z.p.length c0 c1 c2 z W hyat (Nat.le_refl _) (hT.kept hP.low) hFt)
  have cY := hY.box.cell
  have lY := hY.box.lt
  have HY := Lib.hid hY
  clear hS hP hK hz hY hyat hLn hml hFt
  go_wp2_with fail
  refine HC.out.mono ?_
  (rintro e w1 ⟨rfl, hb1⟩; have hs1 := hb1.size; (try simp at hs1))
  have HY1 := Lib.hid (HY.out.kept hb1)
  have HP1 := Lib.hid (HP.out.kept hb1)
  have HK1 : Hid (w1.heap[D]? = some (.deferred (some []))) := Lib.hid ((hb1.block D (Array.getElem?_eq_some_iff.1 HK.out).1).trans HK.out)
  have hnD : ∀ k, k < w.heap.size + 6 → k ∉ [D] := fun k hk h => by rw [List.mem_singleton.1 h] at hk; have := HD.out; omega
  have HND := Lib.hid hnD
  have hle := HP1.out.le
  have hDl : D < w1.heap.size := (Array.getElem?_eq_some_iff.1 HK1.out).1
  have cY1 := HY1.out.box.cell
  have lY1 := HY1.out.box.lt
  have cn := HP1.out.nb.cell
  have ln := HP1.out.nb.lt
  clear hnD HC HY HK cY lY
  by_cases he : yardE z = 0
  · have HG : Hid (goN nilY 0 (pieces s) = (z, 0, 0)) := Lib.hid (by rw [hgo.out, if_pos he])
    rw [he]
    clear hgo
    have k2 := HP1.out.q2.cell
    have f2 := HP1.out.q2.frozen
    have l2 := HP1.out.q2.lt
    have k3 := HP1.out.q3.cell
    have f3 := HP1.out.q3.frozen
    have l3 := HP1.out.q3.lt
    have k4 := HP1.out.q4.cell
    have f4 := HP1.out.q4.frozen
    have l4 := HP1.out.q4.lt
    go_wp2_with fail
    obtain ⟨W5, hW5⟩ : ∃ W5, W5 = ((((w1.setCell ⟨w.heap.size, 0, none⟩ (.slice A0 z.s.length c0)).setCell ⟨w.heap.size, 1, none⟩ (.slice A1 z.w.length c1)).setCell ⟨w.heap.size, 2, none⟩ (.slice A2 z.p.length c2)).setCell ⟨w.heap.size + 1, 0, none⟩ (.int .i64 0)).setCell ⟨w.heap.size + 1 + 1, 0, none⟩ (.int .i64 0) := ⟨_, rfl⟩
    rw [← hW5]
    obtain ⟨g2, g3, g4, glow, gy5⟩ := HP1.out.fin HY1.out W5 hW5
    have hKD : W5.heap[D]? = some (.deferred (some [])) := by
     rw [hW5, Below.heap_setCell _ _ _ _ (show D ≠ w.heap.size + 1 + 1 by have := HD.out; omega), Below.heap_setCell _ _ _ _ (show D ≠ w.heap.size + 1 by have := HD.out; omega), Below.heap_setCell _ _ _ _ (show D ≠ w.heap.size by have := HD.out; omega), Below.heap_setCell _ _ _ _ (show D ≠ w.heap.size by have := HD.out; omega), Below.heap_setCell _ _ _ _ (show D ≠ w.heap.size by have := HD.out; omega)]
     exact HK1.out
    refine leaves_marks w.heap.size [D] W5 (by simp) (fun E hE => by simp at hE; subst hE; exact hKD) (fun E hE => by simp at hE; subst hE; have := HD.out; omega) fun w' hw' hkk hs => ?_
    have ck2 := (show Blk w' _ _ _ from (hkk _ (HND.out _ (by omega))).trans g2).cell
    have ck3 := (show Blk w' _ _ _ from (hkk _ (HND.out _ (by omega))).trans g3).cell
    have ck4 := (show Blk w' _ _ _ from (hkk _ (HND.out _ (by omega))).trans g4).cell
    refine ⟨.tuple #[.agg #[.slice A0 z.s.length c0, .slice A1 z.w.length c1, .slice A2 z.p.length c2], .int .i64 0, .int .i64 0], by simp [results, Tryz.results74, go_sem, ck2, ck3, ck4], ?_⟩
    rw [HG.out]
    have gyw := gy5.keep (W' := w') (fun k t d hd _ => hkk k (fun hk => by
     rw [List.mem_singleton.1 hk] at hd
     rw [show W5.heap[D]? = _ from hd] at hKD
     cases hKD))
    exact ⟨A0, A1, A2, c0, c1, c2, rfl, gyw.yd, glow.trans hw'⟩
  · have HG : Hid (goN nilY 0 (pieces s) = (nilY, xs.length, yardE z)) := Lib.hid (by rw [hgo.out, if_neg he])
    clear hgo
    generalize yardE z = ee at *
    have hne : (ee != 0) = true := by simpa using he
    go_wp2_with fail
    (refine wp_region_calm [w.heap.size, w.heap.size + 1, w.heap.size + 1 + 1] [0, 1, 2] 3 (by kernel_rfl) rfl (by kernel_rfl) (by kernel_rfl) (by kernel_rfl) ?_; simp only [pickB, List.filterMap_cons, List.filterMap_nil, List.getElem?_toArray, List.getElem?_cons_zero, List.getElem?_cons_succ]; (repeat (first | ((first | (with_reducible refine quietL_plain rfl (fun K hK => ?_)) | (with_reducible refine quietL_want (by with_unfolding_all rfl) (fun K hK => ?_))); (apply Exists.intro; refine ⟨fun wx hx => ?_, ?_⟩; (· (have hcx := ifs_ex hx); simp [go_sem, *, ↓IntWalk.iteOmega] <;> (first | rfl | exact ⟨rfl, rfl⟩ | fail)); (simp only [Act.put, List.setIfInBounds_toArray, List.set_cons_zero, List.set_cons_succ]; refine hK _ ?_; clear hK K))) | ((with_reducible refine quietL_skip (by with_unfolding_all rfl) ?_); simp only [Act.put, List.setIfInBounds_toArray, List.set_cons_zero, List.set_cons_succ]))); refine quietL_nil ?_)
    refine anyB_one (i := 3) (by kernel_rfl) rfl rfl ?_
    intro wa hba K hK
    have HPa := Lib.hid (HP1.out.kept hba)
    have k2 := HPa.out.q2.cell
    have f2 := HPa.out.q2.frozen
    have l2 := HPa.out.q2.lt
    have hsa := hba.size
    have HA2 := Lib.hid (((HPa.out.q2.set_ 0 (.slice none 0 0)).set_ 1 (.slice none 0 0)).set_ 2 (.slice none 0 0))
    have HA3 := Lib.hid (((HPa.out.q3.far (p := ⟨w.heap.size, 0, none⟩) (show w.heap.size + 1 ≠ w.heap.size by omega) (.slice none 0 0)).far (p := ⟨w.heap.size, 1, none⟩) (show w.heap.size + 1 ≠ w.heap.size by omega) (.slice none 0 0)).far (p := ⟨w.heap.size, 2, none⟩) (show w.heap.size + 1 ≠ w.heap.size by omega) (.slice none 0 0))
    have HA4 := Lib.hid (((HPa.out.q4.far (p := ⟨w.heap.size, 0, none⟩) (show w.heap.size + 1 + 1 ≠ w.heap.size by omega) (.slice none 0 0)).far (p := ⟨w.heap.size, 1, none⟩) (show w.heap.size + 1 + 1 ≠ w.heap.size by omega) (.slice none 0 0)).far (p := ⟨w.heap.size, 2, none⟩) (show w.heap.size + 1 + 1 ≠ w.heap.size by omega) (.slice none 0 0))
    have HAL := Lib.hid (((HPa.out.low.setCell (p := ⟨w.heap.size, 0, none⟩) (Nat.le_refl _) (.slice none 0 0)).setCell (p := ⟨w.heap.size, 1, none⟩) (Nat.le_refl _) (.slice none 0 0)).setCell (p := ⟨w.heap.size, 2, none⟩) (Nat.le_refl _) (.slice none 0 0))
    have HAD : Hid ((((wa.setCell ⟨w.heap.size, 0, none⟩ (.slice none 0 0)).setCell ⟨w.heap.size, 1, none⟩ (.slice none 0 0)).setCell ⟨w.heap.size, 2, none⟩ (.slice none 0 0)).heap[D]? = some (.deferred (some []))) := Lib.hid (by
     rw [Below.heap_setCell _ _ _ _ (show D ≠ w.heap.size by have := HD.out; omega), Below.heap_setCell _ _ _ _ (show D ≠ w.heap.size by have := HD.out; omega), Below.heap_setCell _ _ _ _ (show D ≠ w.heap.size by have := HD.out; omega)]
     exact (hba.block D hDl).trans HK1.out)
    have e5 : ∀ (V : World) (p : Addr) (u : Value), (V.setCell p u).heap.size = V.heap.size := fun V p u => by simp [World.setCell]
    have HE5 := Lib.hid e5
    clear e5
    go_wp2
    refine ⟨xs_, ?_⟩
    refine anyB_one (i := 4) (by kernel_rfl) rfl rfl ?_
    intro wb' hbb K hK
    have HB2 := Lib.hid (HA2.out.kept hbb)
    have HB3 := Lib.hid (HA3.out.kept hbb)
    have HB4 := Lib.hid (HA4.out.kept hbb)
    have hsB := hbb.size
    rw [HE5.out, HE5.out, HE5.out] at hsB
    have HBL := Lib.hid (HAL.out.trans (hbb.mono (by rw [HE5.out, HE5.out, HE5.out]; omega)))
    have HBD := Lib.hid ((hbb.block D (by rw [HE5.out, HE5.out, HE5.out]; omega)).trans HAD.out)
    have k3 := HB3.out.cell
    have f3 := HB3.out.frozen
    have l3 := HB3.out.lt
    go_wp2
    refine ⟨xs_, ?_⟩
    refine anyB_one (i := 5) (by kernel_rfl) rfl rfl ?_
    intro wc' hbc K hK
    have HC2 := Lib.hid ((HB2.out.far (p := ⟨w.heap.size + 1, 0, none⟩) (show w.heap.size ≠ w.heap.size + 1 by omega) (.int .i64 (xs.length : Int))).kept hbc)
    have HC3 := Lib.hid ((HB3.out.set_ 0 (.int .i64 (xs.length : Int))).kept hbc)
    have HC4 := Lib.hid ((HB4.out.far (p := ⟨w.heap.size + 1, 0, none⟩) (show w.heap.size + 1 + 1 ≠ w.heap.size + 1 by omega) (.int .i64 (xs.length : Int))).kept hbc)
    have hsC := hbc.size
    rw [HE5.out] at hsC
    have HCL := Lib.hid ((HBL.out.setCell (p := ⟨w.heap.size + 1, 0, none⟩) (show w.heap.size ≤ w.heap.size + 1 by omega) (.int .i64 (xs.length : Int))).trans (hbc.mono (by rw [HE5.out]; omega)))
    have HCD := Lib.hid ((hbc.block D (by rw [HE5.out]; omega)).trans ((Below.heap_setCell _ _ _ _ (show D ≠ w.heap.size + 1 by have := HD.out; omega)).trans HBD.out))
    have k4 := HC4.out.cell
    have f4 := HC4.out.frozen
    have l4 := HC4.out.lt
    go_wp2
    refine ⟨xs_, ?_⟩
    refine anyB_end (by kernel_rfl) ?_
    intro wm hbm
    simp only [Calm]
    have HM2 := Lib.hid ((HC2.out.far (p := ⟨w.heap.size + 1 + 1, 0, none⟩) (show w.heap.size ≠ w.heap.size + 1 + 1 by omega) (.int .i64 ee)).kept hbm)
    have HM3 := Lib.hid ((HC3.out.far (p := ⟨w.heap.size + 1 + 1, 0, none⟩) (show w.heap.size + 1 ≠ w.heap.size + 1 + 1 by omega) (.int .i64 ee)).kept hbm)
    have HM4 := Lib.hid ((HC4.out.set_ 0 (.int .i64 ee)).kept hbm)
    have HML := Lib.hid ((HCL.out.setCell (p := ⟨w.heap.size + 1 + 1, 0, none⟩) (show w.heap.size ≤ w.heap.size + 1 + 1 by omega) (.int .i64 ee)).trans (hbm.mono (by rw [HE5.out]; omega)))
    have HMD := Lib.hid ((hbm.block D (by rw [HE5.out]; omega)).trans ((Below.heap_setCell _ _ _ _ (show D ≠ w.heap.size + 1 + 1 by have := HD.out; omega)).trans HCD.out))
    go_wp2_with fail
    refine leaves_marks w.heap.size [D] wm (by simp) (fun E hE => by simp at hE; subst hE; exact HMD.out) (fun E hE => by simp at hE; subst hE; have := HD.out; omega) fun w' hw' hkk hs => ?_
    have ck2 := (show Blk w' _ _ _ from (hkk _ (HND.out _ (by omega))).trans HM2.out).cell
    have ck3 := (show Blk w' _ _ _ from (hkk _ (HND.out _ (by omega))).trans HM3.out).cell
    have ck4 := (show Blk w' _ _ _ from (hkk _ (HND.out _ (by omega))).trans HM4.out).cell
    refine ⟨.tuple #[.agg #[.slice none 0 0, .slice none 0 0, .slice none 0 0], .int .i64 (xs.length : Int), .int .i64 ee], by simp [results, Tryz.results74, go_sem, ck2, ck3, ck4], ?_⟩
    rw [HG.out]
    exact ⟨none, none, none, 0, 0, 0, rfl, ⟨Reads.nil_, Reads.nil_, Reads.nil_⟩, HML.out.trans hw'⟩
 case stop =>
  rintro D pre W hD ⟨r, hr⟩ ⟨pr, x, z, rfl, hz, hne, hE⟩ hK
  have hgo : Hid (goN nilY 0 (pieces s) = (nilY, pr.length, (stepN z x.x).1)) := Lib.hid (by
   rw [hr, List.map_append, List.append_assoc, goN_run (pr.map Pc.x) _ nilY z 0 hz, List.length_map, Nat.zero_add]
   exact goN_no hne _ _)
  have HE := Lib.hid hE
  have HK := Lib.hid hK
  rw [hgo.out]
  generalize (stepN z x.x).1 = ee at *
  clear hr hz hne hE hK
  gi_wp2
  have hnD : ∀ k, k < w.heap.size + 6 → k ∉ [D] := fun k hk h => by rw [List.mem_singleton.1 h] at hk; omega
  refine leaves_marks w.heap.size [D] W (by simp) (fun E hE => by simp at hE; subst hE; exact HK.out) (fun E hE => by simp at hE; subst hE; omega) fun w' hw' hkk hs => ?_
  have ck2 := (show Blk w' _ _ _ from (hkk _ (hnD _ (by omega))).trans HE.out.q2).cell
  have ck3 := (show Blk w' _ _ _ from (hkk _ (hnD _ (by omega))).trans HE.out.q3).cell
  have ck4 := (show Blk w' _ _ _ from (hkk _ (hnD _ (by omega))).trans HE.out.q4).cell
  refine ⟨.tuple #[.agg #[.slice none 0 0, .slice none 0 0, .slice none 0 0], .int .i64 (pr.length : Int), .int .i64 ee], by simp [results, Tryz.results74, go_sem, ck2, ck3, ck4], ?_⟩
  exact ⟨none, none, none, 0, 0, 0, rfl, ⟨Reads.nil_, Reads.nil_, Reads.nil_⟩, HE.out.low.trans hw'⟩
/-- The program's Parse gives what the reference's parts give. -/
theorem Parse_any (s : ByteArray) (w : World) (hT : Tabs w) (hs : s.size ≤ 300 ∨ 4096 < s.size) : Calls Tryz.prog 74 #[.string s] w (PaRes w (parseR s)) := by
 rcases hs with h | h
 · rw [← parse_pieces (by omega)]
   exact Parse_short s w hT (by omega) (Nat.le_trans (pieces_len s) h)
 · unfold parseR
   rw [if_pos h]
   exact Parse_long s w h
/-- The same where the text is longer, and its lines are few. -/
theorem Parse_lines (s : ByteArray) (w : World) (hT : Tabs w) (hs : s.size ≤ 4096) (hpn : (pieces s).length ≤ 300) : Calls Tryz.prog 74 #[.string s] w (PaRes w (parseR s)) := by
 rw [← parse_pieces (by omega)]
 exact Parse_short s w hT hs hpn
end Go.Proofs.YtphlojgmfkgeiaaGreatDoor
