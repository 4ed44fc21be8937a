/- The program's Parse of an arm's text. -/
import Derived.Test.YtjanojmgnpfjeaaGreatDoorSL
namespace Go.Proofs.YtjanojmgnpfjeaaGreatDoor
open Go.RowKit Go.Sort Go.Shelf
set_option linter.unusedSimpArgs false
set_option linter.unusedVariables false
attribute [local go_sem] cell_if frozen_if grow_cell
attribute [local go_sem] Oper.semAt_some
theorem blk_turn {W W' : World} {k t : Nat} {d : Array Value} {row : Option Nat} (h : Blk W k t d) (hg : W.grownBy W' row) (hr : ∀ r, row = some r → r ≠ k ∨ ∃ o : Obj, W.heap[r]? = some o ∧ o.isCells = false) : Blk W' k t d :=
  h.grown hg (fun e => by
    rcases hr k e.symm with h1 | ⟨o, ho, hc⟩
    · exact h1 rfl
    · rw [show W.heap[k]? = _ from h] at ho
      cases ho
      cases hc)
/-- What Parse hands back. -/
def PaRes (w : World) (p : Ar × Nat × Int) (e : Ending) (w' : World) : Prop :=
  ∃ A c, e = .returned (.tuple #[.agg #[.slice A p.1.m.length c, .int .i64 p.1.lo, .int .i64 p.1.hi, .int .i64 p.1.cur, .int .i64 p.1.lim], .int .i64 p.2.1, .int .i64 p.2.2]) ∧ MsAt w' w'.heap.size A p.1.m.length p.1.m ∧ p.1.m.length ≤ c ∧ Below w.heap.size w w'
theorem pa_nil {w w' : World} (i : Nat) (er : Int) (hb : Below w.heap.size w w') : PaRes w (nilA, i, er) (.returned (.tuple #[.agg #[.slice none 0 0, .int .i64 0, .int .i64 0, .int .i64 0, .int .i64 0], .int .i64 (i : Int), .int .i64 er])) w' := ⟨none, 0, rfl, ms_nil _ _, Nat.le_refl _, hb⟩
/-- Between two lines: the arm so far, the number of lines, the results as they were laid. -/
structure PaW (b : Nat) (w : World) (z : Ar) (i : Nat) (W : World) : Prop where
  ar : ∃ v, ArO (b + 1 + 1 + 1 + 1 + 1 + 1 + 1) (b + 1 + 1 + 1 + 1) z v W
  nb : Blk W (b + 1 + 1 + 1 + 1 + 1) 3 #[.int .i64 (i : Int)]
  q2 : Blk W b 36 #[.slice none 0 0, .int .i64 0, .int .i64 0, .int .i64 0, .int .i64 0]
  q3 : Blk W (b + 1) 3 #[.int .i64 0]
  q4 : Blk W (b + 1 + 1) 31 #[.int .i64 0]
  low : Below b w W
  le : b + 1 + 1 + 1 + 1 + 1 + 1 + 1 ≤ W.heap.size
def PaI (b : Nat) (w : World) (pre : List Pc) (W : World) : Prop := ∃ z, runN nilA 0 (pre.map Pc.x) = some z ∧ PaW b w z pre.length W
/-- A line was wrong: what is handed back. -/
structure PaE (b : Nat) (w : World) (i : Nat) (W : World) : Prop where
  q2 : Blk W b 36 #[.slice none 0 0, .int .i64 0, .int .i64 0, .int .i64 0, .int .i64 0]
  q3 : Blk W (b + 1) 3 #[.int .i64 (i : Int)]
  q4 : Blk W (b + 1 + 1) 31 #[.int .i64 25]
  low : Below b w W
  le : b + 1 + 1 + 1 + 1 + 1 + 1 + 1 ≤ W.heap.size
def PaX (b : Nat) (w : World) (pre : List Pc) (W : World) : Prop := ∃ (pr : List Pc) (x : Pc) (z : Ar), pre = pr ++ [x] ∧ runN nilA 0 (pr.map Pc.x) = some z ∧ (pcA z pr.length x.x).1 = false ∧ PaE b w pr.length W
theorem PaI.at_ (b : Nat) (w : World) (B : Nat) (hB : b + 1 + 1 + 1 + 1 + 1 + 1 + 1 ≤ B) : AtBox (b + 1 + 1 + 1 + 1 + 1 + 1) B (PaI b w) := by
  rintro pre W W' row ⟨z, hz, h⟩ hg hr
  have hne : ∀ k, k < b + 1 + 1 + 1 + 1 + 1 + 1 → ∀ r, row = some r → r ≠ k ∨ ∃ o : Obj, W.heap[r]? = some o ∧ o.isCells = false := fun k hk r e => by
    rcases hr r e with h1 | ⟨h1, _⟩
    · exact .inl (by omega)
    · exact .inl (by omega)
  obtain ⟨v, hy⟩ := h.ar
  refine ⟨z, hz, ⟨v, hy.turn hg fun r e => ?_⟩, blk_turn h.nb hg (hne _ (by omega)), blk_turn h.q2 hg (hne _ (by omega)), blk_turn h.q3 hg (hne _ (by omega)), blk_turn h.q4 hg (hne _ (by omega)), h.low.grown hg (by have := h.le; omega) (fun r e => ?_), Nat.le_trans h.le hg.size⟩
  · rcases hr r e with h1 | ⟨h1, h2⟩
    · exact ⟨by omega, .inl (by omega)⟩
    · exact ⟨by omega, .inr h2⟩
  · rcases hr r e with h1 | ⟨h1, _⟩ <;> omega
theorem PaX.at_ (b : Nat) (w : World) (B : Nat) (hB : b + 1 + 1 + 1 + 1 + 1 + 1 + 1 ≤ B) : AtBox (b + 1 + 1 + 1 + 1 + 1 + 1) B (PaX b w) := by
  rintro pre W W' row ⟨pr, x, z, h1, h2, h3, h⟩ hg hr
  have hne : ∀ k, k < b + 1 + 1 + 1 + 1 + 1 + 1 → ∀ r, row = some r → r ≠ k ∨ ∃ o : Obj, W.heap[r]? = some o ∧ o.isCells = false := fun k hk r e => by
    rcases hr r e with h1 | ⟨h1, _⟩
    · exact .inl (by omega)
    · exact .inl (by omega)
  refine ⟨pr, x, z, h1, h2, h3, blk_turn h.q2 hg (hne _ (by omega)), blk_turn h.q3 hg (hne _ (by omega)), blk_turn h.q4 hg (hne _ (by omega)), h.low.grown hg (by have := h.le; omega) (fun r e => ?_), Nat.le_trans h.le hg.size⟩
  rcases hr r e with h1 | ⟨h1, _⟩ <;> omega
theorem drew_size (V : World) : V.drew.heap.size = V.heap.size := rfl
theorem size_set (V : World) (p : Addr) (u : Value) : (V.setCell p u).heap.size = V.heap.size := by simp [World.setCell]
set_option maxHeartbeats 4000000 in
theorem PaW.fail {b : Nat} {w W : World} {z : Ar} {i : Nat} (h : PaW b w z i W) (B : Nat) : KeepsFrom B W (((((((W.setCell ⟨b, 0, none⟩ (.slice none 0 0)).setCell ⟨b, 1, none⟩ (.int .i64 0)).setCell ⟨b, 2, none⟩ (.int .i64 0)).setCell ⟨b, 3, none⟩ (.int .i64 0)).setCell ⟨b, 4, none⟩ (.int .i64 0)).setCell ⟨b + 1, 0, none⟩ (.int .i64 (i : Int))).setCell ⟨b + 1 + 1, 0, none⟩ (.int .i64 25)).drew ∧
    PaE b w i (((((((W.setCell ⟨b, 0, none⟩ (.slice none 0 0)).setCell ⟨b, 1, none⟩ (.int .i64 0)).setCell ⟨b, 2, none⟩ (.int .i64 0)).setCell ⟨b, 3, none⟩ (.int .i64 0)).setCell ⟨b, 4, none⟩ (.int .i64 0)).setCell ⟨b + 1, 0, none⟩ (.int .i64 (i : Int))).setCell ⟨b + 1 + 1, 0, none⟩ (.int .i64 25)).drew := by
  refine ⟨((((((((KeepsOthers.setCell W _ _).trans (KeepsOthers.setCell _ _ _)).trans (KeepsOthers.setCell _ _ _)).trans (KeepsOthers.setCell _ _ _)).trans (KeepsOthers.setCell _ _ _)).trans (KeepsOthers.setCell _ _ _)).trans (KeepsOthers.setCell _ _ _)).trans (KeepsOthers.drew _)).from B, ?_, ?_, ?_, ?_, ?_⟩
  · exact (((((((h.q2.set_ 0 (.slice none 0 0)).set_ 1 (.int .i64 0)).set_ 2 (.int .i64 0)).set_ 3 (.int .i64 0)).set_ 4 (.int .i64 0)).far (p := ⟨b + 1, 0, none⟩) (Nat.ne_of_lt (Nat.lt_succ_self b)) _).far (p := ⟨b + 1 + 1, 0, none⟩) (show b ≠ b + 1 + 1 by omega) _).drew
  · exact (((((((h.q3.far (p := ⟨b, 0, none⟩) (show b + 1 ≠ b by omega) (.slice none 0 0)).far (p := ⟨b, 1, none⟩) (show b + 1 ≠ b by omega) (.int .i64 0)).far (p := ⟨b, 2, none⟩) (show b + 1 ≠ b by omega) (.int .i64 0)).far (p := ⟨b, 3, none⟩) (show b + 1 ≠ b by omega) (.int .i64 0)).far (p := ⟨b, 4, none⟩) (show b + 1 ≠ b by omega) (.int .i64 0)).set_ 0 _).far (p := ⟨b + 1 + 1, 0, none⟩) (show b + 1 ≠ b + 1 + 1 by omega) _).drew
  · exact (((((((h.q4.far (p := ⟨b, 0, none⟩) (show b + 1 + 1 ≠ b by omega) (.slice none 0 0)).far (p := ⟨b, 1, none⟩) (show b + 1 + 1 ≠ b by omega) (.int .i64 0)).far (p := ⟨b, 2, none⟩) (show b + 1 + 1 ≠ b by omega) (.int .i64 0)).far (p := ⟨b, 3, none⟩) (show b + 1 + 1 ≠ b by omega) (.int .i64 0)).far (p := ⟨b, 4, none⟩) (show b + 1 + 1 ≠ b by omega) (.int .i64 0)).far (p := ⟨b + 1, 0, none⟩) (show b + 1 + 1 ≠ b + 1 by omega) _).set_ 0 _).drew
  · exact (((((((h.low.setCell (p := ⟨b, 0, none⟩) (Nat.le_refl b) (.slice none 0 0)).setCell (p := ⟨b, 1, none⟩) (Nat.le_refl b) (.int .i64 0)).setCell (p := ⟨b, 2, none⟩) (Nat.le_refl b) (.int .i64 0)).setCell (p := ⟨b, 3, none⟩) (Nat.le_refl b) (.int .i64 0)).setCell (p := ⟨b, 4, none⟩) (Nat.le_refl b) (.int .i64 0)).setCell (p := ⟨b + 1, 0, none⟩) (show b ≤ b + 1 by omega) _).setCell (p := ⟨b + 1 + 1, 0, none⟩) (show b ≤ b + 1 + 1 by omega) _).drew
  · have h0 := h.le
    rw [drew_size, size_set, size_set, size_set, size_set, size_set, size_set, size_set]
    exact h0
theorem PaW.kept {b : Nat} {w W W' : World} {z : Ar} {i : Nat} (h : PaW b w z i W) (hb : Below W.heap.size W W') : PaW b w z i W' := by
  obtain ⟨v, hy⟩ := h.ar
  exact ⟨⟨v, hy.kept hb⟩, h.nb.kept hb, h.q2.kept hb, h.q3.kept hb, h.q4.kept hb, h.low.trans (hb.mono (by have := h.le; omega)), Nat.le_trans h.le hb.size⟩
theorem PaW.after {b : Nat} {w W W' : World} {z z' : Ar} {i : Nat} (h : PaW b w z i W) {v : Value} (hY : ArO (b + 1 + 1 + 1 + 1 + 1 + 1 + 1) (b + 1 + 1 + 1 + 1) z' v W')
    (hF : Fr1 (b + 1 + 1 + 1 + 1 + 1 + 1 + 1) (b + 1 + 1 + 1 + 1) W W') : PaW b w z' i W' :=
  ⟨⟨v, hY⟩, (hF.low _ (by omega) (by omega)).trans h.nb, (hF.low _ (by omega) (by omega)).trans h.q2, (hF.low _ (by omega) (by omega)).trans h.q3, (hF.low _ (by omega) (by omega)).trans h.q4,
    h.low.trans ⟨hF.os, hF.tape, hF.output, hF.size, fun k hk => hF.low k (by omega) (by omega)⟩, Nat.le_trans h.le hF.size⟩
theorem PaW.next {b : Nat} {w W : World} {z : Ar} {i : Nat} (h : PaW b w z i W) : PaW b w z (i + 1) (W.setCell ⟨b + 1 + 1 + 1 + 1 + 1, 0, none⟩ (.int .i64 ((i : Int) + 1))) := by
  obtain ⟨v, hy⟩ := h.ar
  refine ⟨⟨v, hy.set h.nb (by omega) (by decide) 0 _⟩, h.nb.set_ 0 _, h.q2.far (p := ⟨b + 1 + 1 + 1 + 1 + 1, 0, none⟩) (show b ≠ b + 1 + 1 + 1 + 1 + 1 by omega) _, h.q3.far (p := ⟨b + 1 + 1 + 1 + 1 + 1, 0, none⟩) (show b + 1 ≠ b + 1 + 1 + 1 + 1 + 1 by omega) _, h.q4.far (p := ⟨b + 1 + 1 + 1 + 1 + 1, 0, none⟩) (show b + 1 + 1 ≠ b + 1 + 1 + 1 + 1 + 1 by omega) _, h.low.setCell (p := ⟨b + 1 + 1 + 1 + 1 + 1, 0, none⟩) (show b ≤ b + 1 + 1 + 1 + 1 + 1 by omega) _, ?_⟩
  have h0 := h.le
  rw [size_set]
  exact h0
set_option maxHeartbeats 4000000 in
theorem PaW.fin {b : Nat} {w W : World} {z : Ar} {i : Nat} (h : PaW b w z i W) {v : Value} (hY : ArO (b + 1 + 1 + 1 + 1 + 1 + 1 + 1) (b + 1 + 1 + 1 + 1) z v W) :
    ∀ W', W' = ((((((W.setCell ⟨b, 0, none⟩ v).setCell ⟨b, 1, none⟩ (.int .i64 z.lo)).setCell ⟨b, 2, none⟩ (.int .i64 z.hi)).setCell ⟨b, 3, none⟩ (.int .i64 z.cur)).setCell ⟨b, 4, none⟩ (.int .i64 z.lim)).setCell ⟨b + 1, 0, none⟩ (.int .i64 0)).setCell ⟨b + 1 + 1, 0, none⟩ (.int .i64 0) →
    Blk W' b 36 #[v, .int .i64 z.lo, .int .i64 z.hi, .int .i64 z.cur, .int .i64 z.lim] ∧ Blk W' (b + 1) 3 #[.int .i64 0] ∧ Blk W' (b + 1 + 1) 31 #[.int .i64 0] ∧ Below b w W' ∧ ArO (b + 1 + 1 + 1 + 1 + 1 + 1 + 1) (b + 1 + 1 + 1 + 1) z v W' := by
  rintro W' rfl
  have d1 := h.q2.set_ 0 v
  have d2 := d1.set_ 1 (.int .i64 z.lo)
  have d3 := d2.set_ 2 (.int .i64 z.hi)
  have d4 := d3.set_ 3 (.int .i64 z.cur)
  have y1 := hY.set h.q2 (by omega) (by decide) 0 v
  have y2 := y1.set d1 (by omega) (by decide) 1 (.int .i64 z.lo)
  have y3 := y2.set d2 (by omega) (by decide) 2 (.int .i64 z.hi)
  have y4 := y3.set d3 (by omega) (by decide) 3 (.int .i64 z.cur)
  have y5 := y4.set d4 (by omega) (by decide) 4 (.int .i64 z.lim)
  have q2 := put5_blk (v0 := v) (v1 := .int .i64 z.lo) (v2 := .int .i64 z.hi) (v3 := .int .i64 z.cur) (v4 := .int .i64 z.lim) h.q2
  have q3 := put5_far (b := b) (v0 := v) (v1 := .int .i64 z.lo) (v2 := .int .i64 z.hi) (v3 := .int .i64 z.cur) (v4 := .int .i64 z.lim) h.q3 (show b + 1 ≠ b by omega)
  have q4 := put5_far (b := b) (v0 := v) (v1 := .int .i64 z.lo) (v2 := .int .i64 z.hi) (v3 := .int .i64 z.cur) (v4 := .int .i64 z.lim) h.q4 (show b + 1 + 1 ≠ b by omega)
  have ql := put5_low (b := b) (v0 := v) (v1 := .int .i64 z.lo) (v2 := .int .i64 z.hi) (v3 := .int .i64 z.cur) (v4 := .int .i64 z.lim) h.low (Nat.le_refl b)
  have y6 := y5.set q3 (by omega) (by decide) 0 (.int .i64 0)
  have q4' := q4.far (p := ⟨b + 1, 0, none⟩) (show b + 1 + 1 ≠ b + 1 by omega) (.int .i64 0)
  have y7 := y6.set q4' (by omega) (by decide) 0 (.int .i64 0)
  exact ⟨(q2.far (p := ⟨b + 1, 0, none⟩) (show b ≠ b + 1 by omega) _).far (p := ⟨b + 1 + 1, 0, none⟩) (show b ≠ b + 1 + 1 by omega) _, (q3.set_ 0 _).far (p := ⟨b + 1 + 1, 0, none⟩) (show b + 1 ≠ b + 1 + 1 by omega) _, q4'.set_ 0 _, (ql.setCell (p := ⟨b + 1, 0, none⟩) (show b ≤ b + 1 by omega) _).setCell (p := ⟨b + 1 + 1, 0, none⟩) (show b ≤ b + 1 + 1 by omega) _, y7⟩
/-- Either line, in one form. -/
theorem read_any (base g : Nat) (y : Ar) (v : Value) (i : Nat) (s : ByteArray) (w : World) (hA : ArO base g y v w) (hb : base ≤ w.heap.size) (hg : g < base) (hs : s.size ≤ 90000) (hym : y.m.length ≤ 400) :
    Calls Tryz.prog 85 #[.pointer (some ⟨g, 0, none⟩), .string s, .bool ((i : Int) == 0)] w fun e w' => ∃ y' v', e = .returned (.bool (rowA y i (spL s 32)).1) ∧ ArO base g y' v' w' ∧ Fr1 base g w w' ∧ ((rowA y i (spL s 32)).1 = true → y' = (rowA y i (spL s 32)).2) := by
  by_cases h0 : i = 0
  · have e : ∀ ws, rowA y i ws = (headR ws, headV y ws) := fun ws => if_pos h0
    rw [e, show ((i : Int) == 0) = true by simp [h0]]
    refine (readH_any base g y v s w hA hb hg hs).mono ?_
    rintro e w' ⟨y', h1, h2, h3, h4⟩
    exact ⟨y', v, h1, h2, h3, h4⟩
  · have e : ∀ ws, rowA y i ws = (modR ws, { y with m := y.m ++ [modV ws] }) := fun ws => if_neg h0
    rw [e, show ((i : Int) == 0) = false by simp; omega]
    refine (readM_any base g y v s w hA hb hg hs hym).mono ?_
    rintro e w' ⟨v', h1, h2, h3⟩
    exact ⟨_, v', h1, h2, h3, fun h => modS_yes h y⟩
set_option maxRecDepth 100000 in
set_option maxHeartbeats 8000000 in
theorem Parse_bad (s : ByteArray) (w : World) (h : 4096 < s.size ∨ s.size = 0) : Calls Tryz.prog 24 #[.string s] w (PaRes w (nilA, 0, if 4096 < s.size then 26 else 25)) := by
  have HW := Lib.hid (fun (q : Bool) k W => awhen_any q k W)
  obtain ⟨er, her⟩ : ∃ er : Int, (if 4096 < s.size then 26 else 25) = er := ⟨_, rfl⟩
  rw [her]
  have h1 : decide ((4096 : Int) < (s.size : Int)) = decide (4096 < s.size) := by rw [decide_eq_decide]; omega
  have h2 : s.toList.isEmpty = decide (s.size = 0) := by
    by_cases h0 : s.size = 0
    · rw [(str_nil h0).2, decide_eq_true h0]
    · rw [str_some (by omega), decide_eq_false h0]
  have HF : Hid (firstE [whenE (decide (4096 < s.size)) 26, whenE (decide (s.size = 0)) 25] = er) := Lib.hid (by
    rw [first2, ← her]
    rcases h with h | h
    · rw [decide_eq_true h, if_pos h]; rfl
    · rw [decide_eq_false (by omega), decide_eq_true h, if_neg (by omega)]; rfl)
  have hne : (er != 0) = true := by rw [← her]; split <;> rfl
  have HE := Lib.hid her
  clear her h
  generalize decide (4096 < s.size) = q1 at *
  generalize decide (s.size = 0) = q2 at *
  go_enter Tryz.func24, Tryz.ntmps24
  go_wp2_with fail
  refine (HW.out _ _ _).mono ?_
  rintro e w1 ⟨rfl, rfl⟩
  go_wp2_with fail
  refine (HW.out _ _ _).mono ?_
  rintro e w2 ⟨rfl, rfl⟩
  go_wp2_with fail
  refine (afirst_any (w.heap.size + 1 + 1 + 1 + 1) _ 2 2 [whenE q1 26, whenE q2 25] _ (by simpa using Reads.new (size := 1) (((w.alloc (.cells #[.slice none 0 0, .int .i64 0, .int .i64 0, .int .i64 0, .int .i64 0] 36)).alloc (.cells #[.int .i64 0] 3)).alloc (.cells #[.int .i64 0] 31)) (([whenE q1 26, whenE q2 25]).map (.int .i64)).toArray 31 2 rfl) (by unfold maxLen; decide)).mono ?_
  rintro e w3 ⟨rfl, rfl⟩
  rw [HF.out]
  go_wp2_with fail
  refine bodyPost_ret (v := .tuple #[.agg #[.slice none 0 0, .int .i64 0, .int .i64 0, .int .i64 0, .int .i64 0], .int .i64 0, .int .i64 er]) ?_ rfl (pa_nil 0 er bl_)
  have ck := (bk_ : Blk ((((w.alloc (.cells #[.slice none 0 0, .int .i64 0, .int .i64 0, .int .i64 0, .int .i64 0] 36)).alloc (.cells #[.int .i64 0] 3)).alloc (.cells #[.int .i64 er] 31)).alloc (.cells #[.int .i64 (whenE q1 26), .int .i64 (whenE q2 25)] 31)) w.heap.size 36 #[.slice none 0 0, .int .i64 0, .int .i64 0, .int .i64 0, .int .i64 0]).cell
  have ck1 := (bk_ : Blk ((((w.alloc (.cells #[.slice none 0 0, .int .i64 0, .int .i64 0, .int .i64 0, .int .i64 0] 36)).alloc (.cells #[.int .i64 0] 3)).alloc (.cells #[.int .i64 er] 31)).alloc (.cells #[.int .i64 (whenE q1 26), .int .i64 (whenE q2 25)] 31)) (w.heap.size + 1) 3 #[.int .i64 0]).cell
  have ck2 := (bk_ : Blk ((((w.alloc (.cells #[.slice none 0 0, .int .i64 0, .int .i64 0, .int .i64 0, .int .i64 0] 36)).alloc (.cells #[.int .i64 0] 3)).alloc (.cells #[.int .i64 er] 31)).alloc (.cells #[.int .i64 (whenE q1 26), .int .i64 (whenE q2 25)] 31)) (w.heap.size + 1 + 1) 31 #[.int .i64 er]).cell
  simp [results, Tryz.results24, go_sem, ck, ck1, ck2]
set_option maxRecDepth 100000 in
set_option maxHeartbeats 8000000 in
theorem Parse_short (s : ByteArray) (w : World) (h0 : s.size ≠ 0) (hs : s.size ≤ 4096) (hpn : (pieces s).length ≤ 300) : Calls Tryz.prog 24 #[.string s] w (PaRes w (goN nilA 0 (pieces s))) := by
  have h1 : decide ((4096 : Int) < (s.size : Int)) = false := by simp; omega
  have h2 := str_some (s := s) (by omega)
  have HW := Lib.hid (fun (q : Bool) k W => awhen_any q k W)
  have HF : Hid (firstE [whenE false 26, whenE false 25] = 0) := Lib.hid (by decide)
  refine (callsIn_wide (n := 9)).1 ?_
  refine callsIn_of_wp_marks Tryz.func24 rfl trivial ?_ rfl
  refine wpIn_wide.2 ?_
  simp only [Tryz.ntmps24, List.size_toArray, List.length_cons, List.length_nil, Nat.reduceAdd, Nat.reduceSub, Array.replicate_succ, Array.replicate_zero, List.push_toArray, List.append_toArray, List.nil_append, List.cons_append]
  go_wp2_with fail
  refine (HW.out _ _ _).mono ?_
  rintro e w1 ⟨rfl, rfl⟩
  go_wp2_with fail
  refine (HW.out _ _ _).mono ?_
  rintro e w2 ⟨rfl, rfl⟩
  go_wp2_with fail
  refine (afirst_any (w.heap.size + 1 + 1 + 1 + 1) _ 2 2 [whenE false 26, whenE false 25] _ (by simpa using Reads.new (size := 1) (((w.alloc (.cells #[.slice none 0 0, .int .i64 0, .int .i64 0, .int .i64 0, .int .i64 0] 36)).alloc (.cells #[.int .i64 0] 3)).alloc (.cells #[.int .i64 0] 31)) (([whenE false 26, whenE false 25]).map (.int .i64)).toArray 31 2 rfl) (by unfold maxLen; decide)).mono ?_
  rintro e w3 ⟨rfl, rfl⟩
  rw [HF.out]
  go_wp2_with fail
  refine (Lines_any s _).mono ?_
  rintro e wb ⟨rfl, hwb⟩
  have hsb : wb.heap.size = w.heap.size + 1 + 1 + 1 + 1 + 1 + 1 + 1 := by rw [← hwb]; simp
  have hbw : Below w.heap.size w wb := by rw [← hwb]; exact bl_
  have hbox : Blk wb (w.heap.size + 1 + 1 + 1 + 1 + 1 + 1) 9 #[.string s] := by rw [← hwb]; exact bk_
  have H0 : Hid (PaW w.heap.size w nilA 0 wb) := Lib.hid (by
    rw [← hwb]
    exact ⟨⟨.slice none 0 0, (show Blk _ _ _ #[.slice none 0 0, .int .i64 0, .int .i64 0, .int .i64 0, .int .i64 0] from bk_), World.ownsRow_nil _ _ _ _⟩, (show Blk _ _ _ #[.int .i64 0] from bk_), bk_, bk_, bk_, bl_, by simp⟩)
  clear hwb
  simp only [World.size_alloc]
  go_wp2_with fail
  refine (wpIn_wide (n := 9)).1 ?_
  refine range_box rfl (by omega) (gf := 135) (lb := #[.pointer (some ⟨w.heap.size + 1 + 1 + 1 + 1 + 1 + 1, 0, none⟩)]) rfl trivial (enters_of Tryz.func135 (by kernel_rfl) rfl) (gb := w.heap.size + 1 + 1 + 1 + 1 + 1 + 1) (by omega)
    (lines_box 8 (w.heap.size + 1 + 1 + 1 + 1 + 1 + 1) s wb (by omega) (by omega) hbox) (fun _ => rfl) (PaI w.heap.size w) (PaX w.heap.size w) (PaI.at_ _ _ _ (by omega)) (PaX.at_ _ _ _ (by omega)) ⟨nilA, rfl, H0.out⟩
    (fun x => { tmps := #[.string s, undef, .pointer (some ⟨w.heap.size, 0, none⟩), .pointer (some ⟨w.heap.size + 1, 0, none⟩), .pointer (some ⟨w.heap.size + 1 + 1, 0, none⟩), .int .i64 0, .pointer (some ⟨w.heap.size + 1 + 1 + 1 + 1, 0, none⟩), .pointer (some ⟨w.heap.size + 1 + 1 + 1 + 1 + 1, 0, none⟩), .string x.x, undef, undef, undef, .string s, .int .i64 (s.size : Int), .bool false, .int .i64 (whenE false 26), .string s, .bool false, .int .i64 (whenE false 25), .slice (some ⟨w.heap.size + 1 + 1 + 1, 0, none⟩) 2 2, .int .i64 0, .int .i64 0, .bool false, undef, undef, .string s, .func (.func 135) #[] #[.pointer (some ⟨w.heap.size + 1 + 1 + 1 + 1 + 1 + 1, 0, none⟩)], .string x.x, undef, undef, undef, undef, undef, undef, undef, undef, undef, undef, undef, undef, undef, undef, undef, undef, undef, undef, undef, undef, undef, undef, undef, undef, undef, undef], defers := [] })
    ?assign ?body ?done ?stop
  case assign =>
    rintro l x W K hK
    dsimp only [pcV]
    gi_wp2
    exact hK
  case body =>
    rintro l pre x W ⟨z, hz, hP⟩ hlen
    dsimp only
    have HP := Lib.hid hP
    have cn := hP.nb.cell
    have fn := hP.nb.frozen
    have ln := hP.nb.lt
    have l2 := hP.q2.lt
    have l3 := hP.q3.lt
    have l4 := hP.q4.lt
    have HC := Lib.hid (fun W => CutSuffix_any x.x W (Nat.le_trans x.h (by decide)))
    clear hP
    cases hq : endB x.x with
    | false =>
      rw [hq] at HC
      simp only [if_false, Bool.false_eq_true] at HC
      have hst : Hid (pcA z pre.length x.x = (false, z)) := Lib.hid (by unfold pcA; rw [hq]; rfl)
      have c2 := HP.out.q2.cell
      have f2 := HP.out.q2.frozen
      have c3 := HP.out.q3.cell
      have f3 := HP.out.q3.frozen
      have c4 := HP.out.q4.cell
      have f4 := HP.out.q4.frozen
      gi_wp2_with (refine ⟨trivial, ?_⟩; gi_at_call 84; refine (CallsIn.inRound l (callsIn_wide.2 (HC.out _))).mono ?_; rintro e w1 ⟨rfl, rfl⟩)
      refine ⟨trivial, ?_⟩
      gi_wp2
      have mixed : Tryz.prog.follows .mixedOrders = true := by kernel_rfl
      gi_region_with_o fail
      all_goals
        gi_wp2
        exact ⟨(HP.out.fail _).1, pre, x, z, rfl, hz, by rw [hst.out], (HP.out.fail wb.heap.size).2⟩
    | true =>
      rw [hq] at HC
      simp only [if_true] at HC
      have hst : Hid (pcA z pre.length x.x = rowA z pre.length (spL (cutB x.x) 32)) := Lib.hid (by unfold pcA; rw [hq]; rfl)
      obtain ⟨v, hY⟩ := HP.out.ar
      have hcs : (cutB x.x).size ≤ 90000 := by
        have := x.h
        unfold cutB
        rw [ByteArray.size_extract]
        omega
      have hle := HP.out.le
      have hLn := runN_len (M := 90000) (pre.map Pc.x) 0 0 nilA z (lenA_nil _) (fun u hu => by
        obtain ⟨c, _, rfl⟩ := List.mem_map.1 hu
        exact c.h) hz
      have hml : (pre.map Pc.x).length = pre.length := List.length_map _
      rw [hml] at hLn
      have HRd := Lib.hid (read_any (w.heap.size + 1 + 1 + 1 + 1 + 1 + 1 + 1) (w.heap.size + 1 + 1 + 1 + 1) z v pre.length (cutB x.x) W hY hle (by omega) hcs (by have := hLn.m; omega))
      rw [← hst.out] at HRd
      have HZ := Lib.hid hz
      clear hz hY hcs hLn hml
      gi_wp2_with (refine ⟨trivial, ?_⟩; gi_at_call 84; refine (CallsIn.inRound l (callsIn_wide.2 (HC.out _))).mono ?_; rintro e w1 ⟨rfl, rfl⟩)
      refine ⟨trivial, ?_⟩
      gi_at_call 85
      refine (CallsIn.inRound l (callsIn_wide.2 HRd.out)).mono ?_
      rintro e w1 ⟨y', v', rfl, hYn, hFr, hyy⟩
      have HA := Lib.hid (HP.out.after hYn hFr)
      have HFr := Lib.hid hFr
      have HYY := Lib.hid hyy
      clear hYn hFr hyy cn fn ln l2 l3 l4 HC HRd hst
      have hsn := Lib.hid (runN_snoc x.x (pre.map Pc.x) nilA z 0 HZ.out)
      rw [List.length_map, Nat.zero_add] at hsn
      have cn := HA.out.nb.cell
      have fn := HA.out.nb.frozen
      have ln := HA.out.nb.lt
      have l2 := HA.out.q2.lt
      have l3 := HA.out.q3.lt
      have l4 := HA.out.q4.lt
      have c2 := HA.out.q2.cell
      have f2 := HA.out.q2.frozen
      have c3 := HA.out.q3.cell
      have f3 := HA.out.q3.frozen
      have c4 := HA.out.q4.cell
      have f4 := HA.out.q4.frozen
      cases hqq : (pcA z pre.length x.x).1 with
      | true =>
        rw [if_pos hqq, ← HYY.out hqq] at hsn
        have hpl : pre.length ≤ 400 := by omega
        gi_wp2
        exact ⟨(HFr.out.oth.trans (KeepsOthers.setCell _ _ _)).from _, (Below.heap_setCell w1 ⟨w.heap.size + 1 + 1 + 1 + 1 + 1, 0, none⟩ _ _ (show w.heap.size + 1 + 1 + 1 + 1 + 1 + 1 ≠ w.heap.size + 1 + 1 + 1 + 1 + 1 by omega)).trans (HFr.out.low _ (by omega) (by omega)), y', by rw [List.map_append]; exact hsn.out, by rw [List.length_append]; exact HA.out.next⟩
      | false =>
        have HQ := Lib.hid hqq
        clear hqq hsn
        gi_wp2
        have mixed : Tryz.prog.follows .mixedOrders = true := by kernel_rfl
        gi_region_with_o fail
        all_goals
          gi_wp2
          exact ⟨(HFr.out.oth.from _).trans (HA.out.fail _).1, pre, x, z, rfl, HZ.out, HQ.out, (HA.out.fail wb.heap.size).2⟩
  case done =>
    rintro D xs W hD hS ⟨z, hz, hP⟩ hK
    dsimp only
    have HP := Lib.hid hP
    have HK := Lib.hid hK
    have HD := Lib.hid hD
    have hgo : Hid (goN nilA 0 (pieces s) = if armE z = 0 then (z, 0, 0) else (nilA, xs.length, armE z)) := Lib.hid (by
      have h := goN_run (xs.map Pc.x) [] nilA z 0 hz
      rw [List.append_nil, hS, ← hS, List.length_map, Nat.zero_add, hS] at h
      rw [h]
      rfl)
    obtain ⟨v, hY⟩ := hP.ar
    obtain ⟨A0, c0, rfl, hc0, _, hyat⟩ := own_form hY.r0
    have hxl : xs.length ≤ 300 := by
      have h1 := congrArg List.length hS
      rw [List.length_map] at h1
      omega
    have hLn := runN_len (M := 90000) (xs.map Pc.x) 0 0 nilA z (lenA_nil _) (fun u hu => by
      obtain ⟨c, _, rfl⟩ := List.mem_map.1 hu
      exact c.h) hz
    have hml : (xs.map Pc.x).length = xs.length := List.length_map _
    rw [hml] at hLn
    have hFt : FitL z := ⟨by have := hLn.m; omega, fun u hu => Nat.le_trans (hLn.nm u hu) (by unfold maxLen; decide)⟩
    have HC := Lib.hid (CheckArmL_any W.heap.size A0 z.m.length c0 z W hyat (Nat.le_refl _) hFt hc0)
    have cY := hY.box.cell
    have lY := hY.box.lt
    have HY := Lib.hid hY
    have HC0 := Lib.hid hc0
    clear hS hP hK hz hY hyat hLn hml hFt
    go_wp2_with fail
    refine HC.out.mono ?_
    (rintro e w1 ⟨rfl, hb1⟩; have hs1 := hb1.size; (try simp at hs1))
    have HY1 := Lib.hid (HY.out.kept hb1)
    have HP1 := Lib.hid (HP.out.kept hb1)
    have HK1 : Hid (w1.heap[D]? = some (.deferred (some []))) := Lib.hid ((hb1.block D (Array.getElem?_eq_some_iff.1 HK.out).1).trans HK.out)
    have hnD : ∀ k, k < w.heap.size + 7 → k ∉ [D] := fun k hk h => by rw [List.mem_singleton.1 h] at hk; have := HD.out; omega
    have HND := Lib.hid hnD
    have hle := HP1.out.le
    have hDl : D < w1.heap.size := (Array.getElem?_eq_some_iff.1 HK1.out).1
    have cY1 := HY1.out.box.cell
    have lY1 := HY1.out.box.lt
    have cn := HP1.out.nb.cell
    have ln := HP1.out.nb.lt
    clear hnD HC HY HK cY lY
    by_cases he : armE z = 0
    · have HG : Hid (goN nilA 0 (pieces s) = (z, 0, 0)) := Lib.hid (by rw [hgo.out, if_pos he])
      rw [he]
      clear hgo
      have k2 := HP1.out.q2.cell
      have f2 := HP1.out.q2.frozen
      have l2 := HP1.out.q2.lt
      have k3 := HP1.out.q3.cell
      have f3 := HP1.out.q3.frozen
      have l3 := HP1.out.q3.lt
      have k4 := HP1.out.q4.cell
      have f4 := HP1.out.q4.frozen
      have l4 := HP1.out.q4.lt
      go_wp2_with fail
      obtain ⟨W5, hW5⟩ : ∃ W5, W5 = ((((((w1.setCell ⟨w.heap.size, 0, none⟩ (.slice A0 z.m.length c0)).setCell ⟨w.heap.size, 1, none⟩ (.int .i64 z.lo)).setCell ⟨w.heap.size, 2, none⟩ (.int .i64 z.hi)).setCell ⟨w.heap.size, 3, none⟩ (.int .i64 z.cur)).setCell ⟨w.heap.size, 4, none⟩ (.int .i64 z.lim)).setCell ⟨w.heap.size + 1, 0, none⟩ (.int .i64 0)).setCell ⟨w.heap.size + 1 + 1, 0, none⟩ (.int .i64 0) := ⟨_, rfl⟩
      rw [← hW5]
      obtain ⟨g2, g3, g4, glow, gy5⟩ := HP1.out.fin HY1.out W5 hW5
      have hKD : W5.heap[D]? = some (.deferred (some [])) := by
        rw [hW5, Below.heap_setCell _ _ _ _ (show D ≠ w.heap.size + 1 + 1 by have := HD.out; omega), Below.heap_setCell _ _ _ _ (show D ≠ w.heap.size + 1 by have := HD.out; omega), Below.heap_setCell _ _ _ _ (show D ≠ w.heap.size by have := HD.out; omega), Below.heap_setCell _ _ _ _ (show D ≠ w.heap.size by have := HD.out; omega), Below.heap_setCell _ _ _ _ (show D ≠ w.heap.size by have := HD.out; omega), Below.heap_setCell _ _ _ _ (show D ≠ w.heap.size by have := HD.out; omega), Below.heap_setCell _ _ _ _ (show D ≠ w.heap.size by have := HD.out; omega)]
        exact HK1.out
      refine leaves_marks w.heap.size [D] W5 (by simp) (fun E hE => by simp at hE; subst hE; exact hKD) (fun E hE => by simp at hE; subst hE; have := HD.out; omega) fun w' hw' hkk hs => ?_
      have ck2 := (show Blk w' _ _ _ from (hkk _ (HND.out _ (by omega))).trans g2).cell
      have ck3 := (show Blk w' _ _ _ from (hkk _ (HND.out _ (by omega))).trans g3).cell
      have ck4 := (show Blk w' _ _ _ from (hkk _ (HND.out _ (by omega))).trans g4).cell
      refine ⟨.tuple #[.agg #[.slice A0 z.m.length c0, .int .i64 z.lo, .int .i64 z.hi, .int .i64 z.cur, .int .i64 z.lim], .int .i64 0, .int .i64 0], by simp [results, Tryz.results24, go_sem, ck2, ck3, ck4], ?_⟩
      rw [HG.out]
      have gyw := gy5.keep (W' := w') (fun k t d hd _ => hkk k (fun hk => by
        rw [List.mem_singleton.1 hk] at hd
        rw [show W5.heap[D]? = _ from hd] at hKD
        cases hKD))
      obtain ⟨A1, c1, e1, hm1⟩ := gyw.at_
      cases e1
      exact ⟨A0, c0, rfl, hm1, HC0.out, glow.trans hw'⟩
    · have HG : Hid (goN nilA 0 (pieces s) = (nilA, xs.length, armE z)) := Lib.hid (by rw [hgo.out, if_neg he])
      clear hgo
      generalize armE z = ee at *
      have hne : (ee != 0) = true := by simpa using he
      go_wp2_with fail
      (refine wp_region_calm [w.heap.size, w.heap.size + 1, w.heap.size + 1 + 1] [0, 1, 2] 3 (by kernel_rfl) rfl (by kernel_rfl) (by kernel_rfl) (by kernel_rfl) ?_; simp only [pickB, List.filterMap_cons, List.filterMap_nil, List.getElem?_toArray, List.getElem?_cons_zero, List.getElem?_cons_succ]; (repeat (first | ((first | (with_reducible refine quietL_plain rfl (fun K hK => ?_)) | (with_reducible refine quietL_want (by with_unfolding_all rfl) (fun K hK => ?_))); (apply Exists.intro; refine ⟨fun wx hx => ?_, ?_⟩; (· (have hcx := ifs_ex hx); simp [go_sem, *, ↓IntWalk.iteOmega] <;> (first | rfl | exact ⟨rfl, rfl⟩ | fail)); (simp only [Act.put, List.setIfInBounds_toArray, List.set_cons_zero, List.set_cons_succ]; refine hK _ ?_; clear hK K))) | ((with_reducible refine quietL_skip (by with_unfolding_all rfl) ?_); simp only [Act.put, List.setIfInBounds_toArray, List.set_cons_zero, List.set_cons_succ]))); refine quietL_nil ?_)
      refine anyB_one (i := 3) (by kernel_rfl) rfl rfl ?_
      intro wa hba K hK
      have HPa := Lib.hid (HP1.out.kept hba)
      have k2 := HPa.out.q2.cell
      have f2 := HPa.out.q2.frozen
      have l2 := HPa.out.q2.lt
      have hsa := hba.size
      have HA2 := Lib.hid (put5_blk (v0 := .slice none 0 0) (v1 := .int .i64 0) (v2 := .int .i64 0) (v3 := .int .i64 0) (v4 := .int .i64 0) HPa.out.q2)
      have HA3 := Lib.hid (put5_far (b := w.heap.size) (v0 := .slice none 0 0) (v1 := .int .i64 0) (v2 := .int .i64 0) (v3 := .int .i64 0) (v4 := .int .i64 0) HPa.out.q3 (show w.heap.size + 1 ≠ w.heap.size by omega))
      have HA4 := Lib.hid (put5_far (b := w.heap.size) (v0 := .slice none 0 0) (v1 := .int .i64 0) (v2 := .int .i64 0) (v3 := .int .i64 0) (v4 := .int .i64 0) HPa.out.q4 (show w.heap.size + 1 + 1 ≠ w.heap.size by omega))
      have HAL := Lib.hid (put5_low (b := w.heap.size) (v0 := .slice none 0 0) (v1 := .int .i64 0) (v2 := .int .i64 0) (v3 := .int .i64 0) (v4 := .int .i64 0) HPa.out.low (Nat.le_refl _))
      have HAD : Hid ((((((wa.setCell ⟨w.heap.size, 0, none⟩ (.slice none 0 0)).setCell ⟨w.heap.size, 1, none⟩ (.int .i64 0)).setCell ⟨w.heap.size, 2, none⟩ (.int .i64 0)).setCell ⟨w.heap.size, 3, none⟩ (.int .i64 0)).setCell ⟨w.heap.size, 4, none⟩ (.int .i64 0)).heap[D]? = some (.deferred (some []))) := Lib.hid (by
        rw [Below.heap_setCell _ _ _ _ (show D ≠ w.heap.size by have := HD.out; omega), Below.heap_setCell _ _ _ _ (show D ≠ w.heap.size by have := HD.out; omega), Below.heap_setCell _ _ _ _ (show D ≠ w.heap.size by have := HD.out; omega), Below.heap_setCell _ _ _ _ (show D ≠ w.heap.size by have := HD.out; omega), Below.heap_setCell _ _ _ _ (show D ≠ w.heap.size by have := HD.out; omega)]
        exact (hba.block D hDl).trans HK1.out)
      have HE5 := Lib.hid (fun V p u => size_set V p u)
      have HAs : Hid ((((((wa.setCell ⟨w.heap.size, 0, none⟩ (.slice none 0 0)).setCell ⟨w.heap.size, 1, none⟩ (.int .i64 0)).setCell ⟨w.heap.size, 2, none⟩ (.int .i64 0)).setCell ⟨w.heap.size, 3, none⟩ (.int .i64 0)).setCell ⟨w.heap.size, 4, none⟩ (.int .i64 0)).heap.size = wa.heap.size) := Lib.hid (by rw [HE5.out, HE5.out, HE5.out, HE5.out, HE5.out])
      go_wp2
      refine ⟨xs_, ?_⟩
      refine anyB_one (i := 4) (by kernel_rfl) rfl rfl ?_
      intro wb' hbb K hK
      have HB2 := Lib.hid (HA2.out.kept hbb)
      have HB3 := Lib.hid (HA3.out.kept hbb)
      have HB4 := Lib.hid (HA4.out.kept hbb)
      have hsB := hbb.size
      rw [HAs.out] at hsB
      have HBL := Lib.hid (HAL.out.trans (hbb.mono (by rw [HAs.out]; omega)))
      have HBD := Lib.hid ((hbb.block D (by rw [HAs.out]; omega)).trans HAD.out)
      have k3 := HB3.out.cell
      have f3 := HB3.out.frozen
      have l3 := HB3.out.lt
      go_wp2
      refine ⟨xs_, ?_⟩
      refine anyB_one (i := 5) (by kernel_rfl) rfl rfl ?_
      intro wc' hbc K hK
      have HC2 := Lib.hid ((HB2.out.far (p := ⟨w.heap.size + 1, 0, none⟩) (show w.heap.size ≠ w.heap.size + 1 by omega) (.int .i64 (xs.length : Int))).kept hbc)
      have HC3 := Lib.hid ((HB3.out.set_ 0 (.int .i64 (xs.length : Int))).kept hbc)
      have HC4 := Lib.hid ((HB4.out.far (p := ⟨w.heap.size + 1, 0, none⟩) (show w.heap.size + 1 + 1 ≠ w.heap.size + 1 by omega) (.int .i64 (xs.length : Int))).kept hbc)
      have hsC := hbc.size
      rw [HE5.out] at hsC
      have HCL := Lib.hid ((HBL.out.setCell (p := ⟨w.heap.size + 1, 0, none⟩) (show w.heap.size ≤ w.heap.size + 1 by omega) (.int .i64 (xs.length : Int))).trans (hbc.mono (by rw [HE5.out]; omega)))
      have HCD := Lib.hid ((hbc.block D (by rw [HE5.out]; omega)).trans ((Below.heap_setCell _ _ _ _ (show D ≠ w.heap.size + 1 by have := HD.out; omega)).trans HBD.out))
      have k4 := HC4.out.cell
      have f4 := HC4.out.frozen
      have l4 := HC4.out.lt
      go_wp2
      refine ⟨xs_, ?_⟩
      refine anyB_end (by kernel_rfl) ?_
      intro wm hbm
      simp only [Calm]
      have HM2 := Lib.hid ((HC2.out.far (p := ⟨w.heap.size + 1 + 1, 0, none⟩) (show w.heap.size ≠ w.heap.size + 1 + 1 by omega) (.int .i64 ee)).kept hbm)
      have HM3 := Lib.hid ((HC3.out.far (p := ⟨w.heap.size + 1 + 1, 0, none⟩) (show w.heap.size + 1 ≠ w.heap.size + 1 + 1 by omega) (.int .i64 ee)).kept hbm)
      have HM4 := Lib.hid ((HC4.out.set_ 0 (.int .i64 ee)).kept hbm)
      have HML := Lib.hid ((HCL.out.setCell (p := ⟨w.heap.size + 1 + 1, 0, none⟩) (show w.heap.size ≤ w.heap.size + 1 + 1 by omega) (.int .i64 ee)).trans (hbm.mono (by rw [HE5.out]; omega)))
      have HMD := Lib.hid ((hbm.block D (by rw [HE5.out]; omega)).trans ((Below.heap_setCell _ _ _ _ (show D ≠ w.heap.size + 1 + 1 by have := HD.out; omega)).trans HCD.out))
      go_wp2_with fail
      refine leaves_marks w.heap.size [D] wm (by simp) (fun E hE => by simp at hE; subst hE; exact HMD.out) (fun E hE => by simp at hE; subst hE; have := HD.out; omega) fun w' hw' hkk hs => ?_
      have ck2 := (show Blk w' _ _ _ from (hkk _ (HND.out _ (by omega))).trans HM2.out).cell
      have ck3 := (show Blk w' _ _ _ from (hkk _ (HND.out _ (by omega))).trans HM3.out).cell
      have ck4 := (show Blk w' _ _ _ from (hkk _ (HND.out _ (by omega))).trans HM4.out).cell
      refine ⟨.tuple #[.agg #[.slice none 0 0, .int .i64 0, .int .i64 0, .int .i64 0, .int .i64 0], .int .i64 (xs.length : Int), .int .i64 ee], by simp [results, Tryz.results24, go_sem, ck2, ck3, ck4], ?_⟩
      rw [HG.out]
      exact pa_nil _ _ (HML.out.trans hw')
  case stop =>
    rintro D pre W hD ⟨r, hr⟩ ⟨pr, x, z, rfl, hz, hne, hE⟩ hK
    have hgo : Hid (goN nilA 0 (pieces s) = (nilA, pr.length, 25)) := Lib.hid (by
      rw [hr, List.map_append, List.append_assoc, goN_run (pr.map Pc.x) _ nilA z 0 hz, List.length_map, Nat.zero_add]
      exact goN_no hne _)
    have HE := Lib.hid hE
    have HK := Lib.hid hK
    rw [hgo.out]
    clear hr hz hne hE hK
    gi_wp2
    have hnD : ∀ k, k < w.heap.size + 7 → k ∉ [D] := fun k hk h => by rw [List.mem_singleton.1 h] at hk; omega
    refine leaves_marks w.heap.size [D] W (by simp) (fun E hE => by simp at hE; subst hE; exact HK.out) (fun E hE => by simp at hE; subst hE; omega) fun w' hw' hkk hs => ?_
    have ck2 := (show Blk w' _ _ _ from (hkk _ (hnD _ (by omega))).trans HE.out.q2).cell
    have ck3 := (show Blk w' _ _ _ from (hkk _ (hnD _ (by omega))).trans HE.out.q3).cell
    have ck4 := (show Blk w' _ _ _ from (hkk _ (hnD _ (by omega))).trans HE.out.q4).cell
    refine ⟨.tuple #[.agg #[.slice none 0 0, .int .i64 0, .int .i64 0, .int .i64 0, .int .i64 0], .int .i64 (pr.length : Int), .int .i64 25], by simp [results, Tryz.results24, go_sem, ck2, ck3, ck4], ?_⟩
    exact pa_nil _ _ (HE.out.low.trans hw')
/-- The program's Parse gives what the reference's parts give. -/
theorem Parse_any (s : ByteArray) (w : World) (hs : s.size ≤ 300 ∨ 4096 < s.size) : Calls Tryz.prog 24 #[.string s] w (PaRes w (parseA s)) := by
  rcases hs with h | h
  · by_cases h0 : s.size = 0
    · rw [parse_nil h0]
      have := Parse_bad s w (.inr h0)
      rwa [if_neg (by omega)] at this
    · rw [← parse_pieces (by omega) h0]
      exact Parse_short s w h0 (by omega) (Nat.le_trans (pieces_len s) h)
  · unfold parseA
    rw [if_pos h]
    have := Parse_bad s w (.inl h)
    rwa [if_pos h] at this
/-- The same where the text is longer, and its lines are few. -/
theorem Parse_lines (s : ByteArray) (w : World) (hs : s.size ≤ 4096) (hpn : (pieces s).length ≤ 300) : Calls Tryz.prog 24 #[.string s] w (PaRes w (parseA s)) := by
  by_cases h0 : s.size = 0
  · rw [parse_nil h0]
    have := Parse_bad s w (.inr h0)
    rwa [if_neg (by omega)] at this
  · rw [← parse_pieces (by omega) h0]
    exact Parse_short s w h0 hs hpn

end Go.Proofs.YtjanojmgnpfjeaaGreatDoor
