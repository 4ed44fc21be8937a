/- Run of the program: the arm after orders, or the index and the error of the first that is refused. -/
import Derived.Test.YtafnebfchhmgcaaGreatQm
namespace Go.Proofs.YtafnebfchhmgcaaGreat
open Go.RowKit Go.Sort Go.Shelf
set_option linter.unusedSimpArgs false
set_option linter.unusedVariables false
attribute [local go_sem] cell_if frozen_if grow_cell
theorem run1_any (g1 g2 n : Nat) (a : Ar) (o : Od) (w : World) : Calls Tryz.prog 52 #[.agg #[.int .i64 o.n, .int .i64 o.c], .agg #[.slice (some ⟨g1, 0, none⟩) n n, .int .i64 a.lo, .int .i64 a.hi, .int .i64 a.cur, .int .i64 a.lim], .agg #[.slice (some ⟨g2, 0, none⟩) n n, .int .i64 a.lo, .int .i64 a.hi, .int .i64 a.cur, .int .i64 a.lim]] w fun e w' => e = .returned (.tuple #[]) ∧ Below w.heap.size w w' := by
  go_enter Tryz.func52, Tryz.ntmps52
  go_wp2_with fail
  refine bodyPost_end (results_none rfl _ _ _) rfl ⟨rfl, bl_⟩
theorem run_each {a : Ar} {l : List Od} {n Bz : Nat} {w : World} (hz : Bz ≤ w.heap.size) : EachI Tryz.prog a l n 52 #[] Bz w (fun _ W => w.heap.size ≤ W.heap.size) := by
  refine ⟨fun W hW => hW.size, fun k W W' hG hK => Nat.le_trans hG hK.1, fun k hk W b g1 g2 hG hW hgo hs h1 h2 => ?_⟩
  refine (run1_any g1 g2 n a l[k] W).mono ?_
  rintro e w' ⟨rfl, hb⟩
  exact ⟨rfl, Nat.le_trans hG hb.size, hb.mono (Nat.le_trans hz hG), fun j t cs ht hj => hj.kept hb⟩
/-- What Run gives. -/
def RunRes (w : World) (a : Ar) (l : List Od) (n : Nat) (e : Ending) (w' : World) : Prop := Below w.heap.size w w' ∧
  ((∃ b g, ordsE a l = 0 ∧ goTo a l = some b ∧ e = .returned (.tuple #[.agg #[.slice (some ⟨g, 0, none⟩) n n, .int .i64 a.lo, .int .i64 a.hi, .int .i64 a.cur, .int .i64 a.lim], .int .i64 0, .int .i64 0]) ∧ BlkArm w' g b) ∨
  (ordsE a l ≠ 0 ∧ e = .returned (.tuple #[.agg #[.slice none 0 0, .int .i64 0, .int .i64 0, .int .i64 0, .int .i64 0], .int .i64 0, .int .i64 (ordsE a l)])) ∨
  (∃ k b, ∃ hk : k < l.length, ordsE a l = 0 ∧ goTo a (l.take k) = some b ∧ stepE b l[k] ≠ 0 ∧ e = .returned (.tuple #[.agg #[.slice none 0 0, .int .i64 0, .int .i64 0, .int .i64 0, .int .i64 0], .int .i64 (k : Int), .int .i64 (stepE b l[k])])))
set_option maxRecDepth 100000 in
set_option maxHeartbeats 4000000 in
theorem Run_any (B B2 : Nat) (A A2 : Option Addr) (n c n2 c2 : Nat) (a : Ar) (l : List Od) (w : World) (hM : MsAt w B A n a.m) (hB : B ≤ w.heap.size) (hF : FitA a) (hnc : n ≤ c) (hO : Reads w B2 2 A2 n2 (ods l)) (hB2 : B2 ≤ w.heap.size) (hn2 : n2 ≤ 1000) :
    Calls Tryz.prog 11 #[.agg #[.slice A n c, .int .i64 a.lo, .int .i64 a.hi, .int .i64 a.cur, .int .i64 a.lim], .slice A2 n2 c2] w (RunRes w a l n) := by
  have hl := (md_at hM).1
  have h17 := hF.len
  have HC := Lib.hid (fun W (hW : Below w.heap.size w W) => checkOrders_any B B2 A A2 n c n2 c2 a l W (hM.below (hW.mono hB)) (by have := hW.size; omega) hF hnc (hO.below (hW.mono hB2)) (by have := hW.size; omega) hn2)
  have HM := Lib.hid hM
  have HO := Lib.hid hO
  obtain ⟨E1, hE1⟩ : ∃ E1, ordsE a l = E1 := ⟨_, rfl⟩
  rw [hE1] at HC
  have HE1 := Lib.hid hE1
  clear hM hO hF hE1
  go_enter Tryz.func11, Tryz.ntmps11
  go_wp2_with fail
  refine (HC.out _ bl_).mono ?_
  rintro e w1 ⟨rfl, hb1⟩
  have hs1 := hb1.size
  simp at hs1
  have bA : Blk w1 w.heap.size 36 #[.slice A n c, .int .i64 a.lo, .int .i64 a.hi, .int .i64 a.cur, .int .i64 a.lim] := bk_
  have bR : Blk w1 (w.heap.size + 1) 36 #[.slice none 0 0, .int .i64 0, .int .i64 0, .int .i64 0, .int .i64 0] := bk_
  have hlow : Below w.heap.size w w1 := bl_
  have HL1 := Lib.hid hlow
  have cA := bA.cell
  have lA := bA.lt
  have cR := bR.cell
  have lR := bR.lt
  have fR := bR.frozen
  have KR := Lib.hid bR
  clear hb1 hlow HC
  by_cases h1 : E1 = 0
  · subst h1
    obtain ⟨hE, hln, ho⟩ := ords_zero HE1.out
    have HFo := Lib.hid (follow_any B B2 w1.heap.size A A2 n c n2 c2 52 #[] a l w1 _ (HM.out.below (HL1.out.mono hB)) (by omega) (by omega) hE (HO.out.below (HL1.out.mono hB2)) (by omega) (Nat.le_refl _) hn2 ho (enters_of Tryz.func52 (by kernel_rfl) rfl) (run_each (Nat.le_refl _)))
    have HE0 := Lib.hid HE1.out
    clear hE hln ho cR lR fR bR HE1
    go_wp2_with fail
    refine HFo.out.mono ?_
    rintro e w3 ⟨hb3, hres⟩
    have bR3 := KR.out.kept hb3
    have cR := bR3.cell
    have lR := bR3.lt
    have fR := bR3.frozen
    have hlow := HL1.out.trans (hb3.mono HL1.out.size)
    clear hb3
    rcases hres with ⟨b, g, hgo, rfl, hg, hgl, hG⟩ | ⟨k, b, hk, hgo, hne, rfl⟩
    · have K2 := Lib.hid (put5_blk (v0 := .slice (some ⟨g, 0, none⟩) n n) (v1 := .int .i64 a.lo) (v2 := .int .i64 a.hi) (v3 := .int .i64 a.cur) (v4 := .int .i64 a.lim) bR3)
      have K4 := Lib.hid (put5_low (b := w.heap.size + 1) (v0 := .slice (some ⟨g, 0, none⟩) n n) (v1 := .int .i64 a.lo) (v2 := .int .i64 a.hi) (v3 := .int .i64 a.cur) (v4 := .int .i64 a.lim) hlow (by omega))
      have K3 := Lib.hid (put5_far (b := w.heap.size + 1) (v0 := .slice (some ⟨g, 0, none⟩) n n) (v1 := .int .i64 a.lo) (v2 := .int .i64 a.hi) (v3 := .int .i64 a.cur) (v4 := .int .i64 a.lim) hg (by have := KR.out.lt; omega))
      have HG := Lib.hid hgo
      clear hlow hg hG hgo HFo KR bR3
      go_wp2_with fail
      have ck := K2.out.cell
      refine bodyPost_ret (v := .tuple #[.agg #[.slice (some ⟨g, 0, none⟩) n n, .int .i64 a.lo, .int .i64 a.hi, .int .i64 a.cur, .int .i64 a.lim], .int .i64 0, .int .i64 0]) (by simp [results, Tryz.results11, go_sem, ck]) rfl ⟨K4.out, .inl ⟨b, g, HE0.out, HG.out, rfl, K3.out⟩⟩
    · have K2 := Lib.hid (put5_blk (v0 := .slice none 0 0) (v1 := .int .i64 0) (v2 := .int .i64 0) (v3 := .int .i64 0) (v4 := .int .i64 0) bR3)
      have K4 := Lib.hid (put5_low (b := w.heap.size + 1) (v0 := .slice none 0 0) (v1 := .int .i64 0) (v2 := .int .i64 0) (v3 := .int .i64 0) (v4 := .int .i64 0) hlow (by omega))
      have HG := Lib.hid (show ∃ k b, ∃ hk : k < l.length, ordsE a l = 0 ∧ goTo a (l.take k) = some b ∧ stepE b l[k] ≠ 0 ∧ (.returned (.tuple #[.agg #[.slice none 0 0, .int .i64 0, .int .i64 0, .int .i64 0, .int .i64 0], .int .i64 (k : Int), .int .i64 (stepE b l[k])]) : Ending) = .returned (.tuple #[.agg #[.slice none 0 0, .int .i64 0, .int .i64 0, .int .i64 0, .int .i64 0], .int .i64 (k : Int), .int .i64 (stepE b l[k])]) from ⟨k, b, hk, HE0.out, hgo, hne, rfl⟩)
      have HG2 := Lib.hid (And.intro hgo hne)
      clear hlow hgo hne HFo KR bR3 HG
      generalize hse : stepE b l[k] = se at *
      go_wp2_with fail
      have ck := K2.out.cell
      refine bodyPost_ret (v := .tuple #[.agg #[.slice none 0 0, .int .i64 0, .int .i64 0, .int .i64 0, .int .i64 0], .int .i64 (k : Int), .int .i64 se]) (by simp [results, Tryz.results11, go_sem, ck]) rfl ⟨K4.out, .inr (.inr ⟨k, b, hk, HE0.out, HG2.out.1, by rw [hse]; exact HG2.out.2, by rw [hse]⟩)⟩
  · have hne : (E1 != 0) = true := by simpa using h1
    have K2 := Lib.hid (put5_blk (v0 := .slice none 0 0) (v1 := .int .i64 0) (v2 := .int .i64 0) (v3 := .int .i64 0) (v4 := .int .i64 0) bR)
    have K4 := Lib.hid (put5_low (b := w.heap.size + 1) (v0 := .slice none 0 0) (v1 := .int .i64 0) (v2 := .int .i64 0) (v3 := .int .i64 0) (v4 := .int .i64 0) HL1.out (by omega))
    go_wp2_with fail
    have ck := K2.out.cell
    refine bodyPost_ret (v := .tuple #[.agg #[.slice none 0 0, .int .i64 0, .int .i64 0, .int .i64 0, .int .i64 0], .int .i64 0, .int .i64 E1]) (by simp [results, Tryz.results11, go_sem, ck]) rfl ⟨K4.out, .inr (.inl ⟨by rw [HE1.out]; exact h1, by rw [HE1.out]⟩)⟩
end Go.Proofs.YtafnebfchhmgcaaGreat
