/- The law's guard. -/
import Derived.Test.YtafnebfchhmgcaaGreatN11
namespace Go.Proofs.YtafnebfchhmgcaaGreat
open Go Go.RowKit Go.Sort Go.Shelf
set_option linter.unusedSimpArgs false
set_option linter.unusedVariables false
attribute [local go_sem] cell_if frozen_if grow_cell
/-- An arm and orders that the law takes. -/
def fineB (a : Ar) (l : List Od) : Bool := shortA a && (decide (a.m.length ≤ 8) && (decide (armE a = 0) && (decide (l.length ≤ 8) && decide (rordsE l = 0))))
set_option maxRecDepth 100000 in
set_option maxHeartbeats 2000000 in
theorem clampFine_any (B B2 : Nat) (A A2 : Option Addr) (n c n2 c2 : Nat) (a : Ar) (l : List Od) (w : World) (hM : MsAt w B A n a.m) (hB : B ≤ w.heap.size) (hn : n ≤ maxLen) (hnm : ∀ x ∈ a.m, x.n.size ≤ maxLen) (hO : Reads w B2 2 A2 n2 (ods l)) (hB2 : B2 ≤ w.heap.size) (hn2 : n2 ≤ maxLen) :
    Calls Tryz.prog 7 #[.agg #[.slice A n c, .int .i64 a.lo, .int .i64 a.hi, .int .i64 a.cur, .int .i64 a.lim], .slice A2 n2 c2] w fun e w' => e = .returned (.bool (fineB a l)) ∧ Below w.heap.size w w' := by
  have hl := (md_at hM).1
  have hl2 := (od_at hO).1
  have HSh := Lib.hid (fun W (hW : Below w.heap.size w W) => Short_any B A n c a W (hM.below (hW.mono hB)) (by have := hW.size; omega) hn)
  have HOr := Lib.hid (fun W (hW : Below w.heap.size w W) => rCheckOrders_any B2 A2 n2 c2 l W (hO.below (hW.mono hB2)) (by have := hW.size; omega) hn2)
  unfold fineB
  rw [hl, hl2]
  cases hs : shortA a with
  | false =>
    rw [hs] at HSh
    clear hM hnm hs hO HOr
    go_enter Tryz.func7, Tryz.ntmps7
    go_wp2_with fail
    refine (HSh.out _ bl_).mono ?_
    (rintro e w1 ⟨rfl, hb1⟩; have hs1 := hb1.size; (try simp at hs1))
    go_wp2_with fail
    go_ret
    exact ⟨by simp, bl_⟩
  | true =>
    rw [hs] at HSh
    have hF := short_fit hs hnm
    have HCk := Lib.hid (fun W (hW : Below w.heap.size w W) => rCheckArm_any B A n c a W (hM.below (hW.mono hB)) (by have := hW.size; omega) hF)
    clear hM hnm hs hF hO
    by_cases h8 : n ≤ 8
    · have hd : decide ((n : Int) ≤ 8) = true := by simp; omega
      go_enter Tryz.func7, Tryz.ntmps7
      go_wp2_with fail
      refine (HSh.out _ bl_).mono ?_
      (rintro e w1 ⟨rfl, hb1⟩; have hs1 := hb1.size; (try simp at hs1))
      have bA : Blk w1 w.heap.size 26 #[.slice A n c, .int .i64 a.lo, .int .i64 a.hi, .int .i64 a.cur, .int .i64 a.lim] := bk_
      have hb1' : Below w.heap.size w w1 := bl_
      have cA := bA.cell
      have lA := bA.lt
      have HB1 := Lib.hid hb1'
      clear hb1 hb1' bA
      go_wp2_with fail
      refine (HCk.out _ HB1.out).mono ?_
      (rintro e w2 ⟨rfl, hb2⟩; have hs2 := hb2.size; (try simp at hs2))
      have HB2 := Lib.hid (HB1.out.trans (hb2.mono HB1.out.size))
      by_cases h0 : armE a = 0
      · rw [h0]
        by_cases h9 : n2 ≤ 8
        · have hd2 : decide ((n2 : Int) ≤ 8) = true := by simp; omega
          go_wp2_with fail
          refine (HOr.out _ HB2.out).mono ?_
          (rintro e w3 ⟨rfl, hb3⟩; have hs3 := hb3.size; (try simp at hs3))
          go_wp2_with fail
          go_ret
          exact ⟨by simp [h8, h9, h0] <;> rfl, HB2.out.trans (hb3.mono HB2.out.size)⟩
        · have hd2 : decide ((n2 : Int) ≤ 8) = false := by simp; omega
          go_wp2_with fail
          go_ret
          exact ⟨by simp [h8, h9], HB2.out⟩
      · have he : (armE a == 0) = false := by simpa using h0
        go_wp2_with fail
        go_ret
        exact ⟨by simp [h0], HB2.out⟩
    · have hd : decide ((n : Int) ≤ 8) = false := by simp; omega
      go_enter Tryz.func7, Tryz.ntmps7
      go_wp2_with fail
      refine (HSh.out _ bl_).mono ?_
      (rintro e w1 ⟨rfl, hb1⟩; have hs1 := hb1.size; (try simp at hs1))
      have bA : Blk w1 w.heap.size 26 #[.slice A n c, .int .i64 a.lo, .int .i64 a.hi, .int .i64 a.cur, .int .i64 a.lim] := bk_
      have hb1' : Below w.heap.size w w1 := bl_
      have cA := bA.cell
      have lA := bA.lt
      have HB1 := Lib.hid hb1'
      clear hb1 hb1' bA
      go_wp2_with fail
      go_ret
      exact ⟨by simp [h8], HB1.out⟩
end Go.Proofs.YtafnebfchhmgcaaGreat
