/- The cost of a plan. -/
import Derived.Test.YtafnebfchhmgcaaGreatV10
import Derived.Test.YtafnebfchhmgcaaGreatQb
namespace Go.Proofs.YtafnebfchhmgcaaGreat
open Go Go.RowKit Go.Sort Go.Shelf
set_option linter.unusedSimpArgs false
set_option linter.unusedVariables false
attribute [local go_sem] cell_if frozen_if grow_cell
/-- The cost of the outages that a plan uses, from an index on. -/
def costI (ks : List Int) (k : Nat) (o : Ot) : Int := if hasI ks (k : Int) then o.c else 0
def costL (os : List Ot) (ks : List Int) (n : Nat) : Int := ((List.range n).map fun k => match os[k]? with | some o => costI ks k o | none => 0).foldl (· + ·) 0
theorem costL_succ {os : List Ot} (ks : List Int) {k : Nat} (h : k < os.length) : costL os ks (k + 1) = costL os ks k + costI ks k os[k] := by
  unfold costL
  rw [List.range_succ, List.map_append, List.foldl_append, List.map_cons, List.map_nil, List.foldl_cons, List.foldl_nil, List.getElem?_eq_getElem h]
theorem costL_bd {os : List Ot} (ks : List Int) (h : ∀ o ∈ os, 0 ≤ o.c ∧ o.c ≤ 1000000) : ∀ k, k ≤ os.length → 0 ≤ costL os ks k ∧ costL os ks k ≤ 1000000 * (k : Int)
  | 0, _ => ⟨Int.le_refl _, Int.le_refl _⟩
  | k + 1, hk => by
    have ih := costL_bd ks h k (by omega)
    have hc := h _ (List.getElem_mem (show k < os.length by omega))
    rw [costL_succ ks (by omega)]
    unfold costI
    split <;> omega
set_option maxRecDepth 100000 in
set_option maxHeartbeats 4000000 in
theorem cost_any (Bo Bp : Nat) (Ao Ap : Option Addr) (no co np cp : Nat) (os : List Ot) (ks : List Int) (w : World) (ho : Reads w Bo 3 Ao no (ots os)) (hp : Reads w Bp 1 Ap np (ks.map (.int .i64))) (hBo : Bo ≤ w.heap.size) (hBp : Bp ≤ w.heap.size) (h6 : no ≤ 6) (h8 : np ≤ 8) (hc : ∀ o ∈ os, 0 ≤ o.c ∧ o.c ≤ 1000000) :
    Calls Tryz.prog 104 #[.slice Ao no co, .slice Ap np cp] w fun e w' => e = .returned (.int .i64 (costL os ks no)) ∧ Below w.heap.size w w' := by
  obtain ⟨hl, ha⟩ := ot_at ho
  have HL := Lib.hid hl
  have HA := Lib.hid ha
  have HC := Lib.hid (fun W (hW : Below w.heap.size w W) z => calls_below (ContainsI_any Bp Ap np cp ks z W (hp.below (hW.mono hBp)) (by unfold maxLen; omega)))
  have HBd := Lib.hid (fun k hk => costL_bd (os := os) ks hc k hk)
  clear hl ha ho hp hc
  go_enter Tryz.func104, Tryz.ntmps104
  go_wp2_with fail
  go_loopw [5, 10] (fun s5 s10 wr => ∃ k : Nat, k ≤ no ∧ s10 = .int .i64 (k : Int) ∧ s5 = .int .i64 (costL os ks k) ∧ Below w.heap.size w wr) (fun _ s10 _ => no - (intOf s10).toNat)
  case atStart => exact ⟨0, by omega, rfl, rfl, Below.refl _ _⟩
  case round =>
    obtain ⟨k, hk, rfl, rfl, hb⟩ := hrel
    have HB := Lib.hid hb
    have hs := hb.size
    clear hb
    by_cases hlt : k < no
    · have hkl : k < os.length := by rw [HL.out]; exact hlt
      have hkI : (k : Int) < (no : Int) := by omega
      obtain ⟨b, o, eA, hbb, z0, z1, z2⟩ := HA.out k hkl
      have kb : ∀ i, wr.cell? ⟨b, i, none⟩ = w.cell? ⟨b, i, none⟩ := fun i => HB.out.cell (p := ⟨b, i, none⟩) (by simp; omega)
      rw [← kb] at z0 z1 z2
      have hbw : b < wr.heap.size := by omega
      have HSu := Lib.hid (costL_succ ks hkl)
      have hbd := HBd.out k (by omega)
      have hbd2 := HBd.out (k + 1) (by omega)
      rw [HSu.out] at hbd2
      unfold costI at hbd2 HSu
      generalize os[k] = y at *
      obtain ⟨yt, yh, yc⟩ := y
      dsimp only at z0 z1 z2 hbd2 HSu
      have hb1 : Below wr.heap.size wr (wr.alloc (.cells #[.int .i64 yt, .int .i64 yh, .int .i64 yc] 109)) := (Below.refl _ _).alloc (Nat.le_refl _) _
      have HX := Lib.hid (Blk.new wr 109 #[.int .i64 yt, .int .i64 yh, .int .i64 yc])
      have HCk := Lib.hid (HC.out _ (HB.out.trans (hb1.mono hs)) (k : Int))
      subst eA
      clear kb
      cases hh : hasI ks (k : Int) with
      | true =>
        rw [hh] at HCk hbd2 HSu
        simp only [if_true] at hbd2 HSu
        have HH := Lib.hid hh
        clear hh
        go_wp2_with fail
        refine HCk.out.mono ?_
        rintro e w2 ⟨rfl, hb2⟩
        have HX2 := Lib.hid (HX.out.kept hb2)
        have HB2 := Lib.hid ((HB.out.trans (hb1.mono hs)).trans (hb2.mono (by simp; omega)))
        have cX := HX2.out.cell
        have lX := HX2.out.lt
        clear hb2
        go_wp2_with fail
        go_roundw
        case rel => exact ⟨k + 1, by omega, by go_num, by rw [HSu.out], HB2.out⟩
        case measure => simp [intOf]; omega
      | false =>
        rw [hh] at HCk hbd2 HSu
        simp only [Bool.false_eq_true, if_false] at hbd2 HSu
        clear hh
        go_wp2_with fail
        refine HCk.out.mono ?_
        rintro e w2 ⟨rfl, hb2⟩
        have HB2 := Lib.hid ((HB.out.trans (hb1.mono hs)).trans (hb2.mono (by simp; omega)))
        clear hb2
        go_wp2_with fail
        go_roundw
        case rel => exact ⟨k + 1, by omega, by go_num, by rw [HSu.out, Int.add_zero], HB2.out⟩
        case measure => simp [intOf]; omega
    · obtain rfl : k = no := by omega
      go_wp2_with fail
      go_ret
      exact ⟨rfl, HB.out⟩
end Go.Proofs.YtafnebfchhmgcaaGreat
