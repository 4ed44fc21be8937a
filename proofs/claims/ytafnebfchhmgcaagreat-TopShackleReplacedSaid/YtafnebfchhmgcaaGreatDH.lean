/- find, Reserve of the program. -/
import Derived.Test.YtafnebfchhmgcaaGreatDC
namespace Go.Proofs.YtafnebfchhmgcaaGreat
open Go.RowKit Go.Sort Go.Shelf
set_option linter.unusedSimpArgs false
set_option linter.unusedVariables false
attribute [local go_sem] cell_if frozen_if grow_cell
theorem find1_any (q : Nat) (nm : ByteArray) (x : Md) (w : World) (hb : Blk w q 9 #[.string nm]) :
    Calls Tryz.prog 129 #[.agg #[.string x.n, .int .i64 x.q, .bool x.on, .bool x.by_], .pointer (some ⟨q, 0, none⟩)] w fun e w' => e = .returned (.bool (x.n.toList == nm.toList)) ∧ Below w.heap.size w w' := by
  have c0 := hb.cell 0
  simp at c0
  have hl := hb.lt
  clear hb
  go_enter Tryz.func129, Tryz.ntmps129
  go_wp2
  go_ret
  exact ⟨by first | rfl | (simp; done), bl_⟩
theorem find_any (B : Nat) (A : Option Addr) (n c : Nat) (a : Ar) (nm : ByteArray) (w : World) (hM : MsAt w B A n a.m) (hB : B ≤ w.heap.size) (hn : n ≤ 1000) :
    Calls Tryz.prog 85 #[.agg #[.slice A n c, .int .i64 a.lo, .int .i64 a.hi, .int .i64 a.cur, .int .i64 a.lim], .string nm] w fun e w' => e = .returned (.int .i64 (mdIdx a.m nm)) ∧ Below w.heap.size w w' := by
  have HI := Lib.hid (fun W (hb : Below w.heap.size w W) (hk : Blk W (w.heap.size + 1) 9 #[.string nm]) => IndexFuncM_any 129 #[.pointer (some ⟨w.heap.size + 1, 0, none⟩)] B A n c a.m (fun o => o.n.toList == nm.toList) W (hM.below (hb.mono hB)) (by have := hb.size; omega) hn (enters_of Tryz.func129 (by kernel_rfl) rfl) (fun W' hW o _ => find1_any (w.heap.size + 1) nm o W' (hk.kept hW)))
  have HV : Hid (idxP (fun o : Md => o.n.toList == nm.toList) 0 a.m = mdIdx a.m nm) := Lib.hid rfl
  clear hM
  go_enter Tryz.func85, Tryz.ntmps85
  go_wp2_with fail
  refine (HI.out _ bl_ bk_).mono ?_
  rintro e w1 ⟨rfl, hb1⟩
  have hb : Below w.heap.size w w1 := bl_
  rw [HV.out]
  go_wp2_with fail
  go_ret
  exact ⟨rfl, hb⟩
def resE (a : Ar) (m : Int) : Int := or0 (firstE [armE a, ckR m 0 16]) (whenE (decide (((usL a).length : Int) - m < 0)) 18)
def resV (a : Ar) (m : Int) : Int := if resE a m = 0 then ((usL a).length : Int) - m else 0
theorem Reserve_any (B : Nat) (A : Option Addr) (n c : Nat) (a : Ar) (m : Int) (w : World) (hM : MsAt w B A n a.m) (hB : B ≤ w.heap.size) (hF : FitA a) (hnc : n ≤ c) :
    Calls Tryz.prog 35 #[.agg #[.slice A n c, .int .i64 a.lo, .int .i64 a.hi, .int .i64 a.cur, .int .i64 a.lim], .int .i64 m] w fun e w' => e = .returned (.tuple #[.int .i64 (resV a m), .int .i64 (resE a m)]) ∧ Below w.heap.size w w' := by
  have hl := (md_at hM).1
  have h17 := hF.len
  have HC := Lib.hid (fun W (hW : Below w.heap.size w W) => CheckArm_any B A n c a W (hM.below (hW.mono hB)) (by have := hW.size; omega) hF hnc)
  have HI := Lib.hid (fun W (hW : Below w.heap.size w W) => indices_any 88 #[] #[] B A n c a (fun _ => true) W (hM.below (hW.mono hB)) (by have := hW.size; omega) (by omega) (enters_of Tryz.func88 (by kernel_rfl) rfl) (fun W' _ x _ => all_any x W'))
  rw [idxs_all a] at HI
  have hus := us_len_le a
  obtain ⟨E1, hE1⟩ : ∃ E1, firstE [armE a, ckR m 0 16] = E1 := ⟨_, rfl⟩
  have hm0 : E1 = 0 → 0 ≤ m ∧ m ≤ 16 := fun h => by
    rw [h, firstE_cons, firstE_cons] at hE1
    exact ckR_zero (or0_zero (or0_zero hE1).2).1
  obtain ⟨er, her⟩ : ∃ er, resE a m = er := ⟨_, rfl⟩
  obtain ⟨rv, hrv⟩ : ∃ rv, resV a m = rv := ⟨_, rfl⟩
  have H1 : Hid (E1 ≠ 0 → er = E1 ∧ rv = 0) := Lib.hid (fun h => by
    have e : resE a m = E1 := by unfold resE; rw [hE1, or0_no h]
    refine ⟨her.symm.trans e, hrv.symm.trans ?_⟩
    unfold resV
    rw [e, if_neg h])
  have H2 : Hid (E1 = 0 → ((usL a).length : Int) - m < 0 → er = 18 ∧ rv = 0) := Lib.hid (fun h h2 => by
    have e : resE a m = 18 := by unfold resE; rw [hE1, h, or0_yes, decide_eq_true h2]; rfl
    refine ⟨her.symm.trans e, hrv.symm.trans ?_⟩
    unfold resV
    rw [e, if_neg (by decide)])
  have H3 : Hid (E1 = 0 → ¬ ((usL a).length : Int) - m < 0 → er = 0 ∧ rv = ((usL a).length : Int) - m) := Lib.hid (fun h h2 => by
    have e : resE a m = 0 := by unfold resE; rw [hE1, h, or0_yes, decide_eq_false h2]; rfl
    refine ⟨her.symm.trans e, hrv.symm.trans ?_⟩
    unfold resV
    rw [e, if_pos rfl])
  rw [her, hrv]
  have HE1 := Lib.hid hE1
  have HM0 := Lib.hid hm0
  clear hM hF hnc hE1 hm0 her hrv
  unfold IdRes at HI
  generalize usL a = us at *
  go_enter Tryz.func35, Tryz.ntmps35
  go_wp2_with fail
  refine (HC.out _ bl_).mono ?_
  rintro e w1 ⟨rfl, hb1⟩
  have hs1 := hb1.size
  simp at hs1
  have bA : Blk w1 w.heap.size 36 #[.slice A n c, .int .i64 a.lo, .int .i64 a.hi, .int .i64 a.cur, .int .i64 a.lim] := bk_
  have hlow : Below w.heap.size w w1 := bl_
  have HL1 := Lib.hid hlow
  have cA := bA.cell
  have lA := bA.lt
  clear hb1 hlow HC
  go_wp2_with fail
  refine (awithin_any m 0 16 _).mono ?_
  rintro e w2 ⟨rfl, rfl⟩
  go_wp2_with fail
  refine (afirst_any (w1.heap.size + 1) _ 2 2 [armE a, ckR m 0 16] _ (by simpa using Reads.new (size := 1) w1 (([armE a, ckR m 0 16]).map (.int .i64)).toArray 31 2 rfl) (by unfold maxLen; decide)).mono ?_
  rintro e w3 ⟨rfl, rfl⟩
  rw [HE1.out]
  clear HE1
  by_cases h1 : E1 = 0
  · subst h1
    obtain ⟨hm1, hm2⟩ := HM0.out rfl
    have hb3 : Below w1.heap.size w1 (w1.alloc (.cells #[.int .i64 (armE a), .int .i64 (ckR m 0 16)] 31)) := bl_
    have HL3 := Lib.hid (HL1.out.trans (hb3.mono HL1.out.size))
    clear hb3
    go_wp2_with fail
    refine (HI.out _ HL3.out).mono ?_
    rintro e w4 ⟨v, rfl, hr, hb4⟩
    obtain ⟨A4, c4, rfl, _, _, _⟩ := own_form hr
    have HL4 := Lib.hid (HL3.out.trans (hb4.mono HL3.out.size))
    have hwr : IntKind.i64.wrap ((us.length : Int) - m) = (us.length : Int) - m := by rw [IntKind.wrap_i64]; omega
    clear hr hb4
    by_cases h2 : (us.length : Int) - m < 0
    · have hd : decide ((us.length : Int) - m < 0) = true := by simpa using h2
      obtain ⟨rfl, rfl⟩ := H2.out trivial (by omega)
      go_wp2_with fail
      go_ret2
      exact ⟨rfl, HL4.out⟩
    · have hd : decide ((us.length : Int) - m < 0) = false := by simpa using h2
      obtain ⟨rfl, rfl⟩ := H3.out trivial (by omega)
      go_wp2_with fail
      go_ret2
      exact ⟨rfl, HL4.out⟩
  · have hne : (E1 != 0) = true := by simpa using h1
    obtain ⟨e1, rfl⟩ := H1.out h1
    subst e1
    go_wp2_with fail
    go_ret2
    exact ⟨rfl, HL1.out.trans ((bl_ : Below w1.heap.size w1 _).mono HL1.out.size)⟩
end Go.Proofs.YtafnebfchhmgcaaGreat
