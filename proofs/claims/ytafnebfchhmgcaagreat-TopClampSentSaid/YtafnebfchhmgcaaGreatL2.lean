/- The check of a sample, of the program and of the reference: the same error, whatever the float. -/
import Derived.Laws.FloatArith
import Derived.Laws.Externs
import Derived.Laws.BitsAllLaws
import Derived.Test.YtafnebfchhmgcaaGreatFX
import Derived.Test.YtafnebfchhmgcaaGreatCK
namespace Go.Proofs.YtafnebfchhmgcaaGreat
open Go Go.RowKit Go.Sort Go.Shelf
set_option linter.unusedSimpArgs false
set_option linter.unusedVariables false
attribute [local go_sem] cell_if frozen_if grow_cell
set_option exponentiation.threshold 2000
/-- The error of a sample. -/
def sampE (x : Nat) : Int := match Ieee.single.read x with
  | .number s m i => if (-1024 * (tenK : Int) ≤ vnum s m i ∧ vnum s m i ≤ 1024 * (tenK : Int)) ∧ 16 * vnum s m i % (tenK : Int) = 0 then 0 else 3
  | _ => 1
theorem sampE_low {x m : Nat} {s : Bool} {i : Int} (h : Fin32 x s m i) (hv : vnum s m i < -1024 * (tenK : Int)) : sampE x = 3 := by
  unfold sampE
  rw [h.rd]
  exact if_neg (by omega)
theorem sampE_high {x m : Nat} {s : Bool} {i : Int} (h : Fin32 x s m i) (hv : 1024 * (tenK : Int) < vnum s m i) : sampE x = 3 := by
  unfold sampE
  rw [h.rd]
  exact if_neg (by omega)
theorem sampE_in {x m : Nat} {s : Bool} {i : Int} (h : Fin32 x s m i) (hv : -1024 * (tenK : Int) ≤ vnum s m i ∧ vnum s m i ≤ 1024 * (tenK : Int)) : sampE x = whenE (!decide (16 * vnum s m i % (tenK : Int) = 0)) 3 := by
  unfold sampE whenE
  rw [h.rd]
  by_cases hd : 16 * vnum s m i % (tenK : Int) = 0
  · rw [decide_eq_true hd]
    exact if_pos ⟨hv, hd⟩
  · rw [decide_eq_false hd]
    exact if_neg (fun h => hd h.2)
theorem pwhen_any (b : Bool) (n : Int) (w : World) : Calls Tryz.prog 62 #[.bool b, .int .i64 n] w fun e w' => e = .returned (.int .i64 (whenE b n)) ∧ w = w' := by
  cases b with
  | true =>
    go_enter Tryz.func62, Tryz.ntmps62
    go_wp2
    go_ret
    exact ⟨rfl, rfl⟩
  | false =>
    go_enter Tryz.func62, Tryz.ntmps62
    go_wp2
    go_ret
    exact ⟨rfl, rfl⟩
/-- A NaN that the tape gives. -/
def nanAt (q : Question) (W : World) : Nat := q.cut (W.tape W.drawn q)
theorem nan_read32 (x y : Nat) (W : World) : ∃ s t, Ieee.single.read (nanAt (.nanBits .f32 x y) W) = .nan s t := by
  obtain ⟨t, ht⟩ : ∃ t, W.tape W.drawn (.nanBits .f32 x y) = t := ⟨_, rfl⟩
  have e : nanAt (.nanBits .f32 x y) W = (t % 2) * 2 ^ 31 + 0x7f800000 + 1 + (t / 2) % (2 ^ 23 - 1) := by
    unfold nanAt
    rw [ht]
    rfl
  have e1 : Ieee.single.binade = 8388608 := rfl
  have e2 : Ieee.single.infRung = 2139095040 := rfl
  have e3 : Ieee.single.signWeight = 2147483648 := rfl
  rw [e]
  unfold Ieee.Format.read
  dsimp only
  rw [e1, e2, e3]
  have hm : ((t % 2) * 2 ^ 31 + 0x7f800000 + 1 + (t / 2) % (2 ^ 23 - 1)) % 2147483648 = 2139095041 + (t / 2) % 8388607 := by
    have h1 : (t / 2) % (2 ^ 23 - 1) = (t / 2) % 8388607 := rfl
    rw [h1]
    omega
  rw [hm, if_neg (by omega), if_neg (by omega), if_neg (by omega)]
  exact ⟨_, _, rfl⟩
theorem nan_read64 (x : Nat) (W : World) : ∃ s t, Ieee.double.read (nanAt (.nanConv .f64 x) W) = .nan s t := by
  obtain ⟨t, ht⟩ : ∃ t, W.tape W.drawn (.nanConv .f64 x) = t := ⟨_, rfl⟩
  have e : nanAt (.nanConv .f64 x) W = (t % 2) * 2 ^ 63 + 0x7ff0000000000000 + 1 + (t / 2) % (2 ^ 52 - 1) := by
    unfold nanAt
    rw [ht]
    rfl
  have e1 : Ieee.double.binade = 4503599627370496 := rfl
  have e2 : Ieee.double.infRung = 9218868437227405312 := rfl
  have e3 : Ieee.double.signWeight = 9223372036854775808 := rfl
  rw [e]
  unfold Ieee.Format.read
  dsimp only
  rw [e1, e2, e3]
  have hm : ((t % 2) * 2 ^ 63 + 0x7ff0000000000000 + 1 + (t / 2) % (2 ^ 52 - 1)) % 9223372036854775808 = 9218868437227405313 + (t / 2) % 4503599627370495 := by
    have h1 : (t / 2) % (2 ^ 52 - 1) = (t / 2) % 4503599627370495 := rfl
    rw [h1]
    omega
  rw [hm, if_neg (by omega), if_neg (by omega), if_neg (by omega)]
  exact ⟨_, _, rfl⟩
theorem sub_nan {x : Nat} (h : floatBits .sub .f32 x x = none) (W : World) : (binOp .sub 49 (.float .f32 x) (.float .f32 x)).run Tryz.prog W = .ok (.float .f32 (nanAt (.nanBits .f32 x x) W)) W.drew := by
  have h' : FloatKind.f32.format.sub x x = none := h
  simp [binOp, Op.floatArith, h', Question.forced]
  rfl
set_option maxRecDepth 100000 in
theorem checkPart_any (x : Nat) (w : World) : Calls Tryz.prog 159 #[.float .f32 x, .int .i64 1024] w fun e w' => e = .returned (.int .i64 (sampE x)) ∧ Below w.heap.size w w' := by
  have b6 : ∀ W, (Op.unary .neg (.float .f32 (floatOfInt .f32 1024))).run Tryz.prog W = .ok (.float .f32 3296722944) W := fun W => by
    have e : floatOfInt .f32 1024 = 1149239296 := by decide +kernel
    rw [e]
    rfl
  have e1024 : floatOfInt .f32 1024 = 1149239296 := by decide +kernel
  have hno : ((∃ s, Ieee.single.read x = .infinity s) ∨ (∃ s t, Ieee.single.read x = .nan s t)) → Calls Tryz.prog 159 #[.float .f32 x, .int .i64 1024] w fun e w' => e = .returned (.int .i64 (sampE x)) ∧ Below w.heap.size w w' := by
    intro hx
    have hE : Hid (sampE x = 1) := Lib.hid (by unfold sampE; rcases hx with ⟨s, h⟩ | ⟨s, t, h⟩ <;> rw [h])
    have hs : floatBits .sub .f32 x x = none := by
      show ((Ieee.single.read x).sum (Ieee.single.read x).opposite).map Ieee.single.write = none
      rcases hx with ⟨s, h⟩ | ⟨s, t, h⟩ <;> rw [h]
      · cases s <;> rfl
      · rfl
    have b1 := fun W => sub_nan hs W
    have b4 : ∀ W, (FloatKind.f32.format.order (nanAt (.nanBits .f32 x x) W) 0 != some .eq) = true := fun W => by
      obtain ⟨s, t, h⟩ := nan_read32 x x W
      show ((Ieee.single.read _).order _ != some .eq) = true
      rw [h]
      rfl
    clear hx hs
    go_enter Tryz.func159, Tryz.ntmps159
    go_wp2_with fail
    go_ret
    exact ⟨by rw [hE.out]; rfl, bl_⟩
  rcases single_read x with ⟨s, m, i, h⟩ | hx
  · have hs := h.sub
    have b1 := fun W => run_float_arith (P := Tryz.prog) W .sub 49 .f32 _ _ _ hs
    have b4 : (FloatKind.f32.format.order 0 0 != some .eq) = false := by decide +kernel
    have hlo := h.lt
    have hhi := h.gt
    rw [← e1024] at hhi
    clear e1024
    rcases Int.lt_or_le (vnum s m i) (-1024 * (tenK : Int)) with hv | hv
    · rw [decide_eq_true hv] at hlo
      have HE := Lib.hid (sampE_low h hv)
      clear hv h hs hhi hno
      go_enter Tryz.func159, Tryz.ntmps159
      go_wp2_with fail
      go_ret
      exact ⟨by rw [HE.out]; rfl, bl_⟩
    · rw [decide_eq_false (by omega)] at hlo
      rcases Int.lt_or_le (1024 * (tenK : Int)) (vnum s m i) with hv2 | hv2
      · rw [decide_eq_true hv2] at hhi
        have HE := Lib.hid (sampE_high h hv2)
        clear hv hv2 h hs hno
        go_enter Tryz.func159, Tryz.ntmps159
        go_wp2_with fail
        go_ret
        exact ⟨by rw [HE.out]; rfl, bl_⟩
      · rw [decide_eq_false (by omega)] at hhi
        obtain ⟨p, v, hm, hi, hbd, hb, _⟩ := h.whole ⟨hv, hv2⟩
        have HE := Lib.hid (sampE_in h ⟨hv, hv2⟩)
        generalize decide (16 * vnum s m i % (tenK : Int) = 0) = bb at *
        have b2 := fun W => run_float_arith (P := Tryz.prog) W .mul 49 .f32 _ _ _ hm
        have b3 := fun W => run_convert_float_int (P := Tryz.prog) W 49 3 .f32 .i64 p v (by kernel_rfl) Tryz.underlying3 hi
        have b5 : (FloatKind.f32.format.order (floatOfInt .f32 v) p != some .eq) = !bb := by rw [← hb]; rfl
        clear hv hv2 h hs hno hb hm hi
        go_enter Tryz.func159, Tryz.ntmps159
        go_wp2_with fail
        refine (pwhen_any _ _ _).mono ?_
        rintro e w1 ⟨rfl, rfl⟩
        go_wp2_with fail
        go_ret
        exact ⟨by rw [HE.out]; rfl, bl_⟩
  · exact hno hx
theorem CheckSample_any (x : Nat) (w : World) : Calls Tryz.prog 116 #[.float .f32 x] w fun e w' => e = .returned (.int .i64 (sampE x)) ∧ Below w.heap.size w w' := by
  have HC := Lib.hid (checkPart_any x w)
  go_enter Tryz.func116, Tryz.ntmps116
  go_wp2_with fail
  refine HC.out.mono ?_
  rintro e w1 ⟨rfl, hb1⟩
  go_wp2_with fail
  go_ret
  exact ⟨rfl, hb1⟩
theorem run_f64bits (y : Nat) (W : World) : (callFunc 222 #[.float .f64 y]).run Tryz.prog W = .ok (.value (.int .u64 (y : Int))) W := by
  rw [run_callFunc_extern (e := Extern.MathFloatBits.float64bits) Tryz.func222 rfl rfl (by kernel_rfl) (by kernel_rfl)]
  rfl
theorem run_f64from (y : Int) (W : World) : (callFunc 221 #[.int .u64 y]).run Tryz.prog W = .ok (.value (.float .f64 y.toNat)) W := by
  rw [run_callFunc_extern (e := Extern.MathFloatBits.float64frombits) Tryz.func221 rfl rfl (by kernel_rfl) (by kernel_rfl)]
  rfl
theorem run_floor {z k : Nat} {s : Bool} {l : Int} (h : Ieee.double.read z = .number s k l) (W : World) : (callFunc 209 #[.float .f64 z]).run Tryz.prog W = .ok (.value (.float .f64 (floorBits z))) W := by
  rw [run_callFunc_extern (e := Extern.MathFloor.toIntegral "math.archFloor" .down) Tryz.func209 rfl rfl (by kernel_rfl) (by kernel_rfl)]
  have h' : FloatKind.f64.decode z = .number s k l := h
  have e : (Extern.MathFloor.toIntegral "math.archFloor" .down #[.float .f64 z]).run Tryz.prog W = .ok (.float .f64 (floorBits z)) W := by
    obtain ⟨G, hG⟩ : ∃ G : Bool → Nat → Sem Value, Extern.MathFloor.toIntegral "math.archFloor" .down #[.float .f64 z] = (match FloatKind.f64.decode z with
      | .nan s t => G s t
      | d => pure (.float .f64 (FloatKind.f64.encode (d.integral .down)))) := ⟨_, rfl⟩
    rw [hG]
    unfold floorBits
    rw [h']
    rfl
  rw [e]
  rfl
theorem andNot_sign (y : Nat) (hy : y < 2 ^ 64) : bits .andNot .u64 (y : Int) 9223372036854775808 = ((y % 2 ^ 63 : Nat) : Int) := by
  rw [u64_andNot _ _ (by omega) (by omega) (by decide) (by decide)]
  have e : (18446744073709551615 - (9223372036854775808 : Int).toNat) = 2 ^ 63 - 1 := by decide
  rw [Int.toNat_natCast, e, Nat.and_two_pow_sub_one_eq_mod]
theorem Abs_any (y : Nat) (w : World) (hy : y < 2 ^ 64) : Calls Tryz.prog 208 #[.float .f64 y] w fun e w' => e = .returned (.float .f64 (y % 2 ^ 63)) ∧ w = w' := by
  have b1 := fun W => run_f64bits y W
  have b2 := fun W => run_f64from ((y % 2 ^ 63 : Nat) : Int) W
  rw [Int.toNat_natCast] at b2
  have b3 := andNot_sign y hy
  clear hy
  generalize (y % 2 ^ 63) = z at *
  go_enter Tryz.func208, Tryz.ntmps208
  go_wp2_with fail
  go_ret
  exact ⟨rfl, rfl⟩
theorem Floor_any {z k : Nat} {s : Bool} {l : Int} (h : Ieee.double.read z = .number s k l) (w : World) : Calls Tryz.prog 184 #[.float .f64 z] w fun e w' => e = .returned (.float .f64 (floorBits z)) ∧ w = w' := by
  have b1 := fun W => run_floor h W
  clear h
  generalize floorBits z = f at *
  go_enter Tryz.func184, Tryz.ntmps184
  go_wp2_with fail
  go_ret
  exact ⟨rfl, rfl⟩
theorem IsNaN_any (y : Nat) (b : Bool) (hb : (FloatKind.f64.format.order y y != some .eq) = b) (w : World) : Calls Tryz.prog 182 #[.float .f64 y] w fun e w' => e = .returned (.bool b) ∧ w = w' := by
  go_enter Tryz.func182, Tryz.ntmps182
  go_wp2_with fail
  go_ret
  exact ⟨rfl, rfl⟩
theorem IsInf_any (y : Nat) (b : Bool) (hy : y < 2 ^ 64) (hb : (FloatKind.f64.format.order (y % 2 ^ 63) 9218868437227405311 == some .gt) = b) (w : World) : Calls Tryz.prog 183 #[.float .f64 y, .int .i64 0] w fun e w' => e = .returned (.bool b) ∧ w = w' := by
  have HA := Lib.hid (Abs_any y w hy)
  clear hy
  generalize (y % 2 ^ 63) = z at *
  go_enter Tryz.func183, Tryz.ntmps183
  go_wp2_with fail
  refine HA.out.mono ?_
  rintro e w1 ⟨rfl, rfl⟩
  go_wp2_with fail
  go_ret
  exact ⟨rfl, rfl⟩
theorem fin_small {x m : Nat} {s : Bool} {i : Int} (h : Fin32 x s m i) : (vnum s m i).natAbs < 2 ^ 128 * tenK := by
  rw [vnum_abs]
  have h1 := h.m24
  have h2 : (i + 1400).toNat ≤ 1504 := by have := h.hi; omega
  have h3 : m * 2 ^ (i + 1400).toNat < 2 ^ 24 * 2 ^ 1504 := Nat.lt_of_le_of_lt (Nat.mul_le_mul_left _ (Nat.pow_le_pow_right (by decide) h2)) (Nat.mul_lt_mul_of_pos_right h1 (Nat.two_pow_pos _))
  unfold tenK
  rw [← Nat.pow_add] at h3 ⊢
  exact h3
theorem conv_nan {x : Nat} (h : ∃ s t, Ieee.single.read x = .nan s t) (W : World) : (convert 49 245 (.float .f32 x)).run Tryz.prog W = .ok (.float .f64 (nanAt (.nanConv .f64 x) W)) W.drew := by
  obtain ⟨s, t, h⟩ := h
  have h' : FloatKind.f32.decode x = .nan s t := h
  have hs : (Tryz.prog.underlying 49) = some (.float .f32) := by kernel_rfl
  have hd : (Tryz.prog.underlying 245) = some (.float .f64) := by kernel_rfl
  simp [convert, run_underlying hs, run_underlying hd, Conv.floatToFloat, h', Question.forced]
  rfl
set_option maxRecDepth 100000 in
theorem rCheckPart_any (x : Nat) (w : World) : Calls Tryz.prog 160 #[.float .f32 x, .int .i64 1024] w fun e w' => e = .returned (.int .i64 (sampE x)) ∧ Below w.heap.size w w' := by
  rcases single_read x with ⟨s, m, i, h⟩ | ⟨s, hx⟩ | hx
  · obtain ⟨y, k, l, hy, h64⟩ := h.wide
    have b1 := fun W => run_convert_float_float (P := Tryz.prog) W 49 245 .f32 .f64 x y (by kernel_rfl) (by kernel_rfl) hy
    have hN : (FloatKind.f64.format.order y y != some .eq) = false := by rw [h64.self]; rfl
    have HN := Lib.hid (fun W => IsNaN_any y false hN W)
    have HI := Lib.hid (fun W => IsInf_any y false h64.lt (h64.abs (fin_small h)) W)
    have hlo := h64.less
    have hhi := h64.gt
    clear hN hy
    rcases Int.lt_or_le (1024 * (tenK : Int)) (vnum s m i) with hv2 | hv2
    · rw [decide_eq_true hv2] at hhi
      have HE := Lib.hid (sampE_high h hv2)
      clear hv2 h h64 hlo
      go_enter Tryz.func160, Tryz.ntmps160
      go_wp2_with fail
      refine (HN.out _).mono ?_
      rintro e w1 ⟨rfl, rfl⟩
      go_wp2_with fail
      refine (HI.out _).mono ?_
      rintro e w1 ⟨rfl, rfl⟩
      go_wp2_with fail
      refine (rWhen_any _ _ _).mono ?_
      rintro e w1 ⟨rfl, rfl⟩
      go_wp2_with fail
      go_ret
      exact ⟨by rw [HE.out]; rfl, bl_⟩
    · rw [decide_eq_false (by omega)] at hhi
      rcases Int.lt_or_le (vnum s m i) (-1024 * (tenK : Int)) with hv | hv
      · rw [decide_eq_true hv] at hlo
        have HE := Lib.hid (sampE_low h hv)
        clear hv2 hv h h64
        go_enter Tryz.func160, Tryz.ntmps160
        go_wp2_with fail
        refine (HN.out _).mono ?_
        rintro e w1 ⟨rfl, rfl⟩
        go_wp2_with fail
        refine (HI.out _).mono ?_
        rintro e w1 ⟨rfl, rfl⟩
        go_wp2_with fail
        refine (rWhen_any _ _ _).mono ?_
        rintro e w1 ⟨rfl, rfl⟩
        go_wp2_with fail
        go_ret
        exact ⟨by rw [HE.out]; rfl, bl_⟩
      · rw [decide_eq_false (by omega)] at hlo
        obtain ⟨z, s2, k2, l2, hm, hz, hb⟩ := h64.whole ⟨hv, hv2⟩
        have HE := Lib.hid (sampE_in h ⟨hv, hv2⟩)
        generalize decide (16 * vnum s m i % (tenK : Int) = 0) = bb at *
        have b2 := fun W => run_float_arith (P := Tryz.prog) W .mul 245 .f64 _ _ _ hm
        have b5 : (FloatKind.f64.format.order z (floorBits z) != some .eq) = !bb := by rw [← hb]; rfl
        have HF := Lib.hid (fun W => Floor_any hz W)
        clear hv2 hv h h64 hm hb hz
        generalize floorBits z = f at *
        go_enter Tryz.func160, Tryz.ntmps160
        go_wp2_with fail
        refine (HN.out _).mono ?_
        rintro e w1 ⟨rfl, rfl⟩
        go_wp2_with fail
        refine (HI.out _).mono ?_
        rintro e w1 ⟨rfl, rfl⟩
        go_wp2_with fail
        refine (HF.out _).mono ?_
        rintro e w1 ⟨rfl, rfl⟩
        go_wp2_with fail
        refine (rWhen_any _ _ _).mono ?_
        rintro e w1 ⟨rfl, rfl⟩
        go_wp2_with fail
        go_ret
        exact ⟨by rw [HE.out]; rfl, bl_⟩
  · have hE : Hid (sampE x = 1) := Lib.hid (by unfold sampE; rw [hx])
    obtain ⟨y, hy, hy0, h1, h2⟩ : ∃ y, floatToFloatBits .f32 x .f64 = some y ∧ y < 2 ^ 64 ∧ (FloatKind.f64.format.order y y != some .eq) = false ∧ (FloatKind.f64.format.order (y % 2 ^ 63) 9218868437227405311 == some .gt) = true := by
      have hd : FloatKind.f32.decode x = .infinity s := hx
      refine ⟨FloatKind.f64.encode (.infinity s), ?_, ?_, ?_, ?_⟩
      · unfold floatToFloatBits
        rw [if_neg (by decide), hd]
      · cases s <;> decide +kernel
      · cases s <;> decide +kernel
      · cases s <;> decide +kernel
    have b1 := fun W => run_convert_float_float (P := Tryz.prog) W 49 245 .f32 .f64 x y (by kernel_rfl) (by kernel_rfl) hy
    have HN := Lib.hid (fun W => IsNaN_any y false h1 W)
    have HI := Lib.hid (fun W => IsInf_any y true hy0 h2 W)
    clear hy hy0 h1 h2 hx
    go_enter Tryz.func160, Tryz.ntmps160
    go_wp2_with fail
    refine (HN.out _).mono ?_
    rintro e w1 ⟨rfl, rfl⟩
    go_wp2_with fail
    refine (HI.out _).mono ?_
    rintro e w1 ⟨rfl, rfl⟩
    go_wp2_with fail
    go_ret
    exact ⟨by rw [hE.out]; rfl, bl_⟩
  · have hE : Hid (sampE x = 1) := Lib.hid (by obtain ⟨s, t, h⟩ := hx; unfold sampE; rw [h])
    have b1 := fun W => conv_nan hx W
    have HN := Lib.hid (fun W V => IsNaN_any (nanAt (.nanConv .f64 x) W) true (by
      obtain ⟨s, t, h⟩ := nan_read64 x W
      show ((Ieee.double.read _).order _ != some .eq) = true
      rw [h]
      rfl) V)
    clear hx
    go_enter Tryz.func160, Tryz.ntmps160
    go_wp2_with fail
    refine (HN.out _ _).mono ?_
    rintro e w1 ⟨rfl, hw1⟩
    subst hw1
    go_wp2_with fail
    go_ret
    exact ⟨by rw [hE.out]; rfl, bl_⟩
theorem rCheckSample_any (x : Nat) (w : World) : Calls Tryz.prog 118 #[.float .f32 x] w fun e w' => e = .returned (.int .i64 (sampE x)) ∧ Below w.heap.size w w' := by
  have HC := Lib.hid (rCheckPart_any x w)
  go_enter Tryz.func118, Tryz.ntmps118
  go_wp2_with fail
  refine HC.out.mono ?_
  rintro e w1 ⟨rfl, hb1⟩
  go_wp2_with fail
  go_ret
  exact ⟨rfl, hb1⟩
/-- A sample without an error, as the levels want it. -/
def sampV (x : Nat) : Int := match Ieee.single.read x with
  | .number s m i => 16 * vnum s m i / (tenK : Int)
  | _ => 0
theorem sampE_samp {x : Nat} (h : sampE x = 0) : ∃ p, Samp x p (sampV x) := by
  have e1024 : floatOfInt .f32 1024 = 1149239296 := by decide +kernel
  rcases single_read x with ⟨s, m, i, hf⟩ | ⟨s, hx⟩ | ⟨s, t, hx⟩
  · have hin : (-1024 * (tenK : Int) ≤ vnum s m i ∧ vnum s m i ≤ 1024 * (tenK : Int)) ∧ 16 * vnum s m i % (tenK : Int) = 0 := by
      unfold sampE at h
      rw [hf.rd] at h
      by_cases hc : (-1024 * (tenK : Int) ≤ vnum s m i ∧ vnum s m i ≤ 1024 * (tenK : Int)) ∧ 16 * vnum s m i % (tenK : Int) = 0
      · exact hc
      · have h3 : (if (-1024 * (tenK : Int) ≤ vnum s m i ∧ vnum s m i ≤ 1024 * (tenK : Int)) ∧ 16 * vnum s m i % (tenK : Int) = 0 then (0 : Int) else 3) = 0 := h
        rw [if_neg hc] at h3
        cases h3
    obtain ⟨p, v, h1, h2, h3, h4, h5⟩ := hf.whole hin.1
    have hv : sampV x = v := by
      unfold sampV
      rw [hf.rd, h5 hin.2]
    rw [hv]
    refine ⟨p, ⟨⟨0, hf.sub, by decide +kernel⟩, ?_, ?_, h1, h2, ?_, h3⟩⟩
    · rw [hf.lt, decide_eq_false (by omega)]
    · rw [e1024, hf.gt, decide_eq_false (by omega)]
    · rw [decide_eq_true hin.2] at h4
      exact eq_of_beq h4
  · unfold sampE at h
    rw [hx] at h
    cases h
  · unfold sampE at h
    rw [hx] at h
    cases h
end Go.Proofs.YtafnebfchhmgcaaGreat
