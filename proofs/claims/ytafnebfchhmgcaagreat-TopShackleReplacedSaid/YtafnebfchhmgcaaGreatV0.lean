/- Operations on bits in plain words. -/
import Derived.Test.YtafnebfchhmgcaaGreatQb
namespace Go.Proofs.YtafnebfchhmgcaaGreat
open Go Go.RowKit Go.Sort
set_option linter.unusedSimpArgs false
set_option linter.unusedVariables false
theorem wrap_nat {n : Nat} (h : n < 2 ^ 63) : IntKind.i64.wrap (n : Int) = (n : Int) := by
  unfold IntKind.wrap
  simp only [IntKind.bits, IntKind.signed]
  have e : (n : Int) % 2 ^ 64 = n := by omega
  simp only [e]
  rw [if_neg]
  simp
  omega
theorem wrap_nat8 {n : Nat} (h : n < 256) : IntKind.u8.wrap (n : Int) = (n : Int) := by
  unfold IntKind.wrap
  simp only [IntKind.bits, IntKind.signed]
  have e : (n : Int) % 2 ^ 8 = n := by omega
  simp only [e]
  rw [if_neg]
  simp
theorem ofInt_nat (k n : Nat) : BitVec.ofInt k (n : Int) = BitVec.ofNat k n := BitVec.ofInt_ofNat k n
theorem bo_and {x y : Nat} (hx : x < 2 ^ 63) (hy : y < 2 ^ 63) : bits .and .i64 (x : Int) (y : Int) = ((x &&& y : Nat) : Int) := by
  show IntKind.i64.wrap ((BitVec.ofInt 64 (x : Int) &&& BitVec.ofInt 64 (y : Int)).toNat : Int) = _
  rw [ofInt_nat, ofInt_nat, BitVec.toNat_and, BitVec.toNat_ofNat, BitVec.toNat_ofNat, Nat.mod_eq_of_lt (by omega), Nat.mod_eq_of_lt (by omega)]
  exact wrap_nat (Nat.and_lt_two_pow x hy)
theorem bo_or {x y : Nat} (hx : x < 2 ^ 63) (hy : y < 2 ^ 63) : bits .or .i64 (x : Int) (y : Int) = ((x ||| y : Nat) : Int) := by
  show IntKind.i64.wrap ((BitVec.ofInt 64 (x : Int) ||| BitVec.ofInt 64 (y : Int)).toNat : Int) = _
  rw [ofInt_nat, ofInt_nat, BitVec.toNat_or, BitVec.toNat_ofNat, BitVec.toNat_ofNat, Nat.mod_eq_of_lt (by omega), Nat.mod_eq_of_lt (by omega)]
  exact wrap_nat (Nat.or_lt_two_pow hx hy)
theorem bo_xor {x y : Nat} (hx : x < 2 ^ 63) (hy : y < 2 ^ 63) : bits .xor .i64 (x : Int) (y : Int) = ((x ^^^ y : Nat) : Int) := by
  show IntKind.i64.wrap ((BitVec.ofInt 64 (x : Int) ^^^ BitVec.ofInt 64 (y : Int)).toNat : Int) = _
  rw [ofInt_nat, ofInt_nat, BitVec.toNat_xor, BitVec.toNat_ofNat, BitVec.toNat_ofNat, Nat.mod_eq_of_lt (by omega), Nat.mod_eq_of_lt (by omega)]
  exact wrap_nat (Nat.xor_lt_two_pow hx hy)
theorem bo_xor8 {x y : Nat} (hx : x < 256) (hy : y < 256) : bits .xor .u8 (x : Int) (y : Int) = ((x ^^^ y : Nat) : Int) := by
  show IntKind.u8.wrap ((BitVec.ofInt 8 (x : Int) ^^^ BitVec.ofInt 8 (y : Int)).toNat : Int) = _
  rw [ofInt_nat, ofInt_nat, BitVec.toNat_xor, BitVec.toNat_ofNat, BitVec.toNat_ofNat, Nat.mod_eq_of_lt (by omega), Nat.mod_eq_of_lt (by omega)]
  exact wrap_nat8 (Nat.xor_lt_two_pow (n := 8) hx hy)
/-- The bits of x that y has not. -/
def andN (x y : Nat) : Nat := x &&& ((18446744073709551615 : Nat) ^^^ y)
theorem bo_andNot {x y : Nat} (hx : x < 2 ^ 63) (hy : y < 2 ^ 63) : bits .andNot .i64 (x : Int) (y : Int) = ((andN x y : Nat) : Int) := by
  show IntKind.i64.wrap ((BitVec.ofInt 64 (x : Int) &&& Complement.complement (BitVec.ofInt 64 (y : Int))).toNat : Int) = _
  have e : (Complement.complement (BitVec.ofNat 64 y)).toNat = (18446744073709551615 : Nat) ^^^ y := by
    rw [BitVec.toNat_not, BitVec.toNat_ofNat, Nat.mod_eq_of_lt (by omega)]
    apply Nat.eq_of_testBit_eq
    intro i
    rw [show 2 ^ 64 - 1 - y = 2 ^ 64 - (y + 1) by omega, Nat.testBit_two_pow_sub_succ (by omega), Nat.testBit_xor, show (18446744073709551615 : Nat) = 2 ^ 64 - 1 by decide, Nat.testBit_two_pow_sub_one]
    by_cases hi : i < 64
    · simp [hi]
    · have : y.testBit i = false := Nat.testBit_lt_two_pow (Nat.lt_of_lt_of_le (show y < 2 ^ 64 by omega) (Nat.pow_le_pow_right (by decide) (by omega)))
      simp [hi, this]
  rw [ofInt_nat, ofInt_nat, BitVec.toNat_and, e, BitVec.toNat_ofNat, Nat.mod_eq_of_lt (by omega)]
  refine wrap_nat (Nat.lt_of_le_of_lt Nat.and_le_left hx)
theorem andN_bit (x y i : Nat) (hy : y < 2 ^ 63) (hx : x < 2 ^ 63) : (andN x y).testBit i = (x.testBit i && !y.testBit i) := by
  unfold andN
  rw [Nat.testBit_and, Nat.testBit_xor, show (18446744073709551615 : Nat) = 2 ^ 64 - 1 by decide, Nat.testBit_two_pow_sub_one]
  by_cases hi : i < 64
  · simp [hi]
  · have : x.testBit i = false := Nat.testBit_lt_two_pow (Nat.lt_of_lt_of_le hx (Nat.pow_le_pow_right (by decide) (by omega)))
    simp [this]
theorem shl_one {i : Nat} (h : i < 62) : wrap64 (2 ^ i) = ((2 ^ i : Nat) : Int) := by
  have h1 : (2 : Nat) ^ i < 2 ^ 62 := Nat.pow_lt_pow_right (by decide) h
  have e : ((2 ^ i : Nat) : Int) = (2 : Int) ^ i := by simp
  rw [← e]
  clear e
  generalize (2 : Nat) ^ i = m at *
  unfold wrap64
  omega
end Go.Proofs.YtafnebfchhmgcaaGreat
