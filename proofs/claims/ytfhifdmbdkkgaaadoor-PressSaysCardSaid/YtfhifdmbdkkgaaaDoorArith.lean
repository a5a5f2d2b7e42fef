/- Facts on bits and remainders in the spelling of the walk; the plain mathematics of the rolling sum. No condition. -/
import Derived.WalkKit
import Derived.Lib.Hide
namespace Go.Proofs.YtfhifdmbdkkgaaaDoor
open Go.RowKit
/-! bits -/
theorem shr_cast (m j : Nat) : ((m : Int) / 2 ^ j) = ((m / 2 ^ j : Nat) : Int) := by simp
theorem u64_bit (m j : Nat) (hm : m < 18446744073709551616) : bits BinOp.and IntKind.u64 ((m : Int) / 2 ^ j) 1 = ((m / 2 ^ j % 2 : Nat) : Int) := by
  have h : m / 2 ^ j < 18446744073709551616 := Nat.lt_of_le_of_lt (Nat.div_le_self _ _) hm
  rw [shr_cast]
  have := u64_and_nat (m / 2 ^ j) 1 h (by omega)
  rw [Nat.and_one_is_mod] at this
  exact this
theorem u32_bit (m j : Nat) (hm : m < 4294967296) : bits BinOp.and IntKind.u32 ((m : Int) / 2 ^ j) 1 = ((m / 2 ^ j % 2 : Nat) : Int) := by
  have h : m / 2 ^ j < 4294967296 := Nat.lt_of_le_of_lt (Nat.div_le_self _ _) hm
  rw [shr_cast]
  have := u32_and_nat (m / 2 ^ j) 1 h (by omega)
  rw [Nat.and_one_is_mod] at this
  exact this
theorem u64_shl (m j : Nat) (h : m * 2 ^ j < 18446744073709551616) : IntKind.u64.wrap ((m : Int) * 2 ^ j) = ((m * 2 ^ j : Nat) : Int) := by
  have e : ((m : Int) * 2 ^ j) = ((m * 2 ^ j : Nat) : Int) := by simp
  rw [e]; exact IntWalk.u64_in _ (by omega)
theorem i64_keep (n : Int) (h₀ : 0 ≤ n) (h₁ : n < 2 ^ 63) : IntKind.i64.wrap n = n := IntWalk.i64_in n (by omega)
theorem i64_and_nat (a b : Nat) (ha : a < 9223372036854775808) (hb : b < 9223372036854775808) : bits .and .i64 (a : Int) (b : Int) = ((a &&& b : Nat) : Int) := (bits_nat .i64 63 (by decide) i64_keep a b ha hb).1
theorem i64_or_nat (a b : Nat) (ha : a < 9223372036854775808) (hb : b < 9223372036854775808) : bits .or .i64 (a : Int) (b : Int) = ((a ||| b : Nat) : Int) := (bits_nat .i64 63 (by decide) i64_keep a b ha hb).2
theorem i64_xor_nat (a b : Nat) (ha : a < 9223372036854775808) (hb : b < 9223372036854775808) : bits .xor .i64 (a : Int) (b : Int) = ((a ^^^ b : Nat) : Int) := by
  have hp : (2 : Nat) ^ IntKind.i64.bits = 18446744073709551616 := rfl
  simp only [bits, BitVec.ofInt_natCast, BitVec.toNat_xor, BitVec.toNat_ofNat]
  rw [hp, Nat.mod_eq_of_lt (show a < 18446744073709551616 by omega), Nat.mod_eq_of_lt (show b < 18446744073709551616 by omega)]
  have hx : a ^^^ b < 2 ^ 63 := Nat.xor_lt_two_pow (n := 63) ha hb
  exact IntWalk.i64_in _ (by omega)
theorem i64_bit (m j : Nat) (hm : m < 9223372036854775808) : bits BinOp.and IntKind.i64 ((m : Int) / 2 ^ j) 1 = ((m / 2 ^ j % 2 : Nat) : Int) := by
  have h : m / 2 ^ j < 9223372036854775808 := Nat.lt_of_le_of_lt (Nat.div_le_self _ _) hm
  rw [shr_cast]
  have := i64_and_nat (m / 2 ^ j) 1 h (by omega)
  rw [Nat.and_one_is_mod] at this
  exact this
theorem u8_bitAt (m j : Nat) (hm : m < 256) : bits BinOp.and IntKind.u8 ((m : Int) / 2 ^ j) 1 = ((m / 2 ^ j % 2 : Nat) : Int) := by
  have h : m / 2 ^ j < 256 := Nat.lt_of_le_of_lt (Nat.div_le_self _ _) hm
  rw [shr_cast]
  have := u8_and_nat (m / 2 ^ j) 1 h (by omega)
  rw [Nat.and_one_is_mod] at this
  exact this
theorem wrap64_nat (m : Nat) (h : m < 9223372036854775808) : wrap64 ((m : Nat) : Int) = (m : Int) := IntWalk.wrap64_in _ (by omega)
theorem xor_lt {a b k : Nat} (ha : a < 2 ^ k) (hb : b < 2 ^ k) : a ^^^ b < 2 ^ k := Nat.xor_lt_two_pow ha hb
theorem xor_lt64 {a b : Nat} (ha : a < 18446744073709551616) (hb : b < 18446744073709551616) : a ^^^ b < 18446744073709551616 := Nat.xor_lt_two_pow (n := 64) ha hb
theorem xor_lt32 {a b : Nat} (ha : a < 4294967296) (hb : b < 4294967296) : a ^^^ b < 4294967296 := Nat.xor_lt_two_pow (n := 32) ha hb
theorem ival {k : IntKind} {a b : Int} (h : a = b) : Value.int k a = Value.int k b := by rw [h]
theorem ret_int {k : IntKind} {a b : Int} (h : a = b) : Ending.returned (.int k a) = .returned (.int k b) := by rw [h]
theorem beq_cast_true {a : Nat} {b : Int} (h : ((a : Int) == b) = true) : (a : Int) = b := by simpa using h
end Go.Proofs.YtfhifdmbdkkgaaaDoor
