/- The plain mathematics of the rolling sum: remainders by a polynomial. No condition. -/
import Derived.Test.YtaoopodaalhheaaArith
namespace Go.Proofs.Ytaoopodaalhheaa.Roll
def redStep (n i : Nat) : Nat := if n / 2 ^ i % 2 = 1 then n ^^^ (2147483657 * 2 ^ (i - 31)) else n
def redTo (n : Nat) : Nat → Nat
  | 0 => n
  | k + 1 => redStep (redTo n k) (63 - k)
def red (n : Nat) : Nat := redTo n 33 % 4294967296
theorem poly_lt (i : Nat) (hi : i ≤ 63) : 2147483657 * 2 ^ (i - 31) < 18446744073709551616 := by
  have h : 2 ^ (i - 31) ≤ 2 ^ 32 := Nat.pow_le_pow_right (by omega) (by omega)
  have h2 : (2 : Nat) ^ 32 = 4294967296 := rfl
  omega
theorem redStep_lt (n i : Nat) (hn : n < 18446744073709551616) (hi : i ≤ 63) : redStep n i < 18446744073709551616 := by
  unfold redStep; split
  · exact xor_lt64 hn (poly_lt i hi)
  · exact hn
theorem redTo_lt (n k : Nat) (hn : n < 18446744073709551616) : redTo n k < 18446744073709551616 := by
  induction k with
  | zero => exact hn
  | succ k ih => exact redStep_lt _ _ ih (by omega)
theorem red_lt (n : Nat) : red n < 4294967296 := Nat.mod_lt _ (by omega)
end Go.Proofs.Ytaoopodaalhheaa.Roll
namespace Go.Proofs.Ytaoopodaalhheaa.Roll
/-! products -/
def mulTo (a b : Nat) : Nat → Nat
  | 0 => 0
  | k + 1 => if b / 2 ^ k % 2 = 1 then mulTo a b k ^^^ (a * 2 ^ k) else mulTo a b k
theorem shl_lt (a k : Nat) (ha : a < 4294967296) (hk : k ≤ 32) : a * 2 ^ k < 18446744073709551616 := by
  have h : 2 ^ k ≤ 2 ^ 32 := Nat.pow_le_pow_right (by omega) hk
  have h2 : (2 : Nat) ^ 32 = 4294967296 := rfl
  have h3 : a * 2 ^ k ≤ a * 4294967296 := Nat.mul_le_mul_left _ (by omega)
  omega
theorem mulTo_lt (a b k : Nat) (ha : a < 4294967296) (hk : k ≤ 32) : mulTo a b k < 18446744073709551616 := by
  induction k with
  | zero => simp [mulTo]
  | succ k ih =>
    unfold mulTo; split
    · exact xor_lt64 (ih (by omega)) (shl_lt a k ha (by omega))
    · exact ih (by omega)
def times (a b : Nat) : Nat := red (mulTo a b 32)
/-! one byte more, and the byte that leaves -/
def shift (n : Nat) : Nat := red (n * 256)
def lastTo (b : Nat) : Nat → Nat
  | 0 => b
  | k + 1 => shift (lastTo b k)
theorem shift_lt (n : Nat) : shift n < 4294967296 := red_lt _
theorem lastTo_lt (b k : Nat) (hb : b < 256) : lastTo b k < 4294967296 := by
  cases k with
  | zero => simp [lastTo]; omega
  | succ k => exact shift_lt _
/-! the remainder of a small number, and of a sum with one -/
theorem redStep_xor (n b i : Nat) (hb : b < 2147483648) (hi : 31 ≤ i) : redStep (n ^^^ b) i = redStep n i ^^^ b := by
  have hbit : (n ^^^ b) / 2 ^ i % 2 = n / 2 ^ i % 2 := by
    have h1 : (n ^^^ b).testBit i = n.testBit i := by
      rw [Nat.testBit_xor]
      have : b.testBit i = false := Nat.testBit_lt_two_pow (Nat.lt_of_lt_of_le hb (by
        have : 2 ^ 31 ≤ 2 ^ i := Nat.pow_le_pow_right (by omega) hi
        have h2 : (2 : Nat) ^ 31 = 2147483648 := rfl
        omega))
      rw [this]; simp
    rw [Nat.testBit_eq_decide_div_mod_eq, Nat.testBit_eq_decide_div_mod_eq] at h1
    have h2 : ((n ^^^ b) / 2 ^ i % 2 = 1) ↔ (n / 2 ^ i % 2 = 1) := by simpa using h1
    omega
  unfold redStep
  rw [hbit]
  split
  · rw [Nat.xor_assoc, Nat.xor_comm b, ← Nat.xor_assoc]
  · rfl
theorem redTo_xor (n b k : Nat) (hb : b < 2147483648) (hk : k ≤ 33) : redTo (n ^^^ b) k = redTo n k ^^^ b := by
  induction k with
  | zero => rfl
  | succ k ih => rw [redTo, ih (by omega), redStep_xor _ _ _ hb (by omega)]; rfl
theorem xor_mod32 (a b : Nat) : (a ^^^ b) % 4294967296 = (a % 4294967296) ^^^ (b % 4294967296) := by
  have h2 : (4294967296 : Nat) = 2 ^ 32 := rfl
  rw [h2]
  apply Nat.eq_of_testBit_eq
  intro i
  simp only [Nat.testBit_mod_two_pow, Nat.testBit_xor]
  by_cases h : i < 32 <;> simp [h]
theorem red_xor (n b : Nat) (hb : b < 2147483648) : red (n ^^^ b) = red n ^^^ b := by
  unfold red
  rw [redTo_xor n b 33 hb (by omega), xor_mod32, Nat.mod_eq_of_lt (a := b) (by omega)]
theorem redStep_zero (i : Nat) : redStep 0 i = 0 := by simp [redStep]
theorem redTo_zero (k : Nat) : redTo 0 k = 0 := by
  induction k with
  | zero => rfl
  | succ k ih => rw [redTo, ih, redStep_zero]
theorem shift_zero : shift 0 = 0 := by simp [shift, red, redTo_zero]
theorem lastTo_zero (k : Nat) : lastTo 0 k = 0 := by
  induction k with
  | zero => rfl
  | succ k ih => rw [lastTo, ih, shift_zero]
/-! the sum of a string -/
def sumOf (l : List UInt8) : Nat := l.foldl (fun n b => shift n ^^^ b.toNat) 0
theorem sumOf_snoc (l : List UInt8) (b : UInt8) : sumOf (l ++ [b]) = shift (sumOf l) ^^^ b.toNat := by simp [sumOf]
theorem sumOf_lt (l : List UInt8) : sumOf l < 4294967296 := by
  rcases List.eq_nil_or_concat l with rfl | ⟨m, b, rfl⟩
  · simp [sumOf]
  · rw [List.concat_eq_append, sumOf_snoc]; exact xor_lt32 (shift_lt _) (by have := b.toNat_lt; omega)
end Go.Proofs.Ytaoopodaalhheaa.Roll
