/- The digits of a number by 256, and the number of a row of digits. No condition. -/
import Derived.Lib.Endian
import Derived.Lib.TrimByte
namespace Go.Proofs.Ytgmggcpceemnnaa.Num
open Go.Lib
theorem beFrom_snoc : ∀ (l : List UInt8) (acc : Nat) (b : UInt8), beFrom acc (l ++ [b]) = beFrom acc l * 256 + b.toNat
  | [], _, _ => rfl
  | c :: l, acc, b => by show beFrom (acc * 256 + c.toNat) (l ++ [b]) = _; rw [beFrom_snoc l]; rfl
theorem beNat_snoc (l : List UInt8) (b : UInt8) : beNat (l ++ [b]) = beNat l * 256 + b.toNat := beFrom_snoc l 0 b
theorem beFrom_lt : ∀ (l : List UInt8) (acc : Nat), beFrom acc l < (acc + 1) * 256 ^ l.length
  | [], acc => by simp [beFrom]
  | c :: l, acc => by
    have h := beFrom_lt l (acc * 256 + c.toNat)
    have hc := c.toNat_lt
    have h2 : (acc * 256 + c.toNat + 1) * 256 ^ l.length ≤ ((acc + 1) * 256) * 256 ^ l.length := Nat.mul_le_mul_right _ (by omega)
    have h3 : ((acc + 1) * 256) * 256 ^ l.length = (acc + 1) * 256 ^ (c :: l).length := by rw [List.length_cons, Nat.pow_succ, Nat.mul_assoc, Nat.mul_comm 256]
    show beFrom (acc * 256 + c.toNat) l < _
    omega
theorem beNat_lt (l : List UInt8) : beNat l < 256 ^ l.length := by have := beFrom_lt l 0; simpa [beNat] using this
theorem beNat_lt' {l : List UInt8} {k : Nat} (h : l.length ≤ k) : beNat l < 256 ^ k := Nat.lt_of_lt_of_le (beNat_lt l) (Nat.pow_le_pow_right (by omega) h)
theorem beNat_take {l : List UInt8} {j : Nat} (h : j < l.length) : beNat (l.take (j + 1)) = beNat (l.take j) * 256 + l[j].toNat := by
  rw [← List.take_append_getElem h, beNat_snoc]
def digF : Nat → Nat → List UInt8
  | 0, _ => []
  | k + 1, n => if n = 0 then [] else digF k (n / 256) ++ [(n % 256).toUInt8]
theorem digF_nil : ∀ {k n : Nat}, n < 256 ^ k → (digF k n = [] ↔ n = 0)
  | 0, n, h => by simp [digF]; simpa using h
  | k + 1, n, h => by unfold digF; split <;> simp_all
theorem digF_len : ∀ (k n : Nat), (digF k n).length ≤ k
  | 0, n => by simp [digF]
  | k + 1, n => by
    unfold digF
    split
    · simp
    · have := digF_len k (n / 256); simp; omega
theorem be_succ (k n : Nat) : beBytes (k + 1) n = beBytes k (n / 256) ++ [(n % 256).toUInt8] := by unfold beBytes; rw [Lib.leBytes, List.reverse_cons]
theorem div_lt {k n : Nat} (h : n < 256 ^ (k + 1)) : n / 256 < 256 ^ k := by rw [Nat.pow_succ] at h; omega
theorem trim_be : ∀ {k n : Nat}, n < 256 ^ k → trimLeftB (beBytes k n) 0 = digF k n
  | 0, n, h => rfl
  | k + 1, n, h => by
    have ih := trim_be (div_lt h)
    have hn := digF_nil (div_lt h)
    unfold trimLeftB at ih ⊢
    rw [be_succ, List.dropWhile_append, ih]
    show _ = if n = 0 then [] else digF k (n / 256) ++ [(n % 256).toUInt8]
    by_cases h0 : n / 256 = 0
    · rw [hn.2 h0]
      by_cases h1 : n = 0
      · subst h1; rfl
      · have h2 : ((n % 256).toUInt8 == 0) = false := by
          rw [beq_eq_false_iff_ne]
          intro e
          have := congrArg UInt8.toNat e
          rw [toUInt8_mod] at this
          simp at this; omega
        rw [if_neg h1]; simp [h2]
    · have h3 : (digF k (n / 256)).isEmpty = false := by rw [List.isEmpty_eq_false_iff]; exact fun e => h0 (hn.1 e)
      rw [h3, if_neg (by simp), if_neg (by omega)]
end Go.Proofs.Ytgmggcpceemnnaa.Num
