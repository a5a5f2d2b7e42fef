/- The number of one bits of a number of 64 bits. No condition. -/
import Derived.Test.YtjbgahmcobcojaaPopMath
namespace Go.Proofs.Ytjbgahmcobcojaa.Pop
theorem nest {z q1 q2 q3 q4 q5 q6 q7 c0 c1 c2 c3 c4 c5 c6 : Nat} (h0 : z = c0 + 256 * q1) (h1 : q1 = c1 + 256 * q2) (h2 : q2 = c2 + 256 * q3) (h3 : q3 = c3 + 256 * q4) (h4 : q4 = c4 + 256 * q5) (h5 : q5 = c5 + 256 * q6) (h6 : q6 = c6 + 256 * q7) :
    z = c0 + 256 * c1 + 65536 * c2 + 16777216 * c3 + 4294967296 * c4 + 1099511627776 * c5 + 281474976710656 * c6 + 72057594037927936 * q7 := by
  subst h6 h5 h4 h3 h2 h1
  omega
theorem dec8 (z : Nat) (hz : z < 18446744073709551616) : z = z % 256 + 256 * (z / 256 % 256) + 65536 * (z / 65536 % 256) + 16777216 * (z / 16777216 % 256) + 4294967296 * (z / 4294967296 % 256) + 1099511627776 * (z / 1099511627776 % 256) + 281474976710656 * (z / 281474976710656 % 256) + 72057594037927936 * (z / 72057594037927936 % 256) := by
  have st : ∀ y : Nat, y = y % 256 + 256 * (y / 256) := fun y => (Nat.mod_add_div y 256).symm
  have w1 : z / 256 / 256 = z / 65536 := Nat.div_div_eq_div_mul z 256 256
  have w2 : z / 65536 / 256 = z / 16777216 := Nat.div_div_eq_div_mul z 65536 256
  have w3 : z / 16777216 / 256 = z / 4294967296 := Nat.div_div_eq_div_mul z 16777216 256
  have w4 : z / 4294967296 / 256 = z / 1099511627776 := Nat.div_div_eq_div_mul z 4294967296 256
  have w5 : z / 1099511627776 / 256 = z / 281474976710656 := Nat.div_div_eq_div_mul z 1099511627776 256
  have w6 : z / 281474976710656 / 256 = z / 72057594037927936 := Nat.div_div_eq_div_mul z 281474976710656 256
  have k7 : z / 72057594037927936 < 256 := Nat.div_lt_of_lt_mul hz
  have s1 := st (z / 256)
  have s2 := st (z / 65536)
  have s3 := st (z / 16777216)
  have s4 := st (z / 4294967296)
  have s5 := st (z / 1099511627776)
  have s6 := st (z / 281474976710656)
  rw [w1] at s1
  rw [w2] at s2
  rw [w3] at s3
  rw [w4] at s4
  rw [w5] at s5
  rw [w6] at s6
  rw [Nat.mod_eq_of_lt k7]
  exact nest (st z) s1 s2 s3 s4 s5 s6
theorem mask48 : mask 4 8 = 1085102592571150095 := by simp [mask]
theorem d8 (z : Nat) : dsum 8 8 z = z % 256 + z / 256 % 256 + z / 65536 % 256 + z / 16777216 % 256 + z / 4294967296 % 256 + z / 1099511627776 % 256 + z / 281474976710656 % 256 + z / 72057594037927936 % 256 := by
  have e8 : 2 ^ 8 = 256 := by decide
  simp only [dsum, e8, Nat.div_div_eq_div_mul, Nat.reduceMul, Nat.add_zero, Nat.add_assoc]
theorem le8 {z : Nat} (h : dle 8 8 8 z) : z % 256 ≤ 8 ∧ z / 256 % 256 ≤ 8 ∧ z / 65536 % 256 ≤ 8 ∧ z / 16777216 % 256 ≤ 8 ∧ z / 4294967296 % 256 ≤ 8 ∧ z / 1099511627776 % 256 ≤ 8 ∧ z / 281474976710656 % 256 ≤ 8 ∧ z / 72057594037927936 % 256 ≤ 8 := by
  have e8 : 2 ^ 8 = 256 := by decide
  simp only [dle, e8, Nat.div_div_eq_div_mul, Nat.reduceMul, and_true] at h
  exact h
theorem bits3 (x y0 y1 z : Nat) (h0 : y0 = ((x / 2) &&& mask 1 32) + (x &&& mask 1 32)) (h1 : y1 = ((y0 / 4) &&& mask 2 16) + (y0 &&& mask 2 16)) (h2 : z = (y1 / 16 + y1) &&& mask 4 8) : dsum 8 8 z = dsum 1 64 x ∧ dle 8 8 8 z := by
  have a0 : y0 = sw 1 32 x := h0.trans (sum_masks 1 32 x)
  have a1 : y1 = sw 2 16 y0 := h1.trans (sum_masks 2 16 y0)
  have d0 : dle 2 2 32 y0 := by rw [a0]; exact dle_sw 1 1 (by omega) (by decide) 32 x (dle_one 64 x)
  have d1 : dle 4 4 16 y1 := by rw [a1]; exact dle_sw 2 2 (by omega) (by decide) 16 y0 d0
  have a2 : z = sw 4 8 y1 := h2.trans (nib 8 y1 d1)
  have d2 : dle 8 8 8 z := by rw [a2]; exact dle_sw 4 4 (by omega) (by decide) 8 y1 d1
  have s0 : dsum 2 32 y0 = dsum 1 64 x := by rw [a0]; exact dsum_sw 1 (by omega) 32 x
  have s1 : dsum 4 16 y1 = dsum 2 32 y0 := by rw [a1]; exact dsum_sw 2 (by omega) 16 y0
  have s2 : dsum 8 8 z = dsum 4 16 y1 := by rw [a2]; exact dsum_sw 4 (by omega) 8 y1
  exact ⟨s2.trans (s1.trans s0), d2⟩
theorem pop64 (x y0 y1 z t1 t2 t3 : Nat) (h0 : y0 = ((x / 2) &&& mask 1 32) + (x &&& mask 1 32)) (h1 : y1 = ((y0 / 4) &&& mask 2 16) + (y0 &&& mask 2 16)) (h2 : z = (y1 / 16 + y1) &&& mask 4 8) (e1 : t1 = z + z / 256) (e2 : t2 = t1 + t1 / 65536) (e3 : t3 = t2 + t2 / 4294967296) : t3 % 128 = dsum 1 64 x ∧ t3 < 18446744073709551616 := by
  obtain ⟨hd, hl⟩ := bits3 x y0 y1 z h0 h1 h2
  have hz : z < 18446744073709551616 := by
    have hle : z ≤ mask 4 8 := by rw [h2]; exact Nat.and_le_right
    rw [mask48] at hle
    exact Nat.lt_of_le_of_lt hle (by decide)
  obtain ⟨g0, g1, g2, g3, g4, g5, g6, g7⟩ := le8 hl
  have key := fin8 (z % 256) (z / 256 % 256) (z / 65536 % 256) (z / 16777216 % 256) (z / 4294967296 % 256) (z / 1099511627776 % 256) (z / 281474976710656 % 256) (z / 72057594037927936 % 256) g0 g1 g2 g3 g4 g5 g6 g7 z t1 t2 t3 (dec8 z hz) e1 e2 e3
  exact ⟨by rw [key.1, ← hd, d8], key.2⟩
end Go.Proofs.Ytjbgahmcobcojaa.Pop
