/- The number of one bits by parallel sums. No model in this text. No condition. -/
namespace Go.Proofs.Ytjbgahmcobcojaa.Pop
/-- the sum of the first n digits of x in the base 2^s -/
def dsum (s : Nat) : Nat → Nat → Nat
  | 0, _ => 0
  | n + 1, x => x % 2 ^ s + dsum s n (x / 2 ^ s)
/-- neighbours added: the digits of the base 2^(2k) are the sums of pairs of digits of the base 2^k -/
def sw (k : Nat) : Nat → Nat → Nat
  | 0, _ => 0
  | n + 1, x => (x % 2 ^ k + x / 2 ^ k % 2 ^ k) + 2 ^ (2 * k) * sw k n (x / 2 ^ (2 * k))
/-- the mask with k ones in each digit of the base 2^(2k) -/
def mask (k : Nat) : Nat → Nat
  | 0 => 0
  | n + 1 => (2 ^ k - 1) + 2 ^ (2 * k) * mask k n
theorem pow2k (k : Nat) : 2 ^ (2 * k) = 2 ^ k * 2 ^ k := by rw [Nat.two_mul, Nat.pow_add]
theorem and_split (s a b : Nat) : a &&& b = 2 ^ s * ((a / 2 ^ s) &&& (b / 2 ^ s)) + ((a % 2 ^ s) &&& (b % 2 ^ s)) := by
  rw [← Nat.and_div_two_pow, ← Nat.and_mod_two_pow, Nat.div_add_mod]
theorem mask_lt (k : Nat) : 2 ^ k - 1 < 2 ^ (2 * k) := by
  have h1 : 2 ^ k ≤ 2 ^ (2 * k) := Nat.pow_le_pow_right (by omega) (by omega)
  have h2 : 0 < 2 ^ k := Nat.pow_pos (by omega)
  omega
theorem low_and (k x : Nat) : (x % 2 ^ (2 * k)) &&& (2 ^ k - 1) = x % 2 ^ k := by
  rw [Nat.and_two_pow_sub_one_eq_mod, pow2k, Nat.mod_mul_left_mod]
theorem and_mask (k : Nat) : ∀ (n x : Nat), x &&& mask k n = match n with | 0 => 0 | n + 1 => x % 2 ^ k + 2 ^ (2 * k) * ((x / 2 ^ (2 * k)) &&& mask k n)
  | 0, x => by simp [mask]
  | n + 1, x => by
    have h := mask_lt k
    have h0 : 0 < 2 ^ (2 * k) := Nat.pow_pos (by omega)
    rw [and_split (2 * k), show mask k (n + 1) = (2 ^ k - 1) + 2 ^ (2 * k) * mask k n from rfl]
    rw [Nat.add_mul_div_left _ _ h0, Nat.div_eq_of_lt h, Nat.zero_add, Nat.add_mul_mod_self_left, Nat.mod_eq_of_lt h, low_and, Nat.add_comm]
theorem sum_masks (k : Nat) : ∀ (n x : Nat), ((x / 2 ^ k) &&& mask k n) + (x &&& mask k n) = sw k n x
  | 0, x => by simp [mask, sw]
  | n + 1, x => by
    rw [and_mask k (n + 1), and_mask k (n + 1)]
    simp only
    have ih := sum_masks k n (x / 2 ^ (2 * k))
    have e : x / 2 ^ k / 2 ^ (2 * k) = x / 2 ^ (2 * k) / 2 ^ k := by rw [Nat.div_div_eq_div_mul, Nat.div_div_eq_div_mul, Nat.mul_comm]
    rw [e]
    show _ = (x % 2 ^ k + x / 2 ^ k % 2 ^ k) + 2 ^ (2 * k) * sw k n (x / 2 ^ (2 * k))
    rw [← ih, Nat.mul_add]
    omega
theorem dsum_sw (k : Nat) (hk : 1 ≤ k) : ∀ (n x : Nat), dsum (2 * k) n (sw k n x) = dsum k (2 * n) x
  | 0, x => rfl
  | n + 1, x => by
    have h0 : 0 < 2 ^ k := Nat.pow_pos (by omega)
    have h1 : 2 ≤ 2 ^ k := by
      have := Nat.pow_le_pow_right (n := 2) (by omega) hk
      simpa using this
    have hB : 0 < 2 ^ (2 * k) := Nat.pow_pos (by omega)
    have hc : x % 2 ^ k + x / 2 ^ k % 2 ^ k < 2 ^ (2 * k) := by
      have a := Nat.mod_lt x h0
      have b := Nat.mod_lt (x / 2 ^ k) h0
      have c : 2 * 2 ^ k ≤ 2 ^ k * 2 ^ k := Nat.mul_le_mul_right _ h1
      rw [pow2k]; omega
    have ih := dsum_sw k hk n (x / 2 ^ (2 * k))
    show (sw k (n + 1) x) % 2 ^ (2 * k) + dsum (2 * k) n (sw k (n + 1) x / 2 ^ (2 * k)) = _
    unfold sw
    rw [Nat.add_mul_mod_self_left, Nat.mod_eq_of_lt hc, Nat.add_mul_div_left _ _ hB, Nat.div_eq_of_lt hc, Nat.zero_add, ih]
    rw [show 2 * (n + 1) = 2 * n + 1 + 1 by omega]
    show _ = x % 2 ^ k + (x / 2 ^ k % 2 ^ k + dsum k (2 * n) (x / 2 ^ k / 2 ^ k))
    rw [Nat.div_div_eq_div_mul, ← pow2k]
    omega
/-- the first n digits are at most c -/
def dle (s c : Nat) : Nat → Nat → Prop
  | 0, _ => True
  | n + 1, x => x % 2 ^ s ≤ c ∧ dle s c n (x / 2 ^ s)
theorem dle_sw (k c : Nat) (hk : 1 ≤ k) (hc : c < 2 ^ k) : ∀ (n x : Nat), dle k c (2 * n) x → dle (2 * k) (2 * c) n (sw k n x)
  | 0, x, _ => trivial
  | n + 1, x, h => by
    rw [show 2 * (n + 1) = 2 * n + 1 + 1 by omega] at h
    obtain ⟨h1, h2, h3⟩ := h
    have hp : 0 < 2 ^ k := Nat.pow_pos (by omega)
    have h1' : 2 ≤ 2 ^ k := by
      have := Nat.pow_le_pow_right (n := 2) (by omega) hk
      simpa using this
    have hB : 0 < 2 ^ (2 * k) := Nat.pow_pos (by omega)
    have hcc : x % 2 ^ k + x / 2 ^ k % 2 ^ k < 2 ^ (2 * k) := by
      have a := Nat.mod_lt x hp
      have b := Nat.mod_lt (x / 2 ^ k) hp
      have c : 2 * 2 ^ k ≤ 2 ^ k * 2 ^ k := Nat.mul_le_mul_right _ h1'
      rw [pow2k]; omega
    rw [Nat.div_div_eq_div_mul, ← pow2k] at h3
    have ih := dle_sw k c hk hc n (x / 2 ^ (2 * k)) h3
    unfold sw dle
    rw [Nat.add_mul_mod_self_left, Nat.mod_eq_of_lt hcc, Nat.add_mul_div_left _ _ hB, Nat.div_eq_of_lt hcc, Nat.zero_add]
    exact ⟨by omega, ih⟩
theorem dle_one : ∀ (n x : Nat), dle 1 1 n x
  | 0, _ => trivial
  | n + 1, x => ⟨by omega, dle_one n _⟩
theorem nib (n : Nat) : ∀ (x : Nat), dle 4 4 (2 * n) x → (x / 16 + x) &&& mask 4 n = sw 4 n x := by
  induction n with
  | zero => intro x _; simp [mask, sw]
  | succ n ih =>
    intro x h
    rw [show 2 * (n + 1) = 2 * n + 1 + 1 by omega] at h
    obtain ⟨h1, h2, h3⟩ := h
    have e4 : 2 ^ 4 = 16 := by decide
    have e8 : 2 ^ (2 * 4) = 256 := by decide
    rw [e4] at h1 h2 h3
    rw [Nat.div_div_eq_div_mul] at h3
    have hd : x / (16 * 16) = x / 256 := rfl
    rw [hd] at h3
    have hn : x / 256 % 16 ≤ 4 ∨ n = 0 := by
      cases n with
      | zero => exact .inr rfl
      | succ n => left; have := h3.1; rw [e4] at this; exact this
    rw [and_mask 4 (n + 1)]
    show (x / 16 + x) % 2 ^ 4 + 2 ^ (2 * 4) * ((x / 16 + x) / 2 ^ (2 * 4) &&& mask 4 n) = (x % 2 ^ 4 + x / 2 ^ 4 % 2 ^ 4) + 2 ^ (2 * 4) * sw 4 n (x / 2 ^ (2 * 4))
    rw [e4, e8, ← ih (x / 256) h3]
    have hlow : (x / 16 + x) % 16 = x % 16 + x / 16 % 16 := by omega
    rw [hlow]
    rcases hn with hn | rfl
    · have hq : (x / 16 + x) / 256 = x / 256 / 16 + x / 256 := by
        have ha : x / 16 = x / 16 % 16 + 16 * (x / 256) := by omega
        have hb : x = x % 16 + 16 * (x / 16) := by omega
        have hc : x / 256 = x / 256 % 16 + 16 * (x / 256 / 16) := by omega
        have hs : x / 16 + x = 256 * (x / 256 / 16 + x / 256) + (x % 16 + 17 * (x / 16 % 16) + 16 * (x / 256 % 16)) := by
          generalize x / 16 % 16 = d1 at *
          generalize x % 16 = d0 at *
          generalize x / 256 % 16 = c0 at *
          generalize x / 256 / 16 = c1 at *
          generalize x / 256 = c at *
          generalize x / 16 = y at *
          omega
        generalize x / 256 / 16 + x / 256 = A at *
        have hr : x % 16 + 17 * (x / 16 % 16) + 16 * (x / 256 % 16) < 256 := by omega
        rw [hs, Nat.mul_add_div (by omega), Nat.div_eq_of_lt hr, Nat.add_zero]
      rw [hq]
    · simp [mask]
theorem fin8 (b0 b1 b2 b3 b4 b5 b6 b7 : Nat) (h0 : b0 ≤ 8) (h1 : b1 ≤ 8) (h2 : b2 ≤ 8) (h3 : b3 ≤ 8) (h4 : b4 ≤ 8) (h5 : b5 ≤ 8) (h6 : b6 ≤ 8) (h7 : b7 ≤ 8) (z t1 t2 t3 : Nat)
    (hz : z = b0 + 256 * b1 + 65536 * b2 + 16777216 * b3 + 4294967296 * b4 + 1099511627776 * b5 + 281474976710656 * b6 + 72057594037927936 * b7)
    (e1 : t1 = z + z / 256) (e2 : t2 = t1 + t1 / 65536) (e3 : t3 = t2 + t2 / 4294967296) : t3 % 128 = b0 + b1 + b2 + b3 + b4 + b5 + b6 + b7 ∧ t3 < 18446744073709551616 := by
  have q1 : z / 256 = b1 + 256 * b2 + 65536 * b3 + 16777216 * b4 + 4294967296 * b5 + 1099511627776 * b6 + 281474976710656 * b7 := by omega
  have r1 : t1 = (b0 + b1) + 256 * (b1 + b2) + 65536 * (b2 + b3) + 16777216 * (b3 + b4) + 4294967296 * (b4 + b5) + 1099511627776 * (b5 + b6) + 281474976710656 * (b6 + b7) + 72057594037927936 * b7 := by omega
  clear e1 q1 hz
  have q2 : t1 / 65536 = (b2 + b3) + 256 * (b3 + b4) + 65536 * (b4 + b5) + 16777216 * (b5 + b6) + 4294967296 * (b6 + b7) + 1099511627776 * b7 := by omega
  have r2 : t2 = (b0 + b1 + b2 + b3) + 256 * (b1 + b2 + b3 + b4) + 65536 * (b2 + b3 + b4 + b5) + 16777216 * (b3 + b4 + b5 + b6) + 4294967296 * (b4 + b5 + b6 + b7) + 1099511627776 * (b5 + b6 + b7) + 281474976710656 * (b6 + b7) + 72057594037927936 * b7 := by omega
  clear r1 q2 e2
  have q3 : t2 / 4294967296 = (b4 + b5 + b6 + b7) + 256 * (b5 + b6 + b7) + 65536 * (b6 + b7) + 16777216 * b7 := by omega
  constructor <;> omega
end Go.Proofs.Ytjbgahmcobcojaa.Pop
