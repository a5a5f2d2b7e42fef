/- The plain mathematics of the rolling sum, the window of 16 bytes. No condition. -/
import Derived.Test.YtaoopodaalhheaaRollMath
namespace Go.Proofs.Ytaoopodaalhheaa.Roll
theorem lt_of_bit {x i : Nat} (h : x < 2 ^ (i + 1)) (hb : x.testBit i = false) : x < 2 ^ i := by
  rw [Nat.testBit_eq_decide_div_mod_eq] at hb
  have h1 : x / 2 ^ i < 2 := by
    rw [Nat.div_lt_iff_lt_mul (Nat.two_pow_pos i), Nat.mul_comm, ← Nat.pow_succ]; exact h
  have h2 : x / 2 ^ i % 2 ≠ 1 := by simpa using hb
  have h3 : x / 2 ^ i = 0 := by
    generalize x / 2 ^ i = q at h1 h2
    omega
  exact (Nat.div_eq_zero_iff_lt (Nat.two_pow_pos i)).1 h3
theorem poly_bits (i : Nat) (hi : 31 ≤ i) : 2147483657 * 2 ^ (i - 31) < 2 ^ (i + 1) ∧ (2147483657 * 2 ^ (i - 31)).testBit i = true := by
  obtain ⟨j, rfl⟩ : ∃ j, i = 31 + j := ⟨i - 31, by omega⟩
  rw [Nat.add_sub_cancel_left]
  have hp := Nat.two_pow_pos j
  have e1 : 2 ^ (31 + j) = 2147483648 * 2 ^ j := by rw [Nat.pow_add]
  have e2 : 2 ^ (31 + j + 1) = 4294967296 * 2 ^ j := by rw [Nat.pow_add, Nat.pow_add]; omega
  refine ⟨by rw [e2]; omega, ?_⟩
  rw [Nat.testBit_eq_decide_div_mod_eq, e1]
  have : 2147483657 * 2 ^ j / (2147483648 * 2 ^ j) = 1 := by
    rw [Nat.mul_div_mul_right _ _ hp]
  rw [this]; rfl
theorem redStep_bnd {m i : Nat} (hi : 31 ≤ i) (h : m < 2 ^ (i + 1)) : redStep m i < 2 ^ i := by
  unfold redStep
  split
  · rename_i hb
    have hp := poly_bits i hi
    refine lt_of_bit (Nat.xor_lt_two_pow h hp.1) ?_
    have hb' : m.testBit i = true := by rw [Nat.testBit_eq_decide_div_mod_eq]; simpa using hb
    rw [Nat.testBit_xor, hp.2, hb']; rfl
  · rename_i hb
    exact lt_of_bit h (by rw [Nat.testBit_eq_decide_div_mod_eq]; simpa using hb)
theorem redTo_bnd (n : Nat) (hn : n < 18446744073709551616) : ∀ k, k ≤ 33 → redTo n k < 2 ^ (64 - k)
  | 0, _ => hn
  | k + 1, hk => by
    have h1 := redTo_bnd n hn k (by omega)
    rw [redTo, show 64 - (k + 1) = 63 - k by omega]
    exact redStep_bnd (by omega) (by rw [show 63 - k + 1 = 64 - k by omega]; exact h1)
theorem red_lt31 (n : Nat) (hn : n < 18446744073709551616) : red n < 2147483648 := by
  have h : redTo n 33 < 2147483648 := redTo_bnd n hn 33 (by omega)
  unfold red
  rw [Nat.mod_eq_of_lt (by omega)]; exact h
theorem redStep_lin (a b i : Nat) : redStep (a ^^^ b) i = redStep a i ^^^ redStep b i := by
  have h1 : (a ^^^ b).testBit i = (a.testBit i ^^ b.testBit i) := Nat.testBit_xor ..
  rw [Nat.testBit_eq_decide_div_mod_eq, Nat.testBit_eq_decide_div_mod_eq, Nat.testBit_eq_decide_div_mod_eq] at h1
  unfold redStep
  generalize 2147483657 * 2 ^ (i - 31) = p
  by_cases ha : a / 2 ^ i % 2 = 1 <;> by_cases hb : b / 2 ^ i % 2 = 1 <;> simp [ha, hb] at h1 ⊢
  · rw [if_neg (by omega), Nat.xor_assoc, ← Nat.xor_assoc p, Nat.xor_comm p b, Nat.xor_assoc b, Nat.xor_self, Nat.xor_zero]
  · rw [if_pos h1, Nat.xor_assoc, Nat.xor_comm b, ← Nat.xor_assoc]
  · rw [if_pos h1, Nat.xor_assoc]
  · intro h; omega
theorem redTo_lin (a b : Nat) : ∀ k, redTo (a ^^^ b) k = redTo a k ^^^ redTo b k
  | 0 => rfl
  | k + 1 => by rw [redTo, redTo_lin a b k, redStep_lin]; rfl
theorem red_lin (a b : Nat) : red (a ^^^ b) = red a ^^^ red b := by unfold red; rw [redTo_lin, xor_mod32]
theorem shl8_lin (a b : Nat) : (a ^^^ b) * 256 = (a * 256) ^^^ (b * 256) := by
  have e : ∀ x : Nat, x * 256 = x <<< 8 := fun x => by rw [Nat.shiftLeft_eq]
  rw [e, e, e]
  apply Nat.eq_of_testBit_eq
  intro i
  simp only [Nat.testBit_xor, Nat.testBit_shiftLeft]
  by_cases h : 8 ≤ i <;> simp [h]
theorem shift_lin (a b : Nat) : shift (a ^^^ b) = shift a ^^^ shift b := by unfold shift; rw [shl8_lin, red_lin]
theorem shift_lt31 {n : Nat} (h : n < 4294967296) : shift n < 2147483648 := red_lt31 _ (by omega)
theorem lastTo_succ (b : Nat) : ∀ k, lastTo (shift b) k = shift (lastTo b k)
  | 0 => rfl
  | k + 1 => by rw [lastTo, lastTo_succ b k]; rfl
theorem fold_lin : ∀ (l : List UInt8) (n b : Nat), l.foldl (fun n b => shift n ^^^ b.toNat) (n ^^^ b) = l.foldl (fun n b => shift n ^^^ b.toNat) n ^^^ lastTo b l.length
  | [], n, b => rfl
  | x :: l, n, b => by
    rw [List.foldl_cons, List.foldl_cons, shift_lin, Nat.xor_assoc, Nat.xor_comm (shift b), ← Nat.xor_assoc, fold_lin l, List.length_cons, lastTo_succ]; rfl
theorem sumOf_cons (g : UInt8) (l : List UInt8) : sumOf (g :: l) = sumOf l ^^^ lastTo g.toNat l.length := by
  unfold sumOf
  rw [List.foldl_cons, shift_zero, Nat.zero_xor]
  have := fold_lin l 0 g.toNat
  rw [Nat.zero_xor] at this
  exact this
theorem sumOf_zeros (l : List UInt8) : ∀ k, sumOf (List.replicate k 0 ++ l) = sumOf l
  | 0 => rfl
  | k + 1 => by
    rw [List.replicate_succ, List.cons_append, sumOf_cons, sumOf_zeros l k]
    have : ((0 : UInt8).toNat) = 0 := rfl
    rw [this, lastTo_zero, Nat.xor_zero]
theorem sumOf_lt31 (l : List UInt8) : sumOf l < 2147483648 := by
  rcases List.eq_nil_or_concat l with rfl | ⟨m, b, rfl⟩
  · simp [sumOf]
  · rw [List.concat_eq_append, sumOf_snoc]
    have h1 := shift_lt31 (sumOf_lt m)
    have h2 := b.toNat_lt
    exact Nat.xor_lt_two_pow (n := 31) h1 (by omega)
/-- the last 16 bytes -/
def tl16 (l : List UInt8) : List UInt8 := l.drop (l.length - 16)
/-- the window behind k bytes, zeros ahead of the string -/
def pad (s : List UInt8) (k : Nat) : List UInt8 := List.replicate 16 0 ++ s.take k
def win (s : List UInt8) (k : Nat) : List UInt8 := (pad s k).drop k
theorem win_sum (s : List UInt8) (k : Nat) (hk : k ≤ s.length) : sumOf (win s k) = sumOf (tl16 (s.take k)) := by
  unfold win pad tl16
  have hl : (s.take k).length = k := by rw [List.length_take]; omega
  rw [hl]
  by_cases h : 16 ≤ k
  · rw [List.drop_append, List.drop_of_length_le (by simp; omega), List.nil_append]; simp
  · rw [List.drop_append_of_le_length (by simp; omega), List.drop_replicate, sumOf_zeros, show k - 16 = 0 by omega, List.drop_zero]
theorem pad_len (s : List UInt8) (k : Nat) (hk : k ≤ s.length) : (pad s k).length = k + 16 := by
  unfold pad; rw [List.length_append, List.length_replicate, List.length_take]; omega
theorem pad_succ (s : List UInt8) (k : Nat) (hk : k < s.length) : pad s (k + 1) = pad s k ++ [s[k]] := by
  unfold pad
  rw [List.take_add_one, List.getElem?_eq_getElem hk, List.append_assoc]; rfl
/-- the window as the code keeps it: a ring -/
def ring (s : List UInt8) : Nat → List UInt8
  | 0 => List.replicate 16 0
  | k + 1 => (ring s k).set (k % 16) (s.getD k 0)
theorem ring_len (s : List UInt8) : ∀ k, (ring s k).length = 16
  | 0 => by simp [ring]
  | k + 1 => by rw [ring, List.length_set, ring_len s k]
theorem ring_at (s : List UInt8) : ∀ k, k ≤ s.length → ∀ i, i < 16 → (ring s k)[(k + i) % 16]? = (pad s k)[k + i]?
  | 0, _, i, hi => by
    rw [ring, Nat.zero_add, Nat.mod_eq_of_lt hi]
    unfold pad
    rw [List.getElem?_append_left (by simpa using hi)]
  | k + 1, hk, i, hi => by
    rw [ring, pad_succ s k (by omega)]
    have hpl := pad_len s k (by omega)
    by_cases h15 : i = 15
    · subst h15
      rw [show k + 1 + 15 = k + 16 by omega, Nat.add_mod_right, List.getElem?_set_self (by rw [ring_len]; exact Nat.mod_lt _ (by omega)), List.getElem?_append_right (by omega), hpl, Nat.sub_self, List.getD_eq_getElem?_getD, List.getElem?_eq_getElem (by omega)]; rfl
    · rw [List.getElem?_set_ne (by have := ring_len s k; omega), show k + 1 + i = k + (i + 1) by omega, ring_at s k (by omega) (i + 1) (by omega), List.getElem?_append_left (by omega)]
theorem win_cons (s : List UInt8) (k : Nat) (hk : k < s.length) : ∃ g t, win s k = g :: t ∧ t.length = 15 ∧ (ring s k)[k % 16]? = some g ∧ win s (k + 1) = t ++ [s[k]] := by
  have hpl := pad_len s k (by omega)
  have h1 := ring_at s k (by omega) 0 (by omega)
  rw [Nat.add_zero, List.getElem?_eq_getElem (l := pad s k) (by omega)] at h1
  refine ⟨_, (pad s k).drop (k + 1), List.drop_eq_getElem_cons (by omega), by rw [List.length_drop]; omega, h1, ?_⟩
  unfold win
  rw [pad_succ s k hk, List.drop_append_of_le_length (by omega)]
/-- the sum that is kept, one byte on -/
theorem sum_step (s : List UInt8) (k : Nat) (hk : k < s.length) : ∃ g : UInt8, (ring s k)[k % 16]? = some g ∧ sumOf (win s (k + 1)) = shift (sumOf (win s k) ^^^ lastTo g.toNat 15) ^^^ s[k].toNat := by
  obtain ⟨g, t, h1, h2, h3, h4⟩ := win_cons s k hk
  refine ⟨g, h3, ?_⟩
  rw [h4, h1, sumOf_snoc, sumOf_cons, h2, Nat.xor_assoc, Nat.xor_self, Nat.xor_zero]
end Go.Proofs.Ytaoopodaalhheaa.Roll
