/- The hash function: products modulo 2^64, shifts that can be undone, blocks of eight bytes. No model in this text. No condition. -/
namespace Go.Proofs.Ytgmggcpceemnnaa.Mix
def M : Nat := 18446744073709551616
def cF : Nat := 11400714819323198485
def cS : Nat := 13787848793156543929
def iF : Nat := 17428512612931826493
def iS : Nat := 10871156337175269513
theorem M_pow : M = 2 ^ 64 := by decide
theorem inv_F : iF * cF % M = 1 := by decide
theorem inv_S : iS * cS % M = 1 := by decide
def stp (x b : Nat) : Nat :=
  let z := (x ^^^ b) * cF % M
  let y := (z ^^^ z / 2 ^ 29) * cS % M
  y ^^^ y / 2 ^ 32
def undo (y b : Nat) : Nat :=
  let z := (y ^^^ y / 2 ^ 32) * iS % M
  ((z ^^^ z / 2 ^ 29) ^^^ z / 2 ^ 58) * iF % M ^^^ b
theorem xor_div (a b k : Nat) : (a ^^^ b) / 2 ^ k = a / 2 ^ k ^^^ b / 2 ^ k := by
  rw [← Nat.shiftRight_eq_div_pow, ← Nat.shiftRight_eq_div_pow, ← Nat.shiftRight_eq_div_pow, Nat.shiftRight_xor_distrib]
theorem div_lt' {z : Nat} (h : z < M) (k : Nat) : z / 2 ^ k < M := Nat.lt_of_le_of_lt (Nat.div_le_self _ _) h
theorem xltM {a b : Nat} (ha : a < M) (hb : b < M) : a ^^^ b < M := by rw [M_pow] at *; exact Nat.xor_lt_two_pow ha hb
theorem M_pos : 0 < M := by decide
theorem mul_inv (z a b : Nat) (hz : z < M) (h : a * b % M = 1) : z * a % M * b % M = z := by
  rw [Nat.mod_mul_mod, Nat.mul_assoc, Nat.mul_mod, h, Nat.mul_one, Nat.mod_mod, Nat.mod_eq_of_lt hz]
theorem xor_xor (a b : Nat) : (a ^^^ b) ^^^ b = a := by rw [Nat.xor_assoc, Nat.xor_self, Nat.xor_zero]
theorem undo32 {y : Nat} (h : y < M) : (y ^^^ y / 2 ^ 32) ^^^ (y ^^^ y / 2 ^ 32) / 2 ^ 32 = y := by
  have h0 : y / 2 ^ 32 / 2 ^ 32 = 0 := by
    rw [Nat.div_div_eq_div_mul]
    exact Nat.div_eq_of_lt (by rw [M_pow] at h; exact h)
  rw [xor_div, h0, Nat.xor_zero, xor_xor]
theorem undo29 {z : Nat} (h : z < M) : ((z ^^^ z / 2 ^ 29) ^^^ z / 2 ^ 58) ^^^ ((z ^^^ z / 2 ^ 29) ^^^ z / 2 ^ 58) / 2 ^ 29 = z := by
  have h1 : z / 2 ^ 29 / 2 ^ 29 = z / 2 ^ 58 := by rw [Nat.div_div_eq_div_mul]
  have h0 : z / 2 ^ 58 / 2 ^ 29 = 0 := by
    rw [Nat.div_div_eq_div_mul]
    exact Nat.div_eq_of_lt (Nat.lt_of_lt_of_le (by rw [M_pow] at h; exact h) (by decide))
  rw [xor_div, xor_div, h1, h0, Nat.xor_zero]
  rw [Nat.xor_assoc z, xor_xor]
theorem stp_undo {y b : Nat} (hy : y < M) : stp (undo y b) b = y := by
  unfold stp undo
  simp only
  rw [xor_xor]
  have hq : y ^^^ y / 2 ^ 32 < M := xltM hy (div_lt' hy 32)
  have hz : (y ^^^ y / 2 ^ 32) * iS % M < M := Nat.mod_lt _ M_pos
  generalize hzz : (y ^^^ y / 2 ^ 32) * iS % M = z at hz ⊢
  have hz1 : (z ^^^ z / 2 ^ 29) ^^^ z / 2 ^ 58 < M := xltM (xltM hz (div_lt' hz 29)) (div_lt' hz 58)
  rw [mul_inv _ _ _ hz1 inv_F, undo29 hz, ← hzz, mul_inv _ _ _ hq inv_S, undo32 hy]
theorem stp_lt (x b : Nat) : stp x b < M := by
  unfold stp; simp only
  exact xltM (Nat.mod_lt _ M_pos) (div_lt' (Nat.mod_lt _ M_pos) 32)
theorem undo_lt {y b : Nat} (hb : b < M) : undo y b < M := by
  unfold undo; simp only
  exact xltM (Nat.mod_lt _ M_pos) hb
/-- a product by sums: one bit more -/
theorem prod_one (a b i : Nat) (h : b / 2 ^ i % 2 = 1) : (a * (b % 2 ^ i) % M + a * 2 ^ i % M) % M = a * (b % 2 ^ (i + 1)) % M := by
  rw [Nat.mod_pow_succ, h, Nat.mul_one, Nat.mul_add, ← Nat.add_mod]
theorem prod_zero (a b i : Nat) (h : b / 2 ^ i % 2 = 0) : a * (b % 2 ^ i) % M = a * (b % 2 ^ (i + 1)) % M := by
  rw [Nat.mod_pow_succ, h, Nat.mul_zero, Nat.add_zero]
/-! bytes, the lowest first -/
def leN : List UInt8 → Nat
  | [] => 0
  | b :: l => b.toNat + 256 * leN l
theorem leN_zeros (l : List UInt8) (k : Nat) : leN (l ++ List.replicate k 0) = leN l := by
  induction l with
  | nil =>
    induction k with
    | zero => rfl
    | succ k ih => rw [List.nil_append] at ih ⊢; rw [List.replicate_succ]; show (0 : UInt8).toNat + 256 * leN (List.replicate k 0) = 0; rw [ih]; rfl
  | cons b l ih => show b.toNat + 256 * leN (l ++ _) = b.toNat + 256 * leN l; rw [ih]
theorem leN_lt : ∀ l : List UInt8, leN l < 256 ^ l.length
  | [] => by decide
  | b :: l => by
    have := leN_lt l
    have h := b.toNat_lt
    show b.toNat + 256 * leN l < 256 ^ (l.length + 1)
    rw [Nat.pow_succ]; omega
theorem leN_lt8 (l : List UInt8) (h : l.length ≤ 8) : leN l < M := Nat.lt_of_lt_of_le (leN_lt l) (by rw [show M = 256 ^ 8 from by decide]; exact Nat.pow_le_pow_right (by omega) h)
/-- the state behind all blocks -/
def chain (cut : Nat → Nat) : Nat → List UInt8 → Nat → Nat
  | 0, _, x => x
  | k + 1, s, x => if s = [] then x else chain cut k (s.drop 8) (cut (stp x (leN (s.take 8))))
def hash (cut : Nat → Nat) (s : List UInt8) : Nat := cut (stp (chain cut s.length s 0) s.length)
theorem chain_nil (cut : Nat → Nat) (k x : Nat) : chain cut k [] x = x := by cases k <;> simp [chain]
theorem chain_more (cut : Nat → Nat) : ∀ (k j : Nat) (s : List UInt8) (x : Nat), s.length ≤ k → s.length ≤ j → chain cut k s x = chain cut j s x
  | 0, j, s, x, h, _ => by
    have : s = [] := List.eq_nil_of_length_eq_zero (by omega)
    subst this; rw [chain_nil, chain_nil]
  | k + 1, 0, s, x, _, h => by
    have : s = [] := List.eq_nil_of_length_eq_zero (by omega)
    subst this; rw [chain_nil, chain_nil]
  | k + 1, j + 1, s, x, h1, h2 => by
    unfold chain
    split
    · rfl
    · rename_i hs
      have hp : 0 < s.length := List.length_pos_iff.2 hs
      exact chain_more cut k j _ _ (by rw [List.length_drop]; omega) (by rw [List.length_drop]; omega)
theorem chain_step (cut : Nat → Nat) {s : List UInt8} (hs : s ≠ []) (x : Nat) : chain cut s.length s x = chain cut (s.drop 8).length (s.drop 8) (cut (stp x (leN (s.take 8)))) := by
  have hp : 0 < s.length := List.length_pos_iff.2 hs
  obtain ⟨k, hk⟩ : ∃ k, s.length = k + 1 := ⟨s.length - 1, by omega⟩
  rw [hk]
  show (if s = [] then x else _) = _
  rw [if_neg hs]
  exact chain_more cut _ _ _ _ (by rw [List.length_drop]; omega) (Nat.le_refl _)
/-- the string with zeros up to a multiple of eight -/
def pad (s : List UInt8) : List UInt8 := s ++ List.replicate ((8 - s.length % 8) % 8) 0
theorem pad_nil (s : List UInt8) : pad s = [] ↔ s = [] := by
  constructor
  · intro h; exact (List.append_eq_nil_iff.1 h).1
  · rintro rfl; rfl
theorem pad_take (s : List UInt8) (hs : s ≠ []) : leN ((pad s).take 8) = leN (s.take 8) ∧ 8 ≤ (pad s).length ∧ (pad s).drop 8 = pad (s.drop 8) := by
  have hp : 0 < s.length := List.length_pos_iff.2 hs
  unfold pad
  by_cases h : 8 ≤ s.length
  · refine ⟨by rw [List.take_append_of_le_length h], by rw [List.length_append]; omega, ?_⟩
    rw [List.drop_append_of_le_length h, List.length_drop, show (s.length - 8) % 8 = s.length % 8 by omega]
  · have e : (8 - s.length % 8) % 8 = 8 - s.length := by omega
    rw [e]
    have hl : (s ++ List.replicate (8 - s.length) (0 : UInt8)).length = 8 := by simp; omega
    refine ⟨?_, by omega, ?_⟩
    · rw [List.take_of_length_le (by omega), leN_zeros, List.take_of_length_le (by omega)]
    · rw [List.drop_of_length_le (by omega), List.drop_of_length_le (show s.length ≤ 8 by omega)]; rfl
end Go.Proofs.Ytgmggcpceemnnaa.Mix
