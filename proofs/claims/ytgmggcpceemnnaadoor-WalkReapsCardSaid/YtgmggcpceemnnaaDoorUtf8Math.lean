/- The runes of a string: the decoder of the model and the way of the reference. No condition. -/
import Derived.Test.YtgmggcpceemnnaaDoorEn14
import Derived.Lib.MapLaws
import Derived.Lib.ValidU
namespace Go.Proofs.YtgmggcpceemnnaaDoor.U8
open Go.Lib YtgmggcpceemnnaaDoor.En
def C (x : Nat) : Prop := 128 ≤ x ∧ x ≤ 191
instance (x : Nat) : Decidable (C x) := by unfold C; infer_instance
def fin (low n c : Nat) : Nat × Nat := if c < low ∨ 1114111 < c ∨ (55296 ≤ c ∧ c < 57344) then (0, 0) else (c, n)
def refN (n b0 b1 b2 b3 : Nat) : Nat × Nat :=
  if b0 < 128 then (b0, 1)
  else if 194 ≤ b0 ∧ b0 < 224 then (if n < 2 then (0, 0) else if C b1 then fin 128 2 (64 * (b0 - 192) + b1 - 128) else (0, 0))
  else if 224 ≤ b0 ∧ b0 < 240 then (if n < 3 then (0, 0) else if C b1 then (if C b2 then fin 2048 3 (64 * (64 * (b0 - 224) + b1 - 128) + b2 - 128) else (0, 0)) else (0, 0))
  else if 240 ≤ b0 ∧ b0 < 245 then (if n < 4 then (0, 0) else if C b1 then (if C b2 then (if C b3 then fin 65536 4 (64 * (64 * (64 * (b0 - 240) + b1 - 128) + b2 - 128) + b3 - 128) else (0, 0)) else (0, 0)) else (0, 0))
  else (0, 0)
def Fits (d r : Nat × Nat) : Prop := (d = (65533, 1) ∧ r = (0, 0)) ∨ (d = r ∧ 1 ≤ r.2 ∧ ¬ (r.1 = 65533 ∧ r.2 = 1))
theorem fits_bad : Fits (65533, 1) (0, 0) := .inl ⟨rfl, rfl⟩
theorem fits_good {c c' n : Nat} (h : c = c') (hn : 2 ≤ n) : Fits (c, n) (c', n) := .inr ⟨by rw [h], by show 1 ≤ n; omega, fun h' => by have : n = 1 := h'.2; omega⟩
theorem refN_fits (n b0 b1 b2 b3 : Nat) (h0 : b0 < 256) (h1 : b1 < 256) (h2 : b2 < 256) (h3 : b3 < 256) : Fits (decodeN n b0 b1 b2 b3) (refN n b0 b1 b2 b3) := by
  unfold decodeN refN
  by_cases a0 : b0 < 128
  · rw [if_pos a0, if_pos a0]
    exact .inr ⟨rfl, Nat.le_refl _, fun h => by have : b0 = 65533 := h.1; omega⟩
  rw [if_neg a0, if_neg a0]
  by_cases a1 : b0 < 194
  · have e1 : ∀ r : Nat × Nat, (if b0 / 32 = 6 ∧ (1 < n ∧ b1 / 64 = 2) then (if b0 % 32 * 64 + b1 % 64 ≥ 128 then (b0 % 32 * 64 + b1 % 64, 2) else (65533, 1)) else r) = (if b0 / 32 = 6 ∧ (1 < n ∧ b1 / 64 = 2) then ((65533, 1) : Nat × Nat) else r) := fun r => by
      split
      · rw [if_neg (by omega)]
      · rfl
    rw [e1]
    rw [if_neg (c := 194 ≤ b0 ∧ b0 < 224) (by omega), if_neg (c := 224 ≤ b0 ∧ b0 < 240) (by omega), if_neg (c := 240 ≤ b0 ∧ b0 < 245) (by omega), if_neg (c := b0 / 16 = 14 ∧ _) (by omega), if_neg (c := b0 / 8 = 30 ∧ _) (by omega)]
    split <;> exact fits_bad
  by_cases a2 : b0 < 224
  · rw [if_pos (c := 194 ≤ b0 ∧ b0 < 224) (by omega), if_neg (c := b0 / 16 = 14 ∧ _) (by omega), if_neg (c := b0 / 8 = 30 ∧ _) (by omega)]
    by_cases c1 : n < 2
    · rw [if_pos c1, if_neg (by omega)]; exact fits_bad
    rw [if_neg c1]
    by_cases c2 : C b1
    · rw [if_pos c2]
      unfold C at c2
      rw [if_pos (by omega), if_pos (by omega)]
      unfold fin
      rw [if_neg (by omega)]
      exact fits_good (by omega) (by omega)
    · rw [if_neg c2]
      unfold C at c2
      rw [if_neg (by omega)]; exact fits_bad
  rw [if_neg (c := 194 ≤ b0 ∧ b0 < 224) (by omega), if_neg (c := b0 / 32 = 6 ∧ _) (by omega)]
  by_cases a3 : b0 < 240
  · rw [if_pos (c := 224 ≤ b0 ∧ b0 < 240) (by omega), if_neg (c := b0 / 8 = 30 ∧ _) (by omega)]
    by_cases c1 : n < 3
    · rw [if_pos c1, if_neg (by omega)]; exact fits_bad
    rw [if_neg c1]
    by_cases c2 : C b1
    · by_cases c3 : C b2
      · rw [if_pos c2, if_pos c3]
        unfold C at c2 c3
        rw [if_pos (by omega)]
        unfold fin
        by_cases c4 : b0 % 16 * 4096 + b1 % 64 * 64 + b2 % 64 ≥ 2048 ∧ (b0 % 16 * 4096 + b1 % 64 * 64 + b2 % 64 < 55296 ∨ (57344 ≤ b0 % 16 * 4096 + b1 % 64 * 64 + b2 % 64 ∧ b0 % 16 * 4096 + b1 % 64 * 64 + b2 % 64 ≤ 1114111))
        · rw [if_pos c4, if_neg (by omega)]
          exact fits_good (by omega) (by omega)
        · rw [if_neg c4, if_pos (by omega)]; exact fits_bad
      · rw [if_pos c2, if_neg c3]
        unfold C at c3
        rw [if_neg (by omega)]; exact fits_bad
    · rw [if_neg c2]
      unfold C at c2
      rw [if_neg (by omega)]; exact fits_bad
  rw [if_neg (c := 224 ≤ b0 ∧ b0 < 240) (by omega), if_neg (c := b0 / 16 = 14 ∧ _) (by omega)]
  by_cases a4 : b0 < 248
  · by_cases a5 : b0 < 245
    · rw [if_pos (c := 240 ≤ b0 ∧ b0 < 245) (by omega)]
      by_cases c1 : n < 4
      · rw [if_pos c1, if_neg (by omega)]; exact fits_bad
      rw [if_neg c1]
      by_cases c2 : C b1
      · by_cases c3 : C b2
        · by_cases c4 : C b3
          · rw [if_pos c2, if_pos c3, if_pos c4]
            unfold C at c2 c3 c4
            rw [if_pos (by omega)]
            unfold fin
            by_cases c5 : b0 % 8 * 262144 + b1 % 64 * 4096 + b2 % 64 * 64 + b3 % 64 ≥ 65536 ∧ (b0 % 8 * 262144 + b1 % 64 * 4096 + b2 % 64 * 64 + b3 % 64 < 55296 ∨ (57344 ≤ b0 % 8 * 262144 + b1 % 64 * 4096 + b2 % 64 * 64 + b3 % 64 ∧ b0 % 8 * 262144 + b1 % 64 * 4096 + b2 % 64 * 64 + b3 % 64 ≤ 1114111))
            · rw [if_pos c5, if_neg (by omega)]
              exact fits_good (by omega) (by omega)
            · rw [if_neg c5, if_pos (by omega)]; exact fits_bad
          · rw [if_pos c2, if_pos c3, if_neg c4]
            unfold C at c4
            rw [if_neg (by omega)]; exact fits_bad
        · rw [if_pos c2, if_neg c3]
          unfold C at c3
          rw [if_neg (by omega)]; exact fits_bad
      · rw [if_neg c2]
        unfold C at c2
        rw [if_neg (by omega)]; exact fits_bad
    · rw [if_neg (c := 240 ≤ b0 ∧ b0 < 245) (by omega)]
      split
      · split
        · omega
        · exact fits_bad
      · exact fits_bad
  · rw [if_neg (c := 240 ≤ b0 ∧ b0 < 245) (by omega), if_neg (c := b0 / 8 = 30 ∧ _) (by omega)]; exact fits_bad
/-! the runes of a string -/
def by_ (l : List UInt8) (k : Nat) : Nat := (l.getD k 0).toNat
theorem by_lt (l : List UInt8) (k : Nat) : by_ l k < 256 := (l.getD k 0).toNat_lt
def refC (l : List UInt8) : Nat × Nat := refN l.length (by_ l 0) (by_ l 1) (by_ l 2) (by_ l 3)
theorem refC_fits (l : List UInt8) : Fits (decodeL l) (refC l) := by
  rw [decodeL_N]; exact refN_fits _ _ _ _ _ (by_lt l 0) (by_lt l 1) (by_lt l 2) (by_lt l 3)
def R : Nat → List UInt8 → List Int
  | 0, _ => []
  | f + 1, l => if l = [] then [] else ((decodeL l).1 : Int) :: R f (l.drop (decodeL l).2)
theorem drop_lt {l : List UInt8} (h : l ≠ []) : (l.drop (decodeL l).2).length < l.length := by
  have h1 := decodeL_width l
  have h2 : 0 < l.length := List.length_pos_iff.2 h
  rw [List.length_drop]; omega
theorem R_fuel : ∀ (f g : Nat) (l : List UInt8), l.length ≤ f → l.length ≤ g → R f l = R g l
  | 0, 0, _, _, _ => rfl
  | 0, g + 1, l, hf, _ => by rw [List.eq_nil_of_length_eq_zero (show l.length = 0 by omega)]; simp [R]
  | f + 1, 0, l, _, hg => by rw [List.eq_nil_of_length_eq_zero (show l.length = 0 by omega)]; simp [R]
  | f + 1, g + 1, l, hf, hg => by
    rw [R, R]
    split
    · rfl
    · rename_i h
      have := drop_lt h
      rw [R_fuel f g _ (by omega) (by omega)]
theorem V_fuel : ∀ (f g : Nat) (l : List UInt8), l.length ≤ f → l.length ≤ g → validGoD f l = validGoD g l
  | 0, 0, _, _, _ => rfl
  | 0, g + 1, l, hf, _ => by rw [List.eq_nil_of_length_eq_zero (show l.length = 0 by omega)]; simp [validGoD]
  | f + 1, 0, l, _, hg => by rw [List.eq_nil_of_length_eq_zero (show l.length = 0 by omega)]; simp [validGoD]
  | f + 1, g + 1, l, hf, hg => by
    rw [validGoD, validGoD]
    split
    · rfl
    · rename_i h
      have := drop_lt h
      rw [V_fuel f g _ (by omega) (by omega)]
def rns (l : List UInt8) : List Int := R l.length l
theorem rns_nil : rns [] = [] := rfl
theorem rns_step {l : List UInt8} (h : l ≠ []) : rns l = ((decodeL l).1 : Int) :: rns (l.drop (decodeL l).2) := by
  have h1 := drop_lt h
  unfold rns
  obtain ⟨n, hn⟩ : ∃ n, l.length = n + 1 := ⟨l.length - 1, by have := List.length_pos_iff.2 h; omega⟩
  rw [hn, R, if_neg h, R_fuel n _ _ (by omega) (Nat.le_refl _)]
theorem V_nil : validD [] = true := rfl
theorem V_step {l : List UInt8} (h : l ≠ []) : validD l = if (decodeL l).1 = 65533 ∧ (decodeL l).2 = 1 then false else validD (l.drop (decodeL l).2) := by
  have h1 := drop_lt h
  unfold validD
  obtain ⟨n, hn⟩ : ∃ n, l.length = n + 1 := ⟨l.length - 1, by have := List.length_pos_iff.2 h; omega⟩
  rw [hn, validGoD, if_neg h, V_fuel n _ _ (by omega) (Nat.le_refl _)]
theorem rns_len : ∀ (n : Nat) (l : List UInt8), l.length ≤ n → (rns l).length ≤ l.length
  | 0, l, h => by rw [List.eq_nil_of_length_eq_zero (show l.length = 0 by omega)]; simp [rns_nil]
  | n + 1, l, h => by
    by_cases hl : l = []
    · rw [hl]; simp [rns_nil]
    · have h1 := drop_lt hl
      have := rns_len n (l.drop (decodeL l).2) (by omega)
      rw [rns_step hl, List.length_cons]; omega
theorem rns_pos {l : List UInt8} (h : l ≠ []) : rns l ≠ [] := by rw [rns_step h]; simp
theorem dec_drop (s : List UInt8) (p : Nat) : dec s p = decodeL (s.drop p) := (decodeL_drop ⟨s.toArray⟩ p).symm
def bad (c : Int) : Bool := decide (c = 47) || (decide (c < 32) || decide (c = 127))
def nameV (s : List UInt8) : Int := if s = [] ∨ s = [46] ∨ s = [46, 46] ∨ validD s = false then 8 else if (rns s).any bad then 8 else if 24 < (rns s).length then 2 else 0
end Go.Proofs.YtgmggcpceemnnaaDoor.U8
