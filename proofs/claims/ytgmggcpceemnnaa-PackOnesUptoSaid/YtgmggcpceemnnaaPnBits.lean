/- Bits of a pressed text: the reader of bits and the reference's row of bits. No condition. -/
import Derived.Test.YtgmggcpceemnnaaPnHuff
import Derived.Test.YtgmggcpceemnnaaPressMath
import Derived.Test.YtgmggcpceemnnaaPlBits
import Derived.Test.YtgmggcpceemnnaaArith
namespace Go.Proofs.Ytgmggcpceemnnaa.PPo
open Go.RowKit Ytgmggcpceemnnaa.En Ytgmggcpceemnnaa Ytgmggcpceemnnaa.Huf
set_option linter.unusedVariables false
set_option linter.unusedSimpArgs false
theorem u8w {x : Int} (h : 0 ≤ x ∧ x ≤ 255) : IntKind.u8.wrap x = x := by
  unfold IntKind.wrap
  simp [IntKind.signed, IntKind.bits]
  omega
theorem tdivn {a b : Int} (h : 0 ≤ a) : a.tdiv b = a / b := Int.tdiv_eq_ediv_of_nonneg h
theorem tmodn {a b : Int} (h : 0 ≤ a) : a.tmod b = a % b := Int.tmod_eq_emod_of_nonneg h
theorem bits_ok : ∀ (n fu c : Nat), n < fu → n ≤ 48 → c < 4611686018427387904 → f_lumref_bitsOf fu (c : Int) (n : Int) = some (bw c n)
  | _, 0, _, h, _, _ => absurd h (Nat.not_lt_zero _)
  | 0, fu + 1, c, _, _, _ => by rw [f_lumref_bitsOf, cond_tt (show (((0 : Nat) : Int) == 0) = true by decide)]; rfl
  | n + 1, fu + 1, c, h, h48, hc => by
    rw [f_lumref_bitsOf, cond_ff (show (((n + 1 : Nat) : Int) == 0) = false from beq_false_of_ne (by omega)), tdivn (by omega), tmodn (by omega), w64 (x := ((n + 1 : Nat) : Int) - 1) (by omega) (by omega), w64 (x := (c : Int) / 2) (by omega) (by omega),
      show (c : Int) / 2 = ((c / 2 : Nat) : Int) by omega, show ((n + 1 : Nat) : Int) - 1 = (n : Int) by omega, bits_ok n fu (c / 2) (by omega) (by omega) (by omega), opt_of]
    rw [u8w (x := (c : Int) % 2) (by omega), u8w (x := 48 + (c : Int) % 2) (by omega), req_pos (by omega), req_pos (by rw [bw_len, List.length_singleton]; omega), bw]
    congr 2
    congr 1
    unfold bitB
    by_cases h2 : c % 2 = 0
    · rw [if_pos h2, show (48 : Int) + (c : Int) % 2 = 48 by omega]; rfl
    · rw [if_neg h2, show (48 : Int) + (c : Int) % 2 = 49 by omega]; rfl
theorem bw_at : ∀ (n c i : Nat), i < n → (bw c n)[i]? = some (bitB (c / 2 ^ (n - 1 - i)))
  | 0, _, _, h => absurd h (Nat.not_lt_zero _)
  | n + 1, c, i, h => by
    rw [bw]
    by_cases hi : i < n
    · rw [List.getElem?_append_left (by rw [bw_len]; exact hi), bw_at n (c / 2) i hi, Nat.div_div_eq_div_mul]
      congr 3
      rw [show n + 1 - 1 - i = (n - 1 - i) + 1 by omega, Nat.pow_succ, Nat.mul_comm]
    · have e : i = n := by omega
      subst e
      rw [List.getElem?_append_right (by rw [bw_len]; exact Nat.le_refl _), bw_len, Nat.sub_self]
      simp
/-- the bits that are left -/
def byteBits (b : UInt8) : List UInt8 := bw b.toNat 8
def bl : List UInt8 → Nat → List UInt8
  | [], _ => []
  | b :: t, left => (byteBits b).drop (8 - left) ++ t.flatMap byteBits
theorem bl_cons (b : UInt8) (t : List UInt8) (left : Nat) : bl (b :: t) left = (byteBits b).drop (8 - left) ++ t.flatMap byteBits := rfl
def Ok (s : List UInt8) (left : Nat) : Prop := (s = [] ∧ left = 0) ∨ (s ≠ [] ∧ 1 ≤ left ∧ left ≤ 8)
theorem bits_len (b : UInt8) : (byteBits b).length = 8 := bw_len _ _
theorem bits_cons (b : UInt8) (k : Nat) (hk : k < 8) : (byteBits b).drop (7 - k) = bitB (b.toNat / 2 ^ k) :: (byteBits b).drop (8 - k) := by
  have h : 7 - k < (byteBits b).length := by rw [bits_len]; omega
  rw [List.drop_eq_getElem_cons h, show 7 - k + 1 = 8 - k by omega]
  congr 1
  have := bw_at 8 b.toNat (7 - k) (by omega)
  rw [show 8 - 1 - (7 - k) = k by omega] at this
  exact (List.getElem?_eq_some_iff.1 this).2
theorem bl_bits : ∀ (s : List UInt8) (left : Nat), ∀ x ∈ bl s left, isBit x
  | [], _, x, h => by cases h
  | b :: t, left, x, h => by
    rcases List.mem_append.1 h with h | h
    · exact bw_bits _ _ x (List.mem_of_mem_drop h)
    · obtain ⟨c, _, h⟩ := List.mem_flatMap.1 h
      exact bw_bits _ _ x h
theorem flat_len : ∀ t : List UInt8, (t.flatMap byteBits).length = 8 * t.length
  | [] => rfl
  | b :: t => by rw [List.flatMap_cons, List.length_append, bits_len, flat_len t, List.length_cons]; omega
theorem next_ok (fu : Nat) (b : UInt8) (t : List UInt8) (left : Int) : f___press_reader__next fu ⟨b :: t, left⟩ = some ⟨t, if t = [] then left else 8⟩ := by
  unfold f___press_reader__next
  rw [lt_of]
  dsimp only
  rw [cond_tt (show (!((b :: t) == ([] : List UInt8))) = true by rfl), req_pos (by rw [List.length_cons]; omega)]
  dsimp only [Int.toNat_one, List.drop_succ_cons, List.drop_zero]
  cases t with
  | nil => rfl
  | cons c t => rfl
theorem bit_none (fu : Nat) (s : List UInt8) (left : Nat) (h : Ok s left) (hb : bl s left = []) : f___press_reader__bit fu ⟨s, left⟩ = some (0, false, ⟨s, left⟩) := by
  rcases h with ⟨rfl, rfl⟩ | ⟨h1, h2, h3⟩
  · rfl
  · obtain ⟨b, t, rfl⟩ := List.exists_cons_of_ne_nil h1
    obtain ⟨k, rfl⟩ : ∃ k, left = k + 1 := ⟨left - 1, by omega⟩
    rw [bl_cons, show 8 - (k + 1) = 7 - k by omega, bits_cons b k (by omega)] at hb
    cases hb
theorem bit_some (fu : Nat) (s : List UInt8) (left : Nat) (h : Ok s left) (x : UInt8) (r : List UInt8) (hb : bl s left = x :: r) :
    ∃ (s' : List UInt8) (l' : Nat), Ok s' l' ∧ bl s' l' = r ∧ f___press_reader__bit fu ⟨s, left⟩ = some (((if x = 49 then 1 else 0 : Nat) : Int), true, ⟨s', l'⟩) := by
  rcases h with ⟨rfl, rfl⟩ | ⟨h1, h2, h3⟩
  · cases hb
  · obtain ⟨b, t, rfl⟩ := List.exists_cons_of_ne_nil h1
    obtain ⟨k, rfl⟩ : ∃ k, left = k + 1 := ⟨left - 1, by omega⟩
    rw [bl_cons, show 8 - (k + 1) = 7 - k by omega, bits_cons b k (by omega), List.cons_append] at hb
    obtain ⟨hx, hr⟩ := List.cons.inj hb
    have hval : IntKind.i64.wrap (bits .and .u8 ((En.bAt (b :: t) (0 : Int)).fdiv (2 ^ min ((k : Int)).toNat (IntKind.bits .u8))) (1 : Int)) = ((if x = 49 then 1 else 0 : Nat) : Int) := by
      have e1 : En.bAt (b :: t) (0 : Int) = ((b.toNat : Nat) : Int) := rfl
      have e2 : min ((k : Int)).toNat (IntKind.bits .u8) = k := by rw [Int.toNat_natCast]; show min k 8 = k; omega
      rw [e1, e2, Int.fdiv_eq_ediv_of_nonneg _ (by exact Int.pow_nonneg (by decide)), u8_bitAt b.toNat k b.toNat_lt, w64 (by omega) (by omega)]
      rw [← hx]
      unfold bitB
      by_cases h2 : b.toNat / 2 ^ k % 2 = 0
      · rw [if_pos h2, h2]; rfl
      · rw [if_neg h2, show b.toNat / 2 ^ k % 2 = 1 by omega]; rfl
    have hunf : f___press_reader__bit fu ⟨b :: t, ((k + 1 : Nat) : Int)⟩ = (bif ((k : Int) == 0) then (opt (f___press_reader__next fu ⟨b :: t, (k : Int)⟩) fun r8 => some (((if x = 49 then 1 else 0 : Nat) : Int), true, ⟨r8.s, r8.left⟩)) else some (((if x = 49 then 1 else 0 : Nat) : Int), true, ⟨b :: t, (k : Int)⟩)) := by
      unfold f___press_reader__bit
      dsimp only
      rw [cond_ff (show (((k + 1 : Nat) : Int) == 0) = false from beq_false_of_ne (by omega)), req_pos (by rw [List.length_cons]; omega), w64 (x := ((k + 1 : Nat) : Int) - 1) (by omega) (by omega), show ((k + 1 : Nat) : Int) - 1 = (k : Int) by omega, req_pos (by omega), lt_of]
      dsimp only
      rw [hval]
    rw [hunf]
    by_cases hk : k = 0
    · subst hk
      rw [cond_tt (show (((0 : Nat) : Int) == 0) = true by decide), next_ok, opt_of]
      have e8 : (byteBits b).drop 8 = [] := List.drop_of_length_le (by rw [bits_len]; exact Nat.le_refl _)
      rw [show 8 - 0 = 8 from rfl, e8, List.nil_append] at hr
      cases t with
      | nil => exact ⟨[], 0, .inl ⟨rfl, rfl⟩, hr, rfl⟩
      | cons c t =>
        refine ⟨c :: t, 8, .inr ⟨by simp, by omega, by omega⟩, ?_, rfl⟩
        rw [← hr, List.flatMap_cons]; rfl
    · rw [cond_ff (show ((k : Int) == 0) = false from beq_false_of_ne (by omega))]
      exact ⟨b :: t, k, .inr ⟨by simp, by omega, by omega⟩, hr, rfl⟩
end Go.Proofs.Ytgmggcpceemnnaa.PPo
