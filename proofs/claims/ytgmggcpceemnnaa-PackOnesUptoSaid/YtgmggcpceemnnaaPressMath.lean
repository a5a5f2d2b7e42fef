/- Canonical codes: no word begins another one; bits as texts. No condition. -/
import Derived.Test.YtgmggcpceemnnaaHuffMath
namespace Go.Proofs.Ytgmggcpceemnnaa.Huf
theorem bef_mono (l : List Nat) (n s n' s' k : Nat) (h : ∀ j, j < k → cond l n s j = true → cond l n' s' j = true) : bef l n s k ≤ bef l n' s' k := by
  induction k with
  | zero => exact Nat.le_refl _
  | succ k ih =>
    have h1 := ih (fun j hj => h j (by omega))
    unfold bef
    by_cases hc : cond l n s k = true
    · rw [if_pos hc, if_pos (h k (by omega) hc)]; omega
    · rw [if_neg hc, Nat.add_zero]; exact Nat.le_trans h1 (Nat.le_add_right _ _)
theorem code_top (l : List Nat) (n s : Nat) (h0 : 0 < n) (hn : n ≤ 48) (hs : s < l.length) (hm : mAt l s = n) (ht : kraftTo l l.length ≤ 2 ^ 48) : code l s + 1 ≤ 2 ^ n := by
  have h1 := next_after l n s h0 hn hs hm
  have h2 := bef_le l n (s + 1) l.length
  have h3 : (code l s + 1) * 2 ^ (48 - n) ≤ 2 ^ n * 2 ^ (48 - n) := by
    rw [← pow_split (show n + (48 - n) = 48 by omega)]; omega
  exact Nat.le_of_mul_le_mul_right h3 (Nat.two_pow_pos _)
theorem code_gap (l : List Nat) {i j m n : Nat} (hj : j < l.length) (hm : mAt l j = m) (hn : mAt l i = n) (h0 : 0 < m) (h48 : n ≤ 48) (hb : m < n ∨ (m = n ∧ j < i)) : (code l j + 1) * 2 ^ (n - m) ≤ code l i := by
  have h1 := next_after l m j h0 (by omega) hj hm
  have h2 := refTo_mul l i l.length (by omega)
  rw [hn] at h2
  have h3 : bef l m (j + 1) l.length ≤ bef l n i l.length := bef_mono _ _ _ _ _ _ fun k _ hk => by
    simp [cond] at hk ⊢
    omega
  have h4 : ((code l j + 1) * 2 ^ (n - m)) * 2 ^ (48 - n) ≤ code l i * 2 ^ (48 - n) := by
    rw [Nat.mul_assoc, ← pow_split (show (n - m) + (48 - n) = 48 - m by omega), h1]
    unfold code
    rw [h2]; exact h3
  exact Nat.le_of_mul_le_mul_right h4 (Nat.two_pow_pos _)
theorem code_one (l : List Nat) {i j m n : Nat} (hi : i < l.length) (hj : j < l.length) (hm : mAt l j = m) (hn : mAt l i = n) (h0 : 0 < m) (h48 : n ≤ 48) (hmn : m ≤ n) (h : code l i / 2 ^ (n - m) = code l j) : i = j := by
  rcases Nat.lt_or_eq_of_le hmn with hlt | he
  · exfalso
    have h1 := code_gap l hj hm hn h0 h48 (.inl hlt)
    have h2 := (Nat.le_div_iff_mul_le (Nat.two_pow_pos (n - m))).2 h1
    omega
  · subst he
    rw [Nat.sub_self, Nat.pow_zero, Nat.div_one] at h
    rcases Nat.lt_trichotomy i j with hlt | he | hlt
    · exfalso
      have h1 := code_gap l hi hn hm h0 h48 (.inr ⟨rfl, hlt⟩)
      rw [Nat.sub_self, Nat.pow_zero, Nat.mul_one] at h1
      omega
    · exact he
    · exfalso
      have h1 := code_gap l hj hm hn h0 h48 (.inr ⟨rfl, hlt⟩)
      rw [Nat.sub_self, Nat.pow_zero, Nat.mul_one] at h1
      omega
/-! bits as texts -/
def isBit (b : UInt8) : Prop := b = 48 ∨ b = 49
def bitB (n : Nat) : UInt8 := if n % 2 = 0 then 48 else 49
def valb : List UInt8 → Nat
  | [] => 0
  | b :: r => (if b = 49 then 2 ^ r.length else 0) + valb r
def bw : Nat → Nat → List UInt8
  | _, 0 => []
  | c, n + 1 => bw (c / 2) n ++ [bitB c]
theorem bw_len (c n : Nat) : (bw c n).length = n := by
  induction n generalizing c with
  | zero => rfl
  | succ n ih => rw [bw, List.length_append, ih]; rfl
theorem bitB_bit (n : Nat) : isBit (bitB n) := by unfold bitB isBit; split <;> simp
theorem bw_bits (c n : Nat) : ∀ b ∈ bw c n, isBit b := by
  induction n generalizing c with
  | zero => intro b hb; cases hb
  | succ n ih =>
    intro b hb
    rw [bw] at hb
    rcases List.mem_append.1 hb with hb | hb
    · exact ih _ b hb
    · rw [List.mem_singleton.1 hb]; exact bitB_bit c
theorem valb_app (a b : List UInt8) : valb (a ++ b) = valb a * 2 ^ b.length + valb b := by
  induction a with
  | nil => simp [valb]
  | cons x a ih =>
    rw [List.cons_append, valb, valb, ih, List.length_append, Nat.add_mul]
    by_cases h : x = 49
    · rw [if_pos h, if_pos h, Nat.pow_add]; omega
    · rw [if_neg h, if_neg h]; omega
theorem valb_one (n : Nat) : valb [bitB n] = n % 2 := by
  unfold bitB valb valb
  split
  · rename_i h; rw [h]; rfl
  · rename_i h
    rw [show n % 2 = 1 by omega]; rfl
theorem valb_lt (b : List UInt8) : valb b < 2 ^ b.length := by
  induction b with
  | nil => exact Nat.one_pos
  | cons x b ih =>
    rw [valb, List.length_cons, Nat.pow_succ]
    split <;> omega
theorem valb_bw {c n : Nat} (h : c < 2 ^ n) : valb (bw c n) = c := by
  induction n generalizing c with
  | zero =>
    have : c = 0 := by simpa using h
    subst this; rfl
  | succ n ih =>
    rw [bw, valb_app, valb_one, ih (by rw [Nat.pow_succ] at h; omega)]
    show c / 2 * 2 ^ 1 + c % 2 = c
    omega
theorem bw_valb : ∀ (n : Nat) (b : List UInt8), b.length = n → (∀ x ∈ b, isBit x) → bw (valb b) n = b
  | 0, b, h, _ => by rw [List.length_eq_zero_iff.1 h]; rfl
  | n + 1, b, h, hb => by
    rcases List.eq_nil_or_concat b with rfl | ⟨a, x, rfl⟩
    · cases h
    · have hx := hb x (by simp)
      have ha : a.length = n := by simpa using h
      rw [List.concat_eq_append, bw, valb_app]
      have h1 : valb [x] < 2 := valb_lt [x]
      have h2 : [x].length = 1 := rfl
      rw [h2]
      have h3 : (valb a * 2 ^ 1 + valb [x]) / 2 = valb a := by omega
      rw [h3, bw_valb n a ha (fun y hy => hb y (by simp [hy]))]
      congr 2
      unfold bitB
      rcases hx with rfl | rfl
      · have : valb [48] = 0 := rfl
        rw [this, if_pos (by omega)]
      · have : valb [49] = 1 := rfl
        rw [this, if_neg (by omega)]
theorem valb_take {b : List UInt8} {m n : Nat} (h : m ≤ n) (hn : n ≤ b.length) : valb (b.take n) / 2 ^ (n - m) = valb (b.take m) := by
  have e : b.take n = b.take m ++ (b.drop m).take (n - m) := by
    rw [← List.take_add, show m + (n - m) = n by omega]
  have hl : ((b.drop m).take (n - m)).length = n - m := by rw [List.length_take, List.length_drop]; omega
  have h2 := valb_lt ((b.drop m).take (n - m))
  rw [e, valb_app, hl]
  rw [hl] at h2
  rw [Nat.mul_comm, Nat.mul_add_div (Nat.two_pow_pos _), Nat.div_eq_of_lt h2, Nat.add_zero]
/-- the word of sign i stands at the front -/
def Fits (l : List Nat) (b : List UInt8) (i : Nat) : Prop := i < l.length ∧ 0 < mAt l i ∧ mAt l i ≤ b.length ∧ valb (b.take (mAt l i)) = code l i
theorem fits_one {l : List Nat} {b : List UInt8} {i j : Nat} (h48 : ∀ k, mAt l k ≤ 48) (hi : Fits l b i) (hj : Fits l b j) : i = j := by
  obtain ⟨i1, i2, i3, i4⟩ := hi
  obtain ⟨j1, j2, j3, j4⟩ := hj
  rcases Nat.le_total (mAt l j) (mAt l i) with h | h
  · refine code_one l i1 j1 rfl rfl j2 (h48 i) h ?_
    rw [← i4, ← j4, valb_take h i3]
  · refine (code_one l j1 i1 rfl rfl i2 (h48 j) h ?_).symm
    rw [← i4, ← j4, valb_take h j3]
theorem prefix_iff {c n : Nat} {b : List UInt8} (hc : c < 2 ^ n) (hb : ∀ x ∈ b, isBit x) : (n ≤ b.length ∧ valb (b.take n) = c) ↔ b.take n = bw c n := by
  constructor
  · rintro ⟨h1, h2⟩
    rw [← h2, bw_valb n _ (by rw [List.length_take]; omega) (fun x hx => hb x (List.mem_of_mem_take hx))]
  · intro h
    have h1 := congrArg List.length h
    rw [List.length_take, bw_len] at h1
    exact ⟨by omega, by rw [h, valb_bw hc]⟩
end Go.Proofs.Ytgmggcpceemnnaa.Huf
