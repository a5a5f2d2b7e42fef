/- The plain mathematics of canonical codes. No condition. -/
import Derived.WalkKit
namespace Go.Proofs.Ytgmggcpceemnnaa.Huf
def mAt (l : List Nat) (j : Nat) : Nat := l.getD j 0
def cond (l : List Nat) (n s j : Nat) : Bool := decide (0 < mAt l j) && (decide (mAt l j < n) || (decide (mAt l j = n) && decide (j < s)))
def bef (l : List Nat) (n s : Nat) : Nat → Nat
  | 0 => 0
  | k + 1 => bef l n s k + if cond l n s k = true then 2 ^ (48 - mAt l k) else 0
def kpart (m : Nat) : Nat := if 0 < m then 2 ^ (48 - m) else 0
def kraftTo (l : List Nat) : Nat → Nat
  | 0 => 0
  | k + 1 => kraftTo l k + kpart (mAt l k)
theorem kpart_le (m : Nat) : kpart m ≤ 2 ^ 47 := by
  unfold kpart; split
  · exact Nat.pow_le_pow_right (by omega) (by omega)
  · simp
theorem kraftTo_le (l : List Nat) (k : Nat) : kraftTo l k ≤ k * 2 ^ 47 := by
  induction k with
  | zero => simp [kraftTo]
  | succ k ih => have := kpart_le (mAt l k); unfold kraftTo; omega
theorem kraftTo_mono (l : List Nat) {a b : Nat} (h : a ≤ b) : kraftTo l a ≤ kraftTo l b := by
  induction b with
  | zero => have : a = 0 := by omega
            subst this; exact Nat.le_refl _
  | succ b ih =>
    by_cases hb : a = b + 1
    · subst hb; exact Nat.le_refl _
    · have h1 := ih (by omega)
      have h2 : kraftTo l (b + 1) = kraftTo l b + kpart (mAt l b) := rfl
      omega
theorem bef_le (l : List Nat) (n s k : Nat) : bef l n s k ≤ kraftTo l k := by
  induction k with
  | zero => simp [bef]
  | succ k ih =>
    unfold bef kraftTo kpart
    by_cases hc : cond l n s k = true
    · rw [if_pos hc]
      have : 0 < mAt l k := by simp [cond] at hc; omega
      rw [if_pos this]; omega
    · rw [if_neg hc]; omega
theorem bef_zero (l : List Nat) (n s k : Nat) (h : ∀ j, j < k → cond l n s j = false) : bef l n s k = 0 := by
  induction k with
  | zero => rfl
  | succ k ih =>
    unfold bef
    rw [ih (fun j hj => h j (by omega)), h k (by omega)]; rfl
theorem bef_same (l : List Nat) (n s n' s' k : Nat) (h : ∀ j, j < k → cond l n s j = cond l n' s' j) : bef l n s k = bef l n' s' k := by
  induction k with
  | zero => rfl
  | succ k ih =>
    unfold bef
    rw [ih (fun j hj => h j (by omega)), h k (by omega)]
theorem bef_first (l : List Nat) (k : Nat) : bef l 1 0 k = 0 := bef_zero _ _ _ _ fun j _ => by
  rw [Bool.eq_false_iff]; intro h; simp [cond] at h; omega
theorem bef_none (l : List Nat) (s k : Nat) : bef l 0 s k = 0 := bef_zero _ _ _ _ fun j _ => by
  rw [Bool.eq_false_iff]; intro h; simp [cond] at h; omega
theorem bef_next (l : List Nat) (n s k : Nat) (hk : k ≤ s) : bef l (n + 1) 0 k = bef l n s k := bef_same _ _ _ _ _ _ fun j hj => by
  rw [Bool.eq_iff_iff]; simp [cond]; omega
theorem bef_step (l : List Nat) (n s : Nat) (hn : 0 < n) : ∀ k, s < k → bef l n (s + 1) k = bef l n s k + if mAt l s = n then 2 ^ (48 - n) else 0
  | 0, h => by omega
  | k + 1, h => by
    by_cases hs : s < k
    · have h1 : cond l n (s + 1) k = cond l n s k := by rw [Bool.eq_iff_iff]; simp [cond]; omega
      unfold bef
      rw [bef_step l n s hn k hs, h1]; omega
    · have : s = k := by omega
      subst this
      have h1 : bef l n (s + 1) s = bef l n s s := bef_same _ _ _ _ _ _ fun j hj => by rw [Bool.eq_iff_iff]; simp [cond]; omega
      unfold bef
      rw [h1]
      by_cases hm : mAt l s = n
      · have h2 : cond l n (s + 1) s = true := by simp [cond]; omega
        have h3 : cond l n s s = false := by rw [Bool.eq_false_iff]; intro h; simp [cond] at h; omega
        rw [if_pos hm, h2, h3, hm]; simp
      · have h2 : cond l n (s + 1) s = cond l n s s := by rw [Bool.eq_iff_iff]; simp [cond]; omega
        rw [if_neg hm, h2]; rfl
theorem pow_split {a b c : Nat} (h : a + b = c) : (2 : Nat) ^ c = 2 ^ a * 2 ^ b := by rw [← Nat.pow_add, h]
theorem bef_dvd (l : List Nat) (n s k : Nat) (hn : n ≤ 48) : 2 ^ (48 - n) ∣ bef l n s k := by
  induction k with
  | zero => exact Nat.dvd_zero _
  | succ k ih =>
    unfold bef
    apply Nat.dvd_add ih
    by_cases hc : cond l n s k = true
    · rw [if_pos hc]
      have hm : mAt l k ≤ n := by simp [cond] at hc; omega
      exact Nat.pow_dvd_pow _ (by omega)
    · rw [if_neg hc]; exact Nat.dvd_zero _
/-- the code of sign i, of the first k signs -/
def refTo (l : List Nat) (i k : Nat) : Nat := bef l (mAt l i) i k / 2 ^ (48 - mAt l i)
def code (l : List Nat) (i : Nat) : Nat := refTo l i l.length
theorem refTo_mul (l : List Nat) (i k : Nat) (h : mAt l i ≤ 48) : refTo l i k * 2 ^ (48 - mAt l i) = bef l (mAt l i) i k :=
  Nat.div_mul_cancel (bef_dvd l _ _ _ h)
theorem refTo_zero (l : List Nat) (i : Nat) : refTo l i 0 = 0 := by unfold refTo bef; simp
theorem refTo_none (l : List Nat) (i k : Nat) (h : mAt l i = 0) : refTo l i k = 0 := by unfold refTo; rw [h, bef_none, Nat.zero_div]
theorem refTo_step (l : List Nat) (i k : Nat) (h : mAt l i ≤ 48) : refTo l i (k + 1) = refTo l i k + if cond l (mAt l i) i k = true then 2 ^ (mAt l i - mAt l k) else 0 := by
  by_cases hc : cond l (mAt l i) i k = true
  · rw [if_pos hc]
    apply Nat.eq_of_mul_eq_mul_right (Nat.two_pow_pos (48 - mAt l i))
    rw [refTo_mul l i _ h, Nat.add_mul, refTo_mul l i _ h]
    have hm : mAt l k ≤ mAt l i := by simp [cond] at hc; omega
    rw [← pow_split (show (mAt l i - mAt l k) + (48 - mAt l i) = 48 - mAt l k by omega)]
    show bef l (mAt l i) i k + (if cond l (mAt l i) i k = true then _ else 0) = _
    rw [if_pos hc]
  · rw [if_neg hc]
    unfold refTo
    show (bef l (mAt l i) i k + (if cond l (mAt l i) i k = true then _ else 0)) / _ = _
    rw [if_neg hc]; rfl
theorem refTo_le (l : List Nat) (i k : Nat) : refTo l i k ≤ kraftTo l k := Nat.le_trans (Nat.div_le_self _ _) (bef_le _ _ _ _)
/-- the next code that is free is the code of the sign that gets it -/
theorem next_code (l : List Nat) (n s last next : Nat) (hl : last ≤ n) (hn : n ≤ 48) (hm : mAt l s = n) (h : next * 2 ^ (48 - last) = bef l n s l.length) : next * 2 ^ (n - last) = code l s := by
  apply Nat.eq_of_mul_eq_mul_right (Nat.two_pow_pos (48 - n))
  have := refTo_mul l s l.length (by omega)
  rw [hm] at this
  unfold code
  rw [this, ← h, Nat.mul_assoc, ← pow_split (show (n - last) + (48 - n) = 48 - last by omega)]
theorem next_after (l : List Nat) (n s : Nat) (h0 : 0 < n) (hn : n ≤ 48) (hs : s < l.length) (hm : mAt l s = n) : (code l s + 1) * 2 ^ (48 - n) = bef l n (s + 1) l.length := by
  rw [bef_step l n s h0 _ hs, if_pos hm, Nat.add_mul, Nat.one_mul]
  have := refTo_mul l s l.length (by omega)
  rw [hm] at this
  unfold code
  rw [this]
theorem code_lt (l : List Nat) (n s : Nat) (h0 : 0 < n) (hn : n ≤ 48) (hs : s < l.length) (hm : mAt l s = n) (ht : kraftTo l l.length ≤ 2 ^ 48) : code l s + 1 ≤ 2 ^ 48 := by
  have h1 := next_after l n s h0 hn hs hm
  have h2 := bef_le l n (s + 1) l.length
  have h3 : (code l s + 1) * 1 ≤ (code l s + 1) * 2 ^ (48 - n) := Nat.mul_le_mul_left _ (Nat.two_pow_pos _)
  omega
def implOut (l : List Nat) (n s : Nat) : List Nat := (List.range l.length).map fun j => if cond l n s j = true then code l j else 0
def refOut (l : List Nat) (i k : Nat) : List Nat := (List.range l.length).map fun j => if j < i then code l j else if j = i then refTo l i k else 0
theorem map_eq {α : Type} {f g : Nat → α} {n : Nat} (h : ∀ j, j < n → f j = g j) : (List.range n).map f = (List.range n).map g :=
  List.map_congr_left fun j hj => h j (List.mem_range.1 hj)
theorem map_set {α : Type} {f g : Nat → α} {n s : Nat} {v : α} (hv : s < n → g s = v) (h : ∀ j, j < n → j ≠ s → g j = f j) : ((List.range n).map f).set s v = (List.range n).map g := by
  apply List.ext_getElem?
  intro j
  rw [List.getElem?_set]
  by_cases hj : j < n
  · by_cases hs : s = j
    · subst hs; simp [hj, hv hj]
    · rw [if_neg hs]; simp [hj, h j hj (fun e => hs e.symm)]
  · by_cases hs : s = j
    · subst hs; simp [hj]
    · rw [if_neg hs]; simp [hj]
theorem implOut_first (l : List Nat) : implOut l 1 0 = List.replicate l.length 0 := by
  apply List.ext_getElem?
  intro j
  unfold implOut
  by_cases hj : j < l.length
  · have : cond l 1 0 j = false := by rw [Bool.eq_false_iff]; intro h; simp [cond] at h; omega
    simp [hj, this]
  · simp [hj]
theorem implOut_next (l : List Nat) (n s : Nat) (h : l.length ≤ s) : implOut l (n + 1) 0 = implOut l n s := map_eq fun j hj => by
  have : cond l (n + 1) 0 j = cond l n s j := by rw [Bool.eq_iff_iff]; simp [cond]; omega
  rw [this]
theorem implOut_skip (l : List Nat) (n s : Nat) (h : mAt l s ≠ n) : implOut l n (s + 1) = implOut l n s := map_eq fun j hj => by
  have : cond l n (s + 1) j = cond l n s j := by
    rw [Bool.eq_iff_iff]; simp [cond]
    by_cases hjs : j = s
    · subst hjs; omega
    · omega
  rw [this]
theorem implOut_set (l : List Nat) (n s : Nat) (h0 : 0 < n) (h : mAt l s = n) : (implOut l n s).set s (code l s) = implOut l n (s + 1) := map_set (fun _ => by
    have : cond l n (s + 1) s = true := by simp [cond]; omega
    rw [if_pos this]) fun j hj hne => by
  have : cond l n (s + 1) j = cond l n s j := by rw [Bool.eq_iff_iff]; simp [cond]; omega
  rw [this]
theorem refOut_first (l : List Nat) : refOut l 0 0 = List.replicate l.length 0 := by
  apply List.ext_getElem?
  intro j
  unfold refOut
  by_cases hj : j < l.length
  · by_cases h0 : j = 0
    · subst h0; simp [hj, refTo_zero]
    · simp [hj, h0]
  · simp [hj]
theorem refOut_next (l : List Nat) (i : Nat) : refOut l (i + 1) 0 = refOut l i l.length := map_eq fun j hj => by
  by_cases h1 : j < i
  · rw [if_pos h1, if_pos (by omega)]
  · by_cases h2 : j = i
    · subst h2; rw [if_pos (by omega), if_neg (by omega), if_pos rfl]; rfl
    · rw [if_neg (by omega), if_neg h1, if_neg h2]; split
      · exact refTo_zero l _
      · rfl
theorem refOut_set (l : List Nat) (i k : Nat) : (refOut l i k).set i (refTo l i (k + 1)) = refOut l i (k + 1) := map_set (fun _ => by rw [if_neg (by omega), if_pos rfl]) fun j hj hne => by
  rw [if_neg hne, if_neg hne]
theorem refOut_at (l : List Nat) (i k : Nat) (h : i < l.length) : (refOut l i k)[i]? = some (refTo l i k) := by
  unfold refOut; simp [h]
theorem refOut_len (l : List Nat) (i k : Nat) : (refOut l i k).length = l.length := by simp [refOut]
theorem implOut_len (l : List Nat) (n s : Nat) : (implOut l n s).length = l.length := by simp [implOut]
theorem out_same (l : List Nat) (h : ∀ j, mAt l j ≤ 48) : implOut l 49 0 = refOut l l.length 0 := map_eq fun j hj => by
  rw [if_pos hj]
  by_cases h0 : mAt l j = 0
  · have : cond l 49 0 j = false := by rw [Bool.eq_false_iff]; intro h; simp [cond] at h; omega
    rw [this]; unfold code; rw [refTo_none l j _ h0]; rfl
  · have : cond l 49 0 j = true := by have := h j; simp [cond]; omega
    rw [if_pos this]
end Go.Proofs.Ytgmggcpceemnnaa.Huf
