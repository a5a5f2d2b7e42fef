/- Heaps in lists, in plain Lean. No condition. -/
import Derived.WalkKit
namespace Go.Proofs.Ytfhifdmbdkkgaaa.HeapM
set_option linter.unusedVariables false
variable {α : Type} (le : α → α → Prop)
structure Ord : Prop where
  refl : ∀ a, le a a
  trans : ∀ {a b c}, le a b → le b c → le a c
  total : ∀ a b, le a b ∨ le b a
def H (l : List α) : Prop := ∀ (i : Nat) (x y : α), 0 < i → l[(i - 1) / 2]? = some x → l[i]? = some y → le x y
/-- all but at i, on the way up -/
def HU (l : List α) (i : Nat) : Prop := (∀ (j : Nat) (x y : α), 0 < j → j ≠ i → l[(j - 1) / 2]? = some x → l[j]? = some y → le x y) ∧
  ∀ (j : Nat) (x y : α), 0 < i → 0 < j → (j - 1) / 2 = i → l[(i - 1) / 2]? = some x → l[j]? = some y → le x y
/-- all but below i, on the way down -/
def HD (l : List α) (i : Nat) : Prop := (∀ (j : Nat) (x y : α), 0 < j → (j - 1) / 2 ≠ i → l[(j - 1) / 2]? = some x → l[j]? = some y → le x y) ∧
  ∀ (j : Nat) (x y : α), 0 < i → 0 < j → (j - 1) / 2 = i → l[(i - 1) / 2]? = some x → l[j]? = some y → le x y
variable {le}
theorem swap_at {l : List α} {p i : Nat} {x y : α} (hne : p ≠ i) (hp : l[p]? = some x) (hi : l[i]? = some y) (k : Nat) : ((l.set p y).set i x)[k]? = if k = i then some x else if k = p then some y else l[k]? := by
  have h1 := (List.getElem?_eq_some_iff.1 hp).1
  have h2 := (List.getElem?_eq_some_iff.1 hi).1
  rw [List.getElem?_set, List.getElem?_set, List.length_set]
  by_cases h : i = k
  · subst h; simp [h2]
  · by_cases h' : p = k
    · subst h'; simp [h, h1, Ne.symm h]
    · simp [h, h', Ne.symm h, Ne.symm h']
theorem swap_perm {l : List α} {p i : Nat} {x y : α} (hp : l[p]? = some x) (hi : l[i]? = some y) : ((l.set p y).set i x).Perm l := by
  obtain ⟨h1, rfl⟩ := List.getElem?_eq_some_iff.1 hp
  obtain ⟨h2, rfl⟩ := List.getElem?_eq_some_iff.1 hi
  exact List.set_set_perm h1 h2
theorem HU.zero {l : List α} (h : HU le l 0) : H le l := fun i x y h0 hx hy => h.1 i x y h0 (by omega) hx hy
theorem HU.stop {l : List α} {i : Nat} {x y : α} (h : HU le l i) (h0 : 0 < i) (hx : l[(i - 1) / 2]? = some x) (hy : l[i]? = some y) (hle : le x y) : H le l := fun j u v hj hu hv => by
  by_cases hji : j = i
  · subst hji; rw [hx] at hu; rw [hy] at hv; cases hu; cases hv; exact hle
  · exact h.1 j u v hj hji hu hv
theorem HU.up (O : Ord le) {l : List α} {i : Nat} {x y : α} (h : HU le l i) (h0 : 0 < i) (hx : l[(i - 1) / 2]? = some x) (hy : l[i]? = some y) (hle : le y x) : HU le ((l.set ((i - 1) / 2) y).set i x) ((i - 1) / 2) := by
  have hne : (i - 1) / 2 ≠ i := by omega
  have hs := swap_at hne hx hy
  refine ⟨fun j u v hj hjp hu hv => ?_, fun j u v hp hj hjp hu hv => ?_⟩
  · rw [hs] at hu hv
    rw [if_neg hjp] at hv
    by_cases hji : j = i
    · subst hji
      rw [if_pos rfl] at hv
      rw [if_neg hne, if_pos rfl] at hu
      cases hu; cases hv; exact hle
    · rw [if_neg hji] at hv
      by_cases h1 : (j - 1) / 2 = i
      · rw [if_pos h1] at hu
        cases hu
        exact h.2 j x v h0 hj h1 hx hv
      · rw [if_neg h1] at hu
        by_cases h2 : (j - 1) / 2 = (i - 1) / 2
        · rw [if_pos h2] at hu
          cases hu
          exact O.trans hle (h.1 j x v hj hji (by rw [h2]; exact hx) hv)
        · rw [if_neg h2] at hu
          exact h.1 j u v hj hji hu hv
  · rw [hs] at hu hv
    rw [if_neg (by omega), if_neg (by omega)] at hu
    have hg : le u x := h.1 ((i - 1) / 2) u x hp hne hu hx
    by_cases hji : j = i
    · rw [if_pos hji] at hv; cases hv; exact hg
    · rw [if_neg hji, if_neg (by omega)] at hv
      exact O.trans hg (h.1 j x v hj hji (by rw [hjp]; exact hx) hv)
theorem H.root (O : Ord le) {l : List α} (h : H le l) {r : α} (hr : l[0]? = some r) : ∀ (i : Nat) (y : α), l[i]? = some y → le r y
  | 0, y, hy => by rw [hr] at hy; cases hy; exact O.refl _
  | i + 1, y, hy => by
    have hlt := (List.getElem?_eq_some_iff.1 hy).1
    have hp : (i + 1 - 1) / 2 < l.length := by omega
    have hx := List.getElem?_eq_getElem hp
    exact O.trans (H.root O h hr ((i + 1 - 1) / 2) _ hx) (h (i + 1) _ y (by omega) hx hy)
  termination_by i => i
  decreasing_by omega
theorem HD.stop {l : List α} {i : Nat} {x : α} (h : HD le l i) (hx : l[i]? = some x) (hc : ∀ (j : Nat) (z : α), 0 < j → (j - 1) / 2 = i → l[j]? = some z → le x z) : H le l := fun j u v hj hu hv => by
  by_cases hji : (j - 1) / 2 = i
  · rw [hji, hx] at hu; cases hu; exact hc j v hj hji hv
  · exact h.1 j u v hj hji hu hv
theorem HD.down (O : Ord le) {l : List α} {i k : Nat} {x y : α} (h : HD le l i) (h0 : 0 < k) (hki : (k - 1) / 2 = i) (hx : l[i]? = some x) (hy : l[k]? = some y) (hle : le y x) (hmin : ∀ (j : Nat) (z : α), 0 < j → (j - 1) / 2 = i → l[j]? = some z → le y z) : HD le ((l.set k x).set i y) k := by
  have hne : k ≠ i := by omega
  have hs := swap_at hne hy hx
  refine ⟨fun j u v hj hjk hu hv => ?_, fun j u v _ hj hjk hu hv => ?_⟩
  · rw [hs] at hu hv
    by_cases hji : (j - 1) / 2 = i
    · rw [if_pos hji] at hu
      cases hu
      rw [if_neg (by omega)] at hv
      by_cases hjk2 : j = k
      · rw [if_pos hjk2] at hv; cases hv; exact hle
      · rw [if_neg hjk2] at hv; exact hmin j v hj hji hv
    · rw [if_neg hji, if_neg hjk] at hu
      by_cases hj2 : j = i
      · rw [if_pos hj2] at hv
        cases hv
        exact h.2 k u y (by omega) h0 hki (by rw [← hj2]; exact hu) hy
      · rw [if_neg hj2, if_neg (by omega)] at hv
        exact h.1 j u v hj hji hu hv
  · rw [hs] at hu hv
    rw [if_pos hki] at hu
    cases hu
    rw [if_neg (by omega), if_neg (by omega)] at hv
    exact h.1 j y v hj (by omega) (by rw [hjk]; exact hy) hv
/-- the last one is put at the root, and the list made shorter -/
theorem H.cut {l : List α} {n : Nat} {z : α} (h : H le l) (hn : n + 1 = l.length) : HD le ((l.set 0 z).take n) 0 := by
  refine ⟨fun j u v hj hj0 hu hv => ?_, fun j u v h0 => absurd h0 (Nat.lt_irrefl _)⟩
  rw [List.getElem?_take] at hu hv
  split at hu
  · split at hv
    · rw [List.getElem?_set, if_neg (Ne.symm hj0)] at hu
      rw [List.getElem?_set, if_neg (by omega)] at hv
      exact h j u v hj hu hv
    · cases hv
  · cases hu
theorem H.snoc {l : List α} {z : α} (h : H le l) : HU le (l ++ [z]) l.length := by
  refine ⟨fun j u v hj hjl hu hv => ?_, fun j u v h0 hj hjl hu hv => ?_⟩
  · have h1 := (List.getElem?_eq_some_iff.1 hv).1
    rw [List.length_append, List.length_singleton] at h1
    rw [List.getElem?_append_left (by omega)] at hu hv
    exact h j u v hj hu hv
  · have h1 := (List.getElem?_eq_some_iff.1 hv).1
    rw [List.length_append, List.length_singleton] at h1
    omega
/-- the rest after the root is taken -/
theorem cut_perm {l : List α} {n : Nat} {r z : α} (hn : n + 1 = l.length) (hr : l[0]? = some r) (hz : l[n]? = some z) : (r :: (l.set 0 z).take n).Perm l := by
  obtain ⟨a, t, rfl⟩ : ∃ a t, l = a :: t := by
    cases l with
    | nil => cases hr
    | cons a t => exact ⟨a, t, rfl⟩
  cases hr
  cases n with
  | zero =>
    have : t = [] := List.length_eq_zero_iff.1 (by rw [List.length_cons] at hn; omega)
    subst this
    simp
  | succ m =>
    rw [List.getElem?_cons_succ] at hz
    have hl : t.length = m + 1 := by rw [List.length_cons] at hn; omega
    have ht : t = t.take m ++ [z] := by
      have h1 := List.take_add_one (l := t) (i := m)
      rw [hz, List.take_of_length_le (by omega)] at h1
      exact h1
    rw [List.set_cons_zero, List.take_succ_cons]
    refine List.Perm.cons _ ?_
    have h2 : (z :: t.take m).Perm (t.take m ++ [z]) := List.perm_append_comm (l₁ := [z])
    rw [← ht] at h2
    exact h2
end Go.Proofs.Ytfhifdmbdkkgaaa.HeapM
