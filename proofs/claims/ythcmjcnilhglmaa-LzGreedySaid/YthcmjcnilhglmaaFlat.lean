/- Lists laid out in chunks of one length: cells of slices of structs. No condition. -/
import Derived.Test.YthcmjcnilhglmaaBase
namespace Go.Proofs.Ythcmjcnilhglmaa
section
variable {α β : Type} {k : Nat} (f : α → List β)
theorem flat_len (hf : ∀ t, (f t).length = k) (l : List α) : (l.flatMap f).length = l.length * k := by
  induction l with
  | nil => simp
  | cons t l ih => rw [List.flatMap_cons, List.length_append, ih, hf, List.length_cons, Nat.succ_mul]; omega
theorem flat_drop (hf : ∀ t, (f t).length = k) (l : List α) (i : Nat) : (l.flatMap f).drop (i * k) = (l.drop i).flatMap f := by
  induction l generalizing i with
  | nil => simp
  | cons t l ih =>
    cases i with
    | zero => simp
    | succ i =>
      rw [List.flatMap_cons, Nat.succ_mul, Nat.add_comm, ← List.drop_drop]
      have : ((f t) ++ l.flatMap f).drop k = l.flatMap f := by
        rw [List.drop_append, hf t]; simp [hf t]
      rw [this, ih]; rfl
theorem flat_at (hf : ∀ t, (f t).length = k) (l : List α) {i r : Nat} {t : α} {u : β} (hi : l[i]? = some t) (hr : (f t)[r]? = some u) : (l.flatMap f)[i * k + r]? = some u := by
  rw [← List.getElem?_drop, flat_drop f hf]
  have hlt : i < l.length := (List.getElem?_eq_some_iff.1 hi).1
  have : l.drop i = t :: l.drop (i + 1) := by
    rw [List.drop_eq_getElem_cons hlt]
    congr 1
    rw [List.getElem?_eq_getElem hlt] at hi
    exact Option.some.inj hi
  rw [this, List.flatMap_cons, List.getElem?_append_left (List.getElem?_eq_some_iff.1 hr).1]
  exact hr
theorem flat_chunk (hf : ∀ t, (f t).length = k) (l : List α) {i : Nat} {t : α} (hi : l[i]? = some t) : ((l.flatMap f).drop (i * k)).take k = f t := by
  rw [flat_drop f hf]
  have hlt : i < l.length := (List.getElem?_eq_some_iff.1 hi).1
  have : l.drop i = t :: l.drop (i + 1) := by
    rw [List.drop_eq_getElem_cons hlt]
    congr 1
    rw [List.getElem?_eq_getElem hlt] at hi
    exact Option.some.inj hi
  rw [this, List.flatMap_cons, List.take_append, hf t]
  simp only [Nat.sub_self, List.take_zero, List.append_nil]
  exact List.take_of_length_le (by rw [hf]; exact Nat.le_refl _)
theorem flat_range {γ : Type} (CS : Nat → List β) (g : γ → List β) (p : γ → Prop) : ∀ n : Nat, (∀ i, i < n → ∃ t, CS i = g t ∧ p t) → ∃ l : List γ, l.length = n ∧ (List.range n).flatMap CS = l.flatMap g ∧ ∀ t ∈ l, p t
  | 0, _ => ⟨[], rfl, rfl, by simp⟩
  | n + 1, h => by
    obtain ⟨l, hl, he, hp⟩ := flat_range CS g p n (fun i hi => h i (by omega))
    obtain ⟨t, ht, hpt⟩ := h n (by omega)
    refine ⟨l ++ [t], by simp [hl], ?_, ?_⟩
    · rw [List.range_succ, List.flatMap_append, List.flatMap_append, he]
      simp [ht]
    · intro u hu
      rw [List.mem_append] at hu
      rcases hu with hu | hu
      · exact hp u hu
      · rw [List.mem_singleton] at hu; subst hu; exact hpt
theorem flat_cut (l : List α) (k n : Nat) (h : l.length = n * k) {j : Nat} {u : α} (hj : l[j]? = some u) (hk : 0 < k) : ∃ i r, i < n ∧ r < k ∧ j = i * k + r := by
  have hlt : j < n * k := by have := (List.getElem?_eq_some_iff.1 hj).1; omega
  refine ⟨j / k, j % k, ?_, Nat.mod_lt _ hk, ?_⟩
  · exact Nat.div_lt_of_lt_mul (by rw [Nat.mul_comm]; exact hlt)
  · rw [Nat.mul_comm]; exact (Nat.div_add_mod j k).symm
end
end Go.Proofs.Ythcmjcnilhglmaa
