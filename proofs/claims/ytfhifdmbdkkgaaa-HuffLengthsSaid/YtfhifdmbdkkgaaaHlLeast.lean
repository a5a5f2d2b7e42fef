/- The least bunch and the others. No condition. -/
import Derived.Test.YtfhifdmbdkkgaaaHlHeap
namespace Go.Proofs.Ytfhifdmbdkkgaaa.PHl
open Go.RowKit Ytfhifdmbdkkgaaa.En Ytfhifdmbdkkgaaa Ytfhifdmbdkkgaaa.HeapM
set_option linter.unusedVariables false
set_option linter.unusedSimpArgs false
abbrev B := S_lumref_bunch
def key (b : B) : Int := b.signs.headD 0
def leB (a b : B) : Prop := a.weight < b.weight ∨ (a.weight = b.weight ∧ key a ≤ key b)
theorem key_at {b : B} (h : b.signs ≠ []) : at? b.signs (0 : Int) = some (key b) := by
  unfold key
  cases hb : b.signs with
  | nil => exact absurd hb h
  | cons a t => rfl
theorem least_go (l : List B) (hl : l.length ≤ 1000000) (hne : ∀ b ∈ l, b.signs ≠ []) (kk : Int → Option (B × List B)) : ∀ (d k i j : Nat), l.length - i = d → d < k → i ≤ l.length → j < l.length → (∀ (c : Nat) (x y : B), c < i → l[c]? = some x → l[j]? = some y → leB y x) →
    ∃ j' : Nat, j' < l.length ∧ f_lumref_least_L29 l kk k (i : Int) (j : Int) = kk (j' : Int) ∧ ∀ (c : Nat) (x y : B), l[c]? = some x → l[j']? = some y → leB y x
  | _, 0, _, _, _, hk, _, _, _ => absurd hk (Nat.not_lt_zero _)
  | d, k + 1, i, j, hd, hk, hi, hj, hm => by
    rw [f_lumref_least_L29]
    by_cases h : i < l.length
    · have hyi := List.getElem?_eq_getElem h
      have hyj := List.getElem?_eq_getElem hj
      rw [cond_tt (dlt (by omega)), lt_of, at_lt h, opt_of, lt_of, at_lt hj, opt_of, opt_of, wsucc (by omega)]
      have hstay : leB l[j] l[i] → ∃ j' : Nat, j' < l.length ∧ f_lumref_least_L29 l kk k ((i + 1 : Nat) : Int) (j : Int) = kk (j' : Int) ∧ ∀ (c : Nat) (x y : B), l[c]? = some x → l[j']? = some y → leB y x := fun hle =>
        least_go l hl hne kk (d - 1) k (i + 1) j (by omega) (by omega) (by omega) hj fun c x y hc hx hy => by
          rcases Nat.lt_or_eq_of_le (Nat.le_of_lt_succ hc) with h1 | h1
          · exact hm c x y h1 hx hy
          · subst h1; rw [hyi] at hx; rw [hyj] at hy; cases hx; cases hy; exact hle
      have hmove : leB l[i] l[j] → ∃ j' : Nat, j' < l.length ∧ f_lumref_least_L29 l kk k ((i + 1 : Nat) : Int) (i : Int) = kk (j' : Int) ∧ ∀ (c : Nat) (x y : B), l[c]? = some x → l[j']? = some y → leB y x := fun hle =>
        least_go l hl hne kk (d - 1) k (i + 1) i (by omega) (by omega) (by omega) h fun c x y hc hx hy => by
          rw [hyi] at hy; cases hy
          rcases Nat.lt_or_eq_of_le (Nat.le_of_lt_succ hc) with h1 | h1
          · have := hm c x _ h1 hx hyj
            unfold leB at *; omega
          · subst h1; rw [hyi] at hx; cases hx; exact .inr ⟨rfl, Int.le_refl _⟩
      by_cases h1 : l[i].weight < l[j].weight
      · rw [cond_tt (decide_eq_true h1)]
        dsimp only
        rw [cond_tt rfl]
        exact hmove (.inl h1)
      · rw [cond_ff (decide_eq_false h1)]
        by_cases h2 : l[i].weight = l[j].weight
        · rw [cond_tt (by rw [h2]; exact beq_self_eq_true _), key_at (hne _ (List.getElem_mem h)), opt_of, opt_of, key_at (hne _ (List.getElem_mem hj)), opt_of]
          dsimp only
          by_cases h3 : key l[i] < key l[j]
          · rw [cond_tt (decide_eq_true h3)]
            exact hmove (.inr ⟨h2, by omega⟩)
          · rw [cond_ff (decide_eq_false h3)]
            exact hstay (.inr ⟨h2.symm, by omega⟩)
        · rw [cond_ff (by rw [beq_eq_false_iff_ne]; exact h2)]
          dsimp only
          rw [cond_ff rfl]
          exact hstay (.inl (by omega))
    · rw [cond_ff (dge (by omega))]
      refine ⟨j, hj, rfl, fun c x y hx hy => hm c x y ?_ hx hy⟩
      have := (List.getElem?_eq_some_iff.1 hx).1
      omega
theorem others_go (l : List B) (hl : l.length ≤ 1000000) (j : Nat) (kk : List B → Option (B × List B)) : ∀ (d k i : Nat) (out : List B), l.length - i = d → d < k → i ≤ l.length → out = (l.take i).eraseIdx j →
    f_lumref_least_L13 l (j : Int) kk k out (i : Int) = kk (l.eraseIdx j)
  | _, 0, _, _, _, hk, _, _ => absurd hk (Nat.not_lt_zero _)
  | d, k + 1, i, out, hd, hk, hi, ho => by
    rw [f_lumref_least_L13]
    by_cases h : i < l.length
    · have hol : out.length ≤ 1000000 := by
        rw [ho]; exact Nat.le_trans (List.length_eraseIdx_le _ _) (by rw [List.length_take]; omega)
      rw [cond_tt (dlt (by omega)), lt_of, at_lt h, opt_of, wsucc (by omega)]
      have ht : l.take (i + 1) = l.take i ++ [l[i]] := by rw [List.take_add_one, List.getElem?_eq_getElem h]; rfl
      have htl : (l.take i).length = i := by rw [List.length_take]; omega
      by_cases hij : i = j
      · subst hij
        rw [cond_ff (by simp)]
        refine others_go l hl i kk (d - 1) k (i + 1) out (by omega) (by omega) (by omega) ?_
        rw [ho, ht, List.eraseIdx_append_of_length_le (by omega), htl, Nat.sub_self, List.eraseIdx_of_length_le (by omega)]
        simp
      · rw [cond_tt (show ((i : Int) != (j : Int)) = true by rw [bne_iff_ne]; omega), req_pos (by rw [List.length_singleton]; omega)]
        refine others_go l hl j kk (d - 1) k (i + 1) (out ++ [l[i]]) (by omega) (by omega) (by omega) ?_
        rw [ho, ht]
        by_cases hlt : j < i
        · rw [List.eraseIdx_append_of_lt_length (by omega)]
        · rw [List.eraseIdx_append_of_length_le (by omega), List.eraseIdx_of_length_le (by omega), List.eraseIdx_of_length_le (by rw [htl, List.length_singleton]; omega)]
    · rw [cond_ff (dge (by omega)), ho, List.take_of_length_le (by omega)]
theorem erase_perm {α : Type} : ∀ (l : List α) (j : Nat) (h : j < l.length), (l[j] :: l.eraseIdx j).Perm l
  | a :: t, 0, _ => List.Perm.refl _
  | a :: t, j + 1, h => by
    rw [List.getElem_cons_succ, List.eraseIdx_cons_succ]
    exact (List.Perm.swap _ _ _).trans (List.Perm.cons a (erase_perm t j (by rw [List.length_cons] at h; omega)))
theorem least_ok (l : List B) (h0 : 0 < l.length) (hl : l.length ≤ 1000000) (hne : ∀ b ∈ l, b.signs ≠ []) (fu : Nat) (hf : l.length < fu) : ∃ r l', f_lumref_least fu l = some (r, l') ∧ (r :: l').Perm l ∧ ∀ b ∈ l, leB r b := by
  obtain ⟨j, j1, j2, j3⟩ := least_go l hl hne (fun (j2i4 : Int) => (lt (fun (j4x7 : (List S_lumref_bunch)) => (opt (at? l j2i4) fun (u6 : S_lumref_bunch) => (some (u6, j4x7)))) fun (kk5 : (List S_lumref_bunch) → Option (S_lumref_bunch × (List S_lumref_bunch))) => (f_lumref_least_L13 l j2i4 kk5 fu ([] : List S_lumref_bunch) (0 : Int)))) l.length fu 0 0 rfl hf (Nat.zero_le _) h0 (fun c _ _ hc => absurd hc (Nat.not_lt_zero _))
  unfold f_lumref_least
  rw [lt_of]
  refine ⟨l[j], l.eraseIdx j, ?_, ?_, fun b hb => ?_⟩
  · refine j2.trans ?_
    rw [lt_of]
    refine (others_go l hl j _ l.length fu 0 [] rfl hf (Nat.zero_le _) (by simp)).trans ?_
    rw [at_lt j1]
    rfl
  · exact (erase_perm l j j1)
  · obtain ⟨i, hi, rfl⟩ := List.mem_iff_getElem.1 hb
    exact j3 i _ _ (List.getElem?_eq_getElem hi) (List.getElem?_eq_getElem j1)
end Go.Proofs.Ytfhifdmbdkkgaaa.PHl
