/- Entering a fence: the code and the reference agree: LeaseEnters. No condition. -/
import Derived.Test.YthcmjcnilhglmaaWLeaseEnters
import Derived.Test.YthcmjcnilhglmaaPl0
namespace Go.Proofs.Ythcmjcnilhglmaa.PLeaseEnters
open Go.RowKit Ythcmjcnilhglmaa.En Ythcmjcnilhglmaa
set_option linter.unusedVariables false
set_option linter.unusedSimpArgs false
theorem eq_loop (a b : List (List UInt8)) (kk : Unit → Option Bool) (hl : a.length = b.length) (hm : a.length ≤ 200) : ∀ (fuel k : Nat), k ≤ a.length → a.length - k < fuel →
    f_slices_Equal___string_string__L6 a b kk fuel (k : Int) = if a.drop k = b.drop k then kk () else some false
  | 0, k, _, hf => absurd hf (Nat.not_lt_zero _)
  | fuel + 1, k, hk, hf => by
    rw [f_slices_Equal___string_string__L6]
    by_cases hlt : k < a.length
    · rw [cond_tt (dlt (by omega)), at_lt hlt, at_lt (show k < b.length by omega), opt_of, opt_of, List.drop_eq_getElem_cons hlt, List.drop_eq_getElem_cons (show k < b.length by omega)]
      by_cases he : a[k] = b[k]
      · rw [cond_ff (by simp [he]), wsucc (by omega), eq_loop a b kk hl hm fuel (k + 1) (by omega) (by omega)]
        by_cases hd : a.drop (k + 1) = b.drop (k + 1)
        · rw [if_pos hd, if_pos (by rw [he, hd])]
        · rw [if_neg hd, if_neg (fun h => hd (List.cons.inj h).2)]
      · rw [cond_tt (by simp [he]), if_neg (fun h => he (List.cons.inj h).1)]
    · rw [cond_ff (dge (by omega)), List.drop_of_length_le (by omega), List.drop_of_length_le (by omega), if_pos rfl]
theorem eqs (a : List (List UInt8)) (fu : Nat) (hm : a.length ≤ 200) (hf : 200 < fu) : f_slices_Equal___string_string_ fu a a = some true := by
  unfold f_slices_Equal___string_string_
  rw [cond_ff (by simp), lt_of]
  refine (eq_loop a a _ rfl hm fu 0 (by omega) (by omega)).trans ?_
  rw [if_pos rfl]
theorem clone (fu : Nat) (a : List (List UInt8)) (hm : a.length ≤ 200) : f_slices_Clone___string_string_ fu a = some a := by
  unfold f_slices_Clone___string_string_
  rw [req_pos (by simp; omega), List.nil_append]
  cases a with
  | nil => exact amb_same
  | cons x l => exact amb_ff rfl
theorem grow (fu n : Nat) (hn : n ≤ 1000) : f_slices_Grow___string_string__nil fu (n : Int) = some [] := by
  unfold f_slices_Grow___string_string__nil
  have h1 : IntKind.i64.wrap (((0 : Nat) : Int) - ((0 : Nat) : Int)) = 0 := w64 (by omega) (by omega)
  rw [h1, w64 (x := (n : Int) - 0) (by omega) (by omega), cond_ff (dge (by omega)), lt_of]
  by_cases h0 : n = 0
  · subst h0; rw [cond_ff (decide_eq_false (by omega))]
  · rw [cond_tt (decide_eq_true (by omega)), req_pos (by omega), req_pos (by simp)]; rfl
theorem concat (fu : Nat) (a : List (List UInt8)) (b : List UInt8) (hm : a.length ≤ 200) (hf : 10 ≤ fu) : f_slices_Concat___string_string_ fu [a, [b]] = some (a ++ [b]) := by
  unfold f_slices_Concat___string_string_
  obtain ⟨q, rfl⟩ : ∃ q, fu = q + 3 := ⟨fu - 3, by omega⟩
  rw [lt_of]
  have h2 : ∀ kk, f_slices_Concat___string_string__L20 [a, [b]] kk (q + 3) 0 0 = kk ((a.length + 1 : Nat) : Int) := fun kk => by
    rw [show (0 : Int) = ((0 : Nat) : Int) from rfl]
    rw [f_slices_Concat___string_string__L20, cond_tt (dlt (by simp)), at_lt (show 0 < [a, [b]].length by simp), opt_of, wsucc (by omega)]
    rw [show [a, [b]][0] = a from rfl, w64 (by omega) (by omega), cond_ff (dge (by omega))]
    rw [f_slices_Concat___string_string__L20, cond_tt (dlt (by simp)), at_lt (show 0 + 1 < [a, [b]].length by simp), opt_of, wsucc (by omega)]
    rw [show [a, [b]][0 + 1] = [b] from rfl, show (([b].length : Nat) : Int) = 1 from rfl, w64 (by omega) (by omega), cond_ff (dge (by omega))]
    rw [f_slices_Concat___string_string__L20, cond_ff (dge (by simp))]
    congr 1; omega
  rw [h2, grow _ _ (by omega), opt_of, lt_of]
  rw [show (0 : Int) = ((0 : Nat) : Int) from rfl]
  rw [f_slices_Concat___string_string__L10, cond_tt (dlt (by simp)), at_lt (show 0 < [a, [b]].length by simp), opt_of, wsucc (by omega)]
  rw [show [a, [b]][0] = a from rfl, req_pos (by simp; omega), List.nil_append]
  rw [f_slices_Concat___string_string__L10, cond_tt (dlt (by simp)), at_lt (show 0 + 1 < [a, [b]].length by simp), opt_of, wsucc (by omega)]
  rw [show [a, [b]][0 + 1] = [b] from rfl, req_pos (by simp; omega)]
  rw [f_slices_Concat___string_string__L10, cond_ff (dge (by simp))]
def inr (x : Int) : Bool := decide (0 ≤ x) && decide (x ≤ 1099511627776)
theorem range (fu : Nat) (x : Int) : f_lease_inRange fu x = some (inr x) := by
  unfold f_lease_inRange inr
  rw [lt_of]
  by_cases h : x ≥ 0
  · rw [cond_tt (decide_eq_true h), decide_eq_true (show 0 ≤ x from h)]; rfl
  · rw [cond_ff (decide_eq_false h), decide_eq_false (show ¬ 0 ≤ x from h)]; rfl
def ent (a : S_api_Fence) (n : Int) (t : List UInt8) : S_api_Fence × Int :=
  if !(inr a.Seen && inr n) then (⟨0, []⟩, 1) else if n < a.Seen then (⟨0, []⟩, 16) else if t.length > 1024 then (⟨0, []⟩, 2) else if a.Texts.length ≥ 100 then (⟨0, []⟩, 12) else (⟨n, a.Texts ++ [t]⟩, 0)
theorem code (fu : Nat) (a : S_api_Fence) (n : Int) (t : List UInt8) (hf : 10 ≤ fu) : f_lease_Enter fu a n t = some (ent a n t) := by
  unfold f_lease_Enter ent
  rw [lt_of, range, range, opt_of, opt_of]
  dsimp only
  cases h1 : inr a.Seen with
  | false => rfl
  | true =>
    cases h2 : inr n with
    | false => rfl
    | true =>
      rw [cond_ff (show (!true) = false from rfl), cond_ff (show (!true) = false from rfl), if_neg (by simp)]
      by_cases h3 : n < a.Seen
      · rw [cond_tt (dlt h3), if_pos h3]
      · rw [cond_ff (dge (by omega)), if_neg h3]
        by_cases h4 : t.length > 1024
        · rw [cond_tt (decide_eq_true (by omega)), if_pos h4]
        · rw [cond_ff (decide_eq_false (by omega)), if_neg h4]
          by_cases h5 : a.Texts.length ≥ 100
          · rw [cond_tt (decide_eq_true (by omega)), if_pos h5]
          · rw [cond_ff (decide_eq_false (by omega)), if_neg h5, concat fu _ _ (by omega) hf]; rfl
theorem ref (fu : Nat) (a : S_api_Fence) (n : Int) (t : List UInt8) (hf : 10 ≤ fu) : f_lumref_Enter fu a n t = some (ent a n t) := by
  unfold f_lumref_Enter ent
  rw [lt_of]
  dsimp only
  have key : ∀ (b : Bool), b = (!(inr a.Seen && inr n)) → (bif b then (some ((S_api_Fence.mk (0 : Int) ([] : (List (List UInt8)))), (1 : Int))) else (bif (decide (a.Seen > n)) then (some ((S_api_Fence.mk (0 : Int) ([] : (List (List UInt8)))), (16 : Int))) else (bif (decide ((t.length : Int) > (1024 : Int))) then (some ((S_api_Fence.mk (0 : Int) ([] : (List (List UInt8)))), (2 : Int))) else (bif (decide ((a.Texts.length : Int) ≥ (100 : Int))) then (some ((S_api_Fence.mk (0 : Int) ([] : (List (List UInt8)))), (12 : Int))) else (opt (f_slices_Clone___string_string_ fu a.Texts) fun (r10 : (List (List UInt8))) => (req (((r10.length + ([t]).length) * 16 : Nat) ≤ 140737488355328 ∧ r10.length + ([t]).length ≤ 9223372036854775807) (some ((S_api_Fence.mk n (r10 ++ ([t]))), (0 : Int)))))))))
      = some (if !(inr a.Seen && inr n) then (⟨0, []⟩, 1) else if n < a.Seen then (⟨0, []⟩, 16) else if t.length > 1024 then (⟨0, []⟩, 2) else if a.Texts.length ≥ 100 then (⟨0, []⟩, 12) else (⟨n, a.Texts ++ [t]⟩, 0)) := by
    intro b hb
    rw [← hb]
    cases b with
    | true => rfl
    | false =>
      rw [cond_ff rfl, if_neg (by simp)]
      by_cases h3 : n < a.Seen
      · rw [cond_tt (decide_eq_true h3), if_pos h3]
      · rw [cond_ff (decide_eq_false (by omega)), if_neg h3]
        by_cases h4 : t.length > 1024
        · rw [cond_tt (decide_eq_true (by omega)), if_pos h4]
        · rw [cond_ff (decide_eq_false (by omega)), if_neg h4]
          by_cases h5 : a.Texts.length ≥ 100
          · rw [cond_tt (decide_eq_true (by omega)), if_pos h5]
          · rw [cond_ff (decide_eq_false (by omega)), if_neg h5, clone fu _ (by omega), opt_of, req_pos (by simp; omega)]
  unfold inr at key ⊢
  by_cases h0 : a.Seen < 0
  · rw [cond_tt (dlt h0)]
    exact key true (by rw [decide_eq_false (show ¬ 0 ≤ a.Seen by omega)]; rfl)
  · rw [cond_ff (dge (by omega))]
    rw [decide_eq_true (show 0 ≤ a.Seen by omega)] at key ⊢
    by_cases h1 : a.Seen > 1099511627776
    · rw [cond_tt (decide_eq_true h1)]
      exact key true (by rw [decide_eq_false (show ¬ a.Seen ≤ 1099511627776 by omega)]; rfl)
    · rw [cond_ff (decide_eq_false h1)]
      rw [decide_eq_true (show a.Seen ≤ 1099511627776 by omega)] at key ⊢
      by_cases h2 : n < 0
      · rw [cond_tt (dlt h2)]
        exact key true (by rw [decide_eq_false (show ¬ 0 ≤ n by omega)]; rfl)
      · rw [cond_ff (dge (by omega))]
        rw [decide_eq_true (show 0 ≤ n by omega)] at key ⊢
        refine key _ ?_
        by_cases h3 : n > 1099511627776
        · rw [decide_eq_true h3, decide_eq_false (show ¬ n ≤ 1099511627776 by omega)]; rfl
        · rw [decide_eq_false h3, decide_eq_true (show n ≤ 1099511627776 by omega)]; rfl
def fuel (_ : S_api_Fence) (_ : Int) (_ : List UInt8) : Nat := 1000
theorem says (a : S_api_Fence) (n : Int) (t : List UInt8) (_ : okS_api_Fence a) (_ : (Lit.int .i64 n).wf = true) (_ : t.length ≤ 9223372036854775807) : f_lumlaw_LeaseEnters (fuel a n t) a n t = some true := by
  unfold f_lumlaw_LeaseEnters fuel
  rw [code _ _ _ _ (by omega), ref _ _ _ _ (by omega), opt_of, opt_of, lt_of]
  dsimp only
  obtain ⟨o, ho⟩ : ∃ o, o = ent a n t := ⟨_, rfl⟩
  rw [← ho]
  have hlen : o.1.Texts.length ≤ 200 := by
    rw [ho]; unfold ent
    repeat' split
    all_goals simp
    omega
  rw [cond_tt (by simp), eqs _ _ hlen (by omega), opt_of, cond_tt rfl]
  simp
end Go.Proofs.Ythcmjcnilhglmaa.PLeaseEnters
