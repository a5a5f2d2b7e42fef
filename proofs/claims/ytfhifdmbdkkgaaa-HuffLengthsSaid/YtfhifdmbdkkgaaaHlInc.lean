/- The places of the signs grow: both loops. No condition. -/
import Derived.Test.YtfhifdmbdkkgaaaHlRel
namespace Go.Proofs.Ytfhifdmbdkkgaaa.PHl
open Go.RowKit Ytfhifdmbdkkgaaa.En Ytfhifdmbdkkgaaa Ytfhifdmbdkkgaaa.HeapM
set_option linter.unusedVariables false
set_option linter.unusedSimpArgs false
def inc (out : List Int) (s : Int) : List Int := out.set s.toNat (out.getD s.toNat 0 + 1)
def incs (out : List Int) : List Int → List Int
  | [] => out
  | s :: r => incs (inc out s) r
theorem inc_len (out : List Int) (s : Int) : (inc out s).length = out.length := List.length_set
theorem incs_len : ∀ (r out : List Int), (incs out r).length = out.length
  | [], _ => rfl
  | s :: r, out => by rw [incs, incs_len r, inc_len]
theorem inc_at (out : List Int) {s : Int} (h0 : 0 ≤ s) (k : Nat) : (inc out s)[k]? = (out[k]?).map fun v => if (k : Int) = s then v + 1 else v := by
  unfold inc
  rw [List.getElem?_set]
  by_cases h : s.toNat = k
  · have hk : (k : Int) = s := by omega
    subst h
    rw [if_pos rfl]
    by_cases hl : s.toNat < out.length
    · rw [if_pos hl, List.getElem?_eq_getElem hl, Option.map_some, if_pos hk, List.getD_eq_getElem?_getD, List.getElem?_eq_getElem hl]; rfl
    · rw [if_neg hl, List.getElem?_eq_none (by omega)]; rfl
  · rw [if_neg h]
    have hk : ¬ (k : Int) = s := by omega
    cases out[k]? with
    | none => rfl
    | some v => rw [Option.map_some, if_neg hk]
theorem incs_at : ∀ (r out : List Int), r.Nodup → (∀ s ∈ r, 0 ≤ s) → ∀ k : Nat, (incs out r)[k]? = (out[k]?).map fun v => if (k : Int) ∈ r then v + 1 else v
  | [], out, _, _, k => by rw [incs]; cases out[k]? <;> simp
  | s :: r, out, hn, h0, k => by
    obtain ⟨h1, h2⟩ := List.nodup_cons.1 hn
    rw [incs, incs_at r _ h2 (fun u hu => h0 u (List.mem_cons_of_mem _ hu)), inc_at out (h0 s List.mem_cons_self)]
    cases out[k]? with
    | none => rfl
    | some v =>
      simp only [Option.map_some]
      by_cases hk : (k : Int) = s
      · rw [if_pos hk, if_neg (by rw [hk]; exact h1), if_pos (by rw [hk]; exact List.mem_cons_self)]
      · rw [if_neg hk]
        by_cases hm : (k : Int) ∈ r
        · rw [if_pos hm, if_pos (List.mem_cons_of_mem _ hm)]
        · rw [if_neg hm, if_neg (by rw [List.mem_cons]; exact fun h => h.elim hk hm)]
theorem incs_eq {r r' out : List Int} (h : r.Nodup) (h' : r'.Nodup) (h0 : ∀ s ∈ r, 0 ≤ s) (hm : ∀ x, x ∈ r ↔ x ∈ r') : incs out r = incs out r' := by
  apply List.ext_getElem?
  intro k
  rw [incs_at r out h h0, incs_at r' out h' (fun s hs => h0 s ((hm s).2 hs))]
  congr 1
  funext v
  by_cases hk : (k : Int) ∈ r
  · rw [if_pos hk, if_pos ((hm _).1 hk)]
  · rw [if_neg hk, if_neg (fun e => hk ((hm _).2 e))]
theorem incs_mem {r out : List Int} (h : r.Nodup) (h0 : ∀ s ∈ r, 0 ≤ s) {c : Int} (hc : ∀ v ∈ out, 0 ≤ v ∧ v ≤ c) : ∀ v ∈ incs out r, 0 ≤ v ∧ v ≤ c + 1 := fun v hv => by
  obtain ⟨k, hk, rfl⟩ := List.mem_iff_getElem.1 hv
  have h1 := incs_at r out h h0 k
  rw [List.getElem?_eq_getElem hk] at h1
  have hk2 : k < out.length := by rw [incs_len] at hk; exact hk
  rw [List.getElem?_eq_getElem hk2, Option.map_some] at h1
  have h2 := hc _ (List.getElem_mem hk2)
  rw [Option.some.inj h1]
  split <;> omega
theorem inc_step {out : List Int} {s : Int} (h0 : 0 ≤ s) (hl : s < (out.length : Int)) {c : Int} (hc : ∀ v ∈ out, 0 ≤ v ∧ v ≤ c) (h9 : c ≤ 1000000000) : ∃ v, at? out s = some v ∧ out.set s.toNat (IntKind.i64.wrap (v + 1)) = inc out s ∧ ∀ v ∈ inc out s, 0 ≤ v ∧ v ≤ c + 1 := by
  obtain ⟨k, rfl⟩ := Int.eq_ofNat_of_zero_le h0
  have hk : k < out.length := by omega
  have hb := hc _ (List.getElem_mem hk)
  have hg : out.getD k 0 = out[k] := by rw [List.getD_eq_getElem?_getD, List.getElem?_eq_getElem hk]; rfl
  refine ⟨out[k], at_lt hk, ?_, fun v hv => ?_⟩
  · unfold inc; rw [Int.toNat_natCast, hg, w64 (x := out[k] + 1) (by omega) (by omega)]
  · unfold inc at hv
    rw [Int.toNat_natCast, hg] at hv
    rcases List.mem_or_eq_of_mem_set hv with h | h
    · have := hc v h; omega
    · omega
theorem code_incs (r : List Int) (hr : r.length ≤ 1000000) (kk : List Int → Option (List Int × Int)) : ∀ (d k j : Nat) (out : List Int) (c : Int), r.length - j = d → d < k → j ≤ r.length → (∀ s ∈ r, 0 ≤ s ∧ s < (out.length : Int)) → (∀ v ∈ out, 0 ≤ v ∧ v ≤ c) → c ≤ 1000 + j →
    f_huff_Lengths_L40 r kk k out (j : Int) = kk (incs out (r.drop j))
  | _, 0, _, _, _, _, hk, _, _, _, _ => absurd hk (Nat.not_lt_zero _)
  | d, k + 1, j, out, c, hd, hk, hj, hs, hv, hc => by
    rw [f_huff_Lengths_L40]
    by_cases h : j < r.length
    · obtain ⟨s1, s2⟩ := hs _ (List.getElem_mem h)
      obtain ⟨v, v1, v2, v3⟩ := inc_step s1 s2 hv (by omega)
      rw [cond_tt (dlt (by omega)), at_lt h, opt_of, v1, opt_of, opt_of, v2, wsucc (by omega), code_incs r hr kk (d - 1) k (j + 1) (inc out r[j]) (c + 1) (by omega) (by omega) (by omega) (by rw [inc_len]; exact hs) v3 (by omega), List.drop_eq_getElem_cons h]
      rfl
    · rw [cond_ff (dge (by omega)), List.drop_eq_nil_of_le (by omega)]
      rfl
theorem has_go (l : List Int) (x : Int) (hl : l.length ≤ 1000000) (kk : Unit → Option Bool) : ∀ (d k j : Nat), l.length - j = d → d < k → j ≤ l.length → f_lumref_has_L5 l x kk k (j : Int) = if x ∈ l.drop j then some true else kk ()
  | _, 0, _, _, hk, _ => absurd hk (Nat.not_lt_zero _)
  | d, k + 1, j, hd, hk, hj => by
    rw [f_lumref_has_L5]
    by_cases h : j < l.length
    · rw [cond_tt (dlt (by omega)), at_lt h, opt_of, List.drop_eq_getElem_cons h]
      by_cases he : l[j] = x
      · rw [cond_tt (by rw [he]; exact beq_self_eq_true _), if_pos (by rw [he]; exact List.mem_cons_self)]
      · rw [cond_ff (by rw [beq_eq_false_iff_ne]; exact he), wsucc (by omega), has_go l x hl kk (d - 1) k (j + 1) (by omega) (by omega) (by omega)]
        by_cases hm : x ∈ l.drop (j + 1)
        · rw [if_pos hm, if_pos (List.mem_cons_of_mem _ hm)]
        · rw [if_neg hm, if_neg (by rw [List.mem_cons]; exact fun e => e.elim (fun e => he e.symm) hm)]
    · rw [cond_ff (dge (by omega)), List.drop_eq_nil_of_le (by omega), if_neg List.not_mem_nil]
theorem has_ok (l : List Int) (x : Int) (hl : l.length ≤ 1000000) (fu : Nat) (hf : l.length < fu) : f_lumref_has fu l x = some (decide (x ∈ l)) := by
  unfold f_lumref_has
  rw [lt_of]
  have := has_go l x hl (fun _ => some false) l.length fu 0 rfl hf (Nat.zero_le _)
  rw [List.drop_zero] at this
  refine this.trans ?_
  by_cases h : x ∈ l
  · rw [if_pos h, decide_eq_true h]
  · rw [if_neg h, decide_eq_false h]
end Go.Proofs.Ytfhifdmbdkkgaaa.PHl
