/- Blobs put into a heap: FetchInto. No condition. -/
import Derived.Test.YtgmggcpceemnnaaDoorWrNeeds
namespace Go.Proofs.YtgmggcpceemnnaaDoor.PFetchInto
open Go.RowKit YtgmggcpceemnnaaDoor.En YtgmggcpceemnnaaDoor
set_option linter.unusedVariables false
set_option linter.unusedSimpArgs false
abbrev Bl := S_api_Blob
def Wf (b : Bl) : Prop := (Lit.int .i64 b.Kind).wf = true ∧ b.Bytes.length ≤ 9223372036854775807
def idV (fu : Nat) (b : Bl) : A8u8 × Int := (f_pack_ID fu b).getD (z8, 5)
theorem id_both (fu : Nat) (hf : 6000 ≤ fu) (b : Bl) : f_pack_ID fu b = some (idV fu b) ∧ f_lumref_BlobID fu b = some (idV fu b) := by
  obtain ⟨F, hF⟩ := id_ex
  obtain ⟨x, e, h1, h2⟩ := blob_ok hF b fu hf
  have : idV fu b = (x, e) := by unfold idV; rw [h1]; rfl
  rw [this]; exact ⟨h1, h2⟩
/-! what a heap holds -/
def look : List A8u8 → List Bl → A8u8 → Option Bl
  | i :: is, x :: xs, id => if i = id then some x else look is xs id
  | _, _, _ => none
theorem look_cons (i : A8u8) (is : List A8u8) (x : Bl) (xs : List Bl) (id : A8u8) : look (i :: is) (x :: xs) id = if i = id then some x else look is xs id := rfl
theorem look_app : ∀ (is : List A8u8) (xs : List Bl) (i : A8u8) (x : Bl) (id : A8u8), is.length = xs.length → look (is ++ [i]) (xs ++ [x]) id = match look is xs id with | some b => some b | none => if i = id then some x else none
  | [], [], i, x, id, _ => rfl
  | a :: is, y :: xs, i, x, id, h => by
    rw [List.cons_append, List.cons_append, look_cons, look_cons]
    by_cases ha : a = id
    · rw [if_pos ha, if_pos ha]
    · rw [if_neg ha, if_neg ha]
      exact look_app is xs i x id (by simpa using h)
  | [], y :: xs, i, x, id, h => by simp at h
  | a :: is, [], i, x, id, h => by simp at h
theorem look_some : ∀ (is : List A8u8) (xs : List Bl) (id : A8u8) (b : Bl), look is xs id = some b → ∃ k : Nat, is[k]? = some id ∧ xs[k]? = some b
  | [], _, id, b, h => by cases h
  | a :: is, [], id, b, h => by cases h
  | a :: is, y :: xs, id, b, h => by
    rw [look_cons] at h
    by_cases ha : a = id
    · rw [if_pos ha] at h
      cases h
      exact ⟨0, by rw [ha]; rfl, rfl⟩
    · rw [if_neg ha] at h
      obtain ⟨k, h1, h2⟩ := look_some is xs id b h
      exact ⟨k + 1, h1, h2⟩
structure Inv (m : List (A8u8 × Bl)) (ids : List A8u8) (xs : List Bl) : Prop where
  len : ids.length = xs.length
  get : ∀ id, gget m id = look ids xs id
  uni : ∀ (j : Nat) (id : A8u8) (b : Bl), ids[j]? = some id → xs[j]? = some b → look ids xs id = some b
theorem Inv.push {m : List (A8u8 × Bl)} {ids : List A8u8} {xs : List Bl} (h : Inv m ids xs) (x : Bl) (id : A8u8) (hx : look ids xs id = none ∨ look ids xs id = some x) : Inv (gset m id x) (ids ++ [id]) (xs ++ [x]) := by
  refine ⟨by rw [List.length_append, List.length_append, h.len]; rfl, fun id' => ?_, fun j id' b h1 h2 => ?_⟩
  · rw [gget_gset, look_app _ _ _ _ _ h.len, h.get id']
    by_cases hi : id = id'
    · subst hi
      rw [if_pos rfl, if_pos rfl]
      rcases hx with hx | hx
      · rw [hx]
      · rw [hx]
    · rw [if_neg hi, if_neg hi]
      cases look ids xs id' <;> rfl
  · rw [look_app _ _ _ _ _ h.len]
    rcases Nat.lt_trichotomy j ids.length with hj | hj | hj
    · rw [List.getElem?_append_left hj] at h1
      rw [List.getElem?_append_left (by rw [← h.len]; exact hj)] at h2
      rw [h.uni j id' b h1 h2]
    · subst hj
      rw [List.getElem?_append_right (Nat.le_refl _), Nat.sub_self] at h1
      rw [List.getElem?_append_right (by rw [h.len]; exact Nat.le_refl _), h.len, Nat.sub_self] at h2
      have e1 : id = id' := Option.some.inj h1
      have e2 : x = b := Option.some.inj h2
      subst e1 e2
      rcases hx with hx | hx
      · rw [hx]; exact if_pos rfl
      · rw [hx]
    · rw [List.getElem?_eq_none (by rw [List.length_append, List.length_singleton]; omega)] at h1
      cases h1
theorem Inv.none_ne {m : List (A8u8 × Bl)} {ids : List A8u8} {xs : List Bl} (h : Inv m ids xs) {id : A8u8} (hn : look ids xs id = none) (k : Nat) : ids[k]? ≠ some id := fun e => by
  have hk := (List.getElem?_eq_some_iff.1 e).1
  have := h.uni k id _ e (List.getElem?_eq_getElem (by rw [← h.len]; exact hk))
  rw [hn] at this; cases this
/-! the reference looks for an identifier -/
theorem idx_go (a : List A8u8) (ha : a.length ≤ 1000000) (x : A8u8) (kk : Unit → Option Int) : ∀ (d j fu : Nat), a.length - j = d → j ≤ a.length → d < fu →
    (f_slices_Index___api_ID_api_ID__L6 a x kk fu (j : Int) = kk () ∧ ∀ k, j ≤ k → a[k]? ≠ some x) ∨ ∃ k : Nat, f_slices_Index___api_ID_api_ID__L6 a x kk fu (j : Int) = some (k : Int) ∧ a[k]? = some x
  | _, _, 0, _, _, hf => absurd hf (Nat.not_lt_zero _)
  | 0, j, fu + 1, hd, hj, hf => .inl ⟨by rw [f_slices_Index___api_ID_api_ID__L6, cond_ff (dge (by omega))], fun k hk e => by rw [List.getElem?_eq_none (by omega)] at e; cases e⟩
  | d + 1, j, fu + 1, hd, hj, hf => by
    have hlt : j < a.length := by omega
    rw [f_slices_Index___api_ID_api_ID__L6, cond_tt (dlt (by omega)), at_lt hlt, opt_of, wsucc (by omega)]
    by_cases hx : x = a[j]
    · rw [cond_tt (beq_iff_eq.2 hx)]
      exact .inr ⟨j, rfl, by rw [List.getElem?_eq_getElem hlt, hx]⟩
    · rw [cond_ff (beq_eq_false_iff_ne.2 hx)]
      rcases idx_go a ha x kk d (j + 1) fu (by omega) (by omega) (by omega) with ⟨h1, h2⟩ | h
      · refine .inl ⟨h1, fun k hk e => ?_⟩
        rcases Nat.eq_or_lt_of_le hk with hk | hk
        · subst hk
          rw [List.getElem?_eq_getElem hlt] at e
          exact hx (Option.some.inj e).symm
        · exact h2 k hk e
      · exact .inr h
theorem index_ok {m : List (A8u8 × Bl)} {ids : List A8u8} {xs : List Bl} (h : Inv m ids xs) (hl : ids.length ≤ 1000000) (id : A8u8) (fu : Nat) (hf : 2000000 ≤ fu) :
    (f_slices_Index___api_ID_api_ID_ fu ids id = some (-1) ∧ look ids xs id = none) ∨ ∃ (k : Nat) (b : Bl), f_slices_Index___api_ID_api_ID_ fu ids id = some (k : Int) ∧ xs[k]? = some b ∧ look ids xs id = some b := by
  unfold f_slices_Index___api_ID_api_ID_
  rw [lt_of]
  rcases idx_go ids hl id (fun _ => some (-1 : Int)) _ 0 fu rfl (Nat.zero_le _) (by omega) with ⟨h1, h2⟩ | ⟨k, h1, h2⟩
  · refine .inl ⟨h1, ?_⟩
    cases hq : look ids xs id with
    | none => rfl
    | some b =>
      obtain ⟨k, e1, _⟩ := look_some _ _ _ _ hq
      exact absurd e1 (h2 k (Nat.zero_le _))
  · have hk := (List.getElem?_eq_some_iff.1 h2).1
    have hx : xs[k]? = some _ := List.getElem?_eq_getElem (by rw [← h.len]; exact hk)
    exact .inr ⟨k, _, h1, hx, h.uni k id _ h2 hx⟩
end Go.Proofs.YtgmggcpceemnnaaDoor.PFetchInto
