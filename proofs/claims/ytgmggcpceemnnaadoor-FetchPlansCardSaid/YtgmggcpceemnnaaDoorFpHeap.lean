/- Blobs put into a heap: FetchInto. No condition. -/
import Derived.Test.YtgmggcpceemnnaaDoorFpNeeds
namespace Go.Proofs.YtgmggcpceemnnaaDoor.PFetchInto
open Go.RowKit YtgmggcpceemnnaaDoor.En YtgmggcpceemnnaaDoor
set_option linter.unusedVariables false
set_option linter.unusedSimpArgs false
abbrev Bl := S_api_Blob
def Wf (b : Bl) : Prop := (Lit.int .i64 b.Kind).wf = true ∧ b.Bytes.length ≤ 9223372036854775807
def idV (fu : Nat) (b : Bl) : A8u8 × Int := (f_pack_ID fu b).getD (z8, 5)
theorem id_both (fu : Nat) (hf : 6000 ≤ fu) (b : Bl) : f_pack_ID fu b = some (idV fu b) ∧ f_lumref_BlobID fu b = some (idV fu b) := by
  obtain ⟨F, hF⟩ := id_ex
  obtain ⟨x, e, h1, h2⟩ := blob_ok hF b fu hf
  have : idV fu b = (x, e) := by unfold idV; rw [h1]; rfl
  rw [this]; exact ⟨h1, h2⟩
/-! what a heap holds -/
def look : List A8u8 → List Bl → A8u8 → Option Bl
  | i :: is, x :: xs, id => if i = id then some x else look is xs id
  | _, _, _ => none
theorem look_cons (i : A8u8) (is : List A8u8) (x : Bl) (xs : List Bl) (id : A8u8) : look (i :: is) (x :: xs) id = if i = id then some x else look is xs id := rfl
theorem look_app : ∀ (is : List A8u8) (xs : List Bl) (i : A8u8) (x : Bl) (id : A8u8), is.length = xs.length → look (is ++ [i]) (xs ++ [x]) id = match look is xs id with | some b => some b | none => if i = id then some x else none
  | [], [], i, x, id, _ => rfl
  | a :: is, y :: xs, i, x, id, h => by
    rw [List.cons_append, List.cons_append, look_cons, look_cons]
    by_cases ha : a = id
    · rw [if_pos ha, if_pos ha]
    · rw [if_neg ha, if_neg ha]
      exact look_app is xs i x id (by simpa using h)
  | [], y :: xs, i, x, id, h => by simp at h
  | a :: is, [], i, x, id, h => by simp at h
theorem look_some : ∀ (is : List A8u8) (xs : List Bl) (id : A8u8) (b : Bl), look is xs id = some b → ∃ k : Nat, is[k]? = some id ∧ xs[k]? = some b
  | [], _, id, b, h => by cases h
  | a :: is, [], id, b, h => by cases h
  | a :: is, y :: xs, id, b, h => by
    rw [look_cons] at h
    by_cases ha : a = id
    · rw [if_pos ha] at h
      cases h
      exact ⟨0, by rw [ha]; rfl, rfl⟩
    · rw [if_neg ha] at h
      obtain ⟨k, h1, h2⟩ := look_some is xs id b h
      exact ⟨k + 1, h1, h2⟩
structure Inv (m : List (A8u8 × Bl)) (ids : List A8u8) (xs : List Bl) : Prop where
  len : ids.length = xs.length
  get : ∀ id, gget m id = look ids xs id
  uni : ∀ (j : Nat) (id : A8u8) (b : Bl), ids[j]? = some id → xs[j]? = some b → look ids xs id = some b
theorem Inv.push {m : List (A8u8 × Bl)} {ids : List A8u8} {xs : List Bl} (h : Inv m ids xs) (x : Bl) (id : A8u8) (hx : look ids xs id = none ∨ look ids xs id = some x) : Inv (gset m id x) (ids ++ [id]) (xs ++ [x]) := by
  refine ⟨by rw [List.length_append, List.length_append, h.len]; rfl, fun id' => ?_, fun j id' b h1 h2 => ?_⟩
  · rw [gget_gset, look_app _ _ _ _ _ h.len, h.get id']
    by_cases hi : id = id'
    · subst hi
      rw [if_pos rfl, if_pos rfl]
      rcases hx with hx | hx
      · rw [hx]
      · rw [hx]
    · rw [if_neg hi, if_neg hi]
      cases look ids xs id' <;> rfl
  · rw [look_app _ _ _ _ _ h.len]
    rcases Nat.lt_trichotomy j ids.length with hj | hj | hj
    · rw [List.getElem?_append_left hj] at h1
      rw [List.getElem?_append_left (by rw [← h.len]; exact hj)] at h2
      rw [h.uni j id' b h1 h2]
    · subst hj
      rw [List.getElem?_append_right (Nat.le_refl _), Nat.sub_self] at h1
      rw [List.getElem?_append_right (by rw [h.len]; exact Nat.le_refl _), h.len, Nat.sub_self] at h2
      have e1 : id = id' := Option.some.inj h1
      have e2 : x = b := Option.some.inj h2
      subst e1 e2
      rcases hx with hx | hx
      · rw [hx]; exact if_pos rfl
      · rw [hx]
    · rw [List.getElem?_eq_none (by rw [List.length_append, List.length_singleton]; omega)] at h1
      cases h1
theorem Inv.none_ne {m : List (A8u8 × Bl)} {ids : List A8u8} {xs : List Bl} (h : Inv m ids xs) {id : A8u8} (hn : look ids xs id = none) (k : Nat) : ids[k]? ≠ some id := fun e => by
  have hk := (List.getElem?_eq_some_iff.1 e).1
  have := h.uni k id _ e (List.getElem?_eq_getElem (by rw [← h.len]; exact hk))
  rw [hn] at this; cases this
/-! the reference looks for an identifier -/
theorem idx_go (a : List A8u8) (ha : a.length ≤ 1000000) (x : A8u8) (kk : Unit → Option Int) : ∀ (d j fu : Nat), a.length - j = d → j ≤ a.length → d < fu →
    (f_slices_Index___api_ID_api_ID__L6 a x kk fu (j : Int) = kk () ∧ ∀ k, j ≤ k → a[k]? ≠ some x) ∨ ∃ k : Nat, f_slices_Index___api_ID_api_ID__L6 a x kk fu (j : Int) = some (k : Int) ∧ a[k]? = some x
  | _, _, 0, _, _, hf => absurd hf (Nat.not_lt_zero _)
  | 0, j, fu + 1, hd, hj, hf => .inl ⟨by rw [f_slices_Index___api_ID_api_ID__L6, cond_ff (dge (by omega))], fun k hk e => by rw [List.getElem?_eq_none (by omega)] at e; cases e⟩
  | d + 1, j, fu + 1, hd, hj, hf => by
    have hlt : j < a.length := by omega
    rw [f_slices_Index___api_ID_api_ID__L6, cond_tt (dlt (by omega)), at_lt hlt, opt_of, wsucc (by omega)]
    by_cases hx : x = a[j]
    · rw [cond_tt (beq_iff_eq.2 hx)]
      exact .inr ⟨j, rfl, by rw [List.getElem?_eq_getElem hlt, hx]⟩
    · rw [cond_ff (beq_eq_false_iff_ne.2 hx)]
      rcases idx_go a ha x kk d (j + 1) fu (by omega) (by omega) (by omega) with ⟨h1, h2⟩ | h
      · refine .inl ⟨h1, fun k hk e => ?_⟩
        rcases Nat.eq_or_lt_of_le hk with hk | hk
        · subst hk
          rw [List.getElem?_eq_getElem hlt] at e
          exact hx (Option.some.inj e).symm
        · exact h2 k hk e
      · exact .inr h
theorem index_ok {m : List (A8u8 × Bl)} {ids : List A8u8} {xs : List Bl} (h : Inv m ids xs) (hl : ids.length ≤ 1000000) (id : A8u8) (fu : Nat) (hf : 2000000 ≤ fu) :
    (f_slices_Index___api_ID_api_ID_ fu ids id = some (-1) ∧ look ids xs id = none) ∨ ∃ (k : Nat) (b : Bl), f_slices_Index___api_ID_api_ID_ fu ids id = some (k : Int) ∧ xs[k]? = some b ∧ look ids xs id = some b := by
  unfold f_slices_Index___api_ID_api_ID_
  rw [lt_of]
  rcases idx_go ids hl id (fun _ => some (-1 : Int)) _ 0 fu rfl (Nat.zero_le _) (by omega) with ⟨h1, h2⟩ | ⟨k, h1, h2⟩
  · refine .inl ⟨h1, ?_⟩
    cases hq : look ids xs id with
    | none => rfl
    | some b =>
      obtain ⟨k, e1, _⟩ := look_some _ _ _ _ hq
      exact absurd e1 (h2 k (Nat.zero_le _))
  · have hk := (List.getElem?_eq_some_iff.1 h2).1
    have hx : xs[k]? = some _ := List.getElem?_eq_getElem (by rw [← h.len]; exact hk)
    exact .inr ⟨k, _, h1, hx, h.uni k id _ h2 hx⟩
theorem cont_ok2 {m : List (A8u8 × Bl)} {ids : List A8u8} {xs : List Bl} (h : Inv m ids xs) (hl : ids.length ≤ 1000000) (id : A8u8) (fu : Nat) (hf : 2000000 ≤ fu) : f_slices_Contains___api_ID_api_ID_ fu ids id = some (look ids xs id).isSome := by
  unfold f_slices_Contains___api_ID_api_ID_
  rcases index_ok h hl id fu hf with ⟨h1, h2⟩ | ⟨k, b, h1, _, h2⟩
  · rw [h1, opt_of, h2]; rfl
  · rw [h1, opt_of, h2, decide_eq_true (by omega)]; rfl
/-! the heap -/
theorem in_same (l : List Bl) (hl : l.length ≤ 1000) (hw : ∀ x ∈ l, Wf x) (ids : List A8u8) (i : Nat) (hi : i < l.length) (hid : ids.length = i) (r : A8u8 × Int) (kk : Unit → Option (List A8u8 × Int)) : ∀ (d j fu : Nat), ids.length - j = d → j ≤ ids.length → d < fu → (∀ k, j ≤ k → ∀ hk : k < l.length, ids[k]? = some r.1 → l[k] = l[i]) →
    f_lumref_BlobHeap_L26 l ids (i : Int) r kk fu (j : Int) = kk ()
  | _, _, 0, _, _, hf, _ => absurd hf (Nat.not_lt_zero _)
  | 0, j, fu + 1, hd, hj, hf, _ => by rw [f_lumref_BlobHeap_L26, cond_ff (dge (by omega))]
  | d + 1, j, fu + 1, hd, hj, hf, h => by
    have hlt : j < ids.length := by omega
    have hjl : j < l.length := by omega
    have w1 := hw _ (List.getElem_mem hjl)
    have w2 := hw _ (List.getElem_mem hi)
    have ih := in_same l hl hw ids i hi hid r kk d (j + 1) fu (by omega) (by omega) (by omega) (fun k hk => h k (by omega))
    rw [f_lumref_BlobHeap_L26, cond_tt (dlt (by omega)), at_lt hlt, opt_of, lt_of]
    by_cases hx : ids[j] = r.1
    · have he := h j (Nat.le_refl _) hjl (by rw [List.getElem?_eq_getElem hlt, hx])
      rw [cond_tt (beq_iff_eq.2 hx), at_lt hjl, at_lt hi, opt_of, opt_of, req_pos w1.1, req_pos w1.2, req_pos w2.1, req_pos w2.2, he, beq_self_eq_true, wsucc (by omega)]
      exact ih
    · rw [cond_ff (beq_eq_false_iff_ne.2 hx), wsucc (by omega)]
      exact ih
theorem in_diff (l : List Bl) (hl : l.length ≤ 1000) (hw : ∀ x ∈ l, Wf x) (ids : List A8u8) (i : Nat) (hi : i < l.length) (hid : ids.length = i) (r : A8u8 × Int) (kk : Unit → Option (List A8u8 × Int)) : ∀ (d j fu : Nat), ids.length - j = d → j ≤ ids.length → d < fu → (∃ k, ∃ hk : k < l.length, j ≤ k ∧ ids[k]? = some r.1 ∧ l[k] ≠ l[i]) →
    f_lumref_BlobHeap_L26 l ids (i : Int) r kk fu (j : Int) = some ([], 11)
  | _, _, 0, _, _, hf, _ => absurd hf (Nat.not_lt_zero _)
  | 0, j, fu + 1, hd, hj, hf, ⟨k, hk, h1, h2, _⟩ => by
    rw [List.getElem?_eq_none (by omega)] at h2; cases h2
  | d + 1, j, fu + 1, hd, hj, hf, ⟨k, hk, h1, h2, h3⟩ => by
    have hlt : j < ids.length := by omega
    have hjl : j < l.length := by omega
    have w1 := hw _ (List.getElem_mem hjl)
    have w2 := hw _ (List.getElem_mem hi)
    have ih := fun hjk : j ≠ k => in_diff l hl hw ids i hi hid r kk d (j + 1) fu (by omega) (by omega) (by omega) ⟨k, hk, by omega, h2, h3⟩
    rw [f_lumref_BlobHeap_L26, cond_tt (dlt (by omega)), at_lt hlt, opt_of, lt_of]
    by_cases hx : ids[j] = r.1
    · rw [cond_tt (beq_iff_eq.2 hx), at_lt hjl, at_lt hi, opt_of, opt_of, req_pos w1.1, req_pos w1.2, req_pos w2.1, req_pos w2.2, wsucc (by omega)]
      by_cases he : l[j] = l[i]
      · rw [beq_iff_eq.2 he]
        exact ih (fun e => by subst e; exact h3 he)
      · rw [beq_eq_false_iff_ne.2 he]; rfl
    · rw [cond_ff (beq_eq_false_iff_ne.2 hx), wsucc (by omega)]
      exact ih (fun e => by
        subst e
        rw [List.getElem?_eq_getElem hlt] at h2
        exact hx (Option.some.inj h2))
theorem in_same0 (l : List Bl) (hl : l.length ≤ 1000) (hw : ∀ x ∈ l, Wf x) (ids : List A8u8) (i : Nat) (hi : i < l.length) (hid : ids.length = i) (r : A8u8 × Int) (kk : Unit → Option (List A8u8 × Int)) (fu : Nat) (hf : 2000000 ≤ fu) (h : ∀ k, ∀ hk : k < l.length, ids[k]? = some r.1 → l[k] = l[i]) :
    f_lumref_BlobHeap_L26 l ids (i : Int) r kk fu (0 : Int) = kk () := in_same l hl hw ids i hi hid r kk _ 0 fu rfl (Nat.zero_le _) (by omega) (fun k _ hk => h k hk)
theorem in_diff0 (l : List Bl) (hl : l.length ≤ 1000) (hw : ∀ x ∈ l, Wf x) (ids : List A8u8) (i : Nat) (hi : i < l.length) (hid : ids.length = i) (r : A8u8 × Int) (kk : Unit → Option (List A8u8 × Int)) (fu : Nat) (hf : 2000000 ≤ fu) (h : ∃ k, ∃ hk : k < l.length, ids[k]? = some r.1 ∧ l[k] ≠ l[i]) :
    f_lumref_BlobHeap_L26 l ids (i : Int) r kk fu (0 : Int) = some ([], 11) := by
  obtain ⟨k, hk, h1, h2⟩ := h
  exact in_diff l hl hw ids i hi hid r kk _ 0 fu rfl (Nat.zero_le _) (by omega) ⟨k, hk, Nat.zero_le _, h1, h2⟩
theorem zb (m : List (A8u8 × Bl)) (id : A8u8) (b : Bl) (h : gget m id = some b) : (gget m id).getD (S_api_Blob.mk (0 : Int) ([] : List UInt8)) = b := by rw [h]; rfl
theorem eta (b : Bl) : S_api_Blob.mk b.Kind b.Bytes = b := rfl
theorem heap_ok (l : List Bl) (hl : l.length ≤ 1000) (hw : ∀ x ∈ l, Wf x) (g : Nat) (hg : 2000000 ≤ g) (k1 : List (A8u8 × Bl) → Option (Option (List (A8u8 × Bl)) × Int)) (k2 : List A8u8 → Option (List A8u8 × Int)) : ∀ (d i f1 f2 : Nat) (m : List (A8u8 × Bl)) (ids : List A8u8), l.length - i = d → i ≤ l.length → d < f1 → d < f2 → ids.length = i → Inv m ids (l.take i) →
    (∃ m' ids', Inv m' ids' l ∧ f_walk_Heap_L7 l k1 g f1 m (i : Int) = k1 m' ∧ f_lumref_BlobHeap_L6 l k2 g f2 ids (i : Int) = k2 ids') ∨ ∃ e, e ≠ 0 ∧ f_walk_Heap_L7 l k1 g f1 m (i : Int) = some (none, e) ∧ f_lumref_BlobHeap_L6 l k2 g f2 ids (i : Int) = some ([], e)
  | _, _, 0, _, _, _, _, _, hf, _, _, _ => absurd hf (Nat.not_lt_zero _)
  | _, _, _ + 1, 0, _, _, _, _, _, hf, _, _ => absurd hf (Nat.not_lt_zero _)
  | 0, i, f1 + 1, f2 + 1, m, ids, hd, hi, _, _, hid, hinv => by
    rw [f_walk_Heap_L7, f_lumref_BlobHeap_L6, lt_of, cond_ff (dge (by omega)), cond_ff (dge (by omega))]
    rw [List.take_of_length_le (by omega)] at hinv
    exact .inl ⟨m, ids, hinv, rfl, rfl⟩
  | d + 1, i, f1 + 1, f2 + 1, m, ids, hd, hi, hf1, hf2, hid, hinv => by
    have hlt : i < l.length := by omega
    have w1 := hw _ (List.getElem_mem hlt)
    obtain ⟨j1, j2⟩ := id_both g (by omega) l[i]
    rw [f_walk_Heap_L7, f_lumref_BlobHeap_L6, lt_of, cond_tt (dlt (by omega)), cond_tt (dlt (by omega)), lt_of, at_lt hlt, opt_of, opt_of, j1, j2, opt_of, opt_of]
    by_cases he : (idV g l[i]).2 = 0
    · rw [cond_ff (show ((idV g l[i]).2 != 0) = false from by simpa using he), cond_ff (show ((idV g l[i]).2 != 0) = false from by simpa using he), lt_of, lt_of, wsucc (by omega)]
      have ih := fun (hx : look ids (l.take i) (idV g l[i]).1 = none ∨ look ids (l.take i) (idV g l[i]).1 = some l[i]) => heap_ok l hl hw g hg k1 k2 d (i + 1) f1 f2 (gset m (idV g l[i]).1 l[i]) (ids ++ [(idV g l[i]).1]) (by omega) (by omega) (by omega) (by omega) (by rw [List.length_append, List.length_singleton, hid]) (by rw [← List.take_append_getElem hlt]; exact hinv.push l[i] _ hx)
      have tl : ∀ k, ∀ hk : k < l.length, ∀ x, (l.take i)[k]? = some x → l[k] = x := fun k hk x hx => by
        rw [List.getElem?_take] at hx
        split at hx
        · rw [List.getElem?_eq_getElem hk] at hx; exact Option.some.inj hx
        · cases hx
      cases hq : look ids (l.take i) (idV g l[i]).1 with
      | none =>
        rw [in_same0 l hl hw ids i hlt hid (idV g l[i]) _ g hg (fun k hk e => absurd e (hinv.none_ne hq k)), hinv.get, hq]
        rw [cond_ff (show (Option.isSome (none : Option Bl)) = false from rfl), req_pos (by rw [List.length_singleton]; omega)]
        exact ih (.inl hq)
      | some b =>
        have hgb : gget m (idV g l[i]).1 = some b := (hinv.get _).trans hq
        obtain ⟨k, e1, e2⟩ := look_some _ _ _ _ hq
        have hkl : k < l.length := by have := (List.getElem?_eq_some_iff.1 e1).1; omega
        have hlk := tl k hkl b e2
        have wb : Wf b := by rw [← hlk]; exact hw _ (List.getElem_mem hkl)
        rw [hgb, cond_tt (show (Option.isSome (some b)) = true from rfl), show (some b : Option Bl).getD (S_api_Blob.mk (0 : Int) ([] : List UInt8)) = b from rfl, req_pos wb.1, req_pos wb.2, req_pos w1.1, req_pos w1.2, eta]
        by_cases hb : b = l[i]
        · rw [in_same0 l hl hw ids i hlt hid (idV g l[i]) _ g hg (fun k' hk' e => by
            have h3 : (l.take i)[k']? = some l[k'] := by
              have := (List.getElem?_eq_some_iff.1 e).1
              rw [List.getElem?_take, if_pos (by omega), List.getElem?_eq_getElem hk']
            have := hinv.uni k' _ _ e h3
            rw [hq] at this
            rw [← Option.some.inj this, hb]), beq_iff_eq.2 hb, req_pos (by rw [List.length_singleton]; omega)]
          exact ih (.inr (by rw [hq, hb]))
        · rw [in_diff0 l hl hw ids i hlt hid (idV g l[i]) _ g hg ⟨k, hkl, e1, by rw [hlk]; exact hb⟩, beq_eq_false_iff_ne.2 hb]
          exact .inr ⟨11, by decide, rfl, rfl⟩
    · rw [cond_tt (show ((idV g l[i]).2 != 0) = true from by simpa using he), cond_tt (show ((idV g l[i]).2 != 0) = true from by simpa using he)]
      exact .inr ⟨_, he, rfl, rfl⟩
/-! what a blob needs is there -/
theorem need_go {m : List (A8u8 × Bl)} {ids : List A8u8} {xs : List Bl} (h : Inv m ids xs) (hl : ids.length ≤ 1000000) (r : List A8u8 × Int) (hr : r.1.length ≤ 800000) (g : Nat) (hg : 2000000 ≤ g) : ∀ (d j f1 f2 : Nat), r.1.length - j = d → j ≤ r.1.length → d < f1 → d < f2 →
    ∃ e, f_fetch_complete_L10 m r (fun _ => some ((0 : Int), m)) f1 (j : Int) = some (e, m) ∧ f_lumref_lacks_L10 ids r (fun _ => some (0 : Int)) g f2 (j : Int) = some e
  | _, _, 0, _, _, _, hf, _ => absurd hf (Nat.not_lt_zero _)
  | _, _, _ + 1, 0, _, _, _, hf => absurd hf (Nat.not_lt_zero _)
  | 0, j, f1 + 1, f2 + 1, hd, hj, _, _ => by
    rw [f_fetch_complete_L10, f_lumref_lacks_L10, cond_ff (dge (by omega)), cond_ff (dge (by omega))]
    exact ⟨0, rfl, rfl⟩
  | d + 1, j, f1 + 1, f2 + 1, hd, hj, hf1, hf2 => by
    have hlt : j < r.1.length := by omega
    rw [f_fetch_complete_L10, f_lumref_lacks_L10, cond_tt (dlt (by omega)), cond_tt (dlt (by omega)), at_lt hlt, opt_of, opt_of, cont_ok2 h hl _ g hg, opt_of, h.get, wsucc (by omega)]
    cases (look ids xs r.1[j]).isSome
    · exact ⟨9, rfl, rfl⟩
    · exact need_go h hl r hr g hg d (j + 1) f1 f2 (by omega) (by omega) (by omega) (by omega)
theorem need_ok {F0 : Nat} [NeZero (F0 / 2000000)] {m : List (A8u8 × Bl)} {ids : List A8u8} {xs : List Bl} (h : Inv m ids xs) (hl : ids.length ≤ 1000000) (b : Bl) : ∃ e, f_fetch_complete F0 m b = some (e, m) ∧ f_lumref_lacks F0 b ids = some e := by
  have hbig := PTreeText.big (F0 := F0)
  obtain ⟨l, e, h1, h2, h3⟩ := needs_ok (F0 := F0) b
  unfold f_fetch_complete f_lumref_lacks
  rw [h2, h3, opt_of, opt_of]
  dsimp only
  by_cases he : e = 0
  · rw [cond_ff (show (e != 0) = false from by simpa using he), cond_ff (show (e != 0) = false from by simpa using he), lt_of, lt_of]
    exact need_go h hl (l, e) h1 F0 hbig _ 0 F0 F0 rfl (Nat.zero_le _) (by show l.length - 0 < F0; omega) (by show l.length - 0 < F0; omega)
  · rw [cond_tt (show (e != 0) = true from by simpa using he), cond_tt (show (e != 0) = true from by simpa using he)]
    exact ⟨e, rfl, rfl⟩
theorem eqB (l : List Bl) (hl : l.length ≤ 1000) (hw : ∀ x ∈ l, Wf x) (kk : Unit → Option Bool) : ∀ (d i fu : Nat), l.length - i = d → i ≤ l.length → d < fu → f_slices_Equal___api_Blob_api_Blob__L6 l l kk fu (i : Int) = kk ()
  | _, _, 0, _, _, hf => absurd hf (Nat.not_lt_zero _)
  | 0, i, fu + 1, hd, hi, _ => by rw [f_slices_Equal___api_Blob_api_Blob__L6, cond_ff (dge (by omega))]
  | d + 1, i, fu + 1, hd, hi, hf => by
    have hlt : i < l.length := by omega
    have w1 := hw _ (List.getElem_mem hlt)
    rw [f_slices_Equal___api_Blob_api_Blob__L6, cond_tt (dlt (by omega)), at_lt hlt, opt_of, opt_of, req_pos w1.1, req_pos w1.2, req_pos w1.1, req_pos w1.2, show (!(l[i] == l[i])) = false from by simp, cond_ff rfl, wsucc (by omega)]
    exact eqB l hl hw kk d (i + 1) fu (by omega) (by omega) (by omega)
end Go.Proofs.YtgmggcpceemnnaaDoor.PFetchInto
