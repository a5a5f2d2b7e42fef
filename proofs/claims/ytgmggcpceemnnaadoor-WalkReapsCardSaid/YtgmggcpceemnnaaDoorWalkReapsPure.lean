/- Files out of blobs: WalkReaps. No condition. -/
import Derived.Test.YtgmggcpceemnnaaDoorWrHeap
namespace Go.Proofs.YtgmggcpceemnnaaDoor.PTreeReads
open Go.RowKit YtgmggcpceemnnaaDoor.En YtgmggcpceemnnaaDoor PTreeRd
set_option linter.unusedVariables false
set_option linter.unusedSimpArgs false
variable {F0 : Nat}
/-! what a node that was read is like -/
def TimeOk (u : S_api_Node) : Prop := -9223372036854775808 ≤ u.Time ∧ u.Time ≤ 9223372036854775807
theorem getI_b : ∀ s : List UInt8, -9223372036854775808 ≤ (PTreeInt.getI s).1 ∧ (PTreeInt.getI s).1 ≤ 9223372036854775807 := by
  have he : ∀ neg d k, -9223372036854775808 ≤ (PTreeInt.ends neg d k).1 ∧ (PTreeInt.ends neg d k).1 ≤ 9223372036854775807 := by
    intro neg d k
    unfold PTreeInt.ends
    split
    · exact ⟨by decide, by decide⟩
    · rename_i h
      cases neg
      · dsimp only [cond_false]; omega
      · dsimp only [cond_true]; omega
  have hg : ∀ neg t k, -9223372036854775808 ≤ (PTreeInt.goI neg t k).1 ∧ (PTreeInt.goI neg t k).1 ≤ 9223372036854775807 := by
    intro neg t k
    unfold PTreeInt.goI
    split
    · exact ⟨by decide, by decide⟩
    · split
      · exact ⟨by decide, by decide⟩
      · exact he _ _ _
  intro s
  cases s with
  | nil => exact ⟨by decide, by decide⟩
  | cons b t =>
    by_cases h : b.toNat < 128
    · rw [show PTreeInt.getI (b :: t) = PTreeInt.goI true t (127 - b.toNat) from if_pos h]; exact hg _ _ _
    · rw [show PTreeInt.getI (b :: t) = PTreeInt.goI false t (b.toNat - 128) from if_neg h]; exact hg _ _ _
theorem bif_or {α : Type} {b : Bool} {x y : Option α} {r : α} (h : (bif b then x else y) = some r) : (b = true ∧ x = some r) ∨ (b = false ∧ y = some r) := by
  cases b
  · exact .inr ⟨rfl, h⟩
  · exact .inl ⟨rfl, h⟩
theorem parts_inv (r : Int × List UInt8 × Int) (kk : List UInt8 → List A8u8 → Option (S_api_Node × List UInt8 × Int)) (R : S_api_Node × List UInt8 × Int) : ∀ (k : Nat) (s : List UInt8) (xs : List A8u8) (i : Int), f_lumref_nodeRead_L32 r kk k s xs i = some R → ∃ s' xs', kk s' xs' = some R
  | 0, _, _, _, h => by rw [f_lumref_nodeRead_L32] at h; cases h
  | k + 1, s, xs, i, h => by
    rw [f_lumref_nodeRead_L32] at h
    rcases bif_or h with ⟨_, h⟩ | ⟨_, h⟩
    · obtain ⟨_, h⟩ := req_some h
      obtain ⟨_, h⟩ := req_some h
      obtain ⟨_, h⟩ := req_some h
      obtain ⟨_, h⟩ := req_some h
      obtain ⟨_, h⟩ := req_some h
      exact parts_inv r kk R k _ _ _ h
    · exact ⟨_, _, h⟩
theorem time0 {a b c d : Int} {n l : List UInt8} {p : List A8u8} : TimeOk (S_api_Node.mk n a b 0 d p l) := ⟨show (-9223372036854775808 : Int) ≤ 0 by decide, show (0 : Int) ≤ 9223372036854775807 by decide⟩
theorem node_time [NeZero (F0 / 2000000)] {s rest : List UInt8} {n : S_api_Node} {e : Int} (h : f_lumref_nodeRead F0 s = some (n, rest, e)) : TimeOk n := by
  have hbig := PTreeText.big (F0 := F0)
  unfold f_lumref_nodeRead at h
  obtain ⟨r4, _, h⟩ := opt_some h
  rcases bif_or h with ⟨_, h⟩ | ⟨_, h⟩
  · cases h; exact time0 (c := 0)
  obtain ⟨_, h⟩ := req_some h
  rcases bif_or h with ⟨_, h⟩ | ⟨_, h⟩
  · cases h; exact time0 (c := 0)
  obtain ⟨_, h⟩ := req_some h
  obtain ⟨_, h⟩ := req_some h
  obtain ⟨r11, _, h⟩ := opt_some h
  rcases bif_or h with ⟨_, h⟩ | ⟨_, h⟩
  · cases h; exact time0 (c := 0)
  obtain ⟨r14, h14, h⟩ := opt_some h
  rw [PTreeInt.rget_ok _ _ (by omega)] at h14
  have hb := getI_b r11.2.1
  rw [Option.some.inj h14] at hb
  rcases bif_or h with ⟨_, h⟩ | ⟨_, h⟩
  · cases h; exact hb
  obtain ⟨_, h⟩ := req_some h
  obtain ⟨r18, _, h⟩ := opt_some h
  rcases bif_or h with ⟨_, h⟩ | ⟨_, h⟩
  · cases h; exact hb
  obtain ⟨r21, _, h⟩ := opt_some h
  rcases bif_or h with ⟨_, h⟩ | ⟨_, h⟩
  · cases h; exact hb
  rcases bif_or h with ⟨_, h⟩ | ⟨_, h⟩
  · cases h; exact hb
  rw [lt_of] at h
  obtain ⟨s', xs', h⟩ := parts_inv _ _ _ _ _ _ _ h
  obtain ⟨r27, _, h⟩ := opt_some h
  rcases bif_or h with ⟨_, h⟩ | ⟨_, h⟩
  · cases h; exact hb
  obtain ⟨_, h⟩ := req_some h
  cases h; exact hb
theorem nodes_inv [NeZero (F0 / 2000000)] (r : Int × List UInt8 × Int) (kk : List UInt8 → List Nd → Option (List Nd × Int)) (R : List Nd × Int) : ∀ (k : Nat) (s : List UInt8) (xs : List Nd) (i : Int), (∀ u ∈ xs, TimeOk u) → f_lumref_TreeRead_L13 r kk F0 k s xs i = some R → (∃ s' ys, (∀ u ∈ ys, TimeOk u) ∧ kk s' ys = some R) ∨ R.2 ≠ 0
  | 0, _, _, _, _, h => by rw [f_lumref_TreeRead_L13] at h; cases h
  | k + 1, s, xs, i, hx, h => by
    rw [f_lumref_TreeRead_L13] at h
    rcases bif_or h with ⟨_, h⟩ | ⟨_, h⟩
    · obtain ⟨r17, h17, h⟩ := opt_some h
      rcases bif_or h with ⟨hb, h⟩ | ⟨_, h⟩
      · cases h; exact .inr (by simpa using hb)
      · obtain ⟨_, h⟩ := req_some h
        have ht : TimeOk r17.1 := node_time (F0 := F0) (s := s) (rest := r17.2.1) (e := r17.2.2) h17
        exact nodes_inv r kk R k _ _ _ (fun u hu => by
          rcases List.mem_append.1 hu with hu | hu
          · exact hx u hu
          · rw [List.mem_singleton.1 hu]; exact ht) h
    · exact .inl ⟨s, xs, hx, h⟩
theorem chk_inv (l : List Nd) (hn : ∀ u ∈ l, u.Name.length ≤ 1048576) (fu0 : Nat) (h0 : 1048600 ≤ fu0) : ∀ (k j : Nat), f_lumref_Nodes_L6 l (fun _ => some 0) fu0 k (j : Int) = some 0 → l.length ≤ 64 → ∀ i, j ≤ i → ∀ hi : i < l.length, PTreeSame.nodeV l[i] = 0
  | 0, j, h, hl, i, hji, hi => by rw [f_lumref_Nodes_L6] at h; cases h
  | k + 1, j, h, hl, i, hji, hi => by
    rw [f_lumref_Nodes_L6, cond_tt (dlt (show (j : Int) < l.length by omega)), at_lt (show j < l.length by omega), opt_of, PTreeSame.ref_node _ (hn _ (List.getElem_mem _)) fu0 h0, opt_of] at h
    rcases bif_or h with ⟨hb, h⟩ | ⟨hb, h⟩
    · rw [Option.some.inj h] at hb; cases hb
    · have hv : PTreeSame.nodeV (l[j]'(by omega)) = 0 := by simpa using hb
      rcases Nat.eq_or_lt_of_le hji with he | hlt
      · subst he; exact hv
      · have key : f_lumref_Nodes_L6 l (fun _ => some 0) fu0 k ((j + 1 : Nat) : Int) = some 0 := by
          rw [lt_of] at h
          rcases bif_or h with ⟨_, h⟩ | ⟨_, h⟩
          · obtain ⟨q, _, h⟩ := opt_some h
            rcases bif_or h with ⟨_, h⟩ | ⟨_, h⟩
            · cases h
            · rw [wsucc (by omega)] at h; exact h
          · rcases bif_or h with ⟨_, h⟩ | ⟨_, h⟩
            · cases h
            · rw [wsucc (by omega)] at h; exact h
        exact chk_inv l hn fu0 h0 k (j + 1) key hl i hlt hi
theorem nodes_zero (l : List Nd) (hn : ∀ u ∈ l, u.Name.length ≤ 1048576) (fu : Nat) (h0 : 1048600 ≤ fu) (h : f_lumref_Nodes fu l = some 0) : ∀ u ∈ l, PTreeSame.nodeV u = 0 := by
  unfold f_lumref_Nodes at h
  rcases bif_or h with ⟨_, h⟩ | ⟨hb, h⟩
  · cases h
  · rw [lt_of] at h
    have hl : l.length ≤ 64 := by have := of_decide_eq_false hb; omega
    intro u hu
    obtain ⟨i, hi, rfl⟩ := List.getElem_of_mem hu
    exact chk_inv l hn fu h0 fu 0 h hl i (Nat.zero_le _) hi
theorem read_inv [NeZero (F0 / 2000000)] {s : List UInt8} {l : List Nd} (h : f_lumref_TreeRead F0 s = some (l, 0)) (hn : ∀ u ∈ l, u.Name.length ≤ 1048576) : ∀ u ∈ l, PTreeSame.nodeV u = 0 ∧ TimeOk u := by
  have hbig := PTreeText.big (F0 := F0)
  unfold f_lumref_TreeRead at h
  rcases bif_or h with ⟨_, h⟩ | ⟨_, h⟩
  · cases h
  obtain ⟨r3, _, h⟩ := opt_some h
  rcases bif_or h with ⟨hb, h⟩ | ⟨_, h⟩
  · rw [show r3.2.2 = 0 from (Prod.mk.inj (Option.some.inj h)).2] at hb; cases hb
  rw [lt_of] at h
  rcases nodes_inv (F0 := F0) _ _ _ _ _ _ _ (fun u hu => by cases hu) h with ⟨s', ys, ht, h⟩ | h
  · rcases bif_or h with ⟨_, h⟩ | ⟨_, h⟩
    · cases h
    · obtain ⟨r9, h9, h⟩ := opt_some h
      rcases bif_or h with ⟨hb, h⟩ | ⟨hb, h⟩
      · rw [show r9 = 0 from (Prod.mk.inj (Option.some.inj h)).2] at hb; cases hb
      · have e0 : r9 = 0 := by simpa using hb
        have e1 : ys = l := (Prod.mk.inj (Option.some.inj h)).1
        subst e0 e1
        intro u hu
        exact ⟨nodes_zero ys hn F0 (by omega) h9 u hu, ht u hu⟩
  · exact absurd rfl h
theorem node_facts {u : Nd} (h : PTreeSame.nodeV u = 0) : (0 ≤ u.Mode ∧ u.Mode ≤ 511) ∧ (0 ≤ u.Size ∧ u.Size ≤ 4096) ∧ (1 ≤ u.Kind ∧ u.Kind ≤ 3) ∧ (u.Kind = 2 → u.Parts.length = 1) ∧ u.Link.length ≤ 1024 := by
  unfold PTreeSame.nodeV at h
  split at h
  · rename_i h1; exact absurd h h1
  · split at h
    · cases h
    · rename_i hb
      split at h
      · cases h
      · rename_i hk
        split at h
        · cases h
        · rename_i hf
          split at h
          · cases h
          · rename_i hl
            unfold PTreeSame.boundB at hb
            simp only [Bool.or_eq_true, decide_eq_true_eq, not_or] at hb
            refine ⟨⟨by omega, by omega⟩, ⟨by omega, by omega⟩, ⟨by omega, by omega⟩, fun hk2 => ?_, by omega⟩
            unfold PTreeSame.formB at hf
            rw [hk2] at hf
            simp at hf
            omega
end Go.Proofs.YtgmggcpceemnnaaDoor.PTreeReads
namespace Go.Proofs.YtgmggcpceemnnaaDoor.PFetchInto
open Go.RowKit YtgmggcpceemnnaaDoor.En YtgmggcpceemnnaaDoor
set_option linter.unusedVariables false
set_option linter.unusedSimpArgs false
abbrev Nd := S_api_Node
abbrev It := S_api_Item
/-! the heap, as it is read here -/
theorem id_small {fu : Nat} {b : Bl} {x : A8u8} (h : f_pack_ID fu b = some (x, 0)) : b.Bytes.length ≤ 4096 := by
  unfold f_pack_ID at h
  obtain ⟨r4, _, h⟩ := opt_some h
  rcases PTreeReads.bif_or h with ⟨_, h⟩ | ⟨_, h⟩
  · cases h
  · rcases PTreeReads.bif_or h with ⟨_, h⟩ | ⟨hb, h⟩
    · cases h
    · have := of_decide_eq_false hb; omega
theorem in_same (l : List Bl) (hl : l.length ≤ 1000) (hw : ∀ x ∈ l, Wf x) (ids : List A8u8) (i : Nat) (hi : i < l.length) (hid : ids.length = i) (r : A8u8 × Int) (kk : Unit → Option (List It × Int)) : ∀ (d j fu : Nat), ids.length - j = d → j ≤ ids.length → d < fu → (∀ k, j ≤ k → ∀ hk : k < l.length, ids[k]? = some r.1 → l[k] = l[i]) →
    f_lumref_Reap_L30 l ids (i : Int) l[i] r kk fu (j : Int) = kk ()
  | _, _, 0, _, _, hf, _ => absurd hf (Nat.not_lt_zero _)
  | 0, j, fu + 1, hd, hj, hf, _ => by rw [f_lumref_Reap_L30, cond_ff (dge (by omega))]
  | d + 1, j, fu + 1, hd, hj, hf, h => by
    have hlt : j < ids.length := by omega
    have hjl : j < l.length := by omega
    have w1 := hw _ (List.getElem_mem hjl)
    have w2 := hw _ (List.getElem_mem hi)
    have ih := in_same l hl hw ids i hi hid r kk d (j + 1) fu (by omega) (by omega) (by omega) (fun k hk => h k (by omega))
    rw [f_lumref_Reap_L30, cond_tt (dlt (by omega)), lt_of, at_lt hlt, opt_of, wsucc (by omega)]
    by_cases hx : ids[j] = r.1
    · have he := h j (Nat.le_refl _) hjl (by rw [List.getElem?_eq_getElem hlt, hx])
      rw [cond_tt (beq_iff_eq.2 hx), at_lt hjl, opt_of, req_pos w1.1, req_pos w1.2, req_pos w2.1, req_pos w2.2, he, beq_self_eq_true]
      exact ih
    · rw [cond_ff (beq_eq_false_iff_ne.2 hx)]
      exact ih
theorem in_diff (l : List Bl) (hl : l.length ≤ 1000) (hw : ∀ x ∈ l, Wf x) (ids : List A8u8) (i : Nat) (hi : i < l.length) (hid : ids.length = i) (r : A8u8 × Int) (kk : Unit → Option (List It × Int)) : ∀ (d j fu : Nat), ids.length - j = d → j ≤ ids.length → d < fu → (∃ k, ∃ hk : k < l.length, j ≤ k ∧ ids[k]? = some r.1 ∧ l[k] ≠ l[i]) →
    f_lumref_Reap_L30 l ids (i : Int) l[i] r kk fu (j : Int) = some ([], 11)
  | _, _, 0, _, _, hf, _ => absurd hf (Nat.not_lt_zero _)
  | 0, j, fu + 1, hd, hj, hf, ⟨k, hk, h1, h2, _⟩ => by
    rw [List.getElem?_eq_none (by omega)] at h2; cases h2
  | d + 1, j, fu + 1, hd, hj, hf, ⟨k, hk, h1, h2, h3⟩ => by
    have hlt : j < ids.length := by omega
    have hjl : j < l.length := by omega
    have w1 := hw _ (List.getElem_mem hjl)
    have w2 := hw _ (List.getElem_mem hi)
    have ih := fun hjk : j ≠ k => in_diff l hl hw ids i hi hid r kk d (j + 1) fu (by omega) (by omega) (by omega) ⟨k, hk, by omega, h2, h3⟩
    rw [f_lumref_Reap_L30, cond_tt (dlt (by omega)), lt_of, at_lt hlt, opt_of, wsucc (by omega)]
    by_cases hx : ids[j] = r.1
    · rw [cond_tt (beq_iff_eq.2 hx), at_lt hjl, opt_of, req_pos w1.1, req_pos w1.2, req_pos w2.1, req_pos w2.2]
      by_cases he : l[j] = l[i]
      · rw [beq_iff_eq.2 he]
        exact ih (fun e => by subst e; exact h3 he)
      · rw [beq_eq_false_iff_ne.2 he]; rfl
    · rw [cond_ff (beq_eq_false_iff_ne.2 hx)]
      exact ih (fun e => by
        subst e
        rw [List.getElem?_eq_getElem hlt] at h2
        exact hx (Option.some.inj h2))
theorem reap_heap (l : List Bl) (hl : l.length ≤ 1000) (hw : ∀ x ∈ l, Wf x) (g : Nat) (hg : 2000000 ≤ g) (k1 : List (A8u8 × Bl) → Option (Option (List (A8u8 × Bl)) × Int)) (k2 : List A8u8 → Option (List It × Int)) :
    ∀ (d i f1 f2 : Nat) (m : List (A8u8 × Bl)) (ids : List A8u8), l.length - i = d → i ≤ l.length → d < f1 → d < f2 → ids.length = i → Inv m ids (l.take i) → (∀ x ∈ l.take i, x.Bytes.length ≤ 4096) →
    (∃ m' ids', Inv m' ids' l ∧ (∀ x ∈ l, x.Bytes.length ≤ 4096) ∧ f_walk_Heap_L7 l k1 g f1 m (i : Int) = k1 m' ∧ f_lumref_Reap_L10 l k2 g f2 ids (i : Int) = k2 ids') ∨ ∃ e, e ≠ 0 ∧ f_walk_Heap_L7 l k1 g f1 m (i : Int) = some (none, e) ∧ f_lumref_Reap_L10 l k2 g f2 ids (i : Int) = some ([], e)
  | _, _, 0, _, _, _, _, _, hf, _, _, _, _ => absurd hf (Nat.not_lt_zero _)
  | _, _, _ + 1, 0, _, _, _, _, _, hf, _, _, _ => absurd hf (Nat.not_lt_zero _)
  | 0, i, f1 + 1, f2 + 1, m, ids, hd, hi, _, _, hid, hinv, hsm => by
    rw [f_walk_Heap_L7, f_lumref_Reap_L10, lt_of, cond_ff (dge (show (l.length : Int) ≤ i by omega)), cond_ff (dge (show (l.length : Int) ≤ i by omega))]
    rw [List.take_of_length_le (by omega)] at hinv hsm
    exact .inl ⟨m, ids, hinv, hsm, rfl, rfl⟩
  | d + 1, i, f1 + 1, f2 + 1, m, ids, hd, hi, hf1, hf2, hid, hinv, hsm => by
    have hlt : i < l.length := by omega
    have w1 := hw _ (List.getElem_mem hlt)
    obtain ⟨j1, j2⟩ := id_both g (by omega) l[i]
    rw [f_walk_Heap_L7, f_lumref_Reap_L10, lt_of, cond_tt (dlt (show (i : Int) < l.length by omega)), cond_tt (dlt (show (i : Int) < l.length by omega)), lt_of, at_lt hlt, opt_of, opt_of, j1, j2, opt_of, opt_of]
    by_cases he : (idV g l[i]).2 = 0
    · have he' : ((idV g l[i]).2 != 0) = false := by simpa using he
      have hsz : (l[i]).Bytes.length ≤ 4096 := id_small (fu := g) (x := (idV g l[i]).1) (j1.trans (by rw [← he]))
      have etk : l.take (i + 1) = l.take i ++ [l[i]] := by rw [List.take_add_one, List.getElem?_eq_getElem hlt]; rfl
      rw [cond_ff he', cond_ff he', lt_of, lt_of, wsucc (by omega)]
      have ih := fun (hx : look ids (l.take i) (idV g l[i]).1 = none ∨ look ids (l.take i) (idV g l[i]).1 = some l[i]) => reap_heap l hl hw g hg k1 k2 d (i + 1) f1 f2 (gset m (idV g l[i]).1 l[i]) (ids ++ [(idV g l[i]).1]) (by omega) (by omega) (by omega) (by omega) (by rw [List.length_append, List.length_singleton, hid]) (by rw [etk]; exact hinv.push _ _ hx) (fun x hx => by
        rw [etk] at hx
        rcases List.mem_append.1 hx with hx | hx
        · exact hsm x hx
        · rw [List.mem_singleton.1 hx]; exact hsz)
      have tl : ∀ k, ∀ hk : k < l.length, ∀ x, (l.take i)[k]? = some x → l[k] = x := fun k hk x hx => by
        rw [List.getElem?_take] at hx
        split at hx
        · rw [List.getElem?_eq_getElem hk] at hx; exact Option.some.inj hx
        · cases hx
      have z0 : (0 : Int) = ((0 : Nat) : Int) := rfl
      cases hq : look ids (l.take i) (idV g l[i]).1 with
      | none =>
        rw [z0, in_same l hl hw ids i hlt hid (idV g l[i]) _ _ 0 g rfl (Nat.zero_le _) (by omega) (fun k _ hk e => absurd e (hinv.none_ne hq k)), hinv.get, hq]
        rw [cond_ff (show (Option.isSome (none : Option Bl)) = false from rfl), req_pos (by rw [List.length_singleton]; omega)]
        exact ih (.inl hq)
      | some b =>
        have hgb : gget m (idV g l[i]).1 = some b := (hinv.get _).trans hq
        obtain ⟨k, e1, e2⟩ := look_some _ _ _ _ hq
        have hkl : k < l.length := by have := (List.getElem?_eq_some_iff.1 e1).1; omega
        have hlk := tl k hkl b e2
        have wb : Wf b := by rw [← hlk]; exact hw _ (List.getElem_mem hkl)
        rw [hgb, cond_tt (show (Option.isSome (some b)) = true from rfl), show (some b : Option Bl).getD (S_api_Blob.mk (0 : Int) ([] : List UInt8)) = b from rfl, req_pos wb.1, req_pos wb.2, req_pos w1.1, req_pos w1.2, show S_api_Blob.mk b.Kind b.Bytes = b from rfl]
        by_cases hb : b = l[i]
        · rw [z0, in_same l hl hw ids i hlt hid (idV g l[i]) _ _ 0 g rfl (Nat.zero_le _) (by omega) (fun k' _ hk' e => by
            have h3 : (l.take i)[k']? = some l[k'] := by
              have := (List.getElem?_eq_some_iff.1 e).1
              rw [List.getElem?_take, if_pos (by omega), List.getElem?_eq_getElem hk']
            have := hinv.uni k' _ _ e h3
            rw [hq] at this
            rw [← Option.some.inj this, hb]), beq_iff_eq.2 hb, req_pos (by rw [List.length_singleton]; omega)]
          exact ih (.inr (by rw [hq, hb]))
        · rw [z0, in_diff l hl hw ids i hlt hid (idV g l[i]) _ _ 0 g rfl (Nat.zero_le _) (by omega) ⟨k, hkl, Nat.zero_le _, e1, by rw [hlk]; exact hb⟩, beq_eq_false_iff_ne.2 hb]
          exact .inr ⟨11, by decide, rfl, rfl⟩
    · have he' : ((idV g l[i]).2 != 0) = true := by simpa using he
      rw [cond_tt he', cond_tt he']
      exact .inr ⟨_, he, rfl, rfl⟩
/-! a blob that is looked for -/
def fnd (ids : List A8u8) (l : List Bl) (id : A8u8) (kind : Int) : List UInt8 × Int := match look ids l id with
  | none => ([], 9)
  | some b => if b.Kind = kind then (b.Bytes, 0) else ([], 5)
theorem find_ok {m : List (A8u8 × Bl)} {ids : List A8u8} {l : List Bl} (hi : Inv m ids l) (hl : ids.length ≤ 1000) (hsm : ∀ x ∈ l, x.Bytes.length ≤ 4096) (w : List It) (id : A8u8) (kind : Int) {fu : Nat} (hf : 2000000 ≤ fu) :
    f___walk_reaper__find fu ⟨m, w⟩ id kind = some ((fnd ids l id kind).1, (fnd ids l id kind).2, ⟨m, w⟩) ∧ f_lumref_blobOf fu l ids id kind = some (fnd ids l id kind) ∧ (fnd ids l id kind).1.length ≤ 4096 := by
  unfold f___walk_reaper__find f_lumref_blobOf fnd
  dsimp only
  rw [hi.get]
  rcases index_ok hi (by omega) id fu hf with ⟨h1, h2⟩ | ⟨k, b, h1, h2, h3⟩
  · rw [h1, h2, opt_of]
    exact ⟨rfl, rfl, Nat.zero_le _⟩
  · rw [h1, h3, opt_of]
    dsimp only
    rw [cond_ff (show (!(some b : Option Bl).isSome) = false from rfl), cond_ff (decide_eq_false (show ¬ (k : Int) < 0 by omega)), at_of h2, opt_of]
    have hb := hsm b (List.mem_of_getElem? h2)
    by_cases hk : b.Kind = kind
    · have hk' : (b.Kind != kind) = false := by simpa using hk
      rw [if_pos hk, opt_of]
      have e : (((some b : Option Bl).getD (S_api_Blob.mk (0 : Int) ([] : List UInt8))).Kind != kind) = false := hk'
      rw [cond_ff hk', cond_ff e]
      exact ⟨rfl, rfl, hb⟩
    · have hk' : (b.Kind != kind) = true := by simpa using hk
      have e : (((some b : Option Bl).getD (S_api_Blob.mk (0 : Int) ([] : List UInt8))).Kind != kind) = true := hk'
      rw [if_neg hk, cond_tt hk', cond_tt e]
      exact ⟨rfl, rfl, Nat.zero_le _⟩
theorem file_go {m : List (A8u8 × Bl)} {ids : List A8u8} {l : List Bl} (hi : Inv m ids l) (hl : ids.length ≤ 1000) (hsm : ∀ x ∈ l, x.Bytes.length ≤ 4096) (w : List It) (u : Nd) (hp : u.Parts.length ≤ 300) (hs : 0 ≤ u.Size ∧ u.Size ≤ 4096) {g : Nat} (hg : 2000000 ≤ g)
    (kc : List (A8u8 × Bl) → List It → List UInt8 → Option (List UInt8 × Int × D_walk_reaper)) (kr : List UInt8 → Option (List UInt8 × Int)) : ∀ (d j k : Nat) (s : List UInt8), u.Parts.length - j = d → d < k → (s.length : Int) ≤ u.Size →
    (∃ e, e ≠ 0 ∧ f___walk_reaper__file_L7 u kc g k m w s (j : Int) = some ([], e, ⟨m, w⟩) ∧ f_lumref_reapFile_L7 l ids u kr g k s (j : Int) = some ([], e)) ∨
    ∃ s', (s'.length : Int) ≤ u.Size ∧ f___walk_reaper__file_L7 u kc g k m w s (j : Int) = kc m w s' ∧ f_lumref_reapFile_L7 l ids u kr g k s (j : Int) = kr s'
  | _, _, 0, _, _, hk, _ => absurd hk (Nat.not_lt_zero _)
  | d, j, k + 1, s, hd, hk, hsz => by
    rw [f___walk_reaper__file_L7, f_lumref_reapFile_L7]
    by_cases h : j < u.Parts.length
    · obtain ⟨h1, h2, h3⟩ := find_ok hi hl hsm w u.Parts[j] 1 hg
      rw [cond_tt (dlt (show (j : Int) < u.Parts.length by omega)), cond_tt (dlt (show (j : Int) < u.Parts.length by omega)), at_lt h, opt_of, opt_of, h1, h2, opt_of, opt_of]
      dsimp only
      obtain ⟨V, hV⟩ : ∃ V, V = fnd ids l u.Parts[j] 1 := ⟨_, rfl⟩
      rw [← hV] at h3 ⊢
      by_cases he : V.2 = 0
      · have he' : (V.2 != 0) = false := by simpa using he
        rw [cond_ff he', cond_ff he', req_pos (by omega), req_pos (by omega)]
        by_cases hb : ((s ++ V.1).length : Int) > u.Size
        · rw [cond_tt (decide_eq_true hb), cond_tt (decide_eq_true hb)]
          exact .inl ⟨4, by decide, rfl, rfl⟩
        · rw [cond_ff (decide_eq_false hb), cond_ff (decide_eq_false hb), wsucc (by omega)]
          exact file_go hi hl hsm w u hp hs hg kc kr (d - 1) (j + 1) k (s ++ V.1) (by omega) (by omega) (by omega)
      · have he' : (V.2 != 0) = true := by simpa using he
        rw [cond_tt he', cond_tt he']
        exact .inl ⟨_, he, rfl, rfl⟩
    · rw [cond_ff (dge (show (u.Parts.length : Int) ≤ j by omega)), cond_ff (dge (show (u.Parts.length : Int) ≤ j by omega))]
      exact .inr ⟨s, hsz, rfl, rfl⟩
theorem file_ok {m : List (A8u8 × Bl)} {ids : List A8u8} {l : List Bl} (hi : Inv m ids l) (hl : ids.length ≤ 1000) (hsm : ∀ x ∈ l, x.Bytes.length ≤ 4096) (w : List It) (u : Nd) (hp : u.Parts.length ≤ 300) (hs : 0 ≤ u.Size ∧ u.Size ≤ 4096) {g : Nat} (hg : 2000000 ≤ g) :
    ∃ r : List UInt8 × Int, r.1.length ≤ 4096 ∧ f___walk_reaper__file g ⟨m, w⟩ u = some (r.1, r.2, ⟨m, w⟩) ∧ f_lumref_reapFile g l ids u = some r := by
  unfold f___walk_reaper__file f_lumref_reapFile
  rw [lt_of, lt_of]
  dsimp only
  have z0 : (0 : Int) = ((0 : Nat) : Int) := rfl
  rcases file_go hi hl hsm w u hp hs hg (fun m' w' s' => bif decide ((s'.length : Int) < u.Size) then some ([], 4, ⟨m', w'⟩) else some (s', 0, ⟨m', w'⟩)) (fun s' => bif (s'.length : Int) != u.Size then some ([], 4) else some (s', 0)) _ 0 g [] rfl (by omega) (by rw [List.length_nil]; omega) with ⟨e, he, h1, h2⟩ | ⟨s', hs', h1, h2⟩
  · exact ⟨([], e), Nat.zero_le _, h1, h2⟩
  · by_cases hz : (s'.length : Int) = u.Size
    · refine ⟨(s', 0), by show s'.length ≤ 4096; omega, h1.trans ?_, h2.trans ?_⟩
      · rw [cond_ff (decide_eq_false (by omega))]
      · rw [cond_ff (by simpa using hz)]
    · refine ⟨([], 4), Nat.zero_le _, h1.trans ?_, h2.trans ?_⟩
      · rw [cond_tt (decide_eq_true (by omega))]
      · rw [cond_tt (by simpa using hz)]
/-! paths -/
def pathS (pl : List (List UInt8)) : List UInt8 := Lib.joinTail [47] pl
theorem path_add (pl : List (List UInt8)) (n : List UInt8) : pathS (pl ++ [n]) = (pathS pl ++ [47]) ++ n := by simp [pathS, Lib.joinTail]
theorem path_join : ∀ (pl : List (List UInt8)) (n : List UInt8), [47] ++ Lib.join (pl ++ [n]) [47] = pathS (pl ++ [n])
  | [], n => by
    show [47] ++ Lib.join [n] [47] = _
    rw [Lib.join_one]; simp [pathS, Lib.joinTail]
  | x :: r, n => by
    show [47] ++ Lib.join (x :: (r ++ [n])) [47] = _
    rw [Lib.join_cons]
    simp [pathS, Lib.joinTail]
theorem clone_strs (l : List (List UInt8)) (hl : l.length ≤ 1000) (fu : Nat) : f_slices_Clone___string_string_ fu l = some l := by
  unfold f_slices_Clone___string_string_
  rw [req_pos (by rw [List.length_nil]; omega), List.nil_append]
  cases l with
  | nil => exact amb_same
  | cons x t => exact amb_ff rfl
/-! a directory -/
def WfI (x : It) : Prop := x.Path.length ≤ 100000 ∧ (1 ≤ x.Kind ∧ x.Kind ≤ 3) ∧ (0 ≤ x.Mode ∧ x.Mode ≤ 511) ∧ (-9223372036854775808 ≤ x.Time ∧ x.Time ≤ 9223372036854775807) ∧ x.Bytes.length ≤ 100000
def DR (m : List (A8u8 × Bl)) (c : Option (Int × D_walk_reaper)) (r : Option (List It × Int)) : Prop :=
  (∃ (e : Int) (p : D_walk_reaper), e ≠ 0 ∧ c = some (e, p) ∧ r = some ([], e)) ∨ ∃ w', c = some (0, ⟨m, w'⟩) ∧ r = some (w', 0) ∧ w'.length ≤ 100 ∧ ∀ x ∈ w', WfI x
theorem dir_loop {m : List (A8u8 × Bl)} {ids : List A8u8} {l : List Bl} (hi : Inv m ids l) (hl : ids.length ≤ 1000) (hsm : ∀ x ∈ l, x.Bytes.length ≤ 4096) (sc : D_walk_reaper → A8u8 → List UInt8 → Int → Option (Int × D_walk_reaper)) (sr : List Bl → List A8u8 → A8u8 → List (List UInt8) → List It → Option (List It × Int))
    (pl : List (List UInt8)) (hpl : pl.length ≤ 8) (hps : (pathS pl).length ≤ 1025 * pl.length) (r : List Nd × Int) (hr : r.1.length ≤ 64) (hN : ∀ u ∈ r.1, PTreeReads.Good u ∧ PTreeSame.nodeV u = 0 ∧ PTreeReads.TimeOk u) {g : Nat} (hg : 2000000 ≤ g)
    (ih : ∀ id n w, pl.length < 8 → n.length ≤ 1024 → w.length ≤ 100 → (∀ x ∈ w, WfI x) → DR m (sc ⟨m, w⟩ id (pathS (pl ++ [n])) ((pl.length + 1 : Nat) : Int)) (sr l ids id (pl ++ [n]) w)) :
    ∀ (d j k : Nat) (w : List It), r.1.length - j = d → d < k → w.length ≤ 100 → (∀ x ∈ w, WfI x) →
    DR m (f___walk_reaper__directory_L14 sc (pathS pl) (pl.length : Int) r (fun m' w' => some (0, ⟨m', w'⟩)) g k m w (j : Int)) (f_lumref_reapDir_own_L13 sr l ids pl r (fun w' => some (w', 0)) g k w (j : Int))
  | _, _, 0, _, _, hk, _, _ => absurd hk (Nat.not_lt_zero _)
  | d, j, k + 1, w, hd, hk, hw, hwi => by
    rw [f___walk_reaper__directory_L14, f_lumref_reapDir_own_L13]
    by_cases h : j < r.1.length
    · rw [cond_tt (dlt (show (j : Int) < r.1.length by omega)), cond_tt (dlt (show (j : Int) < r.1.length by omega)), lt_of, lt_of, at_lt h, opt_of, opt_of]
      obtain ⟨u, hu⟩ : ∃ u, u = r.1[j] := ⟨_, rfl⟩
      obtain ⟨n1, n2, n3⟩ := hN r.1[j] (List.getElem_mem h)
      rw [← hu] at n1 n2 n3 ⊢
      obtain ⟨f1, f2, f3, f4, f5⟩ := PTreeReads.node_facts n2
      have bad : ∀ (e : Int) (p : D_walk_reaper), e ≠ 0 → DR m (some (e, p)) (some ([], e)) := fun e p he => .inl ⟨e, p, he, rfl, rfl⟩
      by_cases hd8 : pl.length = 8
      · rw [cond_tt (show ((pl.length : Int) == 8) = true by rw [hd8]; rfl), cond_tt (decide_eq_true (show (pl.length : Int) ≥ 8 by omega))]
        exact bad 14 _ (by decide)
      · rw [cond_ff (show ((pl.length : Int) == 8) = false from beq_false_of_ne (by omega)), cond_ff (decide_eq_false (show ¬ (pl.length : Int) ≥ 8 by omega))]
        by_cases hw2 : w.length ≥ 100
        · rw [cond_tt (decide_eq_true (show (w.length : Int) ≥ 100 by omega)), cond_tt (decide_eq_true (show (w.length : Int) ≥ 100 by omega))]
          exact bad 2 _ (by decide)
        · rw [cond_ff (decide_eq_false (show ¬ (w.length : Int) ≥ 100 by omega)), cond_ff (decide_eq_false (show ¬ (w.length : Int) ≥ 100 by omega))]
          have hname := n1.1
          have hpn : (pathS (pl ++ [u.Name])).length = (pathS pl).length + 1 + u.Name.length := by rw [path_add]; simp; omega
          have hj := path_join pl u.Name
          have hjl : (Lib.join (pl ++ [u.Name]) [47]).length + 1 = (pathS (pl ++ [u.Name])).length := by rw [← hj]; simp
          have e47 : ([47] : List UInt8).length = 1 := rfl
          rw [req_pos (by rw [e47]; omega), req_pos (by rw [List.length_append, e47]; omega), clone_strs pl (by omega), opt_of, req_pos (by rw [List.length_singleton]; omega)]
          unfold f_strings_Join
          rw [req_pos ⟨by rw [List.length_append, List.length_singleton]; omega, by omega⟩, opt_of, req_pos (by rw [e47]; omega), lt_of, lt_of, ← path_add, hj]
          -- the item
          have key : ∀ b : List UInt8, b.length ≤ 100000 → DR m
              (req (((w.length + ([(S_api_Item.mk (pathS (pl ++ [u.Name])) u.Kind u.Mode u.Time b)]).length) * 56 : Nat) ≤ 140737488355328 ∧ w.length + ([(S_api_Item.mk (pathS (pl ++ [u.Name])) u.Kind u.Mode u.Time b)]).length ≤ 9223372036854775807)
                (bif (u.Kind == (2 : Int)) then (opt (at? u.Parts (0 : Int)) fun (u36 : A8u8) => (opt (sc (D_walk_reaper.mk m (w ++ ([(S_api_Item.mk (pathS (pl ++ [u.Name])) u.Kind u.Mode u.Time b)]))) u36 (pathS (pl ++ [u.Name])) (IntKind.i64.wrap ((pl.length : Int) + (1 : Int)))) fun (r40 : (Int × D_walk_reaper)) => (bif (r40.1 != (0 : Int)) then (some (r40.1, r40.2)) else (f___walk_reaper__directory_L14 sc (pathS pl) (pl.length : Int) r (fun m' w' => some (0, ⟨m', w'⟩)) g k r40.2.blobs r40.2.out (IntKind.i64.wrap ((j : Int) + (1 : Int)))))))
                  else (f___walk_reaper__directory_L14 sc (pathS pl) (pl.length : Int) r (fun m' w' => some (0, ⟨m', w'⟩)) g k m (w ++ ([(S_api_Item.mk (pathS (pl ++ [u.Name])) u.Kind u.Mode u.Time b)])) (IntKind.i64.wrap ((j : Int) + (1 : Int))))))
              (req (((w.length + ([(S_api_Item.mk (pathS (pl ++ [u.Name])) u.Kind u.Mode u.Time b)]).length) * 56 : Nat) ≤ 140737488355328 ∧ w.length + ([(S_api_Item.mk (pathS (pl ++ [u.Name])) u.Kind u.Mode u.Time b)]).length ≤ 9223372036854775807)
                (bif (u.Kind == (2 : Int)) then (opt (at? u.Parts (0 : Int)) fun (u42 : A8u8) => (opt (sr l ids u42 (pl ++ ([u.Name])) (w ++ ([(S_api_Item.mk (pathS (pl ++ [u.Name])) u.Kind u.Mode u.Time b)]))) fun (r46 : ((List S_api_Item) × Int)) => (bif (r46.2 != (0 : Int)) then (some (([] : List S_api_Item), r46.2)) else (f_lumref_reapDir_own_L13 sr l ids pl r (fun w' => some (w', 0)) g k r46.1 (IntKind.i64.wrap ((j : Int) + (1 : Int)))))))
                  else (f_lumref_reapDir_own_L13 sr l ids pl r (fun w' => some (w', 0)) g k (w ++ ([(S_api_Item.mk (pathS (pl ++ [u.Name])) u.Kind u.Mode u.Time b)])) (IntKind.i64.wrap ((j : Int) + (1 : Int)))))) := by
            intro b hb
            obtain ⟨x, hx⟩ : ∃ x, x = S_api_Item.mk (pathS (pl ++ [u.Name])) u.Kind u.Mode u.Time b := ⟨_, rfl⟩
            have hxi : WfI x := by rw [hx]; exact ⟨by show (pathS (pl ++ [u.Name])).length ≤ 100000; omega, f3, f1, n3, hb⟩
            rw [← hx, req_pos (by rw [List.length_singleton]; omega), req_pos (by rw [List.length_singleton]; omega), wsucc (by omega), wsucc (by omega)]
            have hw' : (w ++ [x]).length ≤ 100 := by rw [List.length_append, List.length_singleton]; omega
            have hwi' : ∀ y ∈ w ++ [x], WfI y := fun y hy => by
              rcases List.mem_append.1 hy with hy | hy
              · exact hwi y hy
              · rw [List.mem_singleton.1 hy]; exact hxi
            by_cases hk2 : u.Kind = 2
            · have hp := f4 hk2
              rw [cond_tt (by simpa using hk2), cond_tt (by simpa using hk2), show (0 : Int) = ((0 : Nat) : Int) from rfl, at_lt (show 0 < u.Parts.length by omega), opt_of, opt_of]
              rcases ih (u.Parts[0]'(by omega)) u.Name (w ++ [x]) (by omega) hname hw' hwi' with ⟨e, p, he, h1, h2⟩ | ⟨w2, h1, h2, h3, h4⟩
              · rw [h1, h2, opt_of, opt_of]
                have he' : (e != ((0 : Nat) : Int)) = true := by simpa using he
                dsimp only
                rw [cond_tt he', cond_tt he']
                exact bad e p he
              · rw [h1, h2, opt_of, opt_of]
                dsimp only
                rw [cond_ff (show ((0 : Int) != ((0 : Nat) : Int)) = false by decide), cond_ff (show ((0 : Int) != ((0 : Nat) : Int)) = false by decide)]
                exact dir_loop hi hl hsm sc sr pl hpl hps r hr hN hg ih (d - 1) (j + 1) k w2 (by omega) (by omega) h3 h4
            · rw [cond_ff (beq_false_of_ne hk2), cond_ff (beq_false_of_ne hk2)]
              exact dir_loop hi hl hsm sc sr pl hpl hps r hr hN hg ih (d - 1) (j + 1) k (w ++ [x]) (by omega) (by omega) hw' hwi'
          by_cases hk1 : u.Kind = 1
          · obtain ⟨q, q1, q2, q3⟩ := file_ok hi hl hsm w u n1.2 f2 hg
            rw [cond_tt (by simpa using hk1), cond_tt (by simpa using hk1), q2, q3, opt_of, opt_of]
            dsimp only
            by_cases he : q.2 = 0
            · have he' : (q.2 != 0) = false := by simpa using he
              rw [cond_ff he', cond_ff he']
              exact key q.1 (by omega)
            · have he' : (q.2 != 0) = true := by simpa using he
              rw [cond_tt he', cond_tt he']
              exact bad _ _ he
          · rw [cond_ff (beq_false_of_ne hk1), cond_ff (beq_false_of_ne hk1)]
            exact key u.Link (by omega)
    · rw [cond_ff (dge (show (r.1.length : Int) ≤ j by omega)), cond_ff (dge (show (r.1.length : Int) ≤ j by omega))]
      exact .inr ⟨w, rfl, rfl, hw, hwi⟩
theorem dir_ok {m : List (A8u8 × Bl)} {ids : List A8u8} {l : List Bl} (hi : Inv m ids l) (hl : ids.length ≤ 1000) (hsm : ∀ x ∈ l, x.Bytes.length ≤ 4096) : ∀ (c fu : Nat) (id : A8u8) (pl : List (List UInt8)) (w : List It), pl.length + c = 8 → 2000001 + c ≤ fu → (pathS pl).length ≤ 1025 * pl.length → w.length ≤ 100 → (∀ x ∈ w, WfI x) →
    DR m (f___walk_reaper__directory fu ⟨m, w⟩ id (pathS pl) (pl.length : Int)) (f_lumref_reapDir_own fu l ids id pl w)
  | c, 0, _, _, _, _, hf, _, _, _ => by omega
  | c, fu + 1, id, pl, w, hc, hf, hps, hw, hwi => by
    have hbig : 2000000 ≤ fu := by omega
    haveI : NeZero (fu / 2000000) := ⟨by omega⟩
    obtain ⟨h1, h2, h3⟩ := find_ok hi hl hsm w id 2 hbig
    rw [f___walk_reaper__directory, f_lumref_reapDir_own, h1, h2, opt_of, opt_of]
    dsimp only
    by_cases he : (fnd ids l id 2).2 = 0
    · have he' : ((fnd ids l id 2).2 != 0) = false := by simpa using he
      rw [cond_ff he', cond_ff he']
      obtain ⟨ns, e, t1, t2, t3, t4⟩ := PTreeReads.read_ok (F0 := fu) (fnd ids l id 2).1
      rw [t1, t2, opt_of, opt_of]
      dsimp only
      by_cases he2 : e = 0
      · subst he2
        rw [cond_ff (show ((0 : Int) != 0) = false by decide), cond_ff (show ((0 : Int) != 0) = false by decide), lt_of, lt_of]
        have hinv := PTreeReads.read_inv (F0 := fu) t2 (fun u hu => by have := (t4 u hu).1; omega)
        refine dir_loop hi hl hsm (f___walk_reaper__directory fu) (f_lumref_reapDir_own fu) pl (by omega) hps (ns, 0) t3 (fun u hu => ⟨t4 u hu, (hinv u hu).1, (hinv u hu).2⟩) hbig (fun id' n w' hlt hn hw' hwi' => ?_) _ 0 fu w rfl (by show ns.length - 0 < fu; omega) hw hwi
        obtain ⟨c, rfl⟩ : ∃ q, c = q + 1 := ⟨c - 1, by omega⟩
        have := dir_ok hi hl hsm c fu id' (pl ++ [n]) w' (by rw [List.length_append, List.length_singleton]; omega) (by omega) (by rw [path_add, List.length_append, List.length_append, List.length_append, List.length_singleton, List.length_singleton]; omega) hw' hwi'
        rw [List.length_append, List.length_singleton] at this
        exact this
      · have he3 : (e != 0) = true := by simpa using he2
        rw [cond_tt he3, cond_tt he3]
        exact .inl ⟨e, _, he2, rfl, rfl⟩
    · have he' : ((fnd ids l id 2).2 != 0) = true := by simpa using he
      rw [cond_tt he', cond_tt he']
      exact .inl ⟨_, _, he, rfl, rfl⟩
theorem reap_ok (l : List Bl) (hw : ∀ x ∈ l, Wf x) (id : A8u8) {fu : Nat} (hf : 2000100 ≤ fu) : ∃ r : List It × Int, r.1.length ≤ 100 ∧ (∀ x ∈ r.1, WfI x) ∧ (r.2 ≠ 0 → r.1 = []) ∧ f_walk_Reap fu l id = some r ∧ f_lumref_Reap fu l id = some r := by
  have bad : ∀ e : Int, ∃ r : List It × Int, r.1.length ≤ 100 ∧ (∀ x ∈ r.1, WfI x) ∧ (r.2 ≠ 0 → r.1 = []) ∧ some (([] : List It), e) = some r ∧ some (([] : List It), e) = some r := fun e => ⟨([], e), by simp, fun x hx => by simp at hx, fun _ => rfl, rfl, rfl⟩
  unfold f_walk_Reap f_lumref_Reap f_walk_Heap
  by_cases h1 : l.length > 1000
  · have h9 : decide ((l.length : Int) > 1000) = true := decide_eq_true (by omega)
    rw [cond_tt h9, cond_tt h9, opt_of]
    exact bad 2
  · have h9 : decide ((l.length : Int) > 1000) = false := decide_eq_false (by omega)
    rw [cond_ff h9, cond_ff h9, lt_of, lt_of]
    have h0 : Inv ([] : List (A8u8 × Bl)) [] (l.take 0) := ⟨rfl, fun id => rfl, fun j id b e => by simp at e⟩
    rcases reap_heap l (by omega) hw fu (by omega) (fun j => some (some j, (0 : Int))) (fun ids => opt (f_lumref_reapDir_own fu l ids id ([] : (List (List UInt8))) ([] : List S_api_Item)) fun r6 => some (r6.1, r6.2)) _ 0 fu fu [] [] rfl (Nat.zero_le _) (by omega) (by omega) rfl h0 (fun x hx => by simp at hx) with ⟨m, ids, hi, hsm, q1, q2⟩ | ⟨e, he, q1, q2⟩
    · have hlen := hi.len
      have hd := dir_ok hi (by omega) hsm 8 fu id [] [] rfl (by omega) (by decide) (Nat.zero_le _) (fun x hx => by cases hx)
      have q1' : f_walk_Heap_L7 l (fun j3xm4 => some (some j3xm4, 0)) fu fu [] 0 = some (some m, 0) := q1
      rw [q1', opt_of]
      dsimp only
      rw [cond_ff (show ((0 : Int) != 0) = false by decide), opt_of]
      have q2' := q2
      rcases hd with ⟨e, p, he, h1, h2⟩ | ⟨w', h1, h2, h3, h4⟩
      · rw [h2, opt_of] at q2'
        have h1' : f___walk_reaper__directory fu (D_walk_reaper.mk m []) id [] 0 = some (e, p) := h1
        rw [h1', opt_of]
        dsimp only
        have he' : (e != 0) = true := by simpa using he
        rw [cond_tt he']
        exact ⟨([], e), by simp, fun x hx => by simp at hx, fun _ => rfl, rfl, q2'⟩
      · rw [h2, opt_of] at q2'
        have h1' : f___walk_reaper__directory fu (D_walk_reaper.mk m []) id [] 0 = some (0, ⟨m, w'⟩) := h1
        rw [h1', opt_of]
        dsimp only
        rw [cond_ff (show ((0 : Int) != 0) = false by decide)]
        exact ⟨(w', 0), h3, h4, fun h => absurd rfl h, rfl, q2'⟩
    · have q1' : f_walk_Heap_L7 l (fun j3xm4 => some (some j3xm4, 0)) fu fu [] 0 = some (none, e) := q1
      rw [q1', opt_of]
      dsimp only
      have he' : (e != 0) = true := by simpa using he
      rw [cond_tt he']
      exact ⟨([], e), by simp, fun x hx => by simp at hx, fun _ => rfl, rfl, q2⟩
theorem wf_i64 {x : Int} (h0 : -9223372036854775808 ≤ x) (h1 : x ≤ 9223372036854775807) : (Lit.int .i64 x).wf = true := by
  simpa [Lit.wf, IntKind.min, IntKind.max, IntKind.signed, IntKind.bits] using ⟨h0, h1⟩
theorem eqI (l : List It) (hl : l.length ≤ 1000) (hw : ∀ x ∈ l, WfI x) (kk : Unit → Option Bool) : ∀ (d i fu : Nat), l.length - i = d → i ≤ l.length → d < fu → f_slices_Equal___api_Item_api_Item__L6 l l kk fu (i : Int) = kk ()
  | _, _, 0, _, _, hf => absurd hf (Nat.not_lt_zero _)
  | 0, i, fu + 1, hd, hi, _ => by rw [f_slices_Equal___api_Item_api_Item__L6, cond_ff (dge (by omega))]
  | d + 1, i, fu + 1, hd, hi, hf => by
    have hlt : i < l.length := by omega
    obtain ⟨a1, a2, a3, a4, a5⟩ := hw _ (List.getElem_mem hlt)
    have b2 := wf_i64 (x := (l[i]).Kind) (by omega) (by omega)
    have b3 := wf_i64 (x := (l[i]).Mode) (by omega) (by omega)
    have b4 := wf_i64 (x := (l[i]).Time) a4.1 a4.2
    have c1 : (l[i]).Path.length ≤ 9223372036854775807 := by omega
    have c5 : (l[i]).Bytes.length ≤ 9223372036854775807 := by omega
    rw [f_slices_Equal___api_Item_api_Item__L6, cond_tt (dlt (by omega)), at_lt hlt, opt_of, opt_of]
    simp only [req_pos c1, req_pos c5, req_pos b2, req_pos b3, req_pos b4, beq_self_eq_true, Bool.not_true, cond_false]
    rw [wsucc (by omega)]
    exact eqI l hl hw kk d (i + 1) fu (by omega) (by omega) (by omega)
theorem says_ (l : List Bl) (id : A8u8) (hw : ∀ x ∈ l, Wf x) {F0 : Nat} (hf : 2000100 ≤ F0) : f_lumlaw_WalkReaps F0 l id = some true := by
  obtain ⟨r, r1, r2, r3, r4, r5⟩ := reap_ok l hw id hf
  unfold f_lumlaw_WalkReaps
  rw [r4, r5, opt_of, opt_of]
  by_cases he : r.2 = 0
  · rw [cond_ff (by simpa using he)]
    have hq := eqI r.1 (by omega) r2 (fun _ => some true) _ 0 F0 rfl (Nat.zero_le _) (by omega)
    unfold f_slices_Equal___api_Item_api_Item_
    rw [lt_of, show ((r.1.length : Int) != (r.1.length : Int)) = false from by simp, cond_ff rfl, lt_of]
    have hq' : f_slices_Equal___api_Item_api_Item__L6 r.1 r.1 (fun _ => some true) F0 0 = some true := hq
    rw [hq', opt_of, cond_tt rfl, beq_self_eq_true]
  · rw [cond_tt (by simpa using he), lt_of, r3 he]
    rw [cond_tt (by rfl), beq_self_eq_true]
theorem ok_wf {b : Bl} (h : okS_api_Blob b) : Wf b := h
end Go.Proofs.YtgmggcpceemnnaaDoor.PFetchInto
namespace Go.Proofs.YtgmggcpceemnnaaDoor.PWalkReaps
open Go.RowKit YtgmggcpceemnnaaDoor.En YtgmggcpceemnnaaDoor
def fuel (_ : List S_api_Blob) (_ : A8u8) : Nat := 3000000
theorem says (l : List S_api_Blob) (id : A8u8) (ok0 : okL (fun y => okS_api_Blob y) l) (_ : okA8u8 id) : f_lumlaw_WalkReaps (fuel l id) l id = some true := by
  obtain ⟨F0, hF⟩ : ∃ n, n = 3000000 := ⟨_, rfl⟩
  unfold fuel
  rw [← hF]
  exact PFetchInto.says_ l id (fun x hx => PFetchInto.ok_wf (ok0.2 x hx)) (by omega)
end Go.Proofs.YtgmggcpceemnnaaDoor.PWalkReaps
