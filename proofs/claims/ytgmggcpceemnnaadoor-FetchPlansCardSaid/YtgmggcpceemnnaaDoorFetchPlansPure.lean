/- The blobs that are lacking: FetchPlans. No condition. -/
import Derived.Test.YtgmggcpceemnnaaDoorFpHeap
namespace Go.Proofs.YtgmggcpceemnnaaDoor.PFetchInto
open Go.RowKit YtgmggcpceemnnaaDoor.En YtgmggcpceemnnaaDoor
set_option linter.unusedVariables false
set_option linter.unusedSimpArgs false
def seenR (M : List (A8u8 × Bool)) (L : List A8u8) : Prop := ∀ id, (gget M id).getD false = decide (id ∈ L)
theorem seen_push {M : List (A8u8 × Bool)} {L : List A8u8} (h : seenR M L) (id : A8u8) : seenR (gset M id true) (L ++ [id]) := fun x => by
  rw [gget_gset]
  by_cases hx : id = x
  · subst hx; rw [if_pos rfl]; simp
  · rw [if_neg hx, h x]
    have : ¬ x = id := fun e => hx e.symm
    simp [this]
def uns (ids L : List A8u8) : Nat := (ids.filter fun i => !decide (i ∈ L)).length
theorem uns_le (ids L : List A8u8) : uns ids L ≤ ids.length := List.length_filter_le _ _
theorem uns_mono {L L' : List A8u8} (h : ∀ x ∈ L, x ∈ L') : ∀ ids : List A8u8, uns ids L' ≤ uns ids L
  | [] => Nat.le_refl _
  | i :: ids => by
    have ih := uns_mono h ids
    unfold uns at ih ⊢
    rw [List.filter_cons, List.filter_cons]
    by_cases h1 : i ∈ L
    · rw [decide_eq_true h1, decide_eq_true (h i h1)]; exact ih
    · rw [decide_eq_false h1]
      by_cases h2 : i ∈ L'
      · rw [decide_eq_true h2]
        show _ ≤ (List.filter _ ids).length + 1
        simp only [Bool.not_true, Bool.false_eq_true, if_false]
        omega
      · rw [decide_eq_false h2]
        show (List.filter _ ids).length + 1 ≤ (List.filter _ ids).length + 1
        omega
theorem uns_lt {L : List A8u8} {id : A8u8} (hn : id ∉ L) : ∀ {ids : List A8u8}, id ∈ ids → uns ids (L ++ [id]) + 1 ≤ uns ids L
  | [], h => by cases h
  | i :: ids, h => by
    have hm := uns_mono (L := L) (L' := L ++ [id]) (fun x hx => List.mem_append.2 (.inl hx)) ids
    by_cases hi : i = id
    · subst hi
      unfold uns at hm ⊢
      rw [List.filter_cons, List.filter_cons, decide_eq_false hn, decide_eq_true (show i ∈ L ++ [i] by simp)]
      show (List.filter _ ids).length + 1 ≤ (List.filter _ ids).length + 1
      omega
    · have ih := uns_lt hn (ids := ids) ((List.mem_cons.1 h).resolve_left (fun e => hi e.symm))
      have e : (i ∈ L ++ [id]) ↔ i ∈ L := by simp [hi]
      unfold uns at ih ⊢
      rw [List.filter_cons, List.filter_cons]
      by_cases h1 : i ∈ L
      · rw [decide_eq_true h1, decide_eq_true (e.2 h1)]; exact ih
      · rw [decide_eq_false h1, decide_eq_false (fun h2 => h1 (e.1 h2))]
        show (List.filter _ ids).length + 1 + 1 ≤ (List.filter _ ids).length + 1
        omega
theorem cont_any (L : List A8u8) (hl : L.length ≤ 1000000) (id : A8u8) (fu : Nat) (hf : 2000000 ≤ fu) : f_slices_Contains___api_ID_api_ID_ fu L id = some (decide (id ∈ L)) := by
  unfold f_slices_Contains___api_ID_api_ID_ f_slices_Index___api_ID_api_ID_
  rw [lt_of]
  rcases idx_go L hl id (fun _ => some (-1 : Int)) _ 0 fu rfl (Nat.zero_le _) (by omega) with ⟨h1, h2⟩ | ⟨k, h1, h2⟩
  · have hn : id ∉ L := fun hm => by
      obtain ⟨k, hk⟩ := List.getElem?_of_mem hm
      exact h2 k (Nat.zero_le _) hk
    rw [show (0 : Int) = ((0 : Nat) : Int) from rfl, h1, opt_of, decide_eq_false hn]
    rfl
  · rw [show (0 : Int) = ((0 : Nat) : Int) from rfl, h1, opt_of, decide_eq_true (List.mem_of_getElem? h2), decide_eq_true (by omega)]
/-- both results of a visit -/
def VR (m : List (A8u8 × Bl)) (ids : List A8u8) (c : Option (Int × D_fetch_planner)) (r : Option (List A8u8 × List Bl × Int)) (L : List A8u8) (out : List Bl) : Prop :=
  (∃ (e : Int) (p : D_fetch_planner), e ≠ 0 ∧ c = some (e, p) ∧ r = some ([], [], e)) ∨
  ∃ M' L' out', c = some (0, ⟨m, M', out'⟩) ∧ r = some (L', out', 0) ∧ seenR M' L' ∧ (∀ x ∈ L, x ∈ L') ∧ L'.length + uns ids L' ≤ L.length + uns ids L ∧ out'.length + uns ids L' ≤ out.length + uns ids L ∧ ∀ x ∈ out', Wf x
theorem visit_loop (m : List (A8u8 × Bl)) (ids : List A8u8) (l : List Bl) (sc : D_fetch_planner → A8u8 → Option (Int × D_fetch_planner)) (sr : List Bl → List A8u8 → A8u8 → List A8u8 → List Bl → Option (List A8u8 × List Bl × Int)) (r : List A8u8 × Int) (hr : r.1.length ≤ 800000)
    (kc : List (A8u8 × Bl) → List (A8u8 × Bool) → List Bl → Option (Int × D_fetch_planner)) (kr : List A8u8 → List Bl → Option (List A8u8 × List Bl × Int)) (dd : Nat)
    (ih : ∀ id M L out, seenR M L → uns ids L ≤ dd → L.length + uns ids L ≤ 2000 → out.length + uns ids L ≤ 1000 → (∀ x ∈ out, Wf x) → VR m ids (sc ⟨m, M, out⟩ id) (sr l ids id L out) L out) :
    ∀ (c j k : Nat) (M : List (A8u8 × Bool)) (L : List A8u8) (out : List Bl), r.1.length - j = c → c < k → seenR M L → uns ids L ≤ dd → L.length + uns ids L ≤ 2000 → out.length + uns ids L ≤ 1000 → (∀ x ∈ out, Wf x) →
    (∃ (e : Int) (p : D_fetch_planner), e ≠ 0 ∧ f___fetch_planner__visit_L16 sc r kc k m M out (j : Int) = some (e, p) ∧ f_lumref_visit_own_own_L28 sr l ids r kr k L out (j : Int) = some ([], [], e)) ∨
    ∃ M' L' out', f___fetch_planner__visit_L16 sc r kc k m M out (j : Int) = kc m M' out' ∧ f_lumref_visit_own_own_L28 sr l ids r kr k L out (j : Int) = kr L' out' ∧ seenR M' L' ∧ (∀ x ∈ L, x ∈ L') ∧ L'.length + uns ids L' ≤ L.length + uns ids L ∧ out'.length + uns ids L' ≤ out.length + uns ids L ∧ ∀ x ∈ out', Wf x
  | _, _, 0, _, _, _, _, hk, _, _, _, _, _ => absurd hk (Nat.not_lt_zero _)
  | c, j, k + 1, M, L, out, hc, hk, hs, hu, hL, ho, hw => by
    rw [f___fetch_planner__visit_L16, f_lumref_visit_own_own_L28]
    by_cases h : j < r.1.length
    · rw [cond_tt (dlt (show (j : Int) < r.1.length by omega)), cond_tt (dlt (show (j : Int) < r.1.length by omega)), at_lt h, opt_of, opt_of]
      rcases ih r.1[j] M L out hs hu hL ho hw with ⟨e, p, he, h1, h2⟩ | ⟨M', L', out', h1, h2, h3, h4, h5, h6, h7⟩
      · rw [h1, h2, opt_of, opt_of]
        dsimp only
        have he' : (e != 0) = true := by simpa using he
        rw [cond_tt he', cond_tt he']
        exact .inl ⟨e, p, he, rfl, rfl⟩
      · rw [h1, h2, opt_of, opt_of]
        dsimp only
        rw [cond_ff (show ((0 : Int) != 0) = false by decide), cond_ff (show ((0 : Int) != 0) = false by decide), wsucc (by omega)]
        have hm := uns_mono h4 ids
        rcases visit_loop m ids l sc sr r hr kc kr dd ih (c - 1) (j + 1) k M' L' out' (by omega) (by omega) h3 (by omega) (by omega) (by omega) h7 with h8 | ⟨M2, L2, out2, g1, g2, g3, g4, g5, g6, g7⟩
        · exact .inl h8
        · exact .inr ⟨M2, L2, out2, g1, g2, g3, fun x hx => g4 x (h4 x hx), by omega, by omega, g7⟩
    · rw [cond_ff (dge (show (r.1.length : Int) ≤ j by omega)), cond_ff (dge (show (r.1.length : Int) ≤ j by omega))]
      exact .inr ⟨M, L, out, rfl, rfl, hs, fun x hx => hx, Nat.le_refl _, Nat.le_refl _, hw⟩
theorem visit_ok {m : List (A8u8 × Bl)} {ids : List A8u8} {l : List Bl} (hi : Inv m ids l) (hl : ids.length ≤ 1000) (hwl : ∀ x ∈ l, Wf x) : ∀ (d fu : Nat) (id : A8u8) (M : List (A8u8 × Bool)) (L : List A8u8) (out : List Bl),
    uns ids L ≤ d → 2000002 + d ≤ fu → seenR M L → L.length + uns ids L ≤ 2000 → out.length + uns ids L ≤ 1000 → (∀ x ∈ out, Wf x) → VR m ids (f___fetch_planner__visit fu ⟨m, M, out⟩ id) (f_lumref_visit_own_own fu l ids id L out) L out
  | d, 0, _, _, _, _, _, hf, _, _, _, _ => by omega
  | d, fu + 1, id, M, L, out, hu, hf, hs, hL, ho, hw => by
    have hbig : 2000000 ≤ fu := by omega
    haveI : NeZero (fu / 2000000) := ⟨by omega⟩
    rw [f___fetch_planner__visit, f_lumref_visit_own_own, cont_any L (by omega) id fu hbig, opt_of]
    dsimp only
    rw [hs id]
    by_cases hin : id ∈ L
    · rw [decide_eq_true hin, cond_tt rfl, cond_tt rfl]
      exact .inr ⟨M, L, out, rfl, rfl, hs, fun x hx => hx, Nat.le_refl _, Nat.le_refl _, hw⟩
    · rw [decide_eq_false hin, cond_ff rfl, cond_ff rfl, req_pos (by rw [List.length_singleton]; omega), hi.get]
      rcases index_ok hi (by omega) id fu hbig with ⟨h1, h2⟩ | ⟨k, b, h1, h2, h3⟩
      · rw [h1, opt_of, h2]
        exact .inl ⟨9, _, by decide, rfl, rfl⟩
      · rw [h1, opt_of, h3]
        have e1 : (!(some b : Option Bl).isSome) = false := rfl
        have e2 : (some b : Option Bl).getD (S_api_Blob.mk (0 : Int) ([] : List UInt8)) = b := rfl
        rw [cond_ff e1, e2, eta, cond_ff (decide_eq_false (show ¬ (k : Int) < 0 by omega)), at_of h2, opt_of]
        obtain ⟨ln, e, n1, n2, n3⟩ := needs_ok (F0 := fu) b
        rw [n2, n3, opt_of, opt_of]
        dsimp only
        by_cases he : e = 0
        · have he' : (e != 0) = false := by simpa using he
          rw [cond_ff he', cond_ff he', lt_of, lt_of]
          have hmem : id ∈ ids := by
            obtain ⟨q, q1, _⟩ := look_some _ _ _ _ h3
            exact List.mem_of_getElem? q1
          have hlt := uns_lt hin hmem
          obtain ⟨d, rfl⟩ : ∃ q, d = q + 1 := ⟨d - 1, by omega⟩
          have hlen : (L ++ [id]).length = L.length + 1 := by simp
          rcases visit_loop m ids l (f___fetch_planner__visit fu) (f_lumref_visit_own_own fu) (ln, e) n1 _ _ d
            (fun id' M' L' out' a1 a2 a3 a4 a5 => visit_ok hi hl hwl d fu id' M' L' out' a2 (by omega) a1 a3 a4 a5) _ 0 fu (gset M id true) (L ++ [id]) out rfl (by show ln.length - 0 < fu; omega) (seen_push hs id) (by omega) (by omega) (by omega) hw
            with ⟨e', p, he2, g1, g2⟩ | ⟨M2, L2, out2, g1, g2, g3, g4, g5, g6, g7⟩
          · rw [show (0 : Int) = ((0 : Nat) : Int) from rfl, g1, g2]
            exact .inl ⟨e', p, he2, rfl, rfl⟩
          · rw [show (0 : Int) = ((0 : Nat) : Int) from rfl, g1, g2]
            rw [req_pos (by rw [List.length_singleton]; omega), opt_of, req_pos (by rw [List.length_singleton]; omega)]
            refine .inr ⟨M2, L2, out2 ++ [b], rfl, rfl, g3, fun x hx => g4 x (List.mem_append.2 (.inl hx)), by omega, by rw [List.length_append, List.length_singleton]; omega, fun x hx => ?_⟩
            rcases List.mem_append.1 hx with hx | hx
            · exact g7 x hx
            · rw [List.mem_singleton.1 hx]; exact hwl b (List.mem_of_getElem? h2)
        · have he' : (e != 0) = true := by simpa using he
          rw [cond_tt he', cond_tt he']
          exact .inl ⟨e, _, he, rfl, rfl⟩
/-! the heap once more -/
theorem heap_both (l : List Bl) (hw : ∀ x ∈ l, Wf x) (fu : Nat) (hf : 2000000 ≤ fu) :
    (∃ m ids, Inv m ids l ∧ l.length ≤ 1000 ∧ f_walk_Heap fu l = some (some m, 0) ∧ f_lumref_BlobHeap fu l = some (ids, 0)) ∨ ∃ e : Int, e ≠ 0 ∧ f_walk_Heap fu l = some (none, e) ∧ f_lumref_BlobHeap fu l = some ([], e) := by
  unfold f_walk_Heap f_lumref_BlobHeap
  by_cases h1 : l.length > 1000
  · rw [cond_tt (decide_eq_true (show (l.length : Int) > 1000 by omega)), cond_tt (decide_eq_true (show (l.length : Int) > 1000 by omega))]
    exact .inr ⟨2, by decide, rfl, rfl⟩
  · rw [cond_ff (decide_eq_false (show ¬ (l.length : Int) > 1000 by omega)), cond_ff (decide_eq_false (show ¬ (l.length : Int) > 1000 by omega)), lt_of, lt_of]
    have h0 : Inv ([] : List (A8u8 × Bl)) [] (l.take 0) := ⟨rfl, fun id => rfl, fun j id b e => by simp at e⟩
    rcases heap_ok l (by omega) hw fu hf (fun j => some (some j, (0 : Int))) (fun j => some (j, (0 : Int))) _ 0 fu fu [] [] rfl (Nat.zero_le _) (by omega) (by omega) rfl h0 with ⟨m, ids, hi, q1, q2⟩ | ⟨e, he, q1, q2⟩
    · exact .inl ⟨m, ids, hi, by omega, q1, q2⟩
    · exact .inr ⟨e, he, q1, q2⟩
theorem clone_ids (l : List A8u8) (hl : l.length ≤ 1000) (fu : Nat) : f_slices_Clone___api_ID_api_ID_ fu l = some l := by
  unfold f_slices_Clone___api_ID_api_ID_
  rw [req_pos (by rw [List.length_nil]; omega), List.nil_append]
  cases l with
  | nil => exact amb_same
  | cons x t => exact amb_ff rfl
/-! what is complete -/
theorem closed_go {F0 : Nat} [NeZero (F0 / 2000000)] {m : List (A8u8 × Bl)} {ids : List A8u8} {l : List Bl} (hi : Inv m ids l) (hl : l.length ≤ 1000) (e0 : Int) (kc kr : Unit → Option Int) (hk : kc () = kr ()) : ∀ (d j k : Nat), l.length - j = d → d < k →
    f_fetch_Closed_L13 l kc F0 k m (j : Int) = f_lumref_Closed_L9 l (ids, e0) kr F0 k (j : Int) ∧ (kc () = some 0 → ∃ e, f_fetch_Closed_L13 l kc F0 k m (j : Int) = some e)
  | _, _, 0, _, hk => absurd hk (Nat.not_lt_zero _)
  | d, j, k + 1, hd, hk2 => by
    rw [f_fetch_Closed_L13, f_lumref_Closed_L9]
    by_cases h : j < l.length
    · obtain ⟨e, h1, h2⟩ := need_ok (F0 := F0) hi (by have := hi.len; omega) l[j]
      rw [cond_tt (dlt (show (j : Int) < l.length by omega)), cond_tt (dlt (show (j : Int) < l.length by omega)), at_lt h, opt_of, opt_of, h1]
      dsimp only
      rw [h2, opt_of, opt_of]
      dsimp only
      by_cases he : e = 0
      · have he' : (e != 0) = false := by simpa using he
        rw [cond_ff he', cond_ff he', wsucc (by omega)]
        exact closed_go hi hl e0 kc kr hk (d - 1) (j + 1) k (by omega) (by omega)
      · have he' : (e != 0) = true := by simpa using he
        rw [cond_tt he', cond_tt he']
        exact ⟨rfl, fun _ => ⟨e, rfl⟩⟩
    · rw [cond_ff (dge (show (l.length : Int) ≤ j by omega)), cond_ff (dge (show (l.length : Int) ≤ j by omega))]
      exact ⟨hk, fun h0 => ⟨0, h0⟩⟩
theorem closed_ok {F0 : Nat} [NeZero (F0 / 2000000)] (l : List Bl) (hw : ∀ x ∈ l, Wf x) : ∃ e, f_fetch_Closed F0 l = some e ∧ f_lumref_Closed F0 l = some e := by
  have hbig := PTreeText.big (F0 := F0)
  unfold f_fetch_Closed f_lumref_Closed
  rcases heap_both l hw F0 hbig with ⟨m, ids, hi, hl, h1, h2⟩ | ⟨e, he, h1, h2⟩
  · rw [h1, h2, opt_of, opt_of]
    dsimp only
    rw [cond_ff (show ((0 : Int) != 0) = false by decide), cond_ff (show ((0 : Int) != 0) = false by decide), lt_of, lt_of, opt_of]
    obtain ⟨g1, g2⟩ := closed_go (F0 := F0) hi hl 0 (fun _ => some 0) (fun _ => some 0) rfl _ 0 F0 rfl (by omega)
    obtain ⟨e, he⟩ := g2 rfl
    exact ⟨e, he, g1.symm.trans he⟩
  · rw [h1, h2, opt_of, opt_of]
    dsimp only
    have he' : (e != 0) = true := by simpa using he
    rw [cond_tt he', cond_tt he']
    exact ⟨e, rfl, rfl⟩
/-! the plan -/
theorem have_go (a : List A8u8) (hl : a.length ≤ 1000) (kk : List (A8u8 × Bool) → Option (List Bl × Int)) : ∀ (d j k : Nat) (M : List (A8u8 × Bool)), a.length - j = d → d < k → seenR M (a.take j) → ∃ M', seenR M' a ∧ f_fetch_Plan_L32 a kk k M (j : Int) = kk M'
  | _, _, 0, _, _, hk, _ => absurd hk (Nat.not_lt_zero _)
  | d, j, k + 1, M, hd, hk, hs => by
    rw [f_fetch_Plan_L32]
    by_cases h : j < a.length
    · rw [cond_tt (dlt (by omega)), at_lt h, opt_of, wsucc (by omega)]
      refine have_go a hl kk (d - 1) (j + 1) k _ (by omega) (by omega) ?_
      have e : a.take (j + 1) = a.take j ++ [a[j]] := by rw [List.take_add_one, List.getElem?_eq_getElem h]; rfl
      rw [e]
      exact seen_push hs _
    · rw [cond_ff (dge (by omega))]
      rw [List.take_of_length_le (by omega)] at hs
      exact ⟨M, hs, rfl⟩
theorem roots_go {m : List (A8u8 × Bl)} {ids : List A8u8} {l : List Bl} (hi : Inv m ids l) (hl : ids.length ≤ 1000) (hwl : ∀ x ∈ l, Wf x) (e0 : Int) (ro : List A8u8) (hro : ro.length ≤ 64) {fu : Nat} (hf : 2002000 ≤ fu) :
    ∀ (d j k : Nat) (M : List (A8u8 × Bool)) (L : List A8u8) (out : List Bl), ro.length - j = d → d < k → seenR M L → L.length + uns ids L ≤ 2000 → out.length + uns ids L ≤ 1000 → (∀ x ∈ out, Wf x) →
    ∃ r : List Bl × Int, r.1.length ≤ 1000 ∧ (∀ x ∈ r.1, Wf x) ∧ f_fetch_Plan_L20 ro (fun _ _ o => some (o, 0)) fu k m M out (j : Int) = some r ∧ f_lumref_Plan86_L15 l ro (ids, e0) (fun o => some (o, 0)) fu k L out (j : Int) = some r
  | _, _, 0, _, _, _, _, hk, _, _, _, _ => absurd hk (Nat.not_lt_zero _)
  | d, j, k + 1, M, L, out, hd, hk, hs, hL, ho, hw => by
    rw [f_fetch_Plan_L20, f_lumref_Plan86_L15]
    by_cases h : j < ro.length
    · rw [cond_tt (dlt (show (j : Int) < ro.length by omega)), cond_tt (dlt (show (j : Int) < ro.length by omega)), at_lt h, opt_of, opt_of]
      dsimp only
      rcases visit_ok hi hl hwl _ fu ro[j] M L out (Nat.le_refl _) (by have := uns_le ids L; omega) hs hL ho hw with ⟨e, p, he, h1, h2⟩ | ⟨M', L', out', h1, h2, h3, h4, h5, h6, h7⟩
      · rw [h1, h2, opt_of, opt_of]
        dsimp only
        have he' : (e != 0) = true := by simpa using he
        rw [cond_tt he', cond_tt he']
        exact ⟨([], e), by simp, fun x hx => by simp at hx, rfl, rfl⟩
      · rw [h1, h2, opt_of, opt_of]
        dsimp only
        rw [cond_ff (show ((0 : Int) != 0) = false by decide), cond_ff (show ((0 : Int) != 0) = false by decide), wsucc (by omega)]
        exact roots_go hi hl hwl e0 ro hro hf (d - 1) (j + 1) k M' L' out' (by omega) (by omega) h3 (by omega) (by omega) h7
    · rw [cond_ff (dge (show (ro.length : Int) ≤ j by omega)), cond_ff (dge (show (ro.length : Int) ≤ j by omega))]
      exact ⟨(out, 0), by show out.length ≤ 1000; omega, hw, rfl, rfl⟩
theorem plan_ok (a : List A8u8) (l : List Bl) (ro : List A8u8) (hw : ∀ x ∈ l, Wf x) {fu : Nat} (hf : 2002000 ≤ fu) : ∃ r : List Bl × Int, r.1.length ≤ 1000 ∧ (∀ x ∈ r.1, Wf x) ∧ f_fetch_Plan fu a l ro = some r ∧ f_lumref_Plan86 fu a l ro = some r := by
  unfold f_fetch_Plan f_lumref_Plan86
  have bad : ∀ e : Int, ∃ r : List Bl × Int, r.1.length ≤ 1000 ∧ (∀ x ∈ r.1, Wf x) ∧ some (([] : List Bl), e) = some r ∧ some (([] : List Bl), e) = some r := fun e => ⟨([], e), by simp, fun x hx => by simp at hx, rfl, rfl⟩
  simp only [lt_of]
  by_cases h1 : a.length > 1000
  · have h9 : decide ((a.length : Int) > 1000) = true := decide_eq_true (by omega)
    rw [cond_tt h9, cond_tt h9]
    exact bad 2
  · have h9 : decide ((a.length : Int) > 1000) = false := decide_eq_false (by omega)
    rw [cond_ff h9, cond_ff h9]
    by_cases h2 : ro.length > 64
    · have h8 : decide ((ro.length : Int) > 64) = true := decide_eq_true (by omega)
      rw [cond_tt h8, cond_tt h8]
      exact bad 2
    · have h8 : decide ((ro.length : Int) > 64) = false := decide_eq_false (by omega)
      rw [cond_ff h8, cond_ff h8]
      rcases heap_both l hw fu (by omega) with ⟨m, ids, hi, hl, g1, g2⟩ | ⟨e, he, g1, g2⟩
      · have z0 : ((0 : Int) != 0) = false := by decide
        simp only [g1, g2, opt_of, z0, cond_false, clone_ids a (show a.length ≤ 1000 by omega)]
        obtain ⟨M', s1, s2⟩ := have_go a (by omega) (fun M => f_fetch_Plan_L20 ro (fun _ _ o => some (o, 0)) fu fu m M [] 0) _ 0 fu [] rfl (by omega) (fun id => by rw [List.take_zero]; simp; rfl)
        have hlen := hi.len
        have hu := uns_le ids a
        obtain ⟨r, r1, r2, r3, r4⟩ := roots_go hi (by omega) hw 0 ro (by omega) hf _ 0 fu M' a [] rfl (by omega) s1 (by omega) (by rw [List.length_nil]; omega) (fun x hx => by cases hx)
        exact ⟨r, r1, r2, s2.trans r3, r4⟩
      · rw [g1, g2, opt_of, opt_of]
        dsimp only
        have he' : (e != 0) = true := by simpa using he
        rw [cond_tt he', cond_tt he']
        exact bad e
theorem ok_wf {b : Bl} (h : okS_api_Blob b) : Wf b := h
theorem says_ (a : List A8u8) (l : List Bl) (ro : List A8u8) (hw : ∀ x ∈ l, Wf x) {F0 : Nat} [NeZero (F0 / 2000000)] (hf : 2002000 ≤ F0) : f_lumlaw_FetchPlans F0 a l ro = some true := by
  obtain ⟨r, r1, r2, r3, r4⟩ := plan_ok a l ro hw hf
  obtain ⟨e, c1, c2⟩ := closed_ok (F0 := F0) l hw
  have he := eqB r.1 r1 r2 (fun _ => some true) _ 0 F0 rfl (Nat.zero_le _) (by omega)
  unfold f_lumlaw_FetchPlans f_slices_Equal___api_Blob_api_Blob_
  rw [r3, r4, c1, c2]
  simp only [opt_of, lt_of]
  rw [show (e == e) = true from by simp, cond_tt rfl, show ((r.1.length : Int) != (r.1.length : Int)) = false from by simp, cond_ff rfl]
  rw [show (0 : Int) = ((0 : Nat) : Int) from rfl, he, opt_of, cond_tt rfl, beq_self_eq_true]
end Go.Proofs.YtgmggcpceemnnaaDoor.PFetchInto
namespace Go.Proofs.YtgmggcpceemnnaaDoor.PFetchPlans
open Go.RowKit YtgmggcpceemnnaaDoor.En YtgmggcpceemnnaaDoor
def fuel (_ : List A8u8) (_ : List S_api_Blob) (_ : List A8u8) : Nat := 3000000
theorem says (a : List A8u8) (l : List S_api_Blob) (ro : List A8u8) (_ : okL (fun y => okA8u8 y) a) (ok1 : okL (fun y => okS_api_Blob y) l) (_ : okL (fun y => okA8u8 y) ro) : f_lumlaw_FetchPlans (fuel a l ro) a l ro = some true := by
  obtain ⟨F0, hF⟩ : ∃ n, n = 3000000 := ⟨_, rfl⟩
  unfold fuel
  rw [← hF]
  haveI : NeZero (F0 / 2000000) := ⟨by omega⟩
  exact PFetchInto.says_ a l ro (fun x hx => PFetchInto.ok_wf (ok1.2 x hx)) (by omega)
end Go.Proofs.YtgmggcpceemnnaaDoor.PFetchPlans
