/- Directories: TreeSays. No condition. -/
import Derived.Test.YtjbgahmcobcojaaDoorTsPutO
import Derived.Test.YtjbgahmcobcojaaDoorTsTp
import Derived.Test.YtjbgahmcobcojaaDoorTsPi
import Derived.Test.YtjbgahmcobcojaaDoorTsSame
namespace Go.Proofs.YtjbgahmcobcojaaDoor.PTreeSays
open Go.RowKit YtjbgahmcobcojaaDoor.En YtjbgahmcobcojaaDoor Num TX
open Go.Lib hiding cut
set_option linter.unusedVariables false
set_option linter.unusedSimpArgs false
abbrev Nd := S_api_Node
theorem u64_any (x : Int) : ∃ m : Nat, IntKind.u64.wrap x = (m : Int) ∧ m < 18446744073709551616 := by
  refine ⟨(x % 18446744073709551616).toNat, ?_, by omega⟩
  unfold IntKind.wrap
  simp [IntKind.signed, IntKind.bits]
  omega
theorem u8_any (x : Int) : 0 ≤ IntKind.u8.wrap x ∧ IntKind.u8.wrap x ≤ 255 := by
  unfold IntKind.wrap
  simp [IntKind.signed, IntKind.bits]
  omega
theorem put1_ok (x : Int) (fu : Nat) (hf : 9 ≤ fu) : ∃ r, f_tree_Write_1 fu x = some r ∧ f_lumref_Put fu (IntKind.u64.wrap x) = some r ∧ r.length ≤ 9 := by
  obtain ⟨m, hm, hlt⟩ := u64_any x
  refine ⟨PPut.putV m, ?_, ?_, ?_⟩
  · unfold f_tree_Write_1; rw [hm, PPut.put_ok m hlt fu, opt_of]
  · rw [hm, PPut.rput_ok m hlt fu hf]
  · have := digF_len 8 m
    unfold PPut.putV
    rw [List.length_cons]; omega
theorem putT_any (s : List UInt8) (fu : Nat) : ∃ t e, f_num_PutText fu s = some (t, e) ∧ f_lumref_PutText fu s = some (t, e) ∧ t.length ≤ 3100 := by
  by_cases h : s.length ≤ 1024
  · obtain ⟨h1, h2⟩ := putT_ok s h fu
    have := txtV_len s
    exact ⟨_, _, h1, h2, by omega⟩
  · obtain ⟨h1, h2⟩ := putT_large s (by omega) fu
    exact ⟨_, _, h1, h2, by simp⟩
theorem parts_go (u : Nd) (hu : u.Parts.length ≤ 1048576) (k1 k2 : List UInt8 → Option (List UInt8 × Int)) : ∀ (d j fu : Nat) (out : List UInt8), u.Parts.length - j = d → j ≤ u.Parts.length → d < fu → out.length + d * 8 ≤ 9000000000000000000 →
    ∃ out', out'.length = out.length + 8 * d ∧ f_tree_Write_L47 u k1 fu out (j : Int) = k1 out' ∧ f_lumref_TreeWrite_L47 u k2 fu out (j : Int) = k2 out'
  | _, _, 0, _, _, _, hf, _ => absurd hf (Nat.not_lt_zero _)
  | 0, j, fu + 1, out, hd, hj, _, _ => ⟨out, by omega, by rw [f_tree_Write_L47, cond_ff (dge (by omega))], by rw [f_lumref_TreeWrite_L47, cond_ff (dge (by omega))]⟩
  | d + 1, j, fu + 1, out, hd, hj, hf, hx => by
    have hlt : j < u.Parts.length := by omega
    have h8 : (lA8u8 u.Parts[j]).length = 8 := rfl
    rw [f_tree_Write_L47, f_lumref_TreeWrite_L47, cond_tt (dlt (by omega)), cond_tt (dlt (by omega)), at_lt hlt, opt_of, opt_of, req_pos (by omega), req_pos (by omega), wsucc (by omega)]
    obtain ⟨o, h1, h2, h3⟩ := parts_go u hu k1 k2 d (j + 1) fu (out ++ lA8u8 u.Parts[j]) (by omega) (by omega) (by omega) (by rw [List.length_append]; omega)
    exact ⟨o, by rw [h1, List.length_append]; omega, h2, h3⟩
def Ok (u : Nd) : Prop := u.Parts.length ≤ 1048576 ∧ u.Name.length ≤ 1048576 ∧ (-9223372036854775808 ≤ u.Time ∧ u.Time ≤ 9223372036854775807)
theorem nodes_go (l : List Nd) (hl : l.length ≤ 1048576) (hO : ∀ u ∈ l, Ok u) (fu0 : Nat) (h0 : 2000000 ≤ fu0) (k1 k2 : List UInt8 → Option (List UInt8 × Int)) : ∀ (d j fu : Nat) (out : List UInt8), l.length - j = d → j ≤ l.length → d < fu → out.length + d * 10000000 ≤ 1000000000000000 →
    ∃ out', f_tree_Write_L11 l k1 fu0 fu out (j : Int) = k1 out' ∧ f_lumref_TreeWrite_L11 l k2 fu0 fu out (j : Int) = k2 out'
  | _, _, 0, _, _, _, hf, _ => absurd hf (Nat.not_lt_zero _)
  | 0, j, fu + 1, out, hd, hj, _, _ => ⟨out, by rw [f_tree_Write_L11, lt_of]; dsimp only; rw [cond_ff (dge (by omega))], by rw [f_lumref_TreeWrite_L11, lt_of]; dsimp only; rw [cond_ff (dge (by omega))]⟩
  | d + 1, j, fu + 1, out, hd, hj, hf, hx => by
    have hlt : j < l.length := by omega
    obtain ⟨o1, o2, o3⟩ := hO l[j] (List.getElem_mem hlt)
    obtain ⟨u, hu⟩ : ∃ u, u = l[j] := ⟨_, rfl⟩
    rw [← hu] at o1 o2 o3
    obtain ⟨t1, e1, a1, a2, a3⟩ := putT_any u.Name fu0
    obtain ⟨t2, e2, b1, b2, b3⟩ := putT_any u.Link fu0
    obtain ⟨m, c1, c2, c3⟩ := put1_ok u.Mode fu0 (by omega)
    obtain ⟨i, d1, d2, d3⟩ := PPi.put_ok u.Time o3.1 o3.2 fu0 (by omega)
    obtain ⟨z, g1, g2, g3⟩ := put1_ok u.Size fu0 (by omega)
    obtain ⟨p, p1, p2, p3⟩ := put1_ok (u.Parts.length : Int) fu0 (by omega)
    have hk := u8_any u.Kind
    obtain ⟨kb, hkb⟩ : ∃ kb : List UInt8, kb = [UInt8.ofNat (IntKind.u8.wrap u.Kind).toNat] := ⟨_, rfl⟩
    have hkl : kb.length = 1 := by rw [hkb]; rfl
    rw [f_tree_Write_L11, f_lumref_TreeWrite_L11]
    simp only [lt_of]
    rw [cond_tt (dlt (by omega)), cond_tt (dlt (by omega)), at_lt hlt, ← hu, opt_of, opt_of, a1, a2, b1, b2]
    simp only [opt_of, c1, c2, d1, d2, g1, g2, p1, p2, ← hkb, req_pos hk]
    obtain ⟨w, hw⟩ : ∃ w, w = ((((t1 ++ kb) ++ m) ++ i) ++ z) ++ p := ⟨_, rfl⟩
    have r1 : t1.length + kb.length ≤ 9223372036854775807 := by omega
    have r2 : (t1 ++ kb).length + m.length ≤ 9223372036854775807 := by rw [List.length_append]; omega
    have r3 : ((t1 ++ kb) ++ m).length + i.length ≤ 9223372036854775807 := by simp only [List.length_append]; omega
    have r4 : (((t1 ++ kb) ++ m) ++ i).length + z.length ≤ 9223372036854775807 := by simp only [List.length_append]; omega
    have r5 : ((((t1 ++ kb) ++ m) ++ i) ++ z).length + p.length ≤ 9223372036854775807 := by simp only [List.length_append]; omega
    have hwl : w.length ≤ 3200 := by rw [hw]; simp only [List.length_append]; omega
    have r6 : out.length + w.length ≤ 9223372036854775807 := by omega
    simp only [req_pos r1, req_pos r2, req_pos r3, req_pos r4, req_pos r5, ← hw, req_pos r6]
    rw [wsucc (by omega)]
    obtain ⟨o, q1, q2, q3⟩ := parts_go u o1 (fun j42 => req (j42.length + t2.length ≤ 9223372036854775807) (f_tree_Write_L11 l k1 fu0 fu (j42 ++ t2) ((j + 1 : Nat) : Int))) (fun j42 => req (j42.length + t2.length ≤ 9223372036854775807) (f_lumref_TreeWrite_L11 l k2 fu0 fu (j42 ++ t2) ((j + 1 : Nat) : Int))) u.Parts.length 0 fu0 (out ++ w) (by omega) (by omega) (by omega) (by rw [List.length_append]; omega)
    rw [List.length_append] at q1
    obtain ⟨o', s1, s2⟩ := nodes_go l hl hO fu0 h0 k1 k2 d (j + 1) fu (o ++ t2) (by omega) (by omega) (by omega) (by rw [List.length_append]; omega)
    refine ⟨o', ?_, ?_⟩
    · refine Eq.trans q2 ?_
      rw [req_pos (by omega)]; exact s1
    · refine Eq.trans q3 ?_
      rw [req_pos (by omega)]; exact s2
theorem index_go (l : List Nd) (hl : l.length ≤ 1048576) (name : List UInt8) (fu0 : Nat) : ∀ (d j fu : Nat), l.length - j = d → j ≤ l.length → d < fu →
    ∃ r, f_slices_IndexFunc___api_Node_api_Node__F66_L5 l name (fun _ => some (-1 : Int)) fu0 fu (j : Int) = some r ∧ f_slices_IndexFunc___api_Node_api_Node__F22_L5 l name (fun _ => some (-1 : Int)) fu0 fu (j : Int) = some r
  | _, _, 0, _, _, hf => absurd hf (Nat.not_lt_zero _)
  | 0, j, fu + 1, hd, hj, _ => ⟨-1, by rw [f_slices_IndexFunc___api_Node_api_Node__F66_L5, cond_ff (dge (by omega))], by rw [f_slices_IndexFunc___api_Node_api_Node__F22_L5, cond_ff (dge (by omega))]⟩
  | d + 1, j, fu + 1, hd, hj, hf => by
    have hlt : j < l.length := by omega
    rw [f_slices_IndexFunc___api_Node_api_Node__F66_L5, f_slices_IndexFunc___api_Node_api_Node__F22_L5, cond_tt (dlt (by omega)), cond_tt (dlt (by omega)), at_lt hlt, opt_of, opt_of]
    unfold f_tree_Find_1 f_lumlaw_TreeSays_1
    rw [opt_of, opt_of, wsucc (by omega)]
    cases (l[j].Name == name)
    · exact index_go l hl name fu0 d (j + 1) fu (by omega) (by omega) (by omega)
    · exact ⟨_, rfl, rfl⟩
theorem law_ok (l : List Nd) (name : List UInt8) (hl : l.length ≤ 1048576) (hO : ∀ u ∈ l, Ok u) (fu : Nat) (hfu : 2000000 ≤ fu) : f_lumlaw_TreeSays fu l name = some true := by
  obtain ⟨r, c1, c2⟩ := PTreeSame.chk_ok l (fun u hu => (hO u hu).2.1) fu (by omega)
  obtain ⟨i, x1, x2⟩ := index_go l hl name fu l.length 0 fu (by omega) (by omega) (by omega)
  have y1 : f_slices_IndexFunc___api_Node_api_Node__F66 fu l name = some i := by unfold f_slices_IndexFunc___api_Node_api_Node__F66; rw [lt_of]; exact x1
  have y2 : f_slices_IndexFunc___api_Node_api_Node__F22 fu l name = some i := by unfold f_slices_IndexFunc___api_Node_api_Node__F22; rw [lt_of]; exact x2
  have hw : ∃ t e, f_tree_Write fu l = some (t, e) ∧ f_lumref_TreeWrite fu l = some (t, e) := by
    unfold f_tree_Write f_lumref_TreeWrite
    rw [c1, c2, opt_of, opt_of]
    by_cases hr : r = 0
    · subst hr
      have z0 : ((0 : Int) != 0) = false := rfl
      rw [cond_ff z0, cond_ff z0]
      obtain ⟨p, p1, p2, p3⟩ := put1_ok (l.length : Int) fu (by omega)
      rw [p1, p2, opt_of, opt_of]
      simp only [lt_of]
      obtain ⟨o, q1, q2⟩ := nodes_go l hl hO fu hfu (fun j6 => (bif (decide ((j6.length : Int) > (4096 : Int))) then (some (([] : List UInt8), (2 : Int))) else (some (j6, (0 : Int))))) (fun j6 => (bif (decide ((j6.length : Int) > (4096 : Int))) then (some (([] : List UInt8), (2 : Int))) else (some (j6, (0 : Int))))) l.length 0 fu p (by omega) (by omega) (by omega) (by omega)
      cases hc : decide ((o.length : Int) > (4096 : Int))
      · exact ⟨o, 0, q1.trans (by rw [hc]; rfl), q2.trans (by rw [hc]; rfl)⟩
      · exact ⟨[], 2, q1.trans (by rw [hc]; rfl), q2.trans (by rw [hc]; rfl)⟩
    · have z1 : (r != 0) = true := by simpa using hr
      rw [cond_tt z1, cond_tt z1]
      exact ⟨[], r, rfl, rfl⟩
  obtain ⟨t, e, w1, w2⟩ := hw
  have hf : f_tree_Find fu l name = some (bif r != 0 then (0, r) else bif decide (i < 0) then (0, 9) else (i, 0)) := by
    unfold f_tree_Find
    rw [c1, opt_of, y1]
    cases r != 0
    · rw [cond_ff rfl, opt_of]
      cases decide (i < 0) <;> rfl
    · rfl
  unfold f_lumlaw_TreeSays
  simp only [lt_of]
  rw [c2, opt_of, w1, opt_of, w2, opt_of, hf, opt_of, c1, opt_of, y2, opt_of, beq_self_eq_true, beq_self_eq_true, beq_self_eq_true]
  by_cases hr : r = 0
  · subst hr
    by_cases hi : i < 0
    · simp [hi]
    · simp [hi]
  · have z1 : (r != 0) = true := by simpa using hr
    have z2 : (r == 0) = false := by simpa using hr
    simp [z1, z2]
def fuel (_ : List Nd) (_ : List UInt8) : Nat := 2000000
theorem ok_of {N : Nat} (hN : N ≤ 1048576) {u : Nd} (h : okbS_api_Node N u) : Ok u := by
  obtain ⟨h1, h2, h3, h4, h5, h6, h7⟩ := h
  have h8 := wfi64 h4
  exact ⟨Nat.le_trans h6.1 hN, Nat.le_trans h1.2 hN, h8⟩
theorem says (l : List Nd) (name : List UInt8) (h : okB okbS_api_Node 1048576 l) : f_lumlaw_TreeSays (fuel l name) l name = some true := law_ok l name h.1 (fun u hu => ok_of (Nat.le_refl _) (h.2 u hu)) 2000000 (Nat.le_refl _)
end Go.Proofs.YtjbgahmcobcojaaDoor.PTreeSays
