/- What WalkPlants leans on, part 4. No condition. -/
import Derived.Test.YtiioclkiapbjnaaGreatDoorQWalkPlantsc
import Derived.Test.YtiioclkiapbjnaaGreatDoorChecked
namespace Go.Proofs.YtiioclkiapbjnaaGreatDoor
open Go.RowKit YtiioclkiapbjnaaGreatDoor.En
set_option linter.unusedVariables false
set_option linter.unusedSimpArgs false
open Go.Value (int bool)
set_option maxRecDepth 100000 in
set_option maxHeartbeats 2000000 in
set_option maxHeartbeats 2000000 in
theorem f_tree_Check_ok (fu : Nat) (v0_0 : Value) (a0 : (List S_api_Node)) {r : Int} (h : f_tree_Check fu a0 = some r) : FnOk Tryz.prog 40 [v0_0] [(fDat (tyList tyS_api_Node) [v0_0] a0), uTabs] [] (fun (i : Unit) => { val := (int .i64 r) }) := by
 unfold f_tree_Check at h
 refine fn_enter Tryz.func40 rfl Tryz.ntmps40 rfl (fun w0 Z0 => ?_)
 refine aw_sr ?_
 refine an_ ?_
 refine aw_seq ?_
 refine sm_ ?_
 refine al_val (ov_lenD 0 rfl rfl Tryz.underlying61 rfl) ?_
 refine im_ ?_
 refine aw_cond rfl (fun hb1 => ?_) (fun hb1 => ?_)
 replace h := bif_t hb1 h
 refine aw_sr ?_
 refine an_ ?_
 refine aw_ret ?_
 refine aq_then_ret ?_
 cases h
 exact fr1_
 replace h := bif_f hb1 h
 refine aw_skip ?_
 refine aq_then ?_
 obtain ⟨kk3, hkk3, h⟩ := lt_some h
 refine aw_seq_join (ι := Unit) (fun i => (memOf w0 Z0 [] [] [(fDat (tyList tyS_api_Node) [v0_0] a0), uTabs])) (fun i => (tab [])) (fun i => kk3 () = some r) ?_ ?_
 rintro _ h
 have h : kk3 () = some r := h
 rw [hkk3] at h
 dsimp only at h
 clear hkk3
 refine aw_show (m := (memOf w0 Z0 [] [] [(fDat (tyList tyS_api_Node) [v0_0] a0), uTabs])) (S := _) ?_
 refine aw_sr ?_
 refine an_ ?_
 refine aw_ret ?_
 cases h
 exact fr1_
 clear hkk3
 refine sm_ ?_
 refine al_val (ov_lenD 0 rfl rfl Tryz.underlying61 rfl) ?_
 refine mv_ ?_
 refine al_nt ?_
 refine aw_block ?_
 refine aw_state (aw_loop (ι := Int) (fun i => (memOf w0 Z0 [] [] [(fDat (tyList tyS_api_Node) [v0_0] a0), uTabs])) (fun i => (tab [(0, v0_0), (9, v0_0), (10, (iq (a0.length : Int))), (11, (iq i))])) (fun q i => f_tree_Check_L6 a0 kk3 fu q i = some r) ?_ fu (0 : Int) h) (nm_ [] [0, 1] (by decide) ⟨rfl, rfl, rfl, rfl, trivial⟩)
 clear h
 rintro k5 l4i11 h
 have h : f_tree_Check_L6 a0 kk3 fu k5 l4i11 = some r := h
 obtain _ | k5 := k5
 rw [f_tree_Check_L6] at h; cases h
 rw [f_tree_Check_L6] at h
 refine aw_show (m := (memOf w0 Z0 [] [] [(fDat (tyList tyS_api_Node) [v0_0] a0), uTabs])) (S := _) ?_
 refine aw_sr ?_
 refine im_ ?_
 refine aw_seq ?_
 refine aw_cond rfl (fun hb7 => ?_) (fun hb7 => ?_)
 replace h := bif_t hb7 h
 refine aw_skip ?_
 refine aq_then ?_
 refine aw_seq ?_
 refine aw_block ?_
 refine sm_ ?_
 obtain ⟨u8, hu9, h⟩ := opt_some h
 refine al_idxD 0 hu9 rfl rfl rfl Tryz.underlying61 sz64 rfl (fun p10 => ?_)
 refine al_loadPA 0 rfl rfl Tryz.underlying64 sz64 rfl rfl (fun cs12 => ?_)
 refine al_use (ι := Value) 0 rfl (fun j => cs12 = [(str u8.Name), (iq u8.Kind), (iq u8.Mode), (iq u8.Time), (iq u8.Size), j, (str u8.Link)]) (fun j => [(fDat (tyList tyA8u8) [j] u8.Parts)]) encnS_api_Node (fun s11 hq => ?_)
 subst hq
 refine al_alloc (zs := [(str ([] : List UInt8)), (iq (0 : Int)), (iq (0 : Int)), (iq (0 : Int)), (iq (0 : Int)), nS, (str ([] : List UInt8))]) (zeroOf_to to64) rfl rfl (fun g13 => ?_)
 refine as_ ?_
 refine al_store (i := 0) (vs := [(str u8.Name), (iq u8.Kind), (iq u8.Mode), (iq u8.Time), (iq u8.Size), s11, (str u8.Link)]) (cs' := [(str u8.Name), (iq u8.Kind), (iq u8.Mode), (iq u8.Time), (iq u8.Size), s11, (str u8.Link)]) rfl rfl rfl sz64 (cv_rfl rfl) rfl (co_val rfl (co_val rfl (co_val rfl (co_val rfl (co_val rfl (co_fz 0 rfl (co_val rfl co_nil))))))) (Nat.le_of_ble_eq_true rfl) rfl rfl ?_
 refine al_nt ?_
 refine aw_seq ?_
 refine aw_sr ?_
 refine al_val (ov_fieldA (p := 0) rfl Tryz.underlying64 rfl sz9 rfl rfl rfl) ?_
 refine al_val (ov_load (i := 0) (v := (str u8.Name)) rfl rfl Tryz.underlying9 sz9 rfl rfl rfl rfl) ?_
 obtain ⟨r15, hc14, h⟩ := opt_some h
 refine al_call (vs := [(str u8.Name)]) (f_names_Check_ok fu u8.Name hc14) [] [] [0] (pre_fz 4 rfl pre_nil) rfl (by simp) (by decide) (.inl rfl) rfl Tryz.func62 rfl rfl rfl (fun _ => ?_)
 refine an_ ?_
 refine sm_ ?_
 refine im_ ?_
 refine aw_cond rfl (fun hb16 => ?_) (fun hb16 => ?_)
 replace h := bif_t hb16 h
 refine sm_ ?_
 refine an_ ?_
 refine aw_ret ?_
 refine aq_then_ret ?_
 refine aq_block_ret ?_
 refine aq_then_ret ?_
 refine aq_then_ret ?_
 refine aq_block_ret ?_
 refine aq_then_ret ?_
 cases h
 exact fr1_
 replace h := bif_f hb16 h
 refine aw_skip ?_
 refine aq_then ?_
 refine aw_block ?_
 obtain ⟨kk18, hkk18, h⟩ := lt_some h
 refine aw_seq_join (ι := Bool) (fun i => (mm5 w0 Z0 a0 g13 p10 s11 u8 v0_0)) (fun i => (tab [(0, v0_0), (3, (iq l4i11)), (4, (pq g13)), (9, v0_0), (10, (iq (a0.length : Int))), (11, (iq l4i11)), (22, (bool i))])) (fun i => kk18 i = some r) ?_ ?_
 rintro j17b22 h
 have h : kk18 j17b22 = some r := h
 rw [hkk18] at h
 dsimp only at h
 clear hkk18
 refine aw_show (m := (mm5 w0 Z0 a0 g13 p10 s11 u8 v0_0)) (S := _) ?_
 refine aw_cond rfl (fun hb19 => ?_) (fun hb19 => ?_)
 replace h := bif_t hb19 h
 refine aw_sr ?_
 refine an_ ?_
 refine aw_ret ?_
 refine aq_block_ret ?_
 refine aq_block_ret ?_
 refine aq_then_ret ?_
 refine aq_then_ret ?_
 refine aq_block_ret ?_
 refine aq_then_ret ?_
 cases h
 exact fr1_
 replace h := bif_f hb19 h
 refine aw_sr ?_
 refine al_val (ov_fieldA (p := 1) rfl Tryz.underlying64 rfl sz3 rfl rfl rfl) ?_
 refine al_val (ov_load (i := 0) (v := (iq u8.Kind)) rfl rfl Tryz.underlying3 sz3 rfl rfl rfl rfl) ?_
 obtain ⟨r21, hc20, h⟩ := opt_some h
 refine al_call (vs := [(iq u8.Kind)]) (f_tree_Known_ok fu u8.Kind hc20) [] [] [0] pre_nil rfl (by simp) (by decide) (.inl rfl) rfl Tryz.func31 rfl rfl rfl (fun _ => ?_)
 refine al_val (ov_not rfl rfl) ?_
 refine an_ ?_
 refine aw_cond rfl (fun hb22 => ?_) (fun hb22 => ?_)
 replace h := bif_t hb22 h
 refine aw_sr ?_
 refine an_ ?_
 refine aw_ret ?_
 refine aq_block_ret ?_
 refine aq_block_ret ?_
 refine aq_then_ret ?_
 refine aq_then_ret ?_
 refine aq_block_ret ?_
 refine aq_then_ret ?_
 cases h
 exact fr1_
 replace h := bif_f hb22 h
 refine aw_sr ?_
 refine al_val (ov_load (i := 0) (v := (ag [(str u8.Name), (iq u8.Kind), (iq u8.Mode), (iq u8.Time), (iq u8.Size), s11, (str u8.Link)])) rfl rfl Tryz.underlying64 sz64 rfl rfl rfl rfl) ?_
 obtain ⟨r24, hc23, h⟩ := opt_some h
 refine al_call (vs := [(ag [(str u8.Name), (iq u8.Kind), (iq u8.Mode), (iq u8.Time), (iq u8.Size), s11, (str u8.Link)])]) (f_tree_formed_ok fu s11 u8 hc23) [] [] [0] (pre_fz 1 rfl pre_nil) rfl (by simp) (by decide) (.inl rfl) rfl Tryz.func63 rfl rfl rfl (fun _ => ?_)
 refine al_val (ov_not rfl rfl) ?_
 refine an_ ?_
 refine aw_cond rfl (fun hb25 => ?_) (fun hb25 => ?_)
 replace h := bif_t hb25 h
 refine aw_sr ?_
 refine an_ ?_
 refine aw_ret ?_
 refine aq_block_ret ?_
 refine aq_block_ret ?_
 refine aq_then_ret ?_
 refine aq_then_ret ?_
 refine aq_block_ret ?_
 refine aq_then_ret ?_
 cases h
 exact fr1_
 replace h := bif_f hb25 h
 refine aw_sr ?_
 refine al_val (ov_fieldA (p := 6) rfl Tryz.underlying64 rfl sz9 rfl rfl rfl) ?_
 refine al_val (ov_load (i := 0) (v := (str u8.Link)) rfl rfl Tryz.underlying9 sz9 rfl rfl rfl rfl) ?_
 refine al_val (ov_strLen Tryz.underlying9 rfl rfl) ?_
 refine in_ ?_
 refine an_ ?_
 refine aw_cond rfl (fun hb26 => ?_) (fun hb26 => ?_)
 replace h := bif_t hb26 h
 refine aw_sr ?_
 refine an_ ?_
 refine aw_ret ?_
 refine aq_block_ret ?_
 refine aq_block_ret ?_
 refine aq_then_ret ?_
 refine aq_then_ret ?_
 refine aq_block_ret ?_
 refine aq_then_ret ?_
 cases h
 exact fr1_
 replace h := bif_f hb26 h
 obtain ⟨kk28, hkk28, h⟩ := lt_some h
 refine aw_seq_join (ι := Bool) (fun i => (mm6 w0 Z0 a0 p10 s11 u8 v0_0)) (fun i => (tab [(0, v0_0), (9, v0_0), (10, (iq (a0.length : Int))), (11, (iq l4i11)), (61, (bool i))])) (fun i => kk28 i = some r) ?_ ?_
 rintro j27b61 h
 have h : kk28 j27b61 = some r := h
 rw [hkk28] at h
 dsimp only at h
 clear hkk28
 refine aw_show (m := (mm6 w0 Z0 a0 p10 s11 u8 v0_0)) (S := _) ?_
 refine aw_cond rfl (fun hb29 => ?_) (fun hb29 => ?_)
 replace h := bif_t hb29 h
 refine aw_sr ?_
 refine an_ ?_
 refine aw_ret ?_
 refine aq_block_ret ?_
 refine aq_block_ret ?_
 refine aq_then_ret ?_
 refine aq_then_ret ?_
 refine aq_block_ret ?_
 refine aq_then_ret ?_
 cases h
 exact fr1_
 replace h := bif_f hb29 h
 refine aw_skip ?_
 refine aq_block ?_
 refine aq_block ?_
 refine aq_then ?_
 refine aw_region ?_
 refine in_ ?_
 refine mv_ ?_
 refine al_nil ?_
 exact aq_again k5 (wq (l4i11 + (1 : Int))) (Nat.lt_succ_self _) h (nm_ [] [0, 4] (by decide) ⟨rfl, rfl, rfl, rfl, trivial⟩)
 clear hkk28
 rcases Bool.eq_false_or_eq_true (decide (l4i11 > (0 : Int))) with hb30 | hb30
 replace h := bif_t hb30 h
 obtain ⟨u31, hu32, h⟩ := opt_some h
 refine aw_region_draw 13 [(62, (fE (iq l4i11))), (63, (fE (bool true))), (64, (fE (bool true))), (65, (fE (pq g13))), (66, (fE (str u8.Name))), (67, (fE v0_0)), (68, (fE (iq l4i11))), (69, (fE (iq (wq (l4i11 - (1 : Int)))))), (70, (fun p33 => (fPtr tyS_api_Node p33 u31))), (71, (fun p34 => (fPtr tyStr p34 u31.Name))), (72, (fE (str u31.Name))), (73, (fE (bool (Op.bytesLess u8.Name u31.Name || u8.Name == u31.Name)))), (74, (fE (bool (Op.bytesLess u8.Name u31.Name || u8.Name == u31.Name))))] (tab [(0, v0_0), (3, (iq l4i11)), (4, (pq g13)), (9, v0_0), (10, (iq (a0.length : Int))), (11, (iq l4i11))]) mixed (by kernel_rfl) rfl rfl rfl (fun a hs => hs.tab _ (allT_mem ⟨rfl, rfl, rfl, rfl, rfl, rfl, trivial⟩)) ⟨⟨rfl, ld_val (ov_move rfl rfl)⟩, ⟨rfl, ld_eq (j := 0) rfl rfl (ld_val (ov_cast (by first | rw [hb30] | rfl) (ov_int rfl rfl rfl rfl)))⟩, ⟨rfl, ld_eq (j := 1) rfl rfl (ld_val (ov_cast (by first | rw [hb30] | rfl) (ov_move rfl rfl)))⟩, ⟨rfl, ld_eq (j := 2) rfl rfl (ld_val (ov_fieldA (p := 0) rfl Tryz.underlying64 rfl sz9 rfl rfl rfl))⟩, ⟨rfl, ld_eq (j := 2) rfl rfl (ld_eq (j := 3) rfl rfl (ld_val (ov_load (i := 0) (v := (str u8.Name)) rfl rfl Tryz.underlying9 sz9 rfl rfl rfl rfl)))⟩, ⟨rfl, ld_eq (j := 2) rfl rfl (ld_val (ov_move rfl rfl))⟩, ⟨rfl, ld_eq (j := 2) rfl rfl (ld_val (ov_move rfl rfl))⟩, ⟨rfl, ld_eq (j := 2) rfl rfl (ld_eq (j := 6) rfl rfl (ld_val (ov_int rfl rfl rfl rfl)))⟩, ⟨rfl, ld_eq (j := 2) rfl rfl (ld_eq (j := 5) rfl rfl (ld_eq (j := 7) rfl rfl (ld_of (of_idxD 0 hu32 rfl rfl rfl Tryz.underlying61 sz64 rfl))))⟩, ⟨rfl, ld_eq (j := 2) rfl rfl (ld_fact (j := 8) rfl rfl (fun p33 => ld_of (of_fieldD (pr := fun (y : S_api_Node) => y.Name) 0 rfl subS_api_Node_0 rfl Tryz.underlying64 rfl sz9 rfl rfl)))⟩, ⟨rfl, ld_eq (j := 2) rfl rfl (ld_fact (j := 9) rfl rfl (fun p34 => ld_val (ov_loadP (ds := [(str u31.Name)]) 0 rfl (fun h => h) rfl Tryz.underlying9 sz9 rfl rfl rfl)))⟩, ⟨rfl, ld_eq (j := 2) rfl rfl (ld_eq (j := 4) rfl rfl (ld_eq (j := 10) rfl rfl (ld_val (ov_strCmp rfl rfl rfl rfl))))⟩, ⟨rfl, ld_eq (j := 2) rfl rfl (ld_eq (j := 11) rfl rfl (ld_val (ov_pick_t rfl rfl rfl)))⟩, trivial⟩ ?_
 refine tl_eq 12 rfl ?_
 refine tl_done ?_
 refine as_ ?_
 refine al_nil ?_
 exact aq_join (Op.bytesLess u8.Name u31.Name || u8.Name == u31.Name) h (nm_ [] [0, 1, 2, 3, 4] (by decide) ⟨rfl, rfl, rfl, rfl, rfl, trivial⟩)
 replace h := bif_f hb30 h
 refine aw_region_draw 13 [(62, (fE (iq l4i11))), (63, (fE (bool false))), (64, (fE (bool false))), (65, (fE undef)), (66, (fE undef)), (67, (fE undef)), (68, (fE undef)), (69, (fE undef)), (70, (fE undef)), (71, (fE undef)), (72, (fE undef)), (73, (fE undef)), (74, (fE (bool false)))] (tab [(0, v0_0), (3, (iq l4i11)), (4, (pq g13)), (9, v0_0), (10, (iq (a0.length : Int))), (11, (iq l4i11))]) mixed (by kernel_rfl) rfl rfl rfl (fun a hs => hs.tab _ (allT_mem ⟨rfl, rfl, rfl, rfl, rfl, rfl, trivial⟩)) ⟨⟨rfl, ld_val (ov_move rfl rfl)⟩, ⟨rfl, ld_eq (j := 0) rfl rfl (ld_val (ov_cast (by first | rw [hb30] | rfl) (ov_int rfl rfl rfl rfl)))⟩, ⟨rfl, ld_eq (j := 1) rfl rfl (ld_val (ov_cast (by first | rw [hb30] | rfl) (ov_move rfl rfl)))⟩, ⟨rfl, ld_eq (j := 2) rfl rfl (ld_skip)⟩, ⟨rfl, ld_eq (j := 2) rfl rfl (ld_skip)⟩, ⟨rfl, ld_eq (j := 2) rfl rfl (ld_skip)⟩, ⟨rfl, ld_eq (j := 2) rfl rfl (ld_skip)⟩, ⟨rfl, ld_eq (j := 2) rfl rfl (ld_skip)⟩, ⟨rfl, ld_eq (j := 2) rfl rfl (ld_skip)⟩, ⟨rfl, ld_eq (j := 2) rfl rfl (ld_skip)⟩, ⟨rfl, ld_eq (j := 2) rfl rfl (ld_skip)⟩, ⟨rfl, ld_eq (j := 2) rfl rfl (ld_skip)⟩, ⟨rfl, ld_eq (j := 2) rfl rfl (ld_eq (j := 11) rfl rfl (ld_val (ov_pick_f rfl rfl rfl)))⟩, trivial⟩ ?_
 refine tl_eq 12 rfl ?_
 refine tl_done ?_
 refine as_ ?_
 refine al_nil ?_
 exact aq_join false h (nm_ [] [0, 1, 2, 3, 4] (by decide) ⟨rfl, rfl, rfl, rfl, rfl, trivial⟩)
 clear hkk18
 refine aw_region ?_
 refine al_val (ov_fieldA (p := 2) rfl Tryz.underlying64 rfl sz3 rfl rfl rfl) ?_
 refine al_val (ov_load (i := 0) (v := (iq u8.Mode)) rfl rfl Tryz.underlying3 sz3 rfl rfl rfl rfl) ?_
 refine in_ ?_
 refine mv_ ?_
 refine al_caseB 26 rfl (fun hb35 => ?_) (fun hb35 => ?_)
 replace h := bif_t hb35 h
 iterate 3 refine al_skip ?_
 refine al_val (ov_pick_t rfl rfl rfl) ?_
 refine mv_ ?_
 iterate 3 refine al_skip ?_
 refine al_val (ov_pick_t rfl rfl rfl) ?_
 refine mv_ ?_
 iterate 3 refine al_skip ?_
 refine al_val (ov_pick_t rfl rfl rfl) ?_
 refine mv_ ?_
 iterate 4 refine al_skip ?_
 refine al_val (ov_pick_t rfl rfl rfl) ?_
 refine as_ ?_
 refine al_nil ?_
 exact aq_join true h (nm_ [0] [3, 0, 1, 2, 4] (by decide) ⟨rfl, rfl, rfl, rfl, rfl, rfl, rfl, trivial⟩)
 replace h := bif_f hb35 h
 refine al_val (ov_fieldA (p := 2) rfl Tryz.underlying64 rfl sz3 rfl rfl rfl) ?_
 refine al_val (ov_load (i := 0) (v := (iq u8.Mode)) rfl rfl Tryz.underlying3 sz3 rfl rfl rfl rfl) ?_
 refine in_ ?_
 refine al_val (ov_pick_f rfl rfl rfl) ?_
 refine mv_ ?_
 refine al_caseB 31 rfl (fun hb36 => ?_) (fun hb36 => ?_)
 replace h := bif_t hb36 h
 iterate 3 refine al_skip ?_
 refine al_val (ov_pick_t rfl rfl rfl) ?_
 refine mv_ ?_
 iterate 3 refine al_skip ?_
 refine al_val (ov_pick_t rfl rfl rfl) ?_
 refine mv_ ?_
 iterate 4 refine al_skip ?_
 refine al_val (ov_pick_t rfl rfl rfl) ?_
 refine as_ ?_
 refine al_nil ?_
 exact aq_join true h (nm_ [0] [3, 0, 1, 2, 4] (by decide) ⟨rfl, rfl, rfl, rfl, rfl, rfl, rfl, trivial⟩)
 replace h := bif_f hb36 h
 refine al_val (ov_fieldA (p := 4) rfl Tryz.underlying64 rfl sz3 rfl rfl rfl) ?_
 refine al_val (ov_load (i := 0) (v := (iq u8.Size)) rfl rfl Tryz.underlying3 sz3 rfl rfl rfl rfl) ?_
 refine in_ ?_
 refine al_val (ov_pick_f rfl rfl rfl) ?_
 refine mv_ ?_
 refine al_caseB 36 rfl (fun hb37 => ?_) (fun hb37 => ?_)
 replace h := bif_t hb37 h
 iterate 3 refine al_skip ?_
 refine al_val (ov_pick_t rfl rfl rfl) ?_
 refine mv_ ?_
 iterate 4 refine al_skip ?_
 refine al_val (ov_pick_t rfl rfl rfl) ?_
 refine as_ ?_
 refine al_nil ?_
 exact aq_join true h (nm_ [0] [3, 0, 1, 2, 4] (by decide) ⟨rfl, rfl, rfl, rfl, rfl, rfl, rfl, trivial⟩)
 replace h := bif_f hb37 h
 refine al_val (ov_fieldA (p := 4) rfl Tryz.underlying64 rfl sz3 rfl rfl rfl) ?_
 refine al_val (ov_load (i := 0) (v := (iq u8.Size)) rfl rfl Tryz.underlying3 sz3 rfl rfl rfl rfl) ?_
 refine in_ ?_
 refine al_val (ov_pick_f rfl rfl rfl) ?_
 refine mv_ ?_
 refine al_caseB 41 rfl (fun hb38 => ?_) (fun hb38 => ?_)
 replace h := bif_t hb38 h
 iterate 4 refine al_skip ?_
 refine al_val (ov_pick_t rfl rfl rfl) ?_
 refine as_ ?_
 refine al_nil ?_
 exact aq_join true h (nm_ [0] [3, 0, 1, 2, 4] (by decide) ⟨rfl, rfl, rfl, rfl, rfl, rfl, rfl, trivial⟩)
 replace h := bif_f hb38 h
 refine al_val (ov_fieldA (p := 5) rfl Tryz.underlying64 rfl sz62 rfl rfl rfl) ?_
 refine al_val (ov_load (i := 0) (v := s11) rfl rfl Tryz.underlying62 sz62 rfl rfl rfl rfl) ?_
 refine al_val (ov_lenD 0 rfl rfl Tryz.underlying62 rfl) ?_
 refine in_ ?_
 refine al_val (ov_pick_f rfl rfl rfl) ?_
 refine as_ ?_
 refine al_nil ?_
 exact aq_join (decide ((u8.Parts.length : Int) > (300 : Int))) h (nm_ [0] [3, 0, 1, 2, 4] (by decide) ⟨rfl, rfl, rfl, rfl, rfl, rfl, rfl, trivial⟩)
 replace h := bif_f hb7 h
 refine aw_exit ?_
 refine aq_then_exit ?_
 refine aq_then_exit ?_
 refine aq_block_exit ?_
 exact aq_join () h (nm_ [] [0, 1] (by decide) trivial)
 -- STUCK (encoding/binary.bigEndian).AppendUint64: binary.go:222: call: append to data
def f_strings_TrimLeft (fu : Nat) (a0 a1 : List UInt8) : Option (List UInt8) := match a1 with | [c] => req (c.toNat < 128) (some (Lib.trimLeftB a0 c)) | _ => none
theorem f_strings_TrimLeft_ok (fu : Nat) (a0 a1 : List UInt8) {r : List UInt8} (h : f_strings_TrimLeft fu a0 a1 = some r) : FnOk Tryz.prog 84 [(str a0), (str a1)] [] [] (fun (i : Unit) => { val := (str r) }) := by
  unfold f_strings_TrimLeft at h
  split at h
  · rename_i c
    obtain ⟨hc, h⟩ := req_some h
    obtain rfl := Option.some.inj h
    refine fnok_pure fun w => ?_
    exact (Tryz.strings_TrimLeft_one ⟨a0.toArray⟩ c hc w).mono fun e w' h9 => ⟨by simpa [str] using h9.1, by rw [h9.2]; exact Below.refl _ _⟩
  · cases h
def f_binary_BEAppendUint64_nil (fu : Nat) (a0 : Unit) (a2 : Int) : Option (List UInt8) := req (0 ≤ a2 ∧ a2 < 18446744073709551616) (some (Lib.beBytes 8 a2.toNat))
theorem f_binary_BEAppendUint64_nil_ok (fu : Nat) (a0 : Unit) (a2 : Int) {r : List UInt8} (h : f_binary_BEAppendUint64_nil fu a0 a2 = some r) : FnOk Tryz.prog 83 [(ag []), (Value.slice none 0 0), (int .u64 a2)] [] [] (fun (i : Value) => { val := i, own := [(oRow i 5 tyU8 r)] }) := by
  unfold f_binary_BEAppendUint64_nil at h
  obtain ⟨hc, h⟩ := req_some h
  obtain rfl := Option.some.inj h
  obtain ⟨n, rfl⟩ : ∃ n : Nat, a2 = n := ⟨a2.toNat, by omega⟩
  refine fnok_own fun w => ?_
  refine (Tryz.binary_BE_AppendUint64 w.heap.size 0 n (by omega) (.slice none 0 0) [] w ⟨rfl, .inl ⟨rfl, rfl⟩⟩ (Nat.le_refl _) (by omega)).mono fun ex w' h9 => ?_
  obtain ⟨v, h1, h2, h3⟩ := h9
  refine ⟨v, _, h1, ?_, fun Z => u8_row _, h3⟩
  rw [Lib.beBytes_length]
  show World.ownsRow _ _ _ 1 _ _ _
  simpa using h2
def f_num_digits (fu : Nat) (a0 : Int) : Option (List UInt8) := (opt (f_binary_BEAppendUint64_nil fu () a0) fun (r2 : (List UInt8)) => (opt (f_strings_TrimLeft fu r2 ([0] : List UInt8)) fun (r5 : (List UInt8)) => (some r5)))
set_option maxRecDepth 100000 in
theorem f_num_digits_ok (fu : Nat) (a0 : Int) {r : (List UInt8)} (h : f_num_digits fu a0 = some r) : FnOk Tryz.prog 64 [(int .u64 a0)] [] [] (fun (i : Unit) => { val := (str r) }) := by
 unfold f_num_digits at h
 refine fn_enter Tryz.func64 rfl Tryz.ntmps64 rfl (fun w0 Z0 => ?_)
 refine aw_sr ?_
 refine an_ ?_
 refine aw_sr ?_
 refine al_val (ov_load0 Tryz.underlying105 sz105 rfl rfl rfl) ?_
 refine mv_ ?_
 obtain ⟨r2, hc1, h⟩ := opt_some h
 refine al_call (vs := [(ag []), nS, (uq a0)]) (f_binary_BEAppendUint64_nil_ok fu () a0 hc1) [] [] [] pre_nil rfl (by simp) (by decide) (.inl rfl) rfl Tryz.func83 rfl rfl rfl (fun v3 => ?_)
 refine al_val (ov_toStrR 0 rfl rfl Tryz.underlying84 Tryz.underlying5 Tryz.underlying9 rfl) ?_
 refine an_ ?_
 refine sm_ ?_
 obtain ⟨r5, hc4, h⟩ := opt_some h
 refine al_call (vs := [(str r2), (str ([0] : List UInt8))]) (f_strings_TrimLeft_ok fu r2 ([0] : List UInt8) hc4) [] [] [0] pre_nil rfl (by simp) (by decide) (.inl rfl) rfl Tryz.func84 rfl rfl rfl (fun _ => ?_)
 refine an_ ?_
 refine aw_ret ?_
 cases h
 exact fr1_
def f_num_Put (fu : Nat) (a0 : Int) : Option (List UInt8) := (opt (f_num_digits fu a0) fun (r2 : (List UInt8)) => (req (0 ≤ (IntKind.u8.wrap (r2.length : Int)) ∧ (IntKind.u8.wrap (r2.length : Int)) ≤ 255) (req (([(UInt8.ofNat ((IntKind.u8.wrap (r2.length : Int))).toNat)]).length + r2.length ≤ 9223372036854775807) (some (([(UInt8.ofNat ((IntKind.u8.wrap (r2.length : Int))).toNat)]) ++ r2)))))
set_option maxHeartbeats 2000000 in
set_option maxRecDepth 100000 in
theorem f_num_Put_ok (fu : Nat) (a0 : Int) {r : (List UInt8)} (h : f_num_Put fu a0 = some r) : FnOk Tryz.prog 42 [(int .u64 a0)] [] [] (fun (i : Unit) => { val := (str r) }) := by
 unfold f_num_Put at h
 refine fn_enter Tryz.func42 rfl Tryz.ntmps42 rfl (fun w0 Z0 => ?_)
 refine aw_sr ?_
 refine an_ ?_
 refine sm_ ?_
 obtain ⟨r2, hc1, h⟩ := opt_some h
 refine al_call (vs := [(uq a0)]) (f_num_digits_ok fu a0 hc1) [] [] [] pre_nil rfl (by simp) (by decide) (.inl rfl) rfl Tryz.func64 rfl rfl rfl (fun _ => ?_)
 refine an_ ?_
 refine sm_ ?_
 refine al_val (ov_strLen Tryz.underlying9 rfl rfl) ?_
 refine al_val (ov_convInt (by rw [Tryz.underlying3]; rfl) Tryz.underlying5 rfl rfl) ?_
 obtain ⟨hc4, h⟩ := req_some h
 refine al_buildSlice (τ := tyU8) (e := 5) (k := 1) (sz := 0) (by_ := 0) (z := undef) (cs := [(i8 (w8 (r2.length : Int)))]) (xs := [(UInt8.ofNat ((w8 (r2.length : Int))).toNat)]) rfl (by decide) (fun w a hm hs => ⟨([(i8 (w8 (r2.length : Int)))]).toArray, rfl, by simp only [List.map_toArray, List.map_cons, List.map_nil, hs.ev (x := .tmp 8) rfl]; exact run_bs [(i8 (w8 (r2.length : Int)))] [(i8 (w8 (r2.length : Int)))] Tryz.underlying84 to5 rfl rfl (bs_cons (l := [(i8 (w8 (r2.length : Int)))]) (cs := []) (cv_rfl rfl) rfl bs_nil) hm⟩) (fun hm => ⟨_, _, rfl, (fun _ => u8_rep hc4) hm, rfl⟩) rfl (fun v3 => ?_)
 refine al_val (ov_toStrR 0 rfl rfl Tryz.underlying84 Tryz.underlying5 Tryz.underlying9 rfl) ?_
 refine mv_ ?_
 obtain ⟨hc5, h⟩ := req_some h
 refine al_val (ov_strAdd hc5 rfl rfl rfl) ?_
 refine an_ ?_
 refine aw_ret ?_
 cases h
 exact fr1_
def f_tree_Write_1 (fu : Nat) (a0 : Int) : Option (List UInt8) := (opt (f_num_Put fu (IntKind.u64.wrap a0)) fun (r2 : (List UInt8)) => (some r2))
set_option maxRecDepth 100000 in
theorem f_tree_Write_1_ok (fu : Nat) (a0 : Int) {r : (List UInt8)} (h : f_tree_Write_1 fu a0 = some r) : FnOk Tryz.prog 41 [(int .i64 a0)] [] [] (fun (i : Unit) => { val := (str r) }) := by
 unfold f_tree_Write_1 at h
 refine fn_enter Tryz.func41 rfl Tryz.ntmps41 rfl (fun w0 Z0 => ?_)
 refine aw_sr ?_
 refine an_ ?_
 refine sm_ ?_
 refine al_val (ov_convInt (by rw [Tryz.underlying3]; rfl) Tryz.underlying81 rfl rfl) ?_
 obtain ⟨r2, hc1, h⟩ := opt_some h
 refine al_call (vs := [(uq (wu a0))]) (f_num_Put_ok fu (wu a0) hc1) [] [] [] pre_nil rfl (by simp) (by decide) (.inl rfl) rfl Tryz.func42 rfl rfl rfl (fun _ => ?_)
 refine an_ ?_
 refine aw_ret ?_
 cases h
 exact fr1_
def f_num_PutText (fu : Nat) (a0 : (List UInt8)) : Option ((List UInt8) × Int) := (bif (decide ((a0.length : Int) > (1024 : Int))) then (some (([] : List UInt8), (2 : Int))) else (opt (f_strings_ReplaceAll fu a0 ([0] : List UInt8) ([0, 255] : List UInt8)) fun (r3 : (List UInt8)) => (req (r3.length + ([0, 0] : List UInt8).length ≤ 9223372036854775807) (some ((r3 ++ ([0, 0] : List UInt8)), (0 : Int))))))
set_option maxHeartbeats 2000000 in
set_option maxRecDepth 100000 in
theorem f_num_PutText_ok (fu : Nat) (a0 : (List UInt8)) {r : ((List UInt8) × Int)} (h : f_num_PutText fu a0 = some r) : FnOk Tryz.prog 43 [(str a0)] [uMax] [] (fun (i : Unit) => { val := (Value.tuple #[(str r.1), (int .i64 r.2)]) }) := by
 unfold f_num_PutText at h
 refine fn_enter Tryz.func43 rfl Tryz.ntmps43 rfl (fun w0 Z0 => ?_)
 refine aw_sr ?_
 refine as_ ?_
 refine an_ ?_
 refine aw_seq ?_
 refine sm_ ?_
 refine al_val (ov_strLen Tryz.underlying9 rfl rfl) ?_
 refine im_ ?_
 refine aw_cond rfl (fun hb1 => ?_) (fun hb1 => ?_)
 replace h := bif_t hb1 h
 refine aw_sr ?_
 refine as_ ?_
 refine an_ ?_
 refine aw_ret ?_
 refine aq_then_ret ?_
 cases h
 exact fr2_
 replace h := bif_f hb1 h
 refine aw_skip ?_
 refine aq_tr ?_
 refine mv_ ?_
 obtain ⟨r3, hc2, h⟩ := opt_some h
 refine al_call (vs := [(str a0), (str ([0] : List UInt8)), (str ([0, 255] : List UInt8))]) (f_strings_ReplaceAll_ok fu a0 ([0] : List UInt8) ([0, 255] : List UInt8) hc2) [] [] [] (pre_fz 0 rfl pre_nil) rfl (by simp) (by decide) (.inl rfl) rfl Tryz.func65 rfl rfl rfl (fun _ => ?_)
 obtain ⟨hc4, h⟩ := req_some h
 refine al_val (ov_strAdd hc4 rfl rfl rfl) ?_
 refine as_ ?_
 refine an_ ?_
 refine aw_ret ?_
 cases h
 exact fr2_
def f_num_turned_L7 (a0 : (List UInt8)) (kk4 : ((List UInt8) → Option (List UInt8))) : Nat → (List UInt8) → Int → Option (List UInt8)
  | 0, _, _ => none
  | k6 + 1, l5x3, l5i9 => (bif (decide (l5i9 < (a0.length : Int))) then (opt (at? l5x3 l5i9) fun (u9 : UInt8) => (opt (at? l5x3 l5i9) fun (u13 : UInt8) => (req (0 ≤ (bits .xor .u8 (if IntKind.signed .u8 then -1 else IntKind.max .u8) (u9.toNat : Int)) ∧ (bits .xor .u8 (if IntKind.signed .u8 then -1 else IntKind.max .u8) (u9.toNat : Int)) ≤ 255) (f_num_turned_L7 a0 kk4 k6 (l5x3.set (l5i9).toNat (UInt8.ofNat ((bits .xor .u8 (if IntKind.signed .u8 then -1 else IntKind.max .u8) (u9.toNat : Int))).toNat)) (IntKind.i64.wrap (l5i9 + (1 : Int))))))) else (kk4 l5x3))
def f_num_turned (fu : Nat) (a0 : (List UInt8)) : Option (List UInt8) := (req (a0.length ≤ 9223372036854775807) (lt (fun (j3x3 : (List UInt8)) => (some j3x3)) fun (kk4 : (List UInt8) → Option (List UInt8)) => (f_num_turned_L7 a0 kk4 fu a0 (0 : Int))))
set_option maxHeartbeats 2000000 in
set_option maxRecDepth 100000 in
theorem f_num_turned_ok (fu : Nat) (a0 : (List UInt8)) {r : (List UInt8)} (h : f_num_turned fu a0 = some r) : FnOk Tryz.prog 66 [(str a0)] [] [] (fun (i : Unit) => { val := (str r) }) := by
 unfold f_num_turned at h
 refine fn_enter Tryz.func66 rfl Tryz.ntmps66 rfl (fun w0 Z0 => ?_)
 refine aw_sr ?_
 refine an_ ?_
 refine sm_ ?_
 obtain ⟨hc1, h⟩ := req_some h
 refine al_bytesO hc1 rfl Tryz.underlying9 Tryz.underlying84 Tryz.underlying5 rfl (fun s2 => ?_)
 refine an_ ?_
 obtain ⟨kk4, hkk4, h⟩ := lt_some h
 refine aw_seq_join (ι := (List UInt8)) (fun i => (memOf w0 Z0 [] [(oBy s2 5 i)] [])) (fun i => (tab [(3, s2)])) (fun i => kk4 i = some r) ?_ ?_
 rintro j3x3 h
 have h : kk4 j3x3 = some r := h
 rw [hkk4] at h
 dsimp only at h
 clear hkk4
 refine aw_show (m := (memOf w0 Z0 [] [(oBy s2 5 j3x3)] [])) (S := _) ?_
 refine sm_ ?_
 refine al_val (ov_toStrO 0 rfl rfl Tryz.underlying84 Tryz.underlying5 Tryz.underlying9 rfl) ?_
 refine an_ ?_
 refine aw_ret ?_
 cases h
 exact fr1_
 clear hkk4
 refine sm_ ?_
 refine al_val (ov_lenO 0 rfl rfl Tryz.underlying84 rfl) ?_
 refine mv_ ?_
 refine al_nt ?_
 refine aw_block ?_
 refine aw_state (aw_loop (ι := (List UInt8) × Int) (fun i => (memOf w0 Z0 [] [(oBy s2 5 i.1)] [])) (fun i => (tab [(3, s2), (8, (iq (a0.length : Int))), (9, (iq i.2))])) (fun q i => f_num_turned_L7 a0 kk4 q i.1 i.2 = some r) ?_ fu (a0, (0 : Int)) h) (nm_ [0] [] (by decide) ⟨rfl, rfl, rfl, trivial⟩)
 clear h
 rintro k6 ⟨l5x3, l5i9⟩ h
 have h : f_num_turned_L7 a0 kk4 k6 l5x3 l5i9 = some r := h
 obtain _ | k6 := k6
 rw [f_num_turned_L7] at h; cases h
 rw [f_num_turned_L7] at h
 refine aw_show (m := (memOf w0 Z0 [] [(oBy s2 5 l5x3)] [])) (S := _) ?_
 refine aw_sr ?_
 refine im_ ?_
 refine aw_seq ?_
 refine aw_cond rfl (fun hb8 => ?_) (fun hb8 => ?_)
 replace h := bif_t hb8 h
 refine aw_skip ?_
 refine aq_then ?_
 refine aw_seq ?_
 refine aw_block ?_
 refine sm_ ?_
 refine an_ ?_
 refine aw_region ?_
 refine mv_ ?_
 refine mv_ ?_
 refine mv_ ?_
 refine mv_ ?_
 obtain ⟨u9, hu10, h⟩ := opt_some h
 refine al_idxO 0 (at_some hu10).1 (at_some hu10).2.1 rfl rfl rfl Tryz.underlying84 sz5 rfl (fun p11 hp12 => ?_)
 refine al_val (ov_loadO (ds := [(i8 (u9.toNat : Int))]) 0 rfl hp12 (at_some hu10).2.2 (fun h => h) rfl Tryz.underlying5 sz5 rfl rfl rfl) ?_
 refine al_val (ov_compl rfl rfl) ?_
 obtain ⟨u13, hu14, h⟩ := opt_some h
 refine al_idxO 0 (at_some hu14).1 (at_some hu14).2.1 rfl rfl rfl Tryz.underlying84 sz5 rfl (fun p15 hp16 => ?_)
 obtain ⟨hc17, h⟩ := req_some h
 refine al_storeO (k := (l5i9).toNat) (x := (UInt8.ofNat ((bits .xor .u8 (if IntKind.signed .u8 then -1 else IntKind.max .u8) (u9.toNat : Int))).toNat)) (vs := [(i8 (bits .xor .u8 (if IntKind.signed .u8 then -1 else IntKind.max .u8) (u9.toNat : Int)))]) 0 rfl hp16 (idx_lt hu14) rfl rfl (cv_rfl rfl) (fun _ => u8_rep hc17) sz5 rfl ?_
 refine al_nil ?_
 refine aq_block ?_
 refine aq_then ?_
 refine aw_region ?_
 refine in_ ?_
 refine mv_ ?_
 refine al_nil ?_
 exact aq_again k6 ((l5x3.set (l5i9).toNat (UInt8.ofNat ((bits .xor .u8 (if IntKind.signed .u8 then -1 else IntKind.max .u8) (u9.toNat : Int))).toNat)), (wq (l5i9 + (1 : Int)))) (Nat.lt_succ_self _) h (nm_ [0] [] (by decide) ⟨rfl, rfl, rfl, trivial⟩)
 replace h := bif_f hb8 h
 refine aw_exit ?_
 refine aq_then_exit ?_
 refine aq_then_exit ?_
 refine aq_block_exit ?_
 exact aq_join l5x3 h (nm_ [0] [] (by decide) ⟨rfl, trivial⟩)
def f_num_PutInt (fu : Nat) (a0 : Int) : Option (List UInt8) := (bif (decide (a0 < (0 : Int))) then (opt (f_num_digits fu (IntKind.u64.wrap (IntKind.i64.wrap ((-1 : Int) - a0)))) fun (r3 : (List UInt8)) => (req (0 ≤ (IntKind.u8.wrap (IntKind.i64.wrap ((127 : Int) - (r3.length : Int)))) ∧ (IntKind.u8.wrap (IntKind.i64.wrap ((127 : Int) - (r3.length : Int)))) ≤ 255) (opt (f_num_turned fu r3) fun (r7 : (List UInt8)) => (req (([(UInt8.ofNat ((IntKind.u8.wrap (IntKind.i64.wrap ((127 : Int) - (r3.length : Int))))).toNat)]).length + r7.length ≤ 9223372036854775807) (some (([(UInt8.ofNat ((IntKind.u8.wrap (IntKind.i64.wrap ((127 : Int) - (r3.length : Int))))).toNat)]) ++ r7)))))) else (opt (f_num_digits fu (IntKind.u64.wrap a0)) fun (r10 : (List UInt8)) => (req (0 ≤ (IntKind.u8.wrap (IntKind.i64.wrap ((128 : Int) + (r10.length : Int)))) ∧ (IntKind.u8.wrap (IntKind.i64.wrap ((128 : Int) + (r10.length : Int)))) ≤ 255) (req (([(UInt8.ofNat ((IntKind.u8.wrap (IntKind.i64.wrap ((128 : Int) + (r10.length : Int))))).toNat)]).length + r10.length ≤ 9223372036854775807) (some (([(UInt8.ofNat ((IntKind.u8.wrap (IntKind.i64.wrap ((128 : Int) + (r10.length : Int))))).toNat)]) ++ r10))))))
set_option maxHeartbeats 2000000 in
set_option maxRecDepth 100000 in
theorem f_num_PutInt_ok (fu : Nat) (a0 : Int) {r : (List UInt8)} (h : f_num_PutInt fu a0 = some r) : FnOk Tryz.prog 44 [(int .i64 a0)] [] [] (fun (i : Unit) => { val := (str r) }) := by
 unfold f_num_PutInt at h
 refine fn_enter Tryz.func44 rfl Tryz.ntmps44 rfl (fun w0 Z0 => ?_)
 refine aw_sr ?_
 refine an_ ?_
 refine aw_seq ?_
 refine sm_ ?_
 refine im_ ?_
 refine aw_cond rfl (fun hb1 => ?_) (fun hb1 => ?_)
 replace h := bif_t hb1 h
 refine sm_ ?_
 refine in_ ?_
 refine al_val (ov_convInt (by rw [Tryz.underlying3]; rfl) Tryz.underlying81 rfl rfl) ?_
 obtain ⟨r3, hc2, h⟩ := opt_some h
 refine al_call (vs := [(uq (wu (wq ((-1 : Int) - a0))))]) (f_num_digits_ok fu (wu (wq ((-1 : Int) - a0))) hc2) [] [] [] pre_nil rfl (by simp) (by decide) (.inl rfl) rfl Tryz.func64 rfl rfl rfl (fun _ => ?_)
 refine an_ ?_
 refine aw_seq ?_
 obtain ⟨hc5, h⟩ := req_some h
 obtain ⟨r7, hc6, h⟩ := opt_some h
 obtain ⟨hc8, h⟩ := req_some h
 refine aw_region_draw 9 [(11, (fE (str r3))), (12, (fE (iq (r3.length : Int)))), (13, (fE (iq (wq ((127 : Int) - (r3.length : Int)))))), (14, (fE (i8 (w8 (wq ((127 : Int) - (r3.length : Int))))))), (15, (fun v4 => (fDat (tyList tyU8) [v4] [(UInt8.ofNat ((w8 (wq ((127 : Int) - (r3.length : Int))))).toNat)]))), (16, (fE (str [(UInt8.ofNat ((w8 (wq ((127 : Int) - (r3.length : Int))))).toNat)]))), (17, (fE (str r3))), (18, (fE (str r7))), (19, (fE (str (([(UInt8.ofNat ((w8 (wq ((127 : Int) - (r3.length : Int))))).toNat)]) ++ r7))))] (tab [(2, (str ([] : List UInt8))), (3, (str r3))]) mixed (by kernel_rfl) rfl rfl rfl (fun a hs => hs.tab _ (allT_mem ⟨rfl, rfl, trivial⟩)) ⟨⟨rfl, ld_val (ov_move rfl rfl)⟩, ⟨rfl, ld_eq (j := 0) rfl rfl (ld_val (ov_strLen Tryz.underlying9 rfl rfl))⟩, ⟨rfl, ld_eq (j := 1) rfl rfl (ld_val (ov_int rfl rfl rfl rfl))⟩, ⟨rfl, ld_eq (j := 2) rfl rfl (ld_val (ov_convInt (by rw [Tryz.underlying3]; rfl) Tryz.underlying5 rfl rfl))⟩, ⟨rfl, ld_eq (j := 3) rfl rfl (ld_buildSlice (τ := tyU8) (e := 5) (k := 1) (cs := [(i8 (w8 (wq ((127 : Int) - (r3.length : Int)))))]) (xs := [(UInt8.ofNat ((w8 (wq ((127 : Int) - (r3.length : Int))))).toNat)]) rfl (by decide) rfl (fun w a hm hs => ⟨([(i8 (w8 (wq ((127 : Int) - (r3.length : Int)))))]).toArray, rfl, by simp only [List.map_toArray, List.map_cons, List.map_nil, hs.ev (x := .tmp 14) rfl]; exact run_bs [(i8 (w8 (wq ((127 : Int) - (r3.length : Int)))))] [(i8 (w8 (wq ((127 : Int) - (r3.length : Int)))))] Tryz.underlying84 to5 rfl rfl (bs_cons (l := [(i8 (w8 (wq ((127 : Int) - (r3.length : Int)))))]) (cs := []) (cv_rfl rfl) rfl bs_nil) hm⟩) (fun hm => ⟨_, _, rfl, (fun _ => u8_rep hc5) hm, rfl⟩) rfl)⟩, ⟨rfl, ld_fact (j := 4) rfl rfl (fun v4 => ld_val (ov_toStr 0 rfl rfl Tryz.underlying84 Tryz.underlying5 Tryz.underlying9 rfl))⟩, ⟨rfl, ld_val (ov_move rfl rfl)⟩, ⟨rfl, ld_eq (j := 6) rfl rfl (ld_callV (vs := [(str r3)]) (f_num_turned_ok fu r3 hc6) [] pre_nil rfl Tryz.func66 rfl rfl rfl)⟩, ⟨rfl, ld_eq (j := 5) rfl rfl (ld_eq (j := 7) rfl rfl (ld_val (ov_strAdd hc8 rfl rfl rfl)))⟩, trivial⟩ ?_
 refine tl_eq 8 rfl ?_
 refine tl_done ?_
 refine an_ ?_
 refine aw_ret ?_
 refine aq_then_ret ?_
 cases h
 exact fr1_
 replace h := bif_f hb1 h
 refine aw_skip ?_
 refine aq_tr ?_
 refine mv_ ?_
 refine al_val (ov_convInt (by rw [Tryz.underlying3]; rfl) Tryz.underlying81 rfl rfl) ?_
 obtain ⟨r10, hc9, h⟩ := opt_some h
 refine al_call (vs := [(uq (wu a0))]) (f_num_digits_ok fu (wu a0) hc9) [] [] [] pre_nil rfl (by simp) (by decide) (.inl rfl) rfl Tryz.func64 rfl rfl rfl (fun _ => ?_)
 refine an_ ?_
 refine sm_ ?_
 refine al_val (ov_strLen Tryz.underlying9 rfl rfl) ?_
 refine in_ ?_
 refine al_val (ov_convInt (by rw [Tryz.underlying3]; rfl) Tryz.underlying5 rfl rfl) ?_
 obtain ⟨hc12, h⟩ := req_some h
 refine al_buildSlice (τ := tyU8) (e := 5) (k := 1) (sz := 0) (by_ := 0) (z := undef) (cs := [(i8 (w8 (wq ((128 : Int) + (r10.length : Int)))))]) (xs := [(UInt8.ofNat ((w8 (wq ((128 : Int) + (r10.length : Int))))).toNat)]) rfl (by decide) (fun w a hm hs => ⟨([(i8 (w8 (wq ((128 : Int) + (r10.length : Int)))))]).toArray, rfl, by simp only [List.map_toArray, List.map_cons, List.map_nil, hs.ev (x := .tmp 26) rfl]; exact run_bs [(i8 (w8 (wq ((128 : Int) + (r10.length : Int)))))] [(i8 (w8 (wq ((128 : Int) + (r10.length : Int)))))] Tryz.underlying84 to5 rfl rfl (bs_cons (l := [(i8 (w8 (wq ((128 : Int) + (r10.length : Int)))))]) (cs := []) (cv_rfl rfl) rfl bs_nil) hm⟩) (fun hm => ⟨_, _, rfl, (fun _ => u8_rep hc12) hm, rfl⟩) rfl (fun v11 => ?_)
 refine al_val (ov_toStrR 0 rfl rfl Tryz.underlying84 Tryz.underlying5 Tryz.underlying9 rfl) ?_
 refine mv_ ?_
 obtain ⟨hc13, h⟩ := req_some h
 refine al_val (ov_strAdd hc13 rfl rfl rfl) ?_
 refine an_ ?_
 refine aw_ret ?_
 cases h
 exact fr1_
def f_tree_Write_L47 (u16 : S_api_Node) (kk43 : ((List UInt8) → Option ((List UInt8) × Int))) : Nat → (List UInt8) → Int → Option ((List UInt8) × Int)
  | 0, _, _ => none
  | k46 + 1, l45s6, l45i74 => (bif (decide (l45i74 < (u16.Parts.length : Int))) then (opt (at? u16.Parts l45i74) fun (u49 : A8u8) => (req (l45s6.length + (lA8u8 u49).length ≤ 9223372036854775807) (f_tree_Write_L47 u16 kk43 k46 (l45s6 ++ (lA8u8 u49)) (IntKind.i64.wrap (l45i74 + (1 : Int)))))) else (kk43 l45s6))
def f_tree_Write_L11 (a0 : (List S_api_Node)) (kk7 : ((List UInt8) → Option ((List UInt8) × Int))) (fu : Nat) : Nat → (List UInt8) → Int → Option ((List UInt8) × Int)
  | 0, _, _ => none
  | k10 + 1, l9s6, l9i26 => (lt (fun (l9s6 : (List UInt8)) (l9i26 : Int) => (f_tree_Write_L11 a0 kk7 fu k10 l9s6 l9i26)) fun (kk12 : (List UInt8) → Int → Option ((List UInt8) × Int)) => (bif (decide (l9i26 < (a0.length : Int))) then (lt (fun (j14s6 : (List UInt8)) => (kk12 j14s6 (IntKind.i64.wrap (l9i26 + (1 : Int))))) fun (kk15 : (List UInt8) → Option ((List UInt8) × Int)) => (opt (at? a0 l9i26) fun (u16 : S_api_Node) => (opt (f_num_PutText fu u16.Name) fun (r23 : ((List UInt8) × Int)) => (opt (f_num_PutText fu u16.Link) fun (r25 : ((List UInt8) × Int)) => (req (0 ≤ (IntKind.u8.wrap u16.Kind) ∧ (IntKind.u8.wrap u16.Kind) ≤ 255) (req (r23.1.length + ([(UInt8.ofNat ((IntKind.u8.wrap u16.Kind)).toNat)]).length ≤ 9223372036854775807) (opt (f_tree_Write_1 fu u16.Mode) fun (r30 : (List UInt8)) => (req ((r23.1 ++ ([(UInt8.ofNat ((IntKind.u8.wrap u16.Kind)).toNat)])).length + r30.length ≤ 9223372036854775807) (opt (f_num_PutInt fu u16.Time) fun (r33 : (List UInt8)) => (req (((r23.1 ++ ([(UInt8.ofNat ((IntKind.u8.wrap u16.Kind)).toNat)])) ++ r30).length + r33.length ≤ 9223372036854775807) (opt (f_tree_Write_1 fu u16.Size) fun (r36 : (List UInt8)) => (req ((((r23.1 ++ ([(UInt8.ofNat ((IntKind.u8.wrap u16.Kind)).toNat)])) ++ r30) ++ r33).length + r36.length ≤ 9223372036854775807) (opt (f_tree_Write_1 fu (u16.Parts.length : Int)) fun (r39 : (List UInt8)) => (req (((((r23.1 ++ ([(UInt8.ofNat ((IntKind.u8.wrap u16.Kind)).toNat)])) ++ r30) ++ r33) ++ r36).length + r39.length ≤ 9223372036854775807) (req (l9s6.length + (((((r23.1 ++ ([(UInt8.ofNat ((IntKind.u8.wrap u16.Kind)).toNat)])) ++ r30) ++ r33) ++ r36) ++ r39).length ≤ 9223372036854775807) (lt (fun (j42s6 : (List UInt8)) => (req (j42s6.length + r25.1.length ≤ 9223372036854775807) (kk15 (j42s6 ++ r25.1)))) fun (kk43 : (List UInt8) → Option ((List UInt8) × Int)) => (f_tree_Write_L47 u16 kk43 fu (l9s6 ++ (((((r23.1 ++ ([(UInt8.ofNat ((IntKind.u8.wrap u16.Kind)).toNat)])) ++ r30) ++ r33) ++ r36) ++ r39)) (0 : Int)))))))))))))))))) else (kk7 l9s6)))
def f_tree_Write (fu : Nat) (a0 : (List S_api_Node)) : Option ((List UInt8) × Int) := (opt (f_tree_Check fu a0) fun (r2 : Int) => (bif (r2 != (0 : Int)) then (some (([] : List UInt8), r2)) else (opt (f_tree_Write_1 fu (a0.length : Int)) fun (r5 : (List UInt8)) => (lt (fun (j6s6 : (List UInt8)) => (bif (decide ((j6s6.length : Int) > (4096 : Int))) then (some (([] : List UInt8), (2 : Int))) else (some (j6s6, (0 : Int))))) fun (kk7 : (List UInt8) → Option ((List UInt8) × Int)) => (f_tree_Write_L11 a0 kk7 fu fu r5 (0 : Int))))))
abbrev mm7 (w0 : World) (Z0 : Nat → Prop) (a0 : (List S_api_Node)) (p18 : Value) (s19 : Value) (u16 : S_api_Node) (v0_0 : Value) : Mem := memOf w0 Z0 [] [] [(fDat (tyList tyS_api_Node) [v0_0] a0), (fDat (tyList tyA8u8) [s19] u16.Parts), (fDat tyS_api_Node [(str u16.Name), (int .i64 u16.Kind), (int .i64 u16.Mode), (int .i64 u16.Time), (int .i64 u16.Size), s19, (str u16.Link)] u16), (fPtr tyS_api_Node p18 u16), uMax, uTabs]
set_option maxRecDepth 100000 in
set_option maxHeartbeats 2000000 in
set_option maxHeartbeats 2000000 in
theorem f_tree_Write_ok (fu : Nat) (v0_0 : Value) (a0 : (List S_api_Node)) {r : ((List UInt8) × Int)} (h : f_tree_Write fu a0 = some r) : FnOk Tryz.prog 25 [v0_0] [(fDat (tyList tyS_api_Node) [v0_0] a0), uMax, uTabs] [] (fun (i : Unit) => { val := (Value.tuple #[(str r.1), (int .i64 r.2)]) }) := by
 unfold f_tree_Write at h
 refine fn_enter Tryz.func25 rfl Tryz.ntmps25 rfl (fun w0 Z0 => ?_)
 refine aw_sr ?_
 refine as_ ?_
 refine an_ ?_
 refine aw_seq ?_
 refine sm_ ?_
 obtain ⟨r2, hc1, h⟩ := opt_some h
 refine al_call (vs := [v0_0]) (f_tree_Check_ok fu v0_0 a0 hc1) [] [] [] (pre_fz 0 rfl (pre_fz 2 rfl pre_nil)) rfl (by simp) (by decide) (.inl rfl) rfl Tryz.func40 rfl rfl rfl (fun _ => ?_)
 refine an_ ?_
 refine sm_ ?_
 refine im_ ?_
 refine aw_cond rfl (fun hb3 => ?_) (fun hb3 => ?_)
 replace h := bif_t hb3 h
 refine sm_ ?_
 refine as_ ?_
 refine an_ ?_
 refine aw_ret ?_
 refine aq_then_ret ?_
 cases h
 exact fr2_
 replace h := bif_f hb3 h
 refine aw_skip ?_
 refine aq_tr ?_
 refine an_ ?_
 refine sm_ ?_
 refine mv_ ?_
 refine al_val (ov_lenD 0 rfl rfl Tryz.underlying61 rfl) ?_
 obtain ⟨r5, hc4, h⟩ := opt_some h
 refine al_callF (vs := [(iq (a0.length : Int))]) (caps := []) (f_tree_Write_1_ok fu (a0.length : Int) hc4) rfl [] [] [] pre_nil rfl (by simp) (by decide) (.inl rfl) rfl rfl Tryz.func41 rfl rfl rfl (fun _ => ?_)
 refine an_ ?_
 obtain ⟨kk7, hkk7, h⟩ := lt_some h
 refine aw_seq_join (ι := (List UInt8)) (fun i => (memOf w0 Z0 [] [] [(fDat (tyList tyS_api_Node) [v0_0] a0), uMax, uTabs])) (fun i => (tab [(6, (str i))])) (fun i => kk7 i = some r) ?_ ?_
 rintro j6s6 h
 have h : kk7 j6s6 = some r := h
 rw [hkk7] at h
 dsimp only at h
 clear hkk7
 refine aw_show (m := (memOf w0 Z0 [] [] [(fDat (tyList tyS_api_Node) [v0_0] a0), uMax, uTabs])) (S := _) ?_
 refine aw_seq ?_
 refine sm_ ?_
 refine al_val (ov_strLen Tryz.underlying9 rfl rfl) ?_
 refine im_ ?_
 refine aw_cond rfl (fun hb8 => ?_) (fun hb8 => ?_)
 replace h := bif_t hb8 h
 refine aw_sr ?_
 refine as_ ?_
 refine an_ ?_
 refine aw_ret ?_
 refine aq_then_ret ?_
 cases h
 exact fr2_
 replace h := bif_f hb8 h
 refine aw_skip ?_
 refine aq_tr ?_
 refine mv_ ?_
 refine as_ ?_
 refine an_ ?_
 refine aw_ret ?_
 cases h
 exact fr2_
 clear hkk7
 refine sm_ ?_
 refine al_val (ov_lenD 0 rfl rfl Tryz.underlying61 rfl) ?_
 refine mv_ ?_
 refine al_nt ?_
 refine aw_block ?_
 refine aw_state (aw_loop (ι := (List UInt8) × Int) (fun i => (memOf w0 Z0 [] [] [(fDat (tyList tyS_api_Node) [v0_0] a0), uMax, uTabs])) (fun i => (tab [(5, (fq 41)), (6, (str i.1)), (24, v0_0), (25, (iq (a0.length : Int))), (26, (iq i.2))])) (fun q i => f_tree_Write_L11 a0 kk7 fu q i.1 i.2 = some r) ?_ fu (r5, (0 : Int)) h) (nm_ [] [0, 1, 2] (by decide) ⟨rfl, rfl, rfl, rfl, rfl, trivial⟩)
 clear h
 rintro k10 ⟨l9s6, l9i26⟩ h
 have h : f_tree_Write_L11 a0 kk7 fu k10 l9s6 l9i26 = some r := h
 obtain _ | k10 := k10
 rw [f_tree_Write_L11] at h; cases h
 rw [f_tree_Write_L11] at h
 refine aw_show (m := (memOf w0 Z0 [] [] [(fDat (tyList tyS_api_Node) [v0_0] a0), uMax, uTabs])) (S := _) ?_
 obtain ⟨kk12, hkk12, h⟩ := lt_some h
 refine aw_body_join (ι := (List UInt8) × Int) (fun i => (memOf w0 Z0 [] [] [(fDat (tyList tyS_api_Node) [v0_0] a0), uMax, uTabs])) (fun i => (tab [(5, (fq 41)), (6, (str i.1)), (24, v0_0), (25, (iq (a0.length : Int))), (26, (iq i.2))])) (fun i => kk12 i.1 i.2 = some r) (fun i h => aq_again k10 i (Nat.lt_succ_self _) (by rw [hkk12] at h; exact h) (fun w a hm hs => ⟨hm, hs⟩)) ?_
 clear hkk12
 refine aw_sr ?_
 refine im_ ?_
 refine aw_seq ?_
 refine aw_cond rfl (fun hb13 => ?_) (fun hb13 => ?_)
 replace h := bif_t hb13 h
 refine aw_skip ?_
 refine aq_then ?_
 obtain ⟨kk15, hkk15, h⟩ := lt_some h
 refine aw_seq_join (ι := (List UInt8)) (fun i => (memOf w0 Z0 [] [] [(fDat (tyList tyS_api_Node) [v0_0] a0), uMax, uTabs])) (fun i => (tab [(5, (fq 41)), (6, (str i)), (24, v0_0), (25, (iq (a0.length : Int))), (26, (iq l9i26))])) (fun i => kk15 i = some r) ?_ ?_
 rintro j14s6 h
 have h : kk15 j14s6 = some r := h
 rw [hkk15] at h
 dsimp only at h
 clear hkk15
 refine aw_show (m := (memOf w0 Z0 [] [] [(fDat (tyList tyS_api_Node) [v0_0] a0), uMax, uTabs])) (S := _) ?_
 refine aw_region ?_
 refine in_ ?_
 refine mv_ ?_
 refine al_nil ?_
 exact aq_join (j14s6, (wq (l9i26 + (1 : Int)))) h (nm_ [] [0, 1, 2] (by decide) ⟨rfl, rfl, rfl, rfl, rfl, trivial⟩)
 clear hkk15
 refine aw_block ?_
 refine aw_sr ?_
 obtain ⟨u16, hu17, h⟩ := opt_some h
 refine al_idxD 0 hu17 rfl rfl rfl Tryz.underlying61 sz64 rfl (fun p18 => ?_)
 refine al_loadPA 0 rfl rfl Tryz.underlying64 sz64 rfl rfl (fun cs20 => ?_)
 refine al_use (ι := Value) 0 rfl (fun j => cs20 = [(str u16.Name), (iq u16.Kind), (iq u16.Mode), (iq u16.Time), (iq u16.Size), j, (str u16.Link)]) (fun j => [(fDat (tyList tyA8u8) [j] u16.Parts)]) encnS_api_Node (fun s19 hq => ?_)
 subst hq
 refine al_alloc (zs := [(str ([] : List UInt8)), (iq (0 : Int)), (iq (0 : Int)), (iq (0 : Int)), (iq (0 : Int)), nS, (str ([] : List UInt8))]) (zeroOf_to to64) rfl rfl (fun g21 => ?_)
 refine al_store (i := 0) (vs := [(str u16.Name), (iq u16.Kind), (iq u16.Mode), (iq u16.Time), (iq u16.Size), s19, (str u16.Link)]) (cs' := [(str u16.Name), (iq u16.Kind), (iq u16.Mode), (iq u16.Time), (iq u16.Size), s19, (str u16.Link)]) rfl rfl rfl sz64 (cv_rfl rfl) rfl (co_val rfl (co_val rfl (co_val rfl (co_val rfl (co_val rfl (co_fz 0 rfl (co_val rfl co_nil))))))) (Nat.le_of_ble_eq_true rfl) rfl rfl ?_
 refine al_nt ?_
 refine aw_sr ?_
 refine al_val (ov_fieldA (p := 0) rfl Tryz.underlying64 rfl sz9 rfl rfl rfl) ?_
 refine al_val (ov_load (i := 0) (v := (str u16.Name)) rfl rfl Tryz.underlying9 sz9 rfl rfl rfl rfl) ?_
 obtain ⟨r23, hc22, h⟩ := opt_some h
 refine al_call (vs := [(str u16.Name)]) (f_num_PutText_ok fu u16.Name hc22) [] [] [0] (pre_fz 4 rfl pre_nil) rfl (by simp) (by decide) (.inl rfl) rfl Tryz.func43 rfl rfl rfl (fun _ => ?_)
 refine mv_ ?_
 refine al_ex rfl rfl rfl ?_
 refine al_ex rfl rfl rfl ?_
 refine as_ ?_
 refine an_ ?_
 refine aw_sr ?_
 refine al_val (ov_fieldA (p := 6) rfl Tryz.underlying64 rfl sz9 rfl rfl rfl) ?_
 refine al_val (ov_load (i := 0) (v := (str u16.Link)) rfl rfl Tryz.underlying9 sz9 rfl rfl rfl rfl) ?_
 obtain ⟨r25, hc24, h⟩ := opt_some h
 refine al_call (vs := [(str u16.Link)]) (f_num_PutText_ok fu u16.Link hc24) [] [] [0] (pre_fz 4 rfl pre_nil) rfl (by simp) (by decide) (.inl rfl) rfl Tryz.func43 rfl rfl rfl (fun _ => ?_)
 refine mv_ ?_
 refine al_ex rfl rfl rfl ?_
 refine al_ex rfl rfl rfl ?_
 refine as_ ?_
 refine an_ ?_
 refine aw_seq ?_
 obtain ⟨hc27, h⟩ := req_some h
 obtain ⟨hc28, h⟩ := req_some h
 obtain ⟨r30, hc29, h⟩ := opt_some h
 obtain ⟨hc31, h⟩ := req_some h
 obtain ⟨r33, hc32, h⟩ := opt_some h
 obtain ⟨hc34, h⟩ := req_some h
 obtain ⟨r36, hc35, h⟩ := opt_some h
 obtain ⟨hc37, h⟩ := req_some h
 obtain ⟨r39, hc38, h⟩ := opt_some h
 obtain ⟨hc40, h⟩ := req_some h
 obtain ⟨hc41, h⟩ := req_some h
 refine aw_region_draw 29 [(42, (fE (str l9s6))), (43, (fE (str r23.1))), (44, (fE (ptr g21 1))), (45, (fE (iq u16.Kind))), (46, (fE (i8 (w8 u16.Kind)))), (47, (fun v26 => (fDat (tyList tyU8) [v26] [(UInt8.ofNat ((w8 u16.Kind)).toNat)]))), (48, (fE (str [(UInt8.ofNat ((w8 u16.Kind)).toNat)]))), (49, (fE (str (r23.1 ++ ([(UInt8.ofNat ((w8 u16.Kind)).toNat)]))))), (50, (fE (fq 41))), (51, (fE (ptr g21 2))), (52, (fE (iq u16.Mode))), (53, (fE (str r30))), (54, (fE (str ((r23.1 ++ ([(UInt8.ofNat ((w8 u16.Kind)).toNat)])) ++ r30)))), (55, (fE (ptr g21 3))), (56, (fE (iq u16.Time))), (57, (fE (str r33))), (58, (fE (str (((r23.1 ++ ([(UInt8.ofNat ((w8 u16.Kind)).toNat)])) ++ r30) ++ r33)))), (59, (fE (fq 41))), (60, (fE (ptr g21 4))), (61, (fE (iq u16.Size))), (62, (fE (str r36))), (63, (fE (str ((((r23.1 ++ ([(UInt8.ofNat ((w8 u16.Kind)).toNat)])) ++ r30) ++ r33) ++ r36)))), (64, (fE (fq 41))), (65, (fE (ptr g21 5))), (66, (fE s19)), (67, (fE (iq (u16.Parts.length : Int)))), (68, (fE (str r39))), (69, (fE (str (((((r23.1 ++ ([(UInt8.ofNat ((w8 u16.Kind)).toNat)])) ++ r30) ++ r33) ++ r36) ++ r39)))), (70, (fE (str (l9s6 ++ (((((r23.1 ++ ([(UInt8.ofNat ((w8 u16.Kind)).toNat)])) ++ r30) ++ r33) ++ r36) ++ r39)))))] (tab [(5, (fq 41)), (6, (str l9s6)), (8, (pq g21)), (9, (str r23.1)), (11, (str r25.1)), (24, v0_0), (25, (iq (a0.length : Int))), (26, (iq l9i26))]) mixed (by kernel_rfl) rfl rfl rfl (fun a hs => hs.tab _ (allT_mem ⟨rfl, rfl, rfl, rfl, rfl, rfl, rfl, rfl, trivial⟩)) ⟨⟨rfl, ld_val (ov_move rfl rfl)⟩, ⟨rfl, ld_val (ov_move rfl rfl)⟩, ⟨rfl, ld_val (ov_fieldA (p := 1) rfl Tryz.underlying64 rfl sz3 rfl rfl rfl)⟩, ⟨rfl, ld_eq (j := 2) rfl rfl (ld_val (ov_load (i := 0) (v := (iq u16.Kind)) rfl rfl Tryz.underlying3 sz3 rfl rfl rfl rfl))⟩, ⟨rfl, ld_eq (j := 3) rfl rfl (ld_val (ov_convInt (by rw [Tryz.underlying3]; rfl) Tryz.underlying5 rfl rfl))⟩, ⟨rfl, ld_eq (j := 4) rfl rfl (ld_buildSlice (τ := tyU8) (e := 5) (k := 1) (cs := [(i8 (w8 u16.Kind))]) (xs := [(UInt8.ofNat ((w8 u16.Kind)).toNat)]) rfl (by decide) rfl (fun w a hm hs => ⟨([(i8 (w8 u16.Kind))]).toArray, rfl, by simp only [List.map_toArray, List.map_cons, List.map_nil, hs.ev (x := .tmp 46) rfl]; exact run_bs [(i8 (w8 u16.Kind))] [(i8 (w8 u16.Kind))] Tryz.underlying84 to5 rfl rfl (bs_cons (l := [(i8 (w8 u16.Kind))]) (cs := []) (cv_rfl rfl) rfl bs_nil) hm⟩) (fun hm => ⟨_, _, rfl, (fun _ => u8_rep hc27) hm, rfl⟩) rfl)⟩, ⟨rfl, ld_fact (j := 5) rfl rfl (fun v26 => ld_val (ov_toStr 0 rfl rfl Tryz.underlying84 Tryz.underlying5 Tryz.underlying9 rfl))⟩, ⟨rfl, ld_eq (j := 1) rfl rfl (ld_eq (j := 6) rfl rfl (ld_val (ov_strAdd hc28 rfl rfl rfl)))⟩, ⟨rfl, ld_val (ov_move rfl rfl)⟩, ⟨rfl, ld_val (ov_fieldA (p := 2) rfl Tryz.underlying64 rfl sz3 rfl rfl rfl)⟩, ⟨rfl, ld_eq (j := 9) rfl rfl (ld_val (ov_load (i := 0) (v := (iq u16.Mode)) rfl rfl Tryz.underlying3 sz3 rfl rfl rfl rfl))⟩, ⟨rfl, ld_eq (j := 8) rfl rfl (ld_eq (j := 10) rfl rfl (ld_callF (vs := [(iq u16.Mode)]) (caps := []) (f_tree_Write_1_ok fu u16.Mode hc29) rfl [] pre_nil rfl rfl Tryz.func41 rfl rfl rfl))⟩, ⟨rfl, ld_eq (j := 7) rfl rfl (ld_eq (j := 11) rfl rfl (ld_val (ov_strAdd hc31 rfl rfl rfl)))⟩, ⟨rfl, ld_val (ov_fieldA (p := 3) rfl Tryz.underlying64 rfl sz3 rfl rfl rfl)⟩, ⟨rfl, ld_eq (j := 13) rfl rfl (ld_val (ov_load (i := 0) (v := (iq u16.Time)) rfl rfl Tryz.underlying3 sz3 rfl rfl rfl rfl))⟩, ⟨rfl, ld_eq (j := 14) rfl rfl (ld_callV (vs := [(iq u16.Time)]) (f_num_PutInt_ok fu u16.Time hc32) [] pre_nil rfl Tryz.func44 rfl rfl rfl)⟩, ⟨rfl, ld_eq (j := 12) rfl rfl (ld_eq (j := 15) rfl rfl (ld_val (ov_strAdd hc34 rfl rfl rfl)))⟩, ⟨rfl, ld_val (ov_move rfl rfl)⟩, ⟨rfl, ld_val (ov_fieldA (p := 4) rfl Tryz.underlying64 rfl sz3 rfl rfl rfl)⟩, ⟨rfl, ld_eq (j := 18) rfl rfl (ld_val (ov_load (i := 0) (v := (iq u16.Size)) rfl rfl Tryz.underlying3 sz3 rfl rfl rfl rfl))⟩, ⟨rfl, ld_eq (j := 17) rfl rfl (ld_eq (j := 19) rfl rfl (ld_callF (vs := [(iq u16.Size)]) (caps := []) (f_tree_Write_1_ok fu u16.Size hc35) rfl [] pre_nil rfl rfl Tryz.func41 rfl rfl rfl))⟩, ⟨rfl, ld_eq (j := 16) rfl rfl (ld_eq (j := 20) rfl rfl (ld_val (ov_strAdd hc37 rfl rfl rfl)))⟩, ⟨rfl, ld_val (ov_move rfl rfl)⟩, ⟨rfl, ld_val (ov_fieldA (p := 5) rfl Tryz.underlying64 rfl sz62 rfl rfl rfl)⟩, ⟨rfl, ld_eq (j := 23) rfl rfl (ld_val (ov_load (i := 0) (v := s19) rfl rfl Tryz.underlying62 sz62 rfl rfl rfl rfl))⟩, ⟨rfl, ld_eq (j := 24) rfl rfl (ld_val (ov_lenD 0 rfl rfl Tryz.underlying62 rfl))⟩, ⟨rfl, ld_eq (j := 22) rfl rfl (ld_eq (j := 25) rfl rfl (ld_callF (vs := [(iq (u16.Parts.length : Int))]) (caps := []) (f_tree_Write_1_ok fu (u16.Parts.length : Int) hc38) rfl [] pre_nil rfl rfl Tryz.func41 rfl rfl rfl))⟩, ⟨rfl, ld_eq (j := 21) rfl rfl (ld_eq (j := 26) rfl rfl (ld_val (ov_strAdd hc40 rfl rfl rfl)))⟩, ⟨rfl, ld_eq (j := 0) rfl rfl (ld_eq (j := 27) rfl rfl (ld_val (ov_strAdd hc41 rfl rfl rfl)))⟩, trivial⟩ ?_
 refine tl_eq 28 rfl ?_
 refine tl_done ?_
 refine an_ ?_
 obtain ⟨kk43, hkk43, h⟩ := lt_some h
 refine aw_seq_join (ι := (List UInt8)) (fun i => (mm7 w0 Z0 a0 p18 s19 u16 v0_0)) (fun i => (tab [(5, (fq 41)), (6, (str i)), (11, (str r25.1)), (24, v0_0), (25, (iq (a0.length : Int))), (26, (iq l9i26))])) (fun i => kk43 i = some r) ?_ ?_
 rintro j42s6 h
 have h : kk43 j42s6 = some r := h
 rw [hkk43] at h
 dsimp only at h
 clear hkk43
 refine aw_show (m := (mm7 w0 Z0 a0 p18 s19 u16 v0_0)) (S := _) ?_
 refine aw_region ?_
 refine mv_ ?_
 refine mv_ ?_
 obtain ⟨hc44, h⟩ := req_some h
 refine al_val (ov_strAdd hc44 rfl rfl rfl) ?_
 refine as_ ?_
 refine al_nil ?_
 refine aq_block ?_
 exact aq_join (j42s6 ++ r25.1) h (nm_ [] [0, 4, 5] (by decide) ⟨rfl, rfl, rfl, rfl, rfl, trivial⟩)
 clear hkk43
 refine aw_sr ?_
 refine al_val (ov_fieldA (p := 5) rfl Tryz.underlying64 rfl sz62 rfl rfl rfl) ?_
 refine al_val (ov_load (i := 0) (v := s19) rfl rfl Tryz.underlying62 sz62 rfl rfl rfl rfl) ?_
 refine al_val (ov_lenD 0 rfl rfl Tryz.underlying62 rfl) ?_
 refine mv_ ?_
 refine al_nt ?_
 refine aw_block ?_
 refine aw_state (aw_loop (ι := (List UInt8) × Int) (fun i => (mm7 w0 Z0 a0 p18 s19 u16 v0_0)) (fun i => (tab [(5, (fq 41)), (6, (str i.1)), (11, (str r25.1)), (24, v0_0), (25, (iq (a0.length : Int))), (26, (iq l9i26)), (72, s19), (73, (iq (u16.Parts.length : Int))), (74, (iq i.2))])) (fun q i => f_tree_Write_L47 u16 kk43 q i.1 i.2 = some r) ?_ fu ((l9s6 ++ (((((r23.1 ++ ([(UInt8.ofNat ((w8 u16.Kind)).toNat)])) ++ r30) ++ r33) ++ r36) ++ r39)), (0 : Int)) h) (nm_ [] [3, 0, 1, 2, 4, 5] (by decide) ⟨rfl, rfl, rfl, rfl, rfl, rfl, rfl, rfl, rfl, trivial⟩)
 clear h
 rintro k46 ⟨l45s6, l45i74⟩ h
 have h : f_tree_Write_L47 u16 kk43 k46 l45s6 l45i74 = some r := h
 obtain _ | k46 := k46
 rw [f_tree_Write_L47] at h; cases h
 rw [f_tree_Write_L47] at h
 refine aw_show (m := (mm7 w0 Z0 a0 p18 s19 u16 v0_0)) (S := _) ?_
 refine aw_sr ?_
 refine im_ ?_
 refine aw_seq ?_
 refine aw_cond rfl (fun hb48 => ?_) (fun hb48 => ?_)
 replace h := bif_t hb48 h
 refine aw_skip ?_
 refine aq_then ?_
 refine aw_seq ?_
 refine aw_block ?_
 refine aw_sr ?_
 obtain ⟨u49, hu50, h⟩ := opt_some h
 refine al_idxD 1 hu50 rfl rfl rfl Tryz.underlying62 sz29 rfl (fun p51 => ?_)
 refine al_val (ov_loadP (ds := (cA8u8 u49)) 0 rfl encA8u8 rfl Tryz.underlying29 sz29 rfl rfl rfl) ?_
 refine al_alloc (zs := (cA8u8 zA8u8)) (zeroOf_to to29) rfl rfl (fun g52 => ?_)
 refine al_store (i := 0) (vs := (cA8u8 u49)) (cs' := (cA8u8 u49)) rfl rfl rfl sz29 (cv_rfl rfl) rfl (co_all (oneA8u8 u49)) (Nat.le_of_ble_eq_true rfl) rfl rfl ?_
 refine al_nt ?_
 refine aw_freezeB (τ := tyA8u8) 0 (u49) rfl rfl (fun _ _ => mkA8u8 rfl) ?_
 refine aw_region ?_
 refine mv_ ?_
 refine al_of (of_sliceP 0 lrepA8u8 rfl rfl rfl rfl Tryz.underlying29 sz5 rfl) (fun s53 => ?_)
 refine al_val (ov_toStr 0 rfl rfl Tryz.underlying84 Tryz.underlying5 Tryz.underlying9 rfl) ?_
 obtain ⟨hc54, h⟩ := req_some h
 refine al_val (ov_strAdd hc54 rfl rfl rfl) ?_
 refine as_ ?_
 refine al_nil ?_
 refine aq_block ?_
 refine aq_then ?_
 refine aw_region ?_
 refine in_ ?_
 refine mv_ ?_
 refine al_nil ?_
 exact aq_again k46 ((l45s6 ++ (lA8u8 u49)), (wq (l45i74 + (1 : Int)))) (Nat.lt_succ_self _) h (nm_ [] [3, 4, 5, 6, 7, 8] (by decide) ⟨rfl, rfl, rfl, rfl, rfl, rfl, rfl, rfl, rfl, trivial⟩)
 replace h := bif_f hb48 h
 refine aw_exit ?_
 refine aq_then_exit ?_
 refine aq_then_exit ?_
 refine aq_block_exit ?_
 exact aq_join l45s6 h (nm_ [] [0, 1, 2, 3, 4, 5] (by decide) ⟨rfl, rfl, rfl, rfl, rfl, rfl, trivial⟩)
 replace h := bif_f hb13 h
 refine aw_exit ?_
 refine aq_then_exit ?_
 refine aq_then_exit ?_
 refine aq_block_exit ?_
 exact aq_join l9s6 h (nm_ [] [0, 1, 2] (by decide) ⟨rfl, trivial⟩)
 -- STUCK (*lumberroom/walk.planter).directory: lty ['pointer', 43]
def f___walk_planter__pieces (fu : Nat) (a0 : D_walk_planter) (a1 : (List UInt8)) : Option ((List (List UInt8)) × D_walk_planter) := (lt (fun (j1x5 : (List (List UInt8))) => (some (j1x5, (D_walk_planter.mk (S_api_Way.mk a0.way.Fixed (S_api_Cut.mk a0.way.Cut.Min a0.way.Cut.Max a0.way.Cut.Bits)) a0.kids a0.out a0.seen a0.e)))) fun (kk2 : (List (List UInt8)) → Option ((List (List UInt8)) × D_walk_planter)) => (bif (a0.way.Fixed == (0 : Int)) then (opt (f_chunk_Cut fu (S_api_Cut.mk a0.way.Cut.Min a0.way.Cut.Max a0.way.Cut.Bits) a1) fun (r5 : ((List (List UInt8)) × Int)) => (kk2 r5.1)) else (opt (f_chunk_Fixed fu a0.way.Fixed a1) fun (r8 : ((List (List UInt8)) × Int)) => (kk2 r8.1))))
abbrev mm8 (w0 : World) (Z0 : Nat → Prop) (a0 : D_walk_planter) (bx0 : Nat) (gm0_4 : Nat) (gm0_6 : Nat) (j1v5 : Value) (j1x5 : (List (List UInt8))) (v0_5 : Value) : Mem := memOf w0 Z0 [(oBox bx0 43 [(int .i64 a0.way.Fixed), (int .i64 a0.way.Cut.Min), (int .i64 a0.way.Cut.Max), (int .i64 a0.way.Cut.Bits), (Value.map (some gm0_4)), v0_5, (Value.map (some gm0_6)), (int .i64 a0.e)]), (oMapD Tryz.prog 9 gm0_4 str tyS_api_Item a0.kids), (oRow v0_5 37 tyS_api_Blob a0.out), (oMapK Tryz.prog 29 gm0_6 (fun x : A8u8 => ag (cA8u8 x)) (fun x : S_api_Blob => ag [(int .i64 x.Kind), (str x.Bytes)]) a0.seen)] [(oMapD Tryz.prog 9 gm0_4 str tyS_api_Item a0.kids), (oRow v0_5 37 tyS_api_Blob a0.out), (oMapK Tryz.prog 29 gm0_6 (fun x : A8u8 => ag (cA8u8 x)) (fun x : S_api_Blob => ag [(int .i64 x.Kind), (str x.Bytes)]) a0.seen), (oBox bx0 43 [(int .i64 a0.way.Fixed), (int .i64 a0.way.Cut.Min), (int .i64 a0.way.Cut.Max), (int .i64 a0.way.Cut.Bits), (Value.map (some gm0_4)), v0_5, (Value.map (some gm0_6)), (int .i64 a0.e)]), (oRow j1v5 9 tyStr j1x5)] []
set_option maxHeartbeats 2000000 in
set_option maxRecDepth 100000 in
theorem f___walk_planter__pieces_ok (fu : Nat) (bx0 : Nat) (gm0_4 : Nat) (v0_5 : Value) (gm0_6 : Nat) (a0 : D_walk_planter) (a1 : (List UInt8)) {r : ((List (List UInt8)) × D_walk_planter)} (h : f___walk_planter__pieces fu a0 a1 = some r) : FnOk Tryz.prog 23 [(ptr bx0 0), (str a1)] [] [(oBox bx0 43 [(int .i64 a0.way.Fixed), (int .i64 a0.way.Cut.Min), (int .i64 a0.way.Cut.Max), (int .i64 a0.way.Cut.Bits), (Value.map (some gm0_4)), v0_5, (Value.map (some gm0_6)), (int .i64 a0.e)]), (oMapD Tryz.prog 9 gm0_4 str tyS_api_Item a0.kids), (oRow v0_5 37 tyS_api_Blob a0.out), (oMapK Tryz.prog 29 gm0_6 (fun x : A8u8 => ag (cA8u8 x)) (fun x : S_api_Blob => ag [(int .i64 x.Kind), (str x.Bytes)]) a0.seen)] (fun (i : Value × Value) => { val := i.1, own := [(oRow i.1 9 tyStr r.1), (oBox bx0 43 [(int .i64 r.2.way.Fixed), (int .i64 r.2.way.Cut.Min), (int .i64 r.2.way.Cut.Max), (int .i64 r.2.way.Cut.Bits), (Value.map (some gm0_4)), i.2, (Value.map (some gm0_6)), (int .i64 r.2.e)]), (oMapD Tryz.prog 9 gm0_4 str tyS_api_Item r.2.kids), (oRow i.2 37 tyS_api_Blob r.2.out), (oMapK Tryz.prog 29 gm0_6 (fun x : A8u8 => ag (cA8u8 x)) (fun x : S_api_Blob => ag [(int .i64 x.Kind), (str x.Bytes)]) r.2.seen)] }) := by
 unfold f___walk_planter__pieces at h
 refine fn_enter Tryz.func23 rfl Tryz.ntmps23 rfl (fun w0 Z0 => ?_)
 refine aw_sr ?_
 refine an_ ?_
 refine aw_sr ?_
 refine an_ ?_
 obtain ⟨kk2, hkk2, h⟩ := lt_some h
 refine aw_seq_join (ι := Value × (List (List UInt8))) (fun i => (mm8 w0 Z0 a0 bx0 gm0_4 gm0_6 i.1 i.2 v0_5)) (fun i => (tab [(0, (pq bx0)), (5, i.1)])) (fun i => kk2 i.2 = some r) ?_ ?_
 rintro ⟨j1v5, j1x5⟩ h
 have h : kk2 j1x5 = some r := h
 rw [hkk2] at h
 dsimp only at h
 clear hkk2
 refine aw_show (m := (mm8 w0 Z0 a0 bx0 gm0_4 gm0_6 j1v5 j1x5 v0_5)) (S := _) ?_
 refine sm_ ?_
 refine an_ ?_
 refine aw_ret ?_
 cases h
 exact fn_ret (j1v5, v0_5) [4, 3, 0, 1, 2] [] rfl rfl rfl rfl (res1 rfl rfl) rfl rfl rfl (by decide)
 clear hkk2
 refine sm_ ?_
 refine al_val (ov_nilCheck rfl rfl) ?_
 refine al_val (ov_fieldA (p := 0) rfl Tryz.underlying43 rfl sz25 rfl rfl rfl) ?_
 refine al_val (ov_fieldA (p := 0) rfl Tryz.underlying25 rfl sz3 rfl rfl rfl) ?_
 refine al_val (ov_load (i := 0) (v := (iq a0.way.Fixed)) rfl rfl Tryz.underlying3 sz3 rfl rfl rfl rfl) ?_
 refine im_ ?_
 refine aw_cond rfl (fun hb3 => ?_) (fun hb3 => ?_)
 replace h := bif_t hb3 h
 refine aw_region ?_
 refine mv_ ?_
 refine al_val (ov_nilCheck rfl rfl) ?_
 refine al_val (ov_fieldA (p := 0) rfl Tryz.underlying43 rfl sz25 rfl rfl rfl) ?_
 refine al_val (ov_fieldA (p := 1) rfl Tryz.underlying25 rfl sz23 rfl rfl rfl) ?_
 refine al_val (ov_load (i := 0) (v := (ag [(iq a0.way.Cut.Min), (iq a0.way.Cut.Max), (iq a0.way.Cut.Bits)])) rfl rfl Tryz.underlying23 sz23 rfl rfl rfl rfl) ?_
 refine mv_ ?_
 obtain ⟨r5, hc4, h⟩ := opt_some h
 refine al_call (vs := [(ag [(iq a0.way.Cut.Min), (iq a0.way.Cut.Max), (iq a0.way.Cut.Bits)]), (str a1)]) (f_chunk_Cut_ok fu (S_api_Cut.mk a0.way.Cut.Min a0.way.Cut.Max a0.way.Cut.Bits) a1 hc4) [] [] [0, 1, 2, 3] pre_nil rfl (by simp) (by decide) (.inl rfl) rfl Tryz.func37 rfl rfl rfl (fun v6 => ?_)
 refine mv_ ?_
 refine al_ex rfl rfl rfl ?_
 refine al_ex rfl rfl rfl ?_
 refine as_ ?_
 refine al_nil ?_
 exact aq_join (v6, r5.1) h (nm_ [2, 3, 4, 1, 0] [] (by decide) ⟨rfl, rfl, trivial⟩)
 replace h := bif_f hb3 h
 refine aw_region ?_
 refine mv_ ?_
 refine al_val (ov_nilCheck rfl rfl) ?_
 refine al_val (ov_fieldA (p := 0) rfl Tryz.underlying43 rfl sz25 rfl rfl rfl) ?_
 refine al_val (ov_fieldA (p := 0) rfl Tryz.underlying25 rfl sz3 rfl rfl rfl) ?_
 refine al_val (ov_load (i := 0) (v := (iq a0.way.Fixed)) rfl rfl Tryz.underlying3 sz3 rfl rfl rfl rfl) ?_
 refine mv_ ?_
 obtain ⟨r8, hc7, h⟩ := opt_some h
 refine al_call (vs := [(iq a0.way.Fixed), (str a1)]) (f_chunk_Fixed_ok fu a0.way.Fixed a1 hc7) [] [] [0, 1, 2, 3] pre_nil rfl (by simp) (by decide) (.inl rfl) rfl Tryz.func38 rfl rfl rfl (fun v9 => ?_)
 refine mv_ ?_
 refine al_ex rfl rfl rfl ?_
 refine al_ex rfl rfl rfl ?_
 refine as_ ?_
 refine al_nil ?_
 exact aq_join (v9, r8.1) h (nm_ [2, 3, 4, 1, 0] [] (by decide) ⟨rfl, rfl, trivial⟩)
def f___walk_planter__put (fu : Nat) (a0 : D_walk_planter) (a1 : S_api_Blob) : Option (A8u8 × D_walk_planter) := (bif (a0.e != (0 : Int)) then (some (zA8u8, (D_walk_planter.mk (S_api_Way.mk a0.way.Fixed (S_api_Cut.mk a0.way.Cut.Min a0.way.Cut.Max a0.way.Cut.Bits)) a0.kids a0.out a0.seen a0.e))) else (opt (f_pack_ID fu a1) fun (r5 : (A8u8 × Int)) => (bif (r5.2 != (0 : Int)) then (some (zA8u8, (D_walk_planter.mk (S_api_Way.mk a0.way.Fixed (S_api_Cut.mk a0.way.Cut.Min a0.way.Cut.Max a0.way.Cut.Bits)) a0.kids a0.out a0.seen r5.2))) else (lt (fun (j9x0_5 : (List S_api_Blob)) (j9xm0_6 : (List (A8u8 × S_api_Blob))) (j9i0_7 : Int) => (some (r5.1, (D_walk_planter.mk (S_api_Way.mk a0.way.Fixed (S_api_Cut.mk a0.way.Cut.Min a0.way.Cut.Max a0.way.Cut.Bits)) a0.kids j9x0_5 j9xm0_6 j9i0_7)))) fun (kk10 : (List S_api_Blob) → (List (A8u8 × S_api_Blob)) → Int → Option (A8u8 × D_walk_planter)) => (bif (!((gget a0.seen r5.1).isSome)) then (req (((a0.out.length + ([a1]).length) * 24 : Nat) ≤ 140737488355328 ∧ a0.out.length + ([a1]).length ≤ 9223372036854775807) (kk10 (a0.out ++ ([a1])) (gset a0.seen r5.1 a1) a0.e)) else (req ((Lit.int .i64 (((gget a0.seen r5.1).getD (S_api_Blob.mk (0 : Int) ([] : (List UInt8)))).Kind)).wf = true) (req ((((gget a0.seen r5.1).getD (S_api_Blob.mk (0 : Int) ([] : (List UInt8)))).Bytes).length ≤ 9223372036854775807) (req ((Lit.int .i64 a1.Kind).wf = true) (req (a1.Bytes.length ≤ 9223372036854775807) (bif (!((S_api_Blob.mk (((gget a0.seen r5.1).getD (S_api_Blob.mk (0 : Int) ([] : (List UInt8)))).Kind) (((gget a0.seen r5.1).getD (S_api_Blob.mk (0 : Int) ([] : (List UInt8)))).Bytes)) == a1)) then (kk10 a0.out a0.seen (11 : Int)) else (kk10 a0.out a0.seen a0.e)))))))))))
abbrev mm9 (w0 : World) (Z0 : Nat → Prop) (a0 : D_walk_planter) (a1 : S_api_Blob) (bx0 : Nat) (g1 : Nat) (g2 : Nat) (g6 : Nat) (gm0_4 : Nat) (gm0_6 : Nat) (r5 : (A8u8 × Int)) (v0_5 : Value) : Mem := memOf w0 Z0 [(oBox bx0 43 [(int .i64 a0.way.Fixed), (int .i64 a0.way.Cut.Min), (int .i64 a0.way.Cut.Max), (int .i64 a0.way.Cut.Bits), (Value.map (some gm0_4)), v0_5, (Value.map (some gm0_6)), (int .i64 a0.e)]), (oMapD Tryz.prog 9 gm0_4 str tyS_api_Item a0.kids), (oRow v0_5 37 tyS_api_Blob a0.out), (oMapK Tryz.prog 29 gm0_6 (fun x : A8u8 => ag (cA8u8 x)) (fun x : S_api_Blob => ag [(int .i64 x.Kind), (str x.Bytes)]) a0.seen)] [(oBox g6 29 (cA8u8 r5.1)), (oBox g2 29 (cA8u8 zA8u8)), (oBox g1 37 [(int .i64 a1.Kind), (str a1.Bytes)]), (oBox bx0 43 [(int .i64 a0.way.Fixed), (int .i64 a0.way.Cut.Min), (int .i64 a0.way.Cut.Max), (int .i64 a0.way.Cut.Bits), (Value.map (some gm0_4)), v0_5, (Value.map (some gm0_6)), (int .i64 a0.e)]), (oMapD Tryz.prog 9 gm0_4 str tyS_api_Item a0.kids), (oRow v0_5 37 tyS_api_Blob a0.out), (oMapK Tryz.prog 29 gm0_6 (fun x : A8u8 => ag (cA8u8 x)) (fun x : S_api_Blob => ag [(int .i64 x.Kind), (str x.Bytes)]) a0.seen)] []
abbrev mm10 (w0 : World) (Z0 : Nat → Prop) (a0 : D_walk_planter) (a1 : S_api_Blob) (bx0 : Nat) (g1 : Nat) (g2 : Nat) (g6 : Nat) (g8 : Nat) (gm0_4 : Nat) (gm0_6 : Nat) (r5 : (A8u8 × Int)) (v0_5 : Value) : Mem := memOf w0 Z0 [(oBox bx0 43 [(int .i64 a0.way.Fixed), (int .i64 a0.way.Cut.Min), (int .i64 a0.way.Cut.Max), (int .i64 a0.way.Cut.Bits), (Value.map (some gm0_4)), v0_5, (Value.map (some gm0_6)), (int .i64 a0.e)]), (oMapD Tryz.prog 9 gm0_4 str tyS_api_Item a0.kids), (oRow v0_5 37 tyS_api_Blob a0.out), (oMapK Tryz.prog 29 gm0_6 (fun x : A8u8 => ag (cA8u8 x)) (fun x : S_api_Blob => ag [(int .i64 x.Kind), (str x.Bytes)]) a0.seen)] [(oBox g8 37 [(int .i64 ((gget a0.seen r5.1).getD (S_api_Blob.mk (0 : Int) ([] : (List UInt8)))).Kind), (str ((gget a0.seen r5.1).getD (S_api_Blob.mk (0 : Int) ([] : (List UInt8)))).Bytes)]), (oBox g6 29 (cA8u8 r5.1)), (oBox g2 29 (cA8u8 zA8u8)), (oBox g1 37 [(int .i64 a1.Kind), (str a1.Bytes)]), (oBox bx0 43 [(int .i64 a0.way.Fixed), (int .i64 a0.way.Cut.Min), (int .i64 a0.way.Cut.Max), (int .i64 a0.way.Cut.Bits), (Value.map (some gm0_4)), v0_5, (Value.map (some gm0_6)), (int .i64 a0.e)]), (oMapD Tryz.prog 9 gm0_4 str tyS_api_Item a0.kids), (oRow v0_5 37 tyS_api_Blob a0.out), (oMapK Tryz.prog 29 gm0_6 (fun x : A8u8 => ag (cA8u8 x)) (fun x : S_api_Blob => ag [(int .i64 x.Kind), (str x.Bytes)]) a0.seen)] []
abbrev mm11 (w0 : World) (Z0 : Nat → Prop) (a0 : D_walk_planter) (bx0 : Nat) (g2 : Nat) (g6 : Nat) (gm0_4 : Nat) (gm0_6 : Nat) (j9i0_7 : Int) (j9v0_5 : Value) (j9x0_5 : (List S_api_Blob)) (j9xm0_6 : (List (A8u8 × S_api_Blob))) (r5 : (A8u8 × Int)) (v0_5 : Value) : Mem := memOf w0 Z0 [(oBox bx0 43 [(int .i64 a0.way.Fixed), (int .i64 a0.way.Cut.Min), (int .i64 a0.way.Cut.Max), (int .i64 a0.way.Cut.Bits), (Value.map (some gm0_4)), v0_5, (Value.map (some gm0_6)), (int .i64 a0.e)]), (oMapD Tryz.prog 9 gm0_4 str tyS_api_Item a0.kids), (oRow v0_5 37 tyS_api_Blob a0.out), (oMapK Tryz.prog 29 gm0_6 (fun x : A8u8 => ag (cA8u8 x)) (fun x : S_api_Blob => ag [(int .i64 x.Kind), (str x.Bytes)]) a0.seen)] [(oMapD Tryz.prog 9 gm0_4 str tyS_api_Item a0.kids), (oRow j9v0_5 37 tyS_api_Blob j9x0_5), (oMapK Tryz.prog 29 gm0_6 (fun x : A8u8 => ag (cA8u8 x)) (fun x : S_api_Blob => ag [(int .i64 x.Kind), (str x.Bytes)]) j9xm0_6), (oBox bx0 43 [(int .i64 a0.way.Fixed), (int .i64 a0.way.Cut.Min), (int .i64 a0.way.Cut.Max), (int .i64 a0.way.Cut.Bits), (Value.map (some gm0_4)), j9v0_5, (Value.map (some gm0_6)), (int .i64 j9i0_7)]), (oBox g2 29 (cA8u8 zA8u8)), (oBox g6 29 (cA8u8 r5.1))] []
abbrev mm12 (w0 : World) (Z0 : Nat → Prop) (a0 : D_walk_planter) (a1 : S_api_Blob) (bx0 : Nat) (g1 : Nat) (g2 : Nat) (g6 : Nat) (g8 : Nat) (gm0_4 : Nat) (gm0_6 : Nat) (r5 : (A8u8 × Int)) (v0_5 : Value) : Mem := memOf w0 Z0 [(oBox bx0 43 [(int .i64 a0.way.Fixed), (int .i64 a0.way.Cut.Min), (int .i64 a0.way.Cut.Max), (int .i64 a0.way.Cut.Bits), (Value.map (some gm0_4)), v0_5, (Value.map (some gm0_6)), (int .i64 a0.e)]), (oMapD Tryz.prog 9 gm0_4 str tyS_api_Item a0.kids), (oRow v0_5 37 tyS_api_Blob a0.out), (oMapK Tryz.prog 29 gm0_6 (fun x : A8u8 => ag (cA8u8 x)) (fun x : S_api_Blob => ag [(int .i64 x.Kind), (str x.Bytes)]) a0.seen)] [(oBox g8 37 [(int .i64 ((gget a0.seen r5.1).getD (S_api_Blob.mk (0 : Int) ([] : (List UInt8)))).Kind), (str ((gget a0.seen r5.1).getD (S_api_Blob.mk (0 : Int) ([] : (List UInt8)))).Bytes)]), (oBox g6 29 (cA8u8 r5.1)), (oBox g2 29 (cA8u8 zA8u8)), (oBox g1 37 [(int .i64 a1.Kind), (str a1.Bytes)]), (oBox bx0 43 [(int .i64 a0.way.Fixed), (int .i64 a0.way.Cut.Min), (int .i64 a0.way.Cut.Max), (int .i64 a0.way.Cut.Bits), (Value.map (some gm0_4)), v0_5, (Value.map (some gm0_6)), (int .i64 a0.e)]), (oMapD Tryz.prog 9 gm0_4 str tyS_api_Item a0.kids), (oRow v0_5 37 tyS_api_Blob a0.out), (oMapK Tryz.prog 29 gm0_6 (fun x : A8u8 => ag (cA8u8 x)) (fun x : S_api_Blob => ag [(int .i64 x.Kind), (str x.Bytes)]) (gset a0.seen r5.1 a1))] []
abbrev mm13 (w0 : World) (Z0 : Nat → Prop) (a0 : D_walk_planter) (a1 : S_api_Blob) (bx0 : Nat) (g1 : Nat) (g2 : Nat) (g6 : Nat) (g8 : Nat) (gm0_4 : Nat) (gm0_6 : Nat) (r5 : (A8u8 × Int)) (v0_5 : Value) (v12 : Value) (v14 : Value) : Mem := memOf w0 Z0 [(oBox bx0 43 [(int .i64 a0.way.Fixed), (int .i64 a0.way.Cut.Min), (int .i64 a0.way.Cut.Max), (int .i64 a0.way.Cut.Bits), (Value.map (some gm0_4)), v0_5, (Value.map (some gm0_6)), (int .i64 a0.e)]), (oMapD Tryz.prog 9 gm0_4 str tyS_api_Item a0.kids), (oRow v0_5 37 tyS_api_Blob a0.out), (oMapK Tryz.prog 29 gm0_6 (fun x : A8u8 => ag (cA8u8 x)) (fun x : S_api_Blob => ag [(int .i64 x.Kind), (str x.Bytes)]) a0.seen)] [(oRow v12 37 tyS_api_Blob [a1]), (oBox g8 37 [(int .i64 ((gget a0.seen r5.1).getD (S_api_Blob.mk (0 : Int) ([] : (List UInt8)))).Kind), (str ((gget a0.seen r5.1).getD (S_api_Blob.mk (0 : Int) ([] : (List UInt8)))).Bytes)]), (oBox g6 29 (cA8u8 r5.1)), (oBox g2 29 (cA8u8 zA8u8)), (oBox g1 37 [(int .i64 a1.Kind), (str a1.Bytes)]), (oBox bx0 43 [(int .i64 a0.way.Fixed), (int .i64 a0.way.Cut.Min), (int .i64 a0.way.Cut.Max), (int .i64 a0.way.Cut.Bits), (Value.map (some gm0_4)), v0_5, (Value.map (some gm0_6)), (int .i64 a0.e)]), (oMapD Tryz.prog 9 gm0_4 str tyS_api_Item a0.kids), (oRow v14 37 tyS_api_Blob (a0.out ++ ([a1]))), (oMapK Tryz.prog 29 gm0_6 (fun x : A8u8 => ag (cA8u8 x)) (fun x : S_api_Blob => ag [(int .i64 x.Kind), (str x.Bytes)]) (gset a0.seen r5.1 a1))] []
abbrev mm14 (w0 : World) (Z0 : Nat → Prop) (a0 : D_walk_planter) (a1 : S_api_Blob) (bx0 : Nat) (g1 : Nat) (g2 : Nat) (g6 : Nat) (g8 : Nat) (gm0_4 : Nat) (gm0_6 : Nat) (r5 : (A8u8 × Int)) (v0_5 : Value) (v12 : Value) (v14 : Value) : Mem := memOf w0 Z0 [(oBox bx0 43 [(int .i64 a0.way.Fixed), (int .i64 a0.way.Cut.Min), (int .i64 a0.way.Cut.Max), (int .i64 a0.way.Cut.Bits), (Value.map (some gm0_4)), v0_5, (Value.map (some gm0_6)), (int .i64 a0.e)]), (oMapD Tryz.prog 9 gm0_4 str tyS_api_Item a0.kids), (oRow v0_5 37 tyS_api_Blob a0.out), (oMapK Tryz.prog 29 gm0_6 (fun x : A8u8 => ag (cA8u8 x)) (fun x : S_api_Blob => ag [(int .i64 x.Kind), (str x.Bytes)]) a0.seen)] [(oRow v12 37 tyS_api_Blob [a1]), (oBox g8 37 [(int .i64 ((gget a0.seen r5.1).getD (S_api_Blob.mk (0 : Int) ([] : (List UInt8)))).Kind), (str ((gget a0.seen r5.1).getD (S_api_Blob.mk (0 : Int) ([] : (List UInt8)))).Bytes)]), (oBox g6 29 (cA8u8 r5.1)), (oBox g2 29 (cA8u8 zA8u8)), (oBox g1 37 [(int .i64 a1.Kind), (str a1.Bytes)]), (oBox bx0 43 [(int .i64 a0.way.Fixed), (int .i64 a0.way.Cut.Min), (int .i64 a0.way.Cut.Max), (int .i64 a0.way.Cut.Bits), (Value.map (some gm0_4)), v14, (Value.map (some gm0_6)), (int .i64 a0.e)]), (oMapD Tryz.prog 9 gm0_4 str tyS_api_Item a0.kids), (oRow v14 37 tyS_api_Blob (a0.out ++ ([a1]))), (oMapK Tryz.prog 29 gm0_6 (fun x : A8u8 => ag (cA8u8 x)) (fun x : S_api_Blob => ag [(int .i64 x.Kind), (str x.Bytes)]) (gset a0.seen r5.1 a1))] []
set_option maxHeartbeats 2000000 in
set_option maxRecDepth 100000 in
theorem f___walk_planter__put_ok (fu : Nat) (bx0 : Nat) (gm0_4 : Nat) (v0_5 : Value) (gm0_6 : Nat) (a0 : D_walk_planter) (a1 : S_api_Blob) {r : (A8u8 × D_walk_planter)} (h : f___walk_planter__put fu a0 a1 = some r) : FnOk Tryz.prog 24 [(ptr bx0 0), (ag [(int .i64 a1.Kind), (str a1.Bytes)])] [] [(oBox bx0 43 [(int .i64 a0.way.Fixed), (int .i64 a0.way.Cut.Min), (int .i64 a0.way.Cut.Max), (int .i64 a0.way.Cut.Bits), (Value.map (some gm0_4)), v0_5, (Value.map (some gm0_6)), (int .i64 a0.e)]), (oMapD Tryz.prog 9 gm0_4 str tyS_api_Item a0.kids), (oRow v0_5 37 tyS_api_Blob a0.out), (oMapK Tryz.prog 29 gm0_6 (fun x : A8u8 => ag (cA8u8 x)) (fun x : S_api_Blob => ag [(int .i64 x.Kind), (str x.Bytes)]) a0.seen)] (fun (i : Value) => { val := (ag (cA8u8 r.1)), own := [(oBox bx0 43 [(int .i64 r.2.way.Fixed), (int .i64 r.2.way.Cut.Min), (int .i64 r.2.way.Cut.Max), (int .i64 r.2.way.Cut.Bits), (Value.map (some gm0_4)), i, (Value.map (some gm0_6)), (int .i64 r.2.e)]), (oMapD Tryz.prog 9 gm0_4 str tyS_api_Item r.2.kids), (oRow i 37 tyS_api_Blob r.2.out), (oMapK Tryz.prog 29 gm0_6 (fun x : A8u8 => ag (cA8u8 x)) (fun x : S_api_Blob => ag [(int .i64 x.Kind), (str x.Bytes)]) r.2.seen)] }) := by
 unfold f___walk_planter__put at h
 refine fn_enter Tryz.func24 rfl Tryz.ntmps24 rfl (fun w0 Z0 => ?_)
 refine aw_sr ?_
 refine al_box (vs := [(iq a1.Kind), (str a1.Bytes)]) rfl (cv_rfl rfl) rfl (fun g1 => ?_)
 refine al_alloc (zs := (cA8u8 zA8u8)) (zeroOf_to to29) rfl rfl (fun g2 => ?_)
 refine al_nt ?_
 refine aw_seq ?_
 refine sm_ ?_
 refine al_val (ov_nilCheck rfl rfl) ?_
 refine al_val (ov_fieldA (p := 7) rfl Tryz.underlying43 rfl sz30 rfl rfl rfl) ?_
 refine al_val (ov_load (i := 2) (v := (iq a0.e)) rfl rfl Tryz.underlying30 sz30 rfl rfl rfl rfl) ?_
 refine im_ ?_
 refine aw_cond rfl (fun hb3 => ?_) (fun hb3 => ?_)
 replace h := bif_t hb3 h
 refine aw_sr ?_
 refine al_val (ov_build (cells := ((cA8u8 zA8u8) : List Value).toArray) (cs := (cA8u8 zA8u8)) rfl (fun w a hm hs => by simp only [List.map_toArray, List.map_cons, List.map_nil, List.toList_toArray]; kernel_rfl)) ?_
 refine al_store (i := 0) (vs := (cA8u8 zA8u8)) (cs' := (cA8u8 zA8u8)) rfl rfl rfl sz29 (cv_rfl rfl) rfl (co_all (oneA8u8 zA8u8)) (Nat.le_of_ble_eq_true rfl) rfl rfl ?_
 refine nr_ ?_
 refine aq_then_ret ?_
 cases h
 exact fn_ret v0_5 [2, 3, 4, 5] [] rfl rfl rfl rfl (resC rfl (resB (i := 0) rfl rfl Tryz.underlying29 sz29 rfl rfl rfl (resN)) rfl) rfl rfl rfl (by decide)
 replace h := bif_f hb3 h
 refine aw_skip ?_
 refine aq_tr ?_
 refine al_val (ov_load (i := 1) (v := (ag [(iq a1.Kind), (str a1.Bytes)])) rfl rfl Tryz.underlying37 sz37 rfl rfl rfl rfl) ?_
 obtain ⟨r5, hc4, h⟩ := opt_some h
 refine al_call (vs := [(ag [(iq a1.Kind), (str a1.Bytes)])]) (f_pack_ID_ok fu a1 hc4) [] [] [0, 1, 2, 3, 4, 5] pre_nil rfl (by simp) (by decide) (.inl rfl) rfl Tryz.func39 rfl rfl rfl (fun _ => ?_)
 refine mv_ ?_
 refine al_ex rfl rfl rfl ?_
 refine al_ex rfl rfl rfl ?_
 refine al_alloc (zs := (cA8u8 zA8u8)) (zeroOf_to to29) rfl rfl (fun g6 => ?_)
 refine al_store (i := 0) (vs := (cA8u8 r5.1)) (cs' := (cA8u8 r5.1)) rfl rfl rfl sz29 (cv_rfl rfl) rfl (co_all (oneA8u8 r5.1)) (Nat.le_of_ble_eq_true rfl) rfl rfl ?_
 refine an_ ?_
 refine aw_seq ?_
 refine sm_ ?_
 refine im_ ?_
 refine aw_cond rfl (fun hb7 => ?_) (fun hb7 => ?_)
 replace h := bif_t hb7 h
 refine sm_ ?_
 refine mv_ ?_
 refine al_val (ov_nilCheck rfl rfl) ?_
 refine al_val (ov_fieldA (p := 7) rfl Tryz.underlying43 rfl sz30 rfl rfl rfl) ?_
 refine al_store (i := 3) (vs := [(iq r5.2)]) (cs' := [(iq a0.way.Fixed), (iq a0.way.Cut.Min), (iq a0.way.Cut.Max), (iq a0.way.Cut.Bits), (Value.map (some gm0_4)), v0_5, (Value.map (some gm0_6)), (iq r5.2)]) rfl rfl rfl sz30 (cv_rfl rfl) rfl (co_val rfl co_nil) (Nat.le_of_ble_eq_true rfl) rfl rfl ?_
 refine al_nt ?_
 refine aw_sr ?_
 refine al_val (ov_build (cells := ((cA8u8 zA8u8) : List Value).toArray) (cs := (cA8u8 zA8u8)) rfl (fun w a hm hs => by simp only [List.map_toArray, List.map_cons, List.map_nil, List.toList_toArray]; kernel_rfl)) ?_
 refine al_store (i := 1) (vs := (cA8u8 zA8u8)) (cs' := (cA8u8 zA8u8)) rfl rfl rfl sz29 (cv_rfl rfl) rfl (co_all (oneA8u8 zA8u8)) (Nat.le_of_ble_eq_true rfl) rfl rfl ?_
 refine nr_ ?_
 refine aq_then_ret ?_
 cases h
 exact fn_ret v0_5 [3, 4, 5, 6] [] rfl rfl rfl rfl (resC rfl (resB (i := 1) rfl rfl Tryz.underlying29 sz29 rfl rfl rfl (resN)) rfl) rfl rfl rfl (by decide)
 replace h := bif_f hb7 h
 refine aw_skip ?_
 refine aq_then ?_
 refine aw_seq ?_
 refine aw_region_open [(sp_ 0 28 (pq bx0)), (sp_ 1 29 (pq bx0)), (sp_ 2 30 (ptr bx0 6)), (sp_ 3 31 (Value.map (some gm0_6))), (sp_ 4 32 (ag (cA8u8 r5.1))), ⟨9, 7, Nat, fun (i : Nat) => { val := (pq i), own := [(oBox i 37 [(iq (0 : Int)), (str ([] : List UInt8))])] }⟩] (tab [(0, (pq bx0)), (3, (pq g1)), (4, (pq g2)), (5, (pq g6))]) mixed (fun a hs => hs.tab _ (allT_mem ⟨rfl, rfl, rfl, rfl, trivial⟩)) ?_
 refine ta_show (m := (mm9 w0 Z0 a0 a1 bx0 g1 g2 g6 gm0_4 gm0_6 r5 v0_5)) (S := _) ?_
 refine ta_step 5 _ [0, 1, 2, 3, 4, 9] [28, 29, 30, 31, 32, 7] [0, 1, 2, 3, 4] [6, 7, 8] [(sp_ 0 28 (pq bx0)), (sp_ 1 29 (pq bx0)), (sp_ 2 30 (ptr bx0 6)), (sp_ 3 31 (Value.map (some gm0_6))), (sp_ 4 32 (ag (cA8u8 r5.1)))] [⟨9, 7, Nat, fun (i : Nat) => { val := (pq i), own := [(oBox i 37 [(iq (0 : Int)), (str ([] : List UInt8))])] }⟩] rfl rfl rfl (by kernel_rfl) rfl rfl rfl ⟨⟨_, rfl, [], rfl, by
  intro X_ Y_ F_ K_ hK_
  refine sh_ (mm9 w0 Z0 a0 a1 bx0 g1 g2 g6 gm0_4 gm0_6 r5 v0_5) X_ Y_ ?_
  refine mv_ ?_
  refine al_nil ?_
  exact fr_fin hK_ ()⟩, ⟨_, rfl, [0], rfl, by
  intro _
  intro X_ Y_ F_ K_ hK_
  refine sh_ (mm9 w0 Z0 a0 a1 bx0 g1 g2 g6 gm0_4 gm0_6 r5 v0_5) X_ Y_ ?_
  refine al_val (ov_nilCheck rfl rfl) ?_
  refine al_nil ?_
  exact fr_fin hK_ ()⟩, ⟨_, rfl, [1], rfl, by
  intro _
  intro X_ Y_ F_ K_ hK_
  refine sh_ (mm9 w0 Z0 a0 a1 bx0 g1 g2 g6 gm0_4 gm0_6 r5 v0_5) X_ Y_ ?_
  refine al_val (ov_fieldA (p := 6) rfl Tryz.underlying43 rfl sz41 rfl rfl rfl) ?_
  refine al_nil ?_
  exact fr_fin hK_ ()⟩, ⟨_, rfl, [2], rfl, by
  intro _
  intro X_ Y_ F_ K_ hK_
  refine sh_ (mm9 w0 Z0 a0 a1 bx0 g1 g2 g6 gm0_4 gm0_6 r5 v0_5) X_ Y_ ?_
  refine al_val (ov_load (i := 3) (v := (Value.map (some gm0_6))) rfl rfl Tryz.underlying41 sz41 rfl rfl rfl rfl) ?_
  refine al_nil ?_
  exact fr_fin hK_ ()⟩, ⟨_, rfl, [], rfl, by
  intro X_ Y_ F_ K_ hK_
  refine sh_ (mm9 w0 Z0 a0 a1 bx0 g1 g2 g6 gm0_4 gm0_6 r5 v0_5) X_ Y_ ?_
  refine al_val (ov_load (i := 0) (v := (ag (cA8u8 r5.1))) rfl rfl Tryz.underlying29 sz29 rfl rfl rfl rfl) ?_
  refine al_nil ?_
  exact fr_fin hK_ ()⟩, ⟨_, rfl, [], rfl, by
  intro X_ Y_ F_ K_ hK_
  refine sh_ (mm9 w0 Z0 a0 a1 bx0 g1 g2 g6 gm0_4 gm0_6 r5 v0_5) X_ Y_ ?_
  refine al_alloc (zs := [(iq (0 : Int)), (str ([] : List UInt8))]) (zeroOf_to to37) rfl rfl (fun g8 => ?_)
  refine al_nil ?_
  exact fr_fin hK_ g8⟩, trivial⟩ ?_
 intro _
 intro _
 intro _
 intro _
 intro _
 intro X_ Y_ F_ K_ hK_
 refine sh_ (mm9 w0 Z0 a0 a1 bx0 g1 g2 g6 gm0_4 gm0_6 r5 v0_5) X_ Y_ ?_
 refine al_val (v := (Value.tuple #[(ag [(iq ((gget a0.seen r5.1).getD (S_api_Blob.mk (0 : Int) ([] : (List UInt8)))).Kind), (str ((gget a0.seen r5.1).getD (S_api_Blob.mk (0 : Int) ([] : (List UInt8)))).Bytes)]), (bool (gget a0.seen r5.1).isSome)])) (ov_lookupOkK (k := r5.1) (ek := (fun x : A8u8 => ag (cA8u8 x))) (ew := (fun x : S_api_Blob => ag [(iq x.Kind), (str x.Bytes)])) (z := (S_api_Blob.mk (0 : Int) ([] : (List UInt8)))) 6 kd29 ki29 (kw29 r5.1) rfl rfl rfl Tryz.underlying41 (zeroOf_to to37) rfl) ?_
 refine al_nil ?_
 refine aq_show (m := Mem.plus (mm9 w0 Z0 a0 a1 bx0 g1 g2 g6 gm0_4 gm0_6 r5 v0_5) X_ Y_) ?_
 refine aq_next hK_ [0, 1, 2, 3, 4, 5, 6] [] [(0, (pq bx0)), (3, (pq g1)), (4, (pq g2)), (5, (pq g6)), (33, (Value.tuple #[(ag [(iq ((gget a0.seen r5.1).getD (S_api_Blob.mk (0 : Int) ([] : (List UInt8)))).Kind), (str ((gget a0.seen r5.1).getD (S_api_Blob.mk (0 : Int) ([] : (List UInt8)))).Bytes)]), (bool (gget a0.seen r5.1).isSome)]))] [7] [(sp_ 6 27 (Value.tuple #[(ag [(iq ((gget a0.seen r5.1).getD (S_api_Blob.mk (0 : Int) ([] : (List UInt8)))).Kind), (str ((gget a0.seen r5.1).getD (S_api_Blob.mk (0 : Int) ([] : (List UInt8)))).Bytes)]), (bool (gget a0.seen r5.1).isSome)])), (sp_ 7 34 (ag [(iq ((gget a0.seen r5.1).getD (S_api_Blob.mk (0 : Int) ([] : (List UInt8)))).Kind), (str ((gget a0.seen r5.1).getD (S_api_Blob.mk (0 : Int) ([] : (List UInt8)))).Bytes)])), (sp_ 8 35 (bool (gget a0.seen r5.1).isSome))] rfl rfl (by decide) rfl ⟨rfl, rfl, rfl, rfl, rfl, trivial⟩ ⟨rfl, trivial⟩ ?_
 clear hK_ K_ F_ X_ Y_
 refine ta_show (m := (mm9 w0 Z0 a0 a1 bx0 g1 g2 g6 gm0_4 gm0_6 r5 v0_5)) (S := _) ?_
 refine ta_step 10 _ [9, 6, 7, 8] [7, 27, 34, 35] [9, 6, 7] [] [⟨9, 7, Nat, fun (i : Nat) => { val := (pq i), own := [(oBox i 37 [(iq (0 : Int)), (str ([] : List UInt8))])] }⟩, (sp_ 6 27 (Value.tuple #[(ag [(iq ((gget a0.seen r5.1).getD (S_api_Blob.mk (0 : Int) ([] : (List UInt8)))).Kind), (str ((gget a0.seen r5.1).getD (S_api_Blob.mk (0 : Int) ([] : (List UInt8)))).Bytes)]), (bool (gget a0.seen r5.1).isSome)])), (sp_ 7 34 (ag [(iq ((gget a0.seen r5.1).getD (S_api_Blob.mk (0 : Int) ([] : (List UInt8)))).Kind), (str ((gget a0.seen r5.1).getD (S_api_Blob.mk (0 : Int) ([] : (List UInt8)))).Bytes)]))] [(sp_ 8 35 (bool (gget a0.seen r5.1).isSome))] rfl rfl rfl (by kernel_rfl) rfl rfl rfl ⟨⟨_, rfl, [], rfl, by
  intro X_ Y_ F_ K_ hK_
  refine sh_ (mm9 w0 Z0 a0 a1 bx0 g1 g2 g6 gm0_4 gm0_6 r5 v0_5) X_ Y_ ?_
  refine al_alloc (zs := [(iq (0 : Int)), (str ([] : List UInt8))]) (zeroOf_to to37) rfl rfl (fun g8 => ?_)
  refine al_nil ?_
  exact fr_fin hK_ g8⟩, ⟨_, rfl, [], rfl, by
  intro X_ Y_ F_ K_ hK_
  refine sh_ (mm9 w0 Z0 a0 a1 bx0 g1 g2 g6 gm0_4 gm0_6 r5 v0_5) X_ Y_ ?_
  refine mv_ ?_
  refine al_nil ?_
  exact fr_fin hK_ ()⟩, ⟨_, rfl, [1], rfl, by
  intro _
  intro X_ Y_ F_ K_ hK_
  refine sh_ (mm9 w0 Z0 a0 a1 bx0 g1 g2 g6 gm0_4 gm0_6 r5 v0_5) X_ Y_ ?_
  refine al_ex rfl rfl rfl ?_
  refine al_nil ?_
  exact fr_fin hK_ ()⟩, ⟨_, rfl, [1], rfl, by
  intro _
  intro X_ Y_ F_ K_ hK_
  refine sh_ (mm9 w0 Z0 a0 a1 bx0 g1 g2 g6 gm0_4 gm0_6 r5 v0_5) X_ Y_ ?_
  refine al_ex rfl rfl rfl ?_
  refine al_nil ?_
  exact fr_fin hK_ ()⟩, trivial⟩ ?_
 intro g8
 intro _
 intro _
 intro X_ Y_ F_ K_ hK_
 refine sh_ (memOf w0 Z0 [(oBox bx0 43 [(iq a0.way.Fixed), (iq a0.way.Cut.Min), (iq a0.way.Cut.Max), (iq a0.way.Cut.Bits), (Value.map (some gm0_4)), v0_5, (Value.map (some gm0_6)), (iq a0.e)]), (oMapD Tryz.prog 9 gm0_4 str tyS_api_Item a0.kids), (oRow v0_5 37 tyS_api_Blob a0.out), (oMapK Tryz.prog 29 gm0_6 (fun x : A8u8 => ag (cA8u8 x)) (fun x : S_api_Blob => ag [(iq x.Kind), (str x.Bytes)]) a0.seen)] [(oBox g8 37 [(iq (0 : Int)), (str ([] : List UInt8))]), (oBox g6 29 (cA8u8 r5.1)), (oBox g2 29 (cA8u8 zA8u8)), (oBox g1 37 [(iq a1.Kind), (str a1.Bytes)]), (oBox bx0 43 [(iq a0.way.Fixed), (iq a0.way.Cut.Min), (iq a0.way.Cut.Max), (iq a0.way.Cut.Bits), (Value.map (some gm0_4)), v0_5, (Value.map (some gm0_6)), (iq a0.e)]), (oMapD Tryz.prog 9 gm0_4 str tyS_api_Item a0.kids), (oRow v0_5 37 tyS_api_Blob a0.out), (oMapK Tryz.prog 29 gm0_6 (fun x : A8u8 => ag (cA8u8 x)) (fun x : S_api_Blob => ag [(iq x.Kind), (str x.Bytes)]) a0.seen)] []) X_ Y_ ?_
 refine al_store (i := 0) (vs := [(iq ((gget a0.seen r5.1).getD (S_api_Blob.mk (0 : Int) ([] : (List UInt8)))).Kind), (str ((gget a0.seen r5.1).getD (S_api_Blob.mk (0 : Int) ([] : (List UInt8)))).Bytes)]) (cs' := [(iq ((gget a0.seen r5.1).getD (S_api_Blob.mk (0 : Int) ([] : (List UInt8)))).Kind), (str ((gget a0.seen r5.1).getD (S_api_Blob.mk (0 : Int) ([] : (List UInt8)))).Bytes)]) rfl rfl rfl sz37 (cv_rfl rfl) rfl (co_val rfl (co_val rfl co_nil)) (Nat.le_of_ble_eq_true rfl) rfl rfl ?_
 refine al_nil ?_
 refine aq_show (m := Mem.plus (mm10 w0 Z0 a0 a1 bx0 g1 g2 g6 g8 gm0_4 gm0_6 r5 v0_5) X_ Y_) ?_
 refine aq_next hK_ [0, 1, 2, 3, 4, 5, 6, 7] [] [(0, (pq bx0)), (3, (pq g1)), (4, (pq g2)), (5, (pq g6)), (7, (pq g8)), (27, (Value.tuple #[(ag [(iq ((gget a0.seen r5.1).getD (S_api_Blob.mk (0 : Int) ([] : (List UInt8)))).Kind), (str ((gget a0.seen r5.1).getD (S_api_Blob.mk (0 : Int) ([] : (List UInt8)))).Bytes)]), (bool (gget a0.seen r5.1).isSome)]))] [35] [] rfl rfl (by decide) rfl ⟨rfl, rfl, rfl, rfl, rfl, rfl, trivial⟩ ⟨rfl, trivial⟩ ?_
 clear hK_ K_ F_ X_ Y_
 refine ta_show (m := (mm10 w0 Z0 a0 a1 bx0 g1 g2 g6 g8 gm0_4 gm0_6 r5 v0_5)) (S := _) ?_
 refine ta_step 11 _ [8] [35] [8] [] [(sp_ 8 35 (bool (gget a0.seen r5.1).isSome))] [] rfl rfl rfl (by kernel_rfl) rfl rfl rfl ⟨⟨_, rfl, [], rfl, by
  intro X_ Y_ F_ K_ hK_
  refine sh_ (mm10 w0 Z0 a0 a1 bx0 g1 g2 g6 g8 gm0_4 gm0_6 r5 v0_5) X_ Y_ ?_
  refine al_ex rfl rfl rfl ?_
  refine al_nil ?_
  exact fr_fin hK_ ()⟩, trivial⟩ ?_
 intro _
 intro X_ Y_ F_ K_ hK_
 refine sh_ (mm10 w0 Z0 a0 a1 bx0 g1 g2 g6 g8 gm0_4 gm0_6 r5 v0_5) X_ Y_ ?_
 refine as_ ?_
 refine al_nil ?_
 refine aq_show (m := Mem.plus (mm10 w0 Z0 a0 a1 bx0 g1 g2 g6 g8 gm0_4 gm0_6 r5 v0_5) X_ Y_) ?_
 refine aq_next hK_ [0, 1, 2, 3, 4, 5, 6, 7] [] [(0, (pq bx0)), (3, (pq g1)), (4, (pq g2)), (5, (pq g6)), (7, (pq g8)), (8, (bool (gget a0.seen r5.1).isSome))] [] [] rfl rfl (by decide) rfl ⟨rfl, rfl, rfl, rfl, rfl, rfl, trivial⟩ trivial ?_
 clear hK_ K_ F_ X_ Y_
 refine ta_show (m := (mm10 w0 Z0 a0 a1 bx0 g1 g2 g6 g8 gm0_4 gm0_6 r5 v0_5)) (S := _) ?_
 refine ta_end [] [] rfl rfl (by kernel_rfl) rfl trivial ?_
 refine aq_show (m := (mm10 w0 Z0 a0 a1 bx0 g1 g2 g6 g8 gm0_4 gm0_6 r5 v0_5)) (S := (tab [(0, (pq bx0)), (3, (pq g1)), (4, (pq g2)), (5, (pq g6)), (7, (pq g8)), (8, (bool (gget a0.seen r5.1).isSome))])) ?_
 refine aq_then ?_
 obtain ⟨kk10, hkk10, h⟩ := lt_some h
 refine aw_seq_join (ι := Value × (List S_api_Blob) × (List (A8u8 × S_api_Blob)) × Int) (fun i => (mm11 w0 Z0 a0 bx0 g2 g6 gm0_4 gm0_6 i.2.2.2 i.1 i.2.1 i.2.2.1 r5 v0_5)) (fun i => (tab [(0, (pq bx0)), (4, (pq g2)), (5, (pq g6))])) (fun i => kk10 i.2.1 i.2.2.1 i.2.2.2 = some r) ?_ ?_
 rintro ⟨j9v0_5, j9x0_5, j9xm0_6, j9i0_7⟩ h
 have h : kk10 j9x0_5 j9xm0_6 j9i0_7 = some r := h
 rw [hkk10] at h
 dsimp only at h
 clear hkk10
 refine aw_show (m := (mm11 w0 Z0 a0 bx0 g2 g6 gm0_4 gm0_6 j9i0_7 j9v0_5 j9x0_5 j9xm0_6 r5 v0_5)) (S := _) ?_
 refine aw_sr ?_
 refine al_val (ov_load (i := 5) (v := (ag (cA8u8 r5.1))) rfl rfl Tryz.underlying29 sz29 rfl rfl rfl rfl) ?_
 refine al_store (i := 4) (vs := (cA8u8 r5.1)) (cs' := (cA8u8 r5.1)) rfl rfl rfl sz29 (cv_rfl rfl) rfl (co_all (oneA8u8 r5.1)) (Nat.le_of_ble_eq_true rfl) rfl rfl ?_
 refine nr_ ?_
 cases h
 exact fn_ret j9v0_5 [3, 0, 1, 2] [] rfl rfl rfl rfl (resC rfl (resB (i := 4) rfl rfl Tryz.underlying29 sz29 rfl rfl rfl (resN)) rfl) rfl rfl rfl (by decide)
 clear hkk10
 refine aw_block ?_
 refine sm_ ?_
 refine al_val (ov_not rfl rfl) ?_
 refine an_ ?_
 refine aw_cond rfl (fun hb11 => ?_) (fun hb11 => ?_)
 replace h := bif_t hb11 h
 refine aw_seq ?_
 refine aw_region_open [(sp_ 0 39 (pq bx0)), (sp_ 1 40 (pq bx0)), (sp_ 2 41 (ptr bx0 6)), (sp_ 3 42 (Value.map (some gm0_6))), (sp_ 4 43 (ag (cA8u8 r5.1))), (sp_ 5 44 (ag [(iq a1.Kind), (str a1.Bytes)]))] (tab [(0, (pq bx0)), (3, (pq g1)), (4, (pq g2)), (5, (pq g6))]) mixed (fun a hs => hs.tab _ (allT_mem ⟨rfl, rfl, rfl, rfl, trivial⟩)) ?_
 refine ta_show (m := (mm10 w0 Z0 a0 a1 bx0 g1 g2 g6 g8 gm0_4 gm0_6 r5 v0_5)) (S := _) ?_
 refine ta_step 6 _ [0, 1, 2, 3, 4, 5] [39, 40, 41, 42, 43, 44] [0, 1, 2, 3, 4, 5] [] [(sp_ 0 39 (pq bx0)), (sp_ 1 40 (pq bx0)), (sp_ 2 41 (ptr bx0 6)), (sp_ 3 42 (Value.map (some gm0_6))), (sp_ 4 43 (ag (cA8u8 r5.1))), (sp_ 5 44 (ag [(iq a1.Kind), (str a1.Bytes)]))] [] rfl rfl rfl (by kernel_rfl) rfl rfl rfl ⟨⟨_, rfl, [], rfl, by
  intro X_ Y_ F_ K_ hK_
  refine sh_ (mm10 w0 Z0 a0 a1 bx0 g1 g2 g6 g8 gm0_4 gm0_6 r5 v0_5) X_ Y_ ?_
  refine mv_ ?_
  refine al_nil ?_
  exact fr_fin hK_ ()⟩, ⟨_, rfl, [0], rfl, by
  intro _
  intro X_ Y_ F_ K_ hK_
  refine sh_ (mm10 w0 Z0 a0 a1 bx0 g1 g2 g6 g8 gm0_4 gm0_6 r5 v0_5) X_ Y_ ?_
  refine al_val (ov_nilCheck rfl rfl) ?_
  refine al_nil ?_
  exact fr_fin hK_ ()⟩, ⟨_, rfl, [1], rfl, by
  intro _
  intro X_ Y_ F_ K_ hK_
  refine sh_ (mm10 w0 Z0 a0 a1 bx0 g1 g2 g6 g8 gm0_4 gm0_6 r5 v0_5) X_ Y_ ?_
  refine al_val (ov_fieldA (p := 6) rfl Tryz.underlying43 rfl sz41 rfl rfl rfl) ?_
  refine al_nil ?_
  exact fr_fin hK_ ()⟩, ⟨_, rfl, [2], rfl, by
  intro _
  intro X_ Y_ F_ K_ hK_
  refine sh_ (mm10 w0 Z0 a0 a1 bx0 g1 g2 g6 g8 gm0_4 gm0_6 r5 v0_5) X_ Y_ ?_
  refine al_val (ov_load (i := 4) (v := (Value.map (some gm0_6))) rfl rfl Tryz.underlying41 sz41 rfl rfl rfl rfl) ?_
  refine al_nil ?_
  exact fr_fin hK_ ()⟩, ⟨_, rfl, [], rfl, by
  intro X_ Y_ F_ K_ hK_
  refine sh_ (mm10 w0 Z0 a0 a1 bx0 g1 g2 g6 g8 gm0_4 gm0_6 r5 v0_5) X_ Y_ ?_
  refine al_val (ov_load (i := 1) (v := (ag (cA8u8 r5.1))) rfl rfl Tryz.underlying29 sz29 rfl rfl rfl rfl) ?_
  refine al_nil ?_
  exact fr_fin hK_ ()⟩, ⟨_, rfl, [], rfl, by
  intro X_ Y_ F_ K_ hK_
  refine sh_ (mm10 w0 Z0 a0 a1 bx0 g1 g2 g6 g8 gm0_4 gm0_6 r5 v0_5) X_ Y_ ?_
  refine al_val (ov_load (i := 3) (v := (ag [(iq a1.Kind), (str a1.Bytes)])) rfl rfl Tryz.underlying37 sz37 rfl rfl rfl rfl) ?_
  refine al_nil ?_
  exact fr_fin hK_ ()⟩, trivial⟩ ?_
 intro _
 intro _
 intro _
 intro _
 intro _
 intro _
 intro X_ Y_ F_ K_ hK_
 refine sh_ (mm10 w0 Z0 a0 a1 bx0 g1 g2 g6 g8 gm0_4 gm0_6 r5 v0_5) X_ Y_ ?_
 refine al_mapSetK (ek := (fun x : A8u8 => ag (cA8u8 x))) (ew := (fun x : S_api_Blob => ag [(iq x.Kind), (str x.Bytes)])) (k := r5.1) (v := a1) 7 kd29 ki29 (kw29 r5.1) rfl rfl rfl rfl Tryz.underlying41 rfl ?_
 refine al_nil ?_
 refine aq_show (m := Mem.plus (mm12 w0 Z0 a0 a1 bx0 g1 g2 g6 g8 gm0_4 gm0_6 r5 v0_5) X_ Y_) ?_
 refine aq_next hK_ [0, 1, 2, 3, 4, 5, 6, 7] [] [(0, (pq bx0)), (3, (pq g1)), (4, (pq g2)), (5, (pq g6))] [] [] rfl rfl (by decide) rfl ⟨rfl, rfl, rfl, rfl, trivial⟩ trivial ?_
 clear hK_ K_ F_ X_ Y_
 refine ta_show (m := (mm12 w0 Z0 a0 a1 bx0 g1 g2 g6 g8 gm0_4 gm0_6 r5 v0_5)) (S := _) ?_
 refine ta_end [] [] rfl rfl (by kernel_rfl) rfl trivial ?_
 refine aq_show (m := (mm12 w0 Z0 a0 a1 bx0 g1 g2 g6 g8 gm0_4 gm0_6 r5 v0_5)) (S := (tab [(0, (pq bx0)), (3, (pq g1)), (4, (pq g2)), (5, (pq g6))])) ?_
 refine aq_then ?_
 refine aw_region_open [(sp_ 0 45 (pq bx0)), (sp_ 1 46 (pq bx0)), (sp_ 2 47 (pq bx0)), (sp_ 3 48 (ptr bx0 5)), (sp_ 4 49 v0_5), (sp_ 5 50 (ag [(iq a1.Kind), (str a1.Bytes)])), ⟨6, 51, Value, fun (i : Value) => { val := i, own := [(oRow i 37 tyS_api_Blob [a1])] }⟩] (tab [(0, (pq bx0)), (3, (pq g1)), (4, (pq g2)), (5, (pq g6))]) mixed (fun a hs => hs.tab _ (allT_mem ⟨rfl, rfl, rfl, rfl, trivial⟩)) ?_
 refine ta_show (m := (mm12 w0 Z0 a0 a1 bx0 g1 g2 g6 g8 gm0_4 gm0_6 r5 v0_5)) (S := _) ?_
 refine ta_step 7 _ [0, 1, 2, 3, 4, 5, 6] [45, 46, 47, 48, 49, 50, 51] [1, 2, 3, 4, 5, 6] [8, 9] [(sp_ 1 46 (pq bx0)), (sp_ 2 47 (pq bx0)), (sp_ 3 48 (ptr bx0 5)), (sp_ 4 49 v0_5), (sp_ 5 50 (ag [(iq a1.Kind), (str a1.Bytes)])), ⟨6, 51, Value, fun (i : Value) => { val := i, own := [(oRow i 37 tyS_api_Blob [a1])] }⟩] [(sp_ 0 45 (pq bx0))] rfl rfl rfl (by kernel_rfl) rfl rfl rfl ⟨⟨_, rfl, [], rfl, by
  intro X_ Y_ F_ K_ hK_
  refine sh_ (mm12 w0 Z0 a0 a1 bx0 g1 g2 g6 g8 gm0_4 gm0_6 r5 v0_5) X_ Y_ ?_
  refine mv_ ?_
  refine al_nil ?_
  exact fr_fin hK_ ()⟩, ⟨_, rfl, [], rfl, by
  intro X_ Y_ F_ K_ hK_
  refine sh_ (mm12 w0 Z0 a0 a1 bx0 g1 g2 g6 g8 gm0_4 gm0_6 r5 v0_5) X_ Y_ ?_
  refine mv_ ?_
  refine al_nil ?_
  exact fr_fin hK_ ()⟩, ⟨_, rfl, [1], rfl, by
  intro _
  intro X_ Y_ F_ K_ hK_
  refine sh_ (mm12 w0 Z0 a0 a1 bx0 g1 g2 g6 g8 gm0_4 gm0_6 r5 v0_5) X_ Y_ ?_
  refine al_val (ov_nilCheck rfl rfl) ?_
  refine al_nil ?_
  exact fr_fin hK_ ()⟩, ⟨_, rfl, [2], rfl, by
  intro _
  intro X_ Y_ F_ K_ hK_
  refine sh_ (mm12 w0 Z0 a0 a1 bx0 g1 g2 g6 g8 gm0_4 gm0_6 r5 v0_5) X_ Y_ ?_
  refine al_val (ov_fieldA (p := 5) rfl Tryz.underlying43 rfl sz27 rfl rfl rfl) ?_
  refine al_nil ?_
  exact fr_fin hK_ ()⟩, ⟨_, rfl, [3], rfl, by
  intro _
  intro X_ Y_ F_ K_ hK_
  refine sh_ (mm12 w0 Z0 a0 a1 bx0 g1 g2 g6 g8 gm0_4 gm0_6 r5 v0_5) X_ Y_ ?_
  refine al_val (ov_load (i := 4) (v := v0_5) rfl rfl Tryz.underlying27 sz27 rfl rfl rfl rfl) ?_
  refine al_nil ?_
  exact fr_fin hK_ ()⟩, ⟨_, rfl, [], rfl, by
  intro X_ Y_ F_ K_ hK_
  refine sh_ (mm12 w0 Z0 a0 a1 bx0 g1 g2 g6 g8 gm0_4 gm0_6 r5 v0_5) X_ Y_ ?_
  refine al_val (ov_load (i := 3) (v := (ag [(iq a1.Kind), (str a1.Bytes)])) rfl rfl Tryz.underlying37 sz37 rfl rfl rfl rfl) ?_
  refine al_nil ?_
  exact fr_fin hK_ ()⟩, ⟨_, rfl, [5], rfl, by
  intro _
  intro X_ Y_ F_ K_ hK_
  refine sh_ (mm12 w0 Z0 a0 a1 bx0 g1 g2 g6 g8 gm0_4 gm0_6 r5 v0_5) X_ Y_ ?_
  refine al_buildSlice (τ := tyS_api_Blob) (e := 37) (k := 1) (sz := 0) (by_ := 0) (z := undef) (cs := [(iq a1.Kind), (str a1.Bytes)]) (xs := [a1]) rfl (by decide) (fun w a hm hs => ⟨([(iq a1.Kind), (str a1.Bytes)]).toArray, rfl, by simp only [List.map_toArray, List.map_cons, List.map_nil, hs.ev (x := .tmp 50) rfl]; exact run_bs [(ag [(iq a1.Kind), (str a1.Bytes)])] [(iq a1.Kind), (str a1.Bytes)] Tryz.underlying27 to37 rfl rfl (bs_cons (l := [(iq a1.Kind), (str a1.Bytes)]) (cs := []) (cv_rfl rfl) rfl bs_nil) hm⟩) (fun hm => ⟨_, _, rfl, (fun _ => mkS_api_Blob rfl) hm, rfl⟩) rfl (fun v12 => ?_)
  refine al_nil ?_
  exact fr_fin hK_ v12⟩, trivial⟩ ?_
 intro _
 intro _
 intro _
 intro _
 intro _
 intro v12
 intro X_ Y_ F_ K_ hK_
 refine sh_ (memOf w0 Z0 [(oBox bx0 43 [(iq a0.way.Fixed), (iq a0.way.Cut.Min), (iq a0.way.Cut.Max), (iq a0.way.Cut.Bits), (Value.map (some gm0_4)), v0_5, (Value.map (some gm0_6)), (iq a0.e)]), (oMapD Tryz.prog 9 gm0_4 str tyS_api_Item a0.kids), (oRow v0_5 37 tyS_api_Blob a0.out), (oMapK Tryz.prog 29 gm0_6 (fun x : A8u8 => ag (cA8u8 x)) (fun x : S_api_Blob => ag [(iq x.Kind), (str x.Bytes)]) a0.seen)] [(oRow v12 37 tyS_api_Blob [a1]), (oBox g8 37 [(iq ((gget a0.seen r5.1).getD (S_api_Blob.mk (0 : Int) ([] : (List UInt8)))).Kind), (str ((gget a0.seen r5.1).getD (S_api_Blob.mk (0 : Int) ([] : (List UInt8)))).Bytes)]), (oBox g6 29 (cA8u8 r5.1)), (oBox g2 29 (cA8u8 zA8u8)), (oBox g1 37 [(iq a1.Kind), (str a1.Bytes)]), (oBox bx0 43 [(iq a0.way.Fixed), (iq a0.way.Cut.Min), (iq a0.way.Cut.Max), (iq a0.way.Cut.Bits), (Value.map (some gm0_4)), v0_5, (Value.map (some gm0_6)), (iq a0.e)]), (oMapD Tryz.prog 9 gm0_4 str tyS_api_Item a0.kids), (oRow v0_5 37 tyS_api_Blob a0.out), (oMapK Tryz.prog 29 gm0_6 (fun x : A8u8 => ag (cA8u8 x)) (fun x : S_api_Blob => ag [(iq x.Kind), (str x.Bytes)]) (gset a0.seen r5.1 a1))] []) X_ Y_ ?_
 obtain ⟨hc13, h⟩ := req_some h
 refine al_append 7 hc13.1 hc13.2 rfl (src_own (i := 7) 0 rfl) rfl rfl Tryz.underlying27 to37 rfl rfl rfl (fun v14 => ?_)
 refine al_nil ?_
 refine aq_show (m := Mem.plus (mm13 w0 Z0 a0 a1 bx0 g1 g2 g6 g8 gm0_4 gm0_6 r5 v0_5 v12 v14) X_ Y_) ?_
 refine aq_next hK_ [0, 1, 2, 3, 4, 5, 6, 7, 8] [] [(0, (pq bx0)), (4, (pq g2)), (5, (pq g6)), (52, v14)] [45] [(sp_ 8 53 (pq bx0)), (sp_ 9 54 (ptr bx0 5))] rfl rfl (by decide) rfl ⟨rfl, rfl, rfl, rfl, trivial⟩ ⟨rfl, trivial⟩ ?_
 clear hK_ K_ F_ X_ Y_
 refine ta_show (m := (mm13 w0 Z0 a0 a1 bx0 g1 g2 g6 g8 gm0_4 gm0_6 r5 v0_5 v12 v14)) (S := _) ?_
 refine ta_step 10 _ [0, 8, 9] [45, 53, 54] [0, 8, 9] [] [(sp_ 0 45 (pq bx0)), (sp_ 8 53 (pq bx0)), (sp_ 9 54 (ptr bx0 5))] [] rfl rfl rfl (by kernel_rfl) rfl rfl rfl ⟨⟨_, rfl, [], rfl, by
  intro X_ Y_ F_ K_ hK_
  refine sh_ (mm13 w0 Z0 a0 a1 bx0 g1 g2 g6 g8 gm0_4 gm0_6 r5 v0_5 v12 v14) X_ Y_ ?_
  refine mv_ ?_
  refine al_nil ?_
  exact fr_fin hK_ ()⟩, ⟨_, rfl, [0], rfl, by
  intro _
  intro X_ Y_ F_ K_ hK_
  refine sh_ (mm13 w0 Z0 a0 a1 bx0 g1 g2 g6 g8 gm0_4 gm0_6 r5 v0_5 v12 v14) X_ Y_ ?_
  refine al_val (ov_nilCheck rfl rfl) ?_
  refine al_nil ?_
  exact fr_fin hK_ ()⟩, ⟨_, rfl, [0, 1], rfl, by
  intro _
  intro _
  intro X_ Y_ F_ K_ hK_
  refine sh_ (mm13 w0 Z0 a0 a1 bx0 g1 g2 g6 g8 gm0_4 gm0_6 r5 v0_5 v12 v14) X_ Y_ ?_
  refine al_val (ov_fieldA (p := 5) rfl Tryz.underlying43 rfl sz27 rfl rfl rfl) ?_
  refine al_nil ?_
  exact fr_fin hK_ ()⟩, trivial⟩ ?_
 intro _
 intro _
 intro _
 intro X_ Y_ F_ K_ hK_
 refine sh_ (mm13 w0 Z0 a0 a1 bx0 g1 g2 g6 g8 gm0_4 gm0_6 r5 v0_5 v12 v14) X_ Y_ ?_
 refine al_store (i := 5) (vs := [v14]) (cs' := [(iq a0.way.Fixed), (iq a0.way.Cut.Min), (iq a0.way.Cut.Max), (iq a0.way.Cut.Bits), (Value.map (some gm0_4)), v14, (Value.map (some gm0_6)), (iq a0.e)]) rfl rfl rfl sz27 (cv_own 7 rfl) rfl (co_own 7 rfl co_nil) (Nat.le_of_ble_eq_true rfl) rfl rfl ?_
 refine al_nil ?_
 refine aq_show (m := Mem.plus (mm14 w0 Z0 a0 a1 bx0 g1 g2 g6 g8 gm0_4 gm0_6 r5 v0_5 v12 v14) X_ Y_) ?_
 refine aq_next hK_ [0, 1, 2, 3, 4, 5, 6, 7, 8] [] [(0, (pq bx0)), (4, (pq g2)), (5, (pq g6))] [] [] rfl rfl (by decide) rfl ⟨rfl, rfl, rfl, trivial⟩ trivial ?_
 clear hK_ K_ F_ X_ Y_
 refine ta_show (m := (mm14 w0 Z0 a0 a1 bx0 g1 g2 g6 g8 gm0_4 gm0_6 r5 v0_5 v12 v14)) (S := _) ?_
 refine ta_end [] [] rfl rfl (by kernel_rfl) rfl trivial ?_
 refine aq_show (m := (mm14 w0 Z0 a0 a1 bx0 g1 g2 g6 g8 gm0_4 gm0_6 r5 v0_5 v12 v14)) (S := (tab [(0, (pq bx0)), (4, (pq g2)), (5, (pq g6))])) ?_
 refine aq_block ?_
 exact aq_join (v14, (a0.out ++ ([a1])), (gset a0.seen r5.1 a1), a0.e) h (nm_ [6, 7, 8, 5, 3, 2] [] (by decide) ⟨rfl, rfl, rfl, trivial⟩)
 replace h := bif_f hb11 h
 refine aw_sr ?_
 refine al_val (ov_load (i := 0) (v := (ag [(iq ((gget a0.seen r5.1).getD (S_api_Blob.mk (0 : Int) ([] : (List UInt8)))).Kind), (str ((gget a0.seen r5.1).getD (S_api_Blob.mk (0 : Int) ([] : (List UInt8)))).Bytes)])) rfl rfl Tryz.underlying37 sz37 rfl rfl rfl rfl) ?_
 refine al_val (ov_load (i := 3) (v := (ag [(iq a1.Kind), (str a1.Bytes)])) rfl rfl Tryz.underlying37 sz37 rfl rfl rfl rfl) ?_
 obtain ⟨hc15, h⟩ := req_some h
 obtain ⟨hc16, h⟩ := req_some h
 obtain ⟨hc17, h⟩ := req_some h
 obtain ⟨hc18, h⟩ := req_some h
 refine al_val (ov_neqA (cs := [(iq ((gget a0.seen r5.1).getD (S_api_Blob.mk (0 : Int) ([] : (List UInt8)))).Kind), (str ((gget a0.seen r5.1).getD (S_api_Blob.mk (0 : Int) ([] : (List UInt8)))).Bytes)]) (ds := [(iq a1.Kind), (str a1.Bytes)]) (ls := [3, 9]) (p := ((S_api_Blob.mk (((gget a0.seen r5.1).getD (S_api_Blob.mk (0 : Int) ([] : (List UInt8)))).Kind) (((gget a0.seen r5.1).getD (S_api_Blob.mk (0 : Int) ([] : (List UInt8)))).Bytes)) == a1)) eg37 kt37 lv37 rfl rfl (by kernel_rfl) (by kernel_rfl) (fit_cons (fit_int Tryz.underlying3 hc15) (fit_cons (fit_str Tryz.underlying9 hc16) fit_nil)) (fit_cons (fit_int Tryz.underlying3 hc17) (fit_cons (fit_str Tryz.underlying9 hc18) fit_nil)) (injS_api_Blob (x := (S_api_Blob.mk (((gget a0.seen r5.1).getD (S_api_Blob.mk (0 : Int) ([] : (List UInt8)))).Kind) (((gget a0.seen r5.1).getD (S_api_Blob.mk (0 : Int) ([] : (List UInt8)))).Bytes))) (y := a1)) rfl) ?_
 refine an_ ?_
 refine aw_cond rfl (fun hb19 => ?_) (fun hb19 => ?_)
 replace h := bif_t hb19 h
 refine aw_region ?_
 refine mv_ ?_
 refine al_val (ov_nilCheck rfl rfl) ?_
 refine al_val (ov_fieldA (p := 7) rfl Tryz.underlying43 rfl sz30 rfl rfl rfl) ?_
 refine al_store (i := 4) (vs := [(iq (11 : Int))]) (cs' := [(iq a0.way.Fixed), (iq a0.way.Cut.Min), (iq a0.way.Cut.Max), (iq a0.way.Cut.Bits), (Value.map (some gm0_4)), v0_5, (Value.map (some gm0_6)), (iq (11 : Int))]) rfl rfl rfl sz30 (cv_rfl rfl) rfl (co_val rfl co_nil) (Nat.le_of_ble_eq_true rfl) rfl rfl ?_
 refine al_nil ?_
 refine aq_block ?_
 exact aq_join (v0_5, a0.out, a0.seen, (11 : Int)) h (nm_ [5, 6, 7, 4, 2, 1] [] (by decide) ⟨rfl, rfl, rfl, trivial⟩)
 replace h := bif_f hb19 h
 refine aw_skip ?_
 refine aq_block ?_
 exact aq_join (v0_5, a0.out, a0.seen, a0.e) h (nm_ [5, 6, 7, 4, 2, 1] [] (by decide) ⟨rfl, rfl, rfl, trivial⟩)
def f___walk_planter__directory_L38 (u20 : S_api_Item) (kk27 : (Int → Int → Int → Int → (List ((List UInt8) × (List S_api_Item))) → (List S_api_Blob) → (List (A8u8 × S_api_Blob)) → Int → Int → (List A8u8) → (List UInt8) → Option (A8u8 × D_walk_planter))) (r33 : ((List (List UInt8)) × D_walk_planter)) (fu : Nat) : Nat → Int → Int → Int → Int → (List ((List UInt8) × (List S_api_Item))) → (List S_api_Blob) → (List (A8u8 × S_api_Blob)) → Int → (List A8u8) → Int → Option (A8u8 × D_walk_planter)
  | 0, _, _, _, _, _, _, _, _, _, _ => none
  | k37 + 1, l36i0_0, l36i0_1, l36i0_2, l36i0_3, l36xm0_4, l36x0_5, l36xm0_6, l36i0_7, l36x8_5, l36i53 => (bif (decide (l36i53 < (r33.1.length : Int))) then (opt (at? r33.1 l36i53) fun (u40 : (List UInt8)) => (opt (f___walk_planter__put fu (D_walk_planter.mk (S_api_Way.mk l36i0_0 (S_api_Cut.mk l36i0_1 l36i0_2 l36i0_3)) l36xm0_4 l36x0_5 l36xm0_6 l36i0_7) (S_api_Blob.mk (1 : Int) u40)) fun (r45 : (A8u8 × D_walk_planter)) => (req (((l36x8_5.length + ([r45.1]).length) * 8 : Nat) ≤ 140737488355328 ∧ l36x8_5.length + ([r45.1]).length ≤ 9223372036854775807) (f___walk_planter__directory_L38 u20 kk27 r33 fu k37 r45.2.way.Fixed r45.2.way.Cut.Min r45.2.way.Cut.Max r45.2.way.Cut.Bits r45.2.kids r45.2.out r45.2.seen r45.2.e (l36x8_5 ++ ([r45.1])) (IntKind.i64.wrap (l36i53 + (1 : Int))))))) else (kk27 l36i0_0 l36i0_1 l36i0_2 l36i0_3 l36xm0_4 l36x0_5 l36xm0_6 l36i0_7 (u20.Bytes.length : Int) l36x8_5 ([] : List UInt8)))
def f___walk_planter__directory_L15 (self : D_walk_planter → (List UInt8) → Option (A8u8 × D_walk_planter)) (a0 : D_walk_planter) (a1 : (List UInt8)) (kk3 : (Int → Int → Int → Int → (List ((List UInt8) × (List S_api_Item))) → (List S_api_Blob) → (List (A8u8 × S_api_Blob)) → Int → (List S_api_Node) → Option (A8u8 × D_walk_planter))) (fu : Nat) : Nat → Int → Int → Int → Int → (List ((List UInt8) × (List S_api_Item))) → (List S_api_Blob) → (List (A8u8 × S_api_Blob)) → Int → (List S_api_Node) → Int → Option (A8u8 × D_walk_planter)
  | 0, _, _, _, _, _, _, _, _, _, _ => none
  | k14 + 1, l13i0_0, l13i0_1, l13i0_2, l13i0_3, l13xm0_4, l13x0_5, l13xm0_6, l13i0_7, l13x5, l13i20 => (lt (fun (l13i0_0 : Int) (l13i0_1 : Int) (l13i0_2 : Int) (l13i0_3 : Int) (l13xm0_4 : (List ((List UInt8) × (List S_api_Item)))) (l13x0_5 : (List S_api_Blob)) (l13xm0_6 : (List (A8u8 × S_api_Blob))) (l13i0_7 : Int) (l13x5 : (List S_api_Node)) (l13i20 : Int) => (f___walk_planter__directory_L15 (self) a0 a1 kk3 fu k14 l13i0_0 l13i0_1 l13i0_2 l13i0_3 l13xm0_4 l13x0_5 l13xm0_6 l13i0_7 l13x5 l13i20)) fun (kk16 : Int → Int → Int → Int → (List ((List UInt8) × (List S_api_Item))) → (List S_api_Blob) → (List (A8u8 × S_api_Blob)) → Int → (List S_api_Node) → Int → Option (A8u8 × D_walk_planter)) => (bif (decide (l13i20 < (((gget a0.kids a1).getD []).length : Int))) then (lt (fun (j18i0_0 : Int) (j18i0_1 : Int) (j18i0_2 : Int) (j18i0_3 : Int) (j18xm0_4 : (List ((List UInt8) × (List S_api_Item)))) (j18x0_5 : (List S_api_Blob)) (j18xm0_6 : (List (A8u8 × S_api_Blob))) (j18i0_7 : Int) (j18x5 : (List S_api_Node)) => (kk16 j18i0_0 j18i0_1 j18i0_2 j18i0_3 j18xm0_4 j18x0_5 j18xm0_6 j18i0_7 j18x5 (IntKind.i64.wrap (l13i20 + (1 : Int))))) fun (kk19 : Int → Int → Int → Int → (List ((List UInt8) × (List S_api_Item))) → (List S_api_Blob) → (List (A8u8 × S_api_Blob)) → Int → (List S_api_Node) → Option (A8u8 × D_walk_planter)) => (opt (at? ((gget a0.kids a1).getD []) l13i20) fun (u20 : S_api_Item) => (req (0 ≤ (IntKind.i64.wrap ((a1.length : Int) + (1 : Int))) ∧ (IntKind.i64.wrap ((a1.length : Int) + (1 : Int))) ≤ (u20.Path.length : Int)) (lt (fun (j26i0_0 : Int) (j26i0_1 : Int) (j26i0_2 : Int) (j26i0_3 : Int) (j26xm0_4 : (List ((List UInt8) × (List S_api_Item)))) (j26x0_5 : (List S_api_Blob)) (j26xm0_6 : (List (A8u8 × S_api_Blob))) (j26i0_7 : Int) (j26i8_4 : Int) (j26x8_5 : (List A8u8)) (j26s8_6 : (List UInt8)) => (req (((l13x5.length + ([(S_api_Node.mk (u20.Path.drop ((IntKind.i64.wrap ((a1.length : Int) + (1 : Int)))).toNat) u20.Kind u20.Mode u20.Time j26i8_4 j26x8_5 j26s8_6)]).length) * 88 : Nat) ≤ 140737488355328 ∧ l13x5.length + ([(S_api_Node.mk (u20.Path.drop ((IntKind.i64.wrap ((a1.length : Int) + (1 : Int)))).toNat) u20.Kind u20.Mode u20.Time j26i8_4 j26x8_5 j26s8_6)]).length ≤ 9223372036854775807) (kk19 j26i0_0 j26i0_1 j26i0_2 j26i0_3 j26xm0_4 j26x0_5 j26xm0_6 j26i0_7 (l13x5 ++ ([(S_api_Node.mk (u20.Path.drop ((IntKind.i64.wrap ((a1.length : Int) + (1 : Int)))).toNat) u20.Kind u20.Mode u20.Time j26i8_4 j26x8_5 j26s8_6)]))))) fun (kk27 : Int → Int → Int → Int → (List ((List UInt8) × (List S_api_Item))) → (List S_api_Blob) → (List (A8u8 × S_api_Blob)) → Int → Int → (List A8u8) → (List UInt8) → Option (A8u8 × D_walk_planter)) => (bif (u20.Kind == (1 : Int)) then (opt (f___walk_planter__pieces fu (D_walk_planter.mk (S_api_Way.mk l13i0_0 (S_api_Cut.mk l13i0_1 l13i0_2 l13i0_3)) l13xm0_4 l13x0_5 l13xm0_6 l13i0_7) u20.Bytes) fun (r33 : ((List (List UInt8)) × D_walk_planter)) => (f___walk_planter__directory_L38 u20 kk27 r33 fu fu r33.2.way.Fixed r33.2.way.Cut.Min r33.2.way.Cut.Max r33.2.way.Cut.Bits r33.2.kids r33.2.out r33.2.seen r33.2.e ([] : List A8u8) (0 : Int))) else (bif (u20.Kind == (2 : Int)) then (opt (self (D_walk_planter.mk (S_api_Way.mk l13i0_0 (S_api_Cut.mk l13i0_1 l13i0_2 l13i0_3)) l13xm0_4 l13x0_5 l13xm0_6 l13i0_7) u20.Path) fun (r52 : (A8u8 × D_walk_planter)) => (kk27 r52.2.way.Fixed r52.2.way.Cut.Min r52.2.way.Cut.Max r52.2.way.Cut.Bits r52.2.kids r52.2.out r52.2.seen r52.2.e (0 : Int) ([r52.1]) ([] : List UInt8))) else (kk27 l13i0_0 l13i0_1 l13i0_2 l13i0_3 l13xm0_4 l13x0_5 l13xm0_6 l13i0_7 (0 : Int) ([] : List A8u8) u20.Bytes))))))) else (kk3 l13i0_0 l13i0_1 l13i0_2 l13i0_3 l13xm0_4 l13x0_5 l13xm0_6 l13i0_7 l13x5)))
def f___walk_planter__directory : Nat → D_walk_planter → (List UInt8) → Option (A8u8 × D_walk_planter)
  | 0, _, _ => none
  | fu + 1, a0, a1 => (lt (fun (j2i0_0 : Int) (j2i0_1 : Int) (j2i0_2 : Int) (j2i0_3 : Int) (j2xm0_4 : (List ((List UInt8) × (List S_api_Item)))) (j2x0_5 : (List S_api_Blob)) (j2xm0_6 : (List (A8u8 × S_api_Blob))) (j2i0_7 : Int) (j2x5 : (List S_api_Node)) => (bif (j2i0_7 != (0 : Int)) then (some (zA8u8, (D_walk_planter.mk (S_api_Way.mk j2i0_0 (S_api_Cut.mk j2i0_1 j2i0_2 j2i0_3)) j2xm0_4 j2x0_5 j2xm0_6 j2i0_7))) else (opt (f_tree_Write fu j2x5) fun (r6 : ((List UInt8) × Int)) => (bif (r6.2 != (0 : Int)) then (some (zA8u8, (D_walk_planter.mk (S_api_Way.mk j2i0_0 (S_api_Cut.mk j2i0_1 j2i0_2 j2i0_3)) j2xm0_4 j2x0_5 j2xm0_6 r6.2))) else (opt (f___walk_planter__put fu (D_walk_planter.mk (S_api_Way.mk j2i0_0 (S_api_Cut.mk j2i0_1 j2i0_2 j2i0_3)) j2xm0_4 j2x0_5 j2xm0_6 j2i0_7) (S_api_Blob.mk (2 : Int) r6.1)) fun (r9 : (A8u8 × D_walk_planter)) => (some (r9.1, (D_walk_planter.mk (S_api_Way.mk r9.2.way.Fixed (S_api_Cut.mk r9.2.way.Cut.Min r9.2.way.Cut.Max r9.2.way.Cut.Bits)) r9.2.kids r9.2.out r9.2.seen r9.2.e)))))))) fun (kk3 : Int → Int → Int → Int → (List ((List UInt8) × (List S_api_Item))) → (List S_api_Blob) → (List (A8u8 × S_api_Blob)) → Int → (List S_api_Node) → Option (A8u8 × D_walk_planter)) => (req (a1.length ≤ 9223372036854775807) (f___walk_planter__directory_L15 (f___walk_planter__directory fu) a0 a1 kk3 fu fu a0.way.Fixed a0.way.Cut.Min a0.way.Cut.Max a0.way.Cut.Bits a0.kids a0.out a0.seen a0.e ([] : List S_api_Node) (0 : Int))))
abbrev mm15 (w0 : World) (Z0 : Nat → Prop) (a0 : D_walk_planter) (bx0 : Nat) (g1 : Nat) (gm0_4 : Nat) (gm0_6 : Nat) (j2i0_0 : Int) (j2i0_1 : Int) (j2i0_2 : Int) (j2i0_3 : Int) (j2i0_7 : Int) (j2us5 : (List Value)) (j2v0_5 : Value) (j2v5 : Value) (j2x0_5 : (List S_api_Blob)) (j2x5 : (List S_api_Node)) (j2xm0_4 : (List ((List UInt8) × (List S_api_Item)))) (j2xm0_6 : (List (A8u8 × S_api_Blob))) (v0_5 : Value) : Mem := memOf w0 Z0 [(oBox bx0 43 [(int .i64 a0.way.Fixed), (int .i64 a0.way.Cut.Min), (int .i64 a0.way.Cut.Max), (int .i64 a0.way.Cut.Bits), (Value.map (some gm0_4)), v0_5, (Value.map (some gm0_6)), (int .i64 a0.e)]), (oMapD Tryz.prog 9 gm0_4 str tyS_api_Item a0.kids), (oRow v0_5 37 tyS_api_Blob a0.out), (oMapK Tryz.prog 29 gm0_6 (fun x : A8u8 => ag (cA8u8 x)) (fun x : S_api_Blob => ag [(int .i64 x.Kind), (str x.Bytes)]) a0.seen)] [(oMapD Tryz.prog 9 gm0_4 str tyS_api_Item j2xm0_4), (oRow j2v0_5 37 tyS_api_Blob j2x0_5), (oMapK Tryz.prog 29 gm0_6 (fun x : A8u8 => ag (cA8u8 x)) (fun x : S_api_Blob => ag [(int .i64 x.Kind), (str x.Bytes)]) j2xm0_6), (oBox bx0 43 [(int .i64 j2i0_0), (int .i64 j2i0_1), (int .i64 j2i0_2), (int .i64 j2i0_3), (Value.map (some gm0_4)), j2v0_5, (Value.map (some gm0_6)), (int .i64 j2i0_7)]), (oBox g1 29 (cA8u8 zA8u8)), (oKids j2v5 64 tyhS_api_Node 29 tyA8u8 (fun x : S_api_Node => x.Parts) none j2us5 j2x5)] [uMax, uTabs]
abbrev mm16 (w0 : World) (Z0 : Nat → Prop) (a0 : D_walk_planter) (a1 : (List UInt8)) (bx0 : Nat) (g1 : Nat) (gm0_4 : Nat) (gm0_6 : Nat) (l13i0_0 : Int) (l13i0_1 : Int) (l13i0_2 : Int) (l13i0_3 : Int) (l13i0_7 : Int) (l13us5 : (List Value)) (l13v0_5 : Value) (l13v5 : Value) (l13x0_5 : (List S_api_Blob)) (l13x5 : (List S_api_Node)) (l13xm0_4 : (List ((List UInt8) × (List S_api_Item)))) (l13xm0_6 : (List (A8u8 × S_api_Blob))) (s12 : Value) (v0_5 : Value) : Mem := memOf w0 Z0 [(oBox bx0 43 [(int .i64 a0.way.Fixed), (int .i64 a0.way.Cut.Min), (int .i64 a0.way.Cut.Max), (int .i64 a0.way.Cut.Bits), (Value.map (some gm0_4)), v0_5, (Value.map (some gm0_6)), (int .i64 a0.e)]), (oMapD Tryz.prog 9 gm0_4 str tyS_api_Item a0.kids), (oRow v0_5 37 tyS_api_Blob a0.out), (oMapK Tryz.prog 29 gm0_6 (fun x : A8u8 => ag (cA8u8 x)) (fun x : S_api_Blob => ag [(int .i64 x.Kind), (str x.Bytes)]) a0.seen)] [(oMapD Tryz.prog 9 gm0_4 str tyS_api_Item l13xm0_4), (oRow l13v0_5 37 tyS_api_Blob l13x0_5), (oMapK Tryz.prog 29 gm0_6 (fun x : A8u8 => ag (cA8u8 x)) (fun x : S_api_Blob => ag [(int .i64 x.Kind), (str x.Bytes)]) l13xm0_6), (oBox bx0 43 [(int .i64 l13i0_0), (int .i64 l13i0_1), (int .i64 l13i0_2), (int .i64 l13i0_3), (Value.map (some gm0_4)), l13v0_5, (Value.map (some gm0_6)), (int .i64 l13i0_7)]), (oBox g1 29 (cA8u8 zA8u8)), (oKids l13v5 64 tyhS_api_Node 29 tyA8u8 (fun x : S_api_Node => x.Parts) none l13us5 l13x5)] [(fDat (tyList tyS_api_Item) [s12] ((gget a0.kids a1).getD [])), uMax, uTabs]
abbrev mm17 (w0 : World) (Z0 : Nat → Prop) (a0 : D_walk_planter) (a1 : (List UInt8)) (bx0 : Nat) (g1 : Nat) (gm0_4 : Nat) (gm0_6 : Nat) (j18i0_0 : Int) (j18i0_1 : Int) (j18i0_2 : Int) (j18i0_3 : Int) (j18i0_7 : Int) (j18us5 : (List Value)) (j18v0_5 : Value) (j18v5 : Value) (j18x0_5 : (List S_api_Blob)) (j18x5 : (List S_api_Node)) (j18xm0_4 : (List ((List UInt8) × (List S_api_Item)))) (j18xm0_6 : (List (A8u8 × S_api_Blob))) (s12 : Value) (v0_5 : Value) : Mem := memOf w0 Z0 [(oBox bx0 43 [(int .i64 a0.way.Fixed), (int .i64 a0.way.Cut.Min), (int .i64 a0.way.Cut.Max), (int .i64 a0.way.Cut.Bits), (Value.map (some gm0_4)), v0_5, (Value.map (some gm0_6)), (int .i64 a0.e)]), (oMapD Tryz.prog 9 gm0_4 str tyS_api_Item a0.kids), (oRow v0_5 37 tyS_api_Blob a0.out), (oMapK Tryz.prog 29 gm0_6 (fun x : A8u8 => ag (cA8u8 x)) (fun x : S_api_Blob => ag [(int .i64 x.Kind), (str x.Bytes)]) a0.seen)] [(oMapD Tryz.prog 9 gm0_4 str tyS_api_Item j18xm0_4), (oRow j18v0_5 37 tyS_api_Blob j18x0_5), (oMapK Tryz.prog 29 gm0_6 (fun x : A8u8 => ag (cA8u8 x)) (fun x : S_api_Blob => ag [(int .i64 x.Kind), (str x.Bytes)]) j18xm0_6), (oBox bx0 43 [(int .i64 j18i0_0), (int .i64 j18i0_1), (int .i64 j18i0_2), (int .i64 j18i0_3), (Value.map (some gm0_4)), j18v0_5, (Value.map (some gm0_6)), (int .i64 j18i0_7)]), (oBox g1 29 (cA8u8 zA8u8)), (oKids j18v5 64 tyhS_api_Node 29 tyA8u8 (fun x : S_api_Node => x.Parts) none j18us5 j18x5)] [(fDat (tyList tyS_api_Item) [s12] ((gget a0.kids a1).getD [])), uMax, uTabs]
abbrev mm18 (w0 : World) (Z0 : Nat → Prop) (a0 : D_walk_planter) (a1 : (List UInt8)) (bx0 : Nat) (g1 : Nat) (g23 : Nat) (gm0_4 : Nat) (gm0_6 : Nat) (l13i0_0 : Int) (l13i0_1 : Int) (l13i0_2 : Int) (l13i0_3 : Int) (l13i0_7 : Int) (l13us5 : (List Value)) (l13v0_5 : Value) (l13v5 : Value) (l13x0_5 : (List S_api_Blob)) (l13x5 : (List S_api_Node)) (l13xm0_4 : (List ((List UInt8) × (List S_api_Item)))) (l13xm0_6 : (List (A8u8 × S_api_Blob))) (p22 : Value) (s12 : Value) (u20 : S_api_Item) (v0_5 : Value) : Mem := memOf w0 Z0 [(oBox bx0 43 [(int .i64 a0.way.Fixed), (int .i64 a0.way.Cut.Min), (int .i64 a0.way.Cut.Max), (int .i64 a0.way.Cut.Bits), (Value.map (some gm0_4)), v0_5, (Value.map (some gm0_6)), (int .i64 a0.e)]), (oMapD Tryz.prog 9 gm0_4 str tyS_api_Item a0.kids), (oRow v0_5 37 tyS_api_Blob a0.out), (oMapK Tryz.prog 29 gm0_6 (fun x : A8u8 => ag (cA8u8 x)) (fun x : S_api_Blob => ag [(int .i64 x.Kind), (str x.Bytes)]) a0.seen)] [(oBox g23 45 [(str u20.Path), (int .i64 u20.Kind), (int .i64 u20.Mode), (int .i64 u20.Time), (str u20.Bytes)]), (oMapD Tryz.prog 9 gm0_4 str tyS_api_Item l13xm0_4), (oRow l13v0_5 37 tyS_api_Blob l13x0_5), (oMapK Tryz.prog 29 gm0_6 (fun x : A8u8 => ag (cA8u8 x)) (fun x : S_api_Blob => ag [(int .i64 x.Kind), (str x.Bytes)]) l13xm0_6), (oBox bx0 43 [(int .i64 l13i0_0), (int .i64 l13i0_1), (int .i64 l13i0_2), (int .i64 l13i0_3), (Value.map (some gm0_4)), l13v0_5, (Value.map (some gm0_6)), (int .i64 l13i0_7)]), (oBox g1 29 (cA8u8 zA8u8)), (oKids l13v5 64 tyhS_api_Node 29 tyA8u8 (fun x : S_api_Node => x.Parts) none l13us5 l13x5)] [(fPtr tyS_api_Item p22 u20), (fDat (tyList tyS_api_Item) [s12] ((gget a0.kids a1).getD [])), uMax, uTabs]
abbrev mm19 (w0 : World) (Z0 : Nat → Prop) (a0 : D_walk_planter) (a1 : (List UInt8)) (bx0 : Nat) (g1 : Nat) (g23 : Nat) (g25 : Nat) (gm0_4 : Nat) (gm0_6 : Nat) (l13i0_0 : Int) (l13i0_1 : Int) (l13i0_2 : Int) (l13i0_3 : Int) (l13i0_7 : Int) (l13us5 : (List Value)) (l13v0_5 : Value) (l13v5 : Value) (l13x0_5 : (List S_api_Blob)) (l13x5 : (List S_api_Node)) (l13xm0_4 : (List ((List UInt8) × (List S_api_Item)))) (l13xm0_6 : (List (A8u8 × S_api_Blob))) (p22 : Value) (s12 : Value) (u20 : S_api_Item) (v0_5 : Value) : Mem := memOf w0 Z0 [(oBox bx0 43 [(int .i64 a0.way.Fixed), (int .i64 a0.way.Cut.Min), (int .i64 a0.way.Cut.Max), (int .i64 a0.way.Cut.Bits), (Value.map (some gm0_4)), v0_5, (Value.map (some gm0_6)), (int .i64 a0.e)]), (oMapD Tryz.prog 9 gm0_4 str tyS_api_Item a0.kids), (oRow v0_5 37 tyS_api_Blob a0.out), (oMapK Tryz.prog 29 gm0_6 (fun x : A8u8 => ag (cA8u8 x)) (fun x : S_api_Blob => ag [(int .i64 x.Kind), (str x.Bytes)]) a0.seen)] [(oBox g25 64 [(str (u20.Path.drop ((IntKind.i64.wrap ((a1.length : Int) + (1 : Int)))).toNat)), (int .i64 u20.Kind), (int .i64 u20.Mode), (int .i64 u20.Time), (int .i64 (0 : Int)), (Value.slice none 0 0), (str ([] : List UInt8))]), (oBox g23 45 [(str u20.Path), (int .i64 u20.Kind), (int .i64 u20.Mode), (int .i64 u20.Time), (str u20.Bytes)]), (oMapD Tryz.prog 9 gm0_4 str tyS_api_Item l13xm0_4), (oRow l13v0_5 37 tyS_api_Blob l13x0_5), (oMapK Tryz.prog 29 gm0_6 (fun x : A8u8 => ag (cA8u8 x)) (fun x : S_api_Blob => ag [(int .i64 x.Kind), (str x.Bytes)]) l13xm0_6), (oBox bx0 43 [(int .i64 l13i0_0), (int .i64 l13i0_1), (int .i64 l13i0_2), (int .i64 l13i0_3), (Value.map (some gm0_4)), l13v0_5, (Value.map (some gm0_6)), (int .i64 l13i0_7)]), (oBox g1 29 (cA8u8 zA8u8)), (oKids l13v5 64 tyhS_api_Node 29 tyA8u8 (fun x : S_api_Node => x.Parts) none l13us5 l13x5)] [(fPtr tyS_api_Item p22 u20), (fDat (tyList tyS_api_Item) [s12] ((gget a0.kids a1).getD [])), uMax, uTabs]
abbrev mm20 (w0 : World) (Z0 : Nat → Prop) (a0 : D_walk_planter) (a1 : (List UInt8)) (bx0 : Nat) (g1 : Nat) (g25 : Nat) (gm0_4 : Nat) (gm0_6 : Nat) (j26i0_0 : Int) (j26i0_1 : Int) (j26i0_2 : Int) (j26i0_3 : Int) (j26i0_7 : Int) (j26i8_4 : Int) (j26s8_6 : (List UInt8)) (j26v0_5 : Value) (j26v8_5 : Value) (j26x0_5 : (List S_api_Blob)) (j26x8_5 : (List A8u8)) (j26xm0_4 : (List ((List UInt8) × (List S_api_Item)))) (j26xm0_6 : (List (A8u8 × S_api_Blob))) (l13us5 : (List Value)) (l13v5 : Value) (l13x5 : (List S_api_Node)) (p22 : Value) (s12 : Value) (u20 : S_api_Item) (v0_5 : Value) : Mem := memOf w0 Z0 [(oBox bx0 43 [(int .i64 a0.way.Fixed), (int .i64 a0.way.Cut.Min), (int .i64 a0.way.Cut.Max), (int .i64 a0.way.Cut.Bits), (Value.map (some gm0_4)), v0_5, (Value.map (some gm0_6)), (int .i64 a0.e)]), (oMapD Tryz.prog 9 gm0_4 str tyS_api_Item a0.kids), (oRow v0_5 37 tyS_api_Blob a0.out), (oMapK Tryz.prog 29 gm0_6 (fun x : A8u8 => ag (cA8u8 x)) (fun x : S_api_Blob => ag [(int .i64 x.Kind), (str x.Bytes)]) a0.seen)] [(oMapD Tryz.prog 9 gm0_4 str tyS_api_Item j26xm0_4), (oRow j26v0_5 37 tyS_api_Blob j26x0_5), (oMapK Tryz.prog 29 gm0_6 (fun x : A8u8 => ag (cA8u8 x)) (fun x : S_api_Blob => ag [(int .i64 x.Kind), (str x.Bytes)]) j26xm0_6), (oBox bx0 43 [(int .i64 j26i0_0), (int .i64 j26i0_1), (int .i64 j26i0_2), (int .i64 j26i0_3), (Value.map (some gm0_4)), j26v0_5, (Value.map (some gm0_6)), (int .i64 j26i0_7)]), (oBox g1 29 (cA8u8 zA8u8)), (oKids l13v5 64 tyhS_api_Node 29 tyA8u8 (fun x : S_api_Node => x.Parts) none l13us5 l13x5), (oRow j26v8_5 29 tyA8u8 j26x8_5), (oBox g25 64 [(str (u20.Path.drop ((IntKind.i64.wrap ((a1.length : Int) + (1 : Int)))).toNat)), (int .i64 u20.Kind), (int .i64 u20.Mode), (int .i64 u20.Time), (int .i64 j26i8_4), j26v8_5, (str j26s8_6)])] [(fDat (tyList tyS_api_Item) [s12] ((gget a0.kids a1).getD [])), (fPtr tyS_api_Item p22 u20), uMax, uTabs]
abbrev mm21 (w0 : World) (Z0 : Nat → Prop) (a0 : D_walk_planter) (a1 : (List UInt8)) (bx0 : Nat) (g1 : Nat) (g25 : Nat) (gm0_4 : Nat) (gm0_6 : Nat) (l13us5 : (List Value)) (l13v5 : Value) (l13x5 : (List S_api_Node)) (l36i0_0 : Int) (l36i0_1 : Int) (l36i0_2 : Int) (l36i0_3 : Int) (l36i0_7 : Int) (l36v0_5 : Value) (l36v8_5 : Value) (l36x0_5 : (List S_api_Blob)) (l36x8_5 : (List A8u8)) (l36xm0_4 : (List ((List UInt8) × (List S_api_Item)))) (l36xm0_6 : (List (A8u8 × S_api_Blob))) (p22 : Value) (r33 : ((List (List UInt8)) × D_walk_planter)) (s12 : Value) (u20 : S_api_Item) (v0_5 : Value) (v34 : Value) : Mem := memOf w0 Z0 [(oBox bx0 43 [(int .i64 a0.way.Fixed), (int .i64 a0.way.Cut.Min), (int .i64 a0.way.Cut.Max), (int .i64 a0.way.Cut.Bits), (Value.map (some gm0_4)), v0_5, (Value.map (some gm0_6)), (int .i64 a0.e)]), (oMapD Tryz.prog 9 gm0_4 str tyS_api_Item a0.kids), (oRow v0_5 37 tyS_api_Blob a0.out), (oMapK Tryz.prog 29 gm0_6 (fun x : A8u8 => ag (cA8u8 x)) (fun x : S_api_Blob => ag [(int .i64 x.Kind), (str x.Bytes)]) a0.seen)] [(oMapD Tryz.prog 9 gm0_4 str tyS_api_Item l36xm0_4), (oRow l36v0_5 37 tyS_api_Blob l36x0_5), (oMapK Tryz.prog 29 gm0_6 (fun x : A8u8 => ag (cA8u8 x)) (fun x : S_api_Blob => ag [(int .i64 x.Kind), (str x.Bytes)]) l36xm0_6), (oBox bx0 43 [(int .i64 l36i0_0), (int .i64 l36i0_1), (int .i64 l36i0_2), (int .i64 l36i0_3), (Value.map (some gm0_4)), l36v0_5, (Value.map (some gm0_6)), (int .i64 l36i0_7)]), (oBox g1 29 (cA8u8 zA8u8)), (oKids l13v5 64 tyhS_api_Node 29 tyA8u8 (fun x : S_api_Node => x.Parts) none l13us5 l13x5), (oRow l36v8_5 29 tyA8u8 l36x8_5), (oBox g25 64 [(str (u20.Path.drop ((IntKind.i64.wrap ((a1.length : Int) + (1 : Int)))).toNat)), (int .i64 u20.Kind), (int .i64 u20.Mode), (int .i64 u20.Time), (int .i64 (u20.Bytes.length : Int)), l36v8_5, (str ([] : List UInt8))]), (oRow v34 9 tyStr r33.1)] [(fDat (tyList tyS_api_Item) [s12] ((gget a0.kids a1).getD [])), (fPtr tyS_api_Item p22 u20), uMax, uTabs]
abbrev mm22 (w0 : World) (Z0 : Nat → Prop) (a0 : D_walk_planter) (a1 : (List UInt8)) (bx0 : Nat) (g1 : Nat) (g25 : Nat) (gm0_4 : Nat) (gm0_6 : Nat) (l13us5 : (List Value)) (l13v5 : Value) (l13x5 : (List S_api_Node)) (l36v8_5 : Value) (l36x8_5 : (List A8u8)) (p22 : Value) (r33 : ((List (List UInt8)) × D_walk_planter)) (r45 : (A8u8 × D_walk_planter)) (s12 : Value) (u20 : S_api_Item) (v0_5 : Value) (v34 : Value) (v46 : Value) : Mem := memOf w0 Z0 [(oBox bx0 43 [(int .i64 a0.way.Fixed), (int .i64 a0.way.Cut.Min), (int .i64 a0.way.Cut.Max), (int .i64 a0.way.Cut.Bits), (Value.map (some gm0_4)), v0_5, (Value.map (some gm0_6)), (int .i64 a0.e)]), (oMapD Tryz.prog 9 gm0_4 str tyS_api_Item a0.kids), (oRow v0_5 37 tyS_api_Blob a0.out), (oMapK Tryz.prog 29 gm0_6 (fun x : A8u8 => ag (cA8u8 x)) (fun x : S_api_Blob => ag [(int .i64 x.Kind), (str x.Bytes)]) a0.seen)] [(oBox bx0 43 [(int .i64 r45.2.way.Fixed), (int .i64 r45.2.way.Cut.Min), (int .i64 r45.2.way.Cut.Max), (int .i64 r45.2.way.Cut.Bits), (Value.map (some gm0_4)), v46, (Value.map (some gm0_6)), (int .i64 r45.2.e)]), (oMapD Tryz.prog 9 gm0_4 str tyS_api_Item r45.2.kids), (oRow v46 37 tyS_api_Blob r45.2.out), (oMapK Tryz.prog 29 gm0_6 (fun x : A8u8 => ag (cA8u8 x)) (fun x : S_api_Blob => ag [(int .i64 x.Kind), (str x.Bytes)]) r45.2.seen), (oBox g1 29 (cA8u8 zA8u8)), (oKids l13v5 64 tyhS_api_Node 29 tyA8u8 (fun x : S_api_Node => x.Parts) none l13us5 l13x5), (oRow l36v8_5 29 tyA8u8 l36x8_5), (oBox g25 64 [(str (u20.Path.drop ((IntKind.i64.wrap ((a1.length : Int) + (1 : Int)))).toNat)), (int .i64 u20.Kind), (int .i64 u20.Mode), (int .i64 u20.Time), (int .i64 (u20.Bytes.length : Int)), l36v8_5, (str ([] : List UInt8))]), (oRow v34 9 tyStr r33.1)] [(fDat (tyList tyS_api_Item) [s12] ((gget a0.kids a1).getD [])), (fPtr tyS_api_Item p22 u20), uMax, uTabs]
abbrev mm23 (w0 : World) (Z0 : Nat → Prop) (a0 : D_walk_planter) (a1 : (List UInt8)) (bx0 : Nat) (g1 : Nat) (g25 : Nat) (gm0_4 : Nat) (gm0_6 : Nat) (l13us5 : (List Value)) (l13v5 : Value) (l13x5 : (List S_api_Node)) (l36v8_5 : Value) (l36x8_5 : (List A8u8)) (p22 : Value) (r33 : ((List (List UInt8)) × D_walk_planter)) (r45 : (A8u8 × D_walk_planter)) (s12 : Value) (u20 : S_api_Item) (v0_5 : Value) (v34 : Value) (v46 : Value) (v47 : Value) (v49 : Value) : Mem := memOf w0 Z0 [(oBox bx0 43 [(int .i64 a0.way.Fixed), (int .i64 a0.way.Cut.Min), (int .i64 a0.way.Cut.Max), (int .i64 a0.way.Cut.Bits), (Value.map (some gm0_4)), v0_5, (Value.map (some gm0_6)), (int .i64 a0.e)]), (oMapD Tryz.prog 9 gm0_4 str tyS_api_Item a0.kids), (oRow v0_5 37 tyS_api_Blob a0.out), (oMapK Tryz.prog 29 gm0_6 (fun x : A8u8 => ag (cA8u8 x)) (fun x : S_api_Blob => ag [(int .i64 x.Kind), (str x.Bytes)]) a0.seen)] [(oRow v47 29 tyA8u8 [r45.1]), (oBox bx0 43 [(int .i64 r45.2.way.Fixed), (int .i64 r45.2.way.Cut.Min), (int .i64 r45.2.way.Cut.Max), (int .i64 r45.2.way.Cut.Bits), (Value.map (some gm0_4)), v46, (Value.map (some gm0_6)), (int .i64 r45.2.e)]), (oMapD Tryz.prog 9 gm0_4 str tyS_api_Item r45.2.kids), (oRow v46 37 tyS_api_Blob r45.2.out), (oMapK Tryz.prog 29 gm0_6 (fun x : A8u8 => ag (cA8u8 x)) (fun x : S_api_Blob => ag [(int .i64 x.Kind), (str x.Bytes)]) r45.2.seen), (oBox g1 29 (cA8u8 zA8u8)), (oKids l13v5 64 tyhS_api_Node 29 tyA8u8 (fun x : S_api_Node => x.Parts) none l13us5 l13x5), (oRow v49 29 tyA8u8 (l36x8_5 ++ ([r45.1]))), (oBox g25 64 [(str (u20.Path.drop ((IntKind.i64.wrap ((a1.length : Int) + (1 : Int)))).toNat)), (int .i64 u20.Kind), (int .i64 u20.Mode), (int .i64 u20.Time), (int .i64 (u20.Bytes.length : Int)), l36v8_5, (str ([] : List UInt8))]), (oRow v34 9 tyStr r33.1)] [(fDat (tyList tyS_api_Item) [s12] ((gget a0.kids a1).getD [])), (fPtr tyS_api_Item p22 u20), uMax, uTabs]
abbrev mm24 (w0 : World) (Z0 : Nat → Prop) (a0 : D_walk_planter) (a1 : (List UInt8)) (bx0 : Nat) (g1 : Nat) (g25 : Nat) (gm0_4 : Nat) (gm0_6 : Nat) (l13us5 : (List Value)) (l13v5 : Value) (l13x5 : (List S_api_Node)) (l36x8_5 : (List A8u8)) (p22 : Value) (r33 : ((List (List UInt8)) × D_walk_planter)) (r45 : (A8u8 × D_walk_planter)) (s12 : Value) (u20 : S_api_Item) (v0_5 : Value) (v34 : Value) (v46 : Value) (v47 : Value) (v49 : Value) : Mem := memOf w0 Z0 [(oBox bx0 43 [(int .i64 a0.way.Fixed), (int .i64 a0.way.Cut.Min), (int .i64 a0.way.Cut.Max), (int .i64 a0.way.Cut.Bits), (Value.map (some gm0_4)), v0_5, (Value.map (some gm0_6)), (int .i64 a0.e)]), (oMapD Tryz.prog 9 gm0_4 str tyS_api_Item a0.kids), (oRow v0_5 37 tyS_api_Blob a0.out), (oMapK Tryz.prog 29 gm0_6 (fun x : A8u8 => ag (cA8u8 x)) (fun x : S_api_Blob => ag [(int .i64 x.Kind), (str x.Bytes)]) a0.seen)] [(oRow v47 29 tyA8u8 [r45.1]), (oBox bx0 43 [(int .i64 r45.2.way.Fixed), (int .i64 r45.2.way.Cut.Min), (int .i64 r45.2.way.Cut.Max), (int .i64 r45.2.way.Cut.Bits), (Value.map (some gm0_4)), v46, (Value.map (some gm0_6)), (int .i64 r45.2.e)]), (oMapD Tryz.prog 9 gm0_4 str tyS_api_Item r45.2.kids), (oRow v46 37 tyS_api_Blob r45.2.out), (oMapK Tryz.prog 29 gm0_6 (fun x : A8u8 => ag (cA8u8 x)) (fun x : S_api_Blob => ag [(int .i64 x.Kind), (str x.Bytes)]) r45.2.seen), (oBox g1 29 (cA8u8 zA8u8)), (oKids l13v5 64 tyhS_api_Node 29 tyA8u8 (fun x : S_api_Node => x.Parts) none l13us5 l13x5), (oRow v49 29 tyA8u8 (l36x8_5 ++ ([r45.1]))), (oBox g25 64 [(str (u20.Path.drop ((IntKind.i64.wrap ((a1.length : Int) + (1 : Int)))).toNat)), (int .i64 u20.Kind), (int .i64 u20.Mode), (int .i64 u20.Time), (int .i64 (u20.Bytes.length : Int)), v49, (str ([] : List UInt8))]), (oRow v34 9 tyStr r33.1)] [(fDat (tyList tyS_api_Item) [s12] ((gget a0.kids a1).getD [])), (fPtr tyS_api_Item p22 u20), uMax, uTabs]
set_option maxRecDepth 100000 in
set_option maxHeartbeats 2000000 in
set_option maxHeartbeats 2000000 in
theorem f___walk_planter__directory_ok (fu : Nat) (bx0 : Nat) (gm0_4 : Nat) (v0_5 : Value) (gm0_6 : Nat) (a0 : D_walk_planter) (a1 : (List UInt8)) {r : (A8u8 × D_walk_planter)} (h : f___walk_planter__directory fu a0 a1 = some r) : FnOk Tryz.prog 12 [(ptr bx0 0), (str a1)] [uMax, uTabs] [(oBox bx0 43 [(int .i64 a0.way.Fixed), (int .i64 a0.way.Cut.Min), (int .i64 a0.way.Cut.Max), (int .i64 a0.way.Cut.Bits), (Value.map (some gm0_4)), v0_5, (Value.map (some gm0_6)), (int .i64 a0.e)]), (oMapD Tryz.prog 9 gm0_4 str tyS_api_Item a0.kids), (oRow v0_5 37 tyS_api_Blob a0.out), (oMapK Tryz.prog 29 gm0_6 (fun x : A8u8 => ag (cA8u8 x)) (fun x : S_api_Blob => ag [(int .i64 x.Kind), (str x.Bytes)]) a0.seen)] (fun (i : Value) => { val := (ag (cA8u8 r.1)), own := [(oBox bx0 43 [(int .i64 r.2.way.Fixed), (int .i64 r.2.way.Cut.Min), (int .i64 r.2.way.Cut.Max), (int .i64 r.2.way.Cut.Bits), (Value.map (some gm0_4)), i, (Value.map (some gm0_6)), (int .i64 r.2.e)]), (oMapD Tryz.prog 9 gm0_4 str tyS_api_Item r.2.kids), (oRow i 37 tyS_api_Blob r.2.out), (oMapK Tryz.prog 29 gm0_6 (fun x : A8u8 => ag (cA8u8 x)) (fun x : S_api_Blob => ag [(int .i64 x.Kind), (str x.Bytes)]) r.2.seen)] }) := by
 cases fu with
 | zero => rw [f___walk_planter__directory] at h; cases h
 | succ fu =>
  rw [f___walk_planter__directory] at h
  refine fn_enter Tryz.func12 rfl Tryz.ntmps12 rfl (fun w0 Z0 => ?_)
  refine aw_sr ?_
  refine al_alloc (zs := (cA8u8 zA8u8)) (zeroOf_to to29) rfl rfl (fun g1 => ?_)
  refine al_nt ?_
  refine aw_sr ?_
  refine an_ ?_
  obtain ⟨kk3, hkk3, h⟩ := lt_some h
  refine aw_seq_join (ι := Int × Int × Int × Int × (List ((List UInt8) × (List S_api_Item))) × Value × (List S_api_Blob) × (List (A8u8 × S_api_Blob)) × Int × Value × (List S_api_Node) × (List Value)) (fun i => (mm15 w0 Z0 a0 bx0 g1 gm0_4 gm0_6 i.1 i.2.1 i.2.2.1 i.2.2.2.1 i.2.2.2.2.2.2.2.2.1 i.2.2.2.2.2.2.2.2.2.2.2 i.2.2.2.2.2.1 i.2.2.2.2.2.2.2.2.2.1 i.2.2.2.2.2.2.1 i.2.2.2.2.2.2.2.2.2.2.1 i.2.2.2.2.1 i.2.2.2.2.2.2.2.1 v0_5)) (fun i => (tab [(0, (pq bx0)), (4, (pq g1)), (5, i.2.2.2.2.2.2.2.2.2.1)])) (fun i => kk3 i.1 i.2.1 i.2.2.1 i.2.2.2.1 i.2.2.2.2.1 i.2.2.2.2.2.2.1 i.2.2.2.2.2.2.2.1 i.2.2.2.2.2.2.2.2.1 i.2.2.2.2.2.2.2.2.2.2.1 = some r) ?_ ?_
  rintro ⟨j2i0_0, j2i0_1, j2i0_2, j2i0_3, j2xm0_4, j2v0_5, j2x0_5, j2xm0_6, j2i0_7, j2v5, j2x5, j2us5⟩ h
  have h : kk3 j2i0_0 j2i0_1 j2i0_2 j2i0_3 j2xm0_4 j2x0_5 j2xm0_6 j2i0_7 j2x5 = some r := h
  rw [hkk3] at h
  dsimp only at h
  clear hkk3
  refine aw_show (m := (mm15 w0 Z0 a0 bx0 g1 gm0_4 gm0_6 j2i0_0 j2i0_1 j2i0_2 j2i0_3 j2i0_7 j2us5 j2v0_5 j2v5 j2x0_5 j2x5 j2xm0_4 j2xm0_6 v0_5)) (S := _) ?_
  refine aw_seq ?_
  refine sm_ ?_
  refine al_val (ov_nilCheck rfl rfl) ?_
  refine al_val (ov_fieldA (p := 7) rfl Tryz.underlying43 rfl sz30 rfl rfl rfl) ?_
  refine al_val (ov_load (i := 3) (v := (iq j2i0_7)) rfl rfl Tryz.underlying30 sz30 rfl rfl rfl rfl) ?_
  refine im_ ?_
  refine aw_cond rfl (fun hb4 => ?_) (fun hb4 => ?_)
  replace h := bif_t hb4 h
  refine aw_sr ?_
  refine al_val (ov_build (cells := ((cA8u8 zA8u8) : List Value).toArray) (cs := (cA8u8 zA8u8)) rfl (fun w a hm hs => by simp only [List.map_toArray, List.map_cons, List.map_nil, List.toList_toArray]; kernel_rfl)) ?_
  refine al_store (i := 4) (vs := (cA8u8 zA8u8)) (cs' := (cA8u8 zA8u8)) rfl rfl rfl sz29 (cv_rfl rfl) rfl (co_all (oneA8u8 zA8u8)) (Nat.le_of_ble_eq_true rfl) rfl rfl ?_
  refine nr_ ?_
  refine aq_then_ret ?_
  cases h
  exact fn_ret j2v0_5 [3, 0, 1, 2] [] rfl rfl rfl rfl (resC rfl (resB (i := 4) rfl rfl Tryz.underlying29 sz29 rfl rfl rfl (resN)) rfl) rfl rfl rfl (by decide)
  replace h := bif_f hb4 h
  refine aw_skip ?_
  refine aq_tr ?_
  refine mv_ ?_
  obtain ⟨r6, hc5, h⟩ := opt_some h
  refine al_call (vs := [j2v5]) (f_tree_Write_ok fu j2v5 j2x5 hc5) [5] [] [0, 1, 2, 3, 4, 5] (pre_kids rfl (fun p q => shS_api_Node p q) 5 rfl rfl (pre_fz 0 rfl (pre_fz 1 rfl pre_nil))) rfl (by simp) (by decide) (.inr flat_res0) rfl Tryz.func25 rfl rfl rfl (fun _ => ?_)
  refine mv_ ?_
  refine al_ex rfl rfl rfl ?_
  refine al_ex rfl rfl rfl ?_
  refine as_ ?_
  refine an_ ?_
  refine aw_seq ?_
  refine sm_ ?_
  refine im_ ?_
  refine aw_cond rfl (fun hb7 => ?_) (fun hb7 => ?_)
  replace h := bif_t hb7 h
  refine sm_ ?_
  refine mv_ ?_
  refine al_val (ov_nilCheck rfl rfl) ?_
  refine al_val (ov_fieldA (p := 7) rfl Tryz.underlying43 rfl sz30 rfl rfl rfl) ?_
  refine al_store (i := 3) (vs := [(iq r6.2)]) (cs' := [(iq j2i0_0), (iq j2i0_1), (iq j2i0_2), (iq j2i0_3), (Value.map (some gm0_4)), j2v0_5, (Value.map (some gm0_6)), (iq r6.2)]) rfl rfl rfl sz30 (cv_rfl rfl) rfl (co_val rfl co_nil) (Nat.le_of_ble_eq_true rfl) rfl rfl ?_
  refine al_nt ?_
  refine aw_sr ?_
  refine al_val (ov_build (cells := ((cA8u8 zA8u8) : List Value).toArray) (cs := (cA8u8 zA8u8)) rfl (fun w a hm hs => by simp only [List.map_toArray, List.map_cons, List.map_nil, List.toList_toArray]; kernel_rfl)) ?_
  refine al_store (i := 4) (vs := (cA8u8 zA8u8)) (cs' := (cA8u8 zA8u8)) rfl rfl rfl sz29 (cv_rfl rfl) rfl (co_all (oneA8u8 zA8u8)) (Nat.le_of_ble_eq_true rfl) rfl rfl ?_
  refine nr_ ?_
  refine aq_then_ret ?_
  cases h
  exact fn_ret j2v0_5 [3, 0, 1, 2] [] rfl rfl rfl rfl (resC rfl (resB (i := 4) rfl rfl Tryz.underlying29 sz29 rfl rfl rfl (resN)) rfl) rfl rfl rfl (by decide)
  replace h := bif_f hb7 h
  refine aw_skip ?_
  refine aq_tr ?_
  refine mv_ ?_
  refine mv_ ?_
  refine al_val (ov_build (cells := ([(iq (2 : Int)), (str r6.1)] : List Value).toArray) (cs := [(iq (2 : Int)), (str r6.1)]) rfl (fun w a hm hs => by simp only [List.map_toArray, List.map_cons, List.map_nil, List.toList_toArray, hs.ev (x := .const (iq (2 : Int))) rfl, hs.ev (x := .tmp 99) rfl]; kernel_rfl)) ?_
  obtain ⟨r9, hc8, h⟩ := opt_some h
  refine al_call (vs := [(pq bx0), (ag [(iq (2 : Int)), (str r6.1)])]) (f___walk_planter__put_ok fu bx0 gm0_4 j2v0_5 gm0_6 (D_walk_planter.mk (S_api_Way.mk j2i0_0 (S_api_Cut.mk j2i0_1 j2i0_2 j2i0_3)) j2xm0_4 j2x0_5 j2xm0_6 j2i0_7) (S_api_Blob.mk (2 : Int) r6.1) hc8) [] [3, 0, 1, 2] [4, 5] pre_nil rfl (by simp) (by decide) (.inl rfl) rfl Tryz.func24 rfl rfl rfl (fun v10 => ?_)
  refine al_store (i := 4) (vs := (cA8u8 r9.1)) (cs' := (cA8u8 r9.1)) rfl rfl rfl sz29 (cv_rfl rfl) rfl (co_all (oneA8u8 r9.1)) (Nat.le_of_ble_eq_true rfl) rfl rfl ?_
  refine nr_ ?_
  cases h
  exact fn_ret v10 [0, 1, 2, 3] [] rfl rfl rfl rfl (resC rfl (resB (i := 4) rfl rfl Tryz.underlying29 sz29 rfl rfl rfl (resN)) rfl) rfl rfl rfl (by decide)
  clear hkk3
  refine sm_ ?_
  refine al_val (ov_nilCheck rfl rfl) ?_
  refine al_val (ov_fieldA (p := 4) rfl Tryz.underlying43 rfl sz40 rfl rfl rfl) ?_
  refine al_val (ov_load (i := 1) (v := (Value.map (some gm0_4))) rfl rfl Tryz.underlying40 sz40 rfl rfl rfl rfl) ?_
  refine mv_ ?_
  obtain ⟨hc11, h⟩ := req_some h
  refine al_lookD (ek := str) (k := a1) 2 kd9 str_inj (key_str Tryz.underlying9 hc11) rfl rfl rfl Tryz.underlying40 (zeroOf_to to26) rfl (fun s12 => ?_)
  refine al_val (ov_lenD 0 rfl rfl Tryz.underlying26 rfl) ?_
  refine mv_ ?_
  refine al_nt ?_
  refine aw_block ?_
  refine aw_nilK 64 tyhS_api_Node 29 tyA8u8 (fun x : S_api_Node => x.Parts) ?_
  refine aw_state (aw_loop (ι := Int × Int × Int × Int × (List ((List UInt8) × (List S_api_Item))) × Value × (List S_api_Blob) × (List (A8u8 × S_api_Blob)) × Int × Value × (List S_api_Node) × (List Value) × Int) (fun i => (mm16 w0 Z0 a0 a1 bx0 g1 gm0_4 gm0_6 i.1 i.2.1 i.2.2.1 i.2.2.2.1 i.2.2.2.2.2.2.2.2.1 i.2.2.2.2.2.2.2.2.2.2.2.1 i.2.2.2.2.2.1 i.2.2.2.2.2.2.2.2.2.1 i.2.2.2.2.2.2.1 i.2.2.2.2.2.2.2.2.2.2.1 i.2.2.2.2.1 i.2.2.2.2.2.2.2.1 s12 v0_5)) (fun i => (tab [(0, (pq bx0)), (1, (str a1)), (4, (pq g1)), (5, i.2.2.2.2.2.2.2.2.2.1), (18, s12), (19, (iq (((gget a0.kids a1).getD []).length : Int))), (20, (iq i.2.2.2.2.2.2.2.2.2.2.2.2))])) (fun q i => f___walk_planter__directory_L15 (f___walk_planter__directory fu) a0 a1 kk3 fu q i.1 i.2.1 i.2.2.1 i.2.2.2.1 i.2.2.2.2.1 i.2.2.2.2.2.2.1 i.2.2.2.2.2.2.2.1 i.2.2.2.2.2.2.2.2.1 i.2.2.2.2.2.2.2.2.2.2.1 i.2.2.2.2.2.2.2.2.2.2.2.2 = some r) ?_ fu (a0.way.Fixed, a0.way.Cut.Min, a0.way.Cut.Max, a0.way.Cut.Bits, a0.kids, v0_5, a0.out, a0.seen, a0.e, nS, ([] : List S_api_Node), ([] : List Value), (0 : Int)) h) (nm_ [3, 4, 5, 2, 1, 0] [0, 1, 2] (by decide) ⟨rfl, rfl, rfl, rfl, rfl, rfl, rfl, trivial⟩)
  clear h
  rintro k14 ⟨l13i0_0, l13i0_1, l13i0_2, l13i0_3, l13xm0_4, l13v0_5, l13x0_5, l13xm0_6, l13i0_7, l13v5, l13x5, l13us5, l13i20⟩ h
  have h : f___walk_planter__directory_L15 (f___walk_planter__directory fu) a0 a1 kk3 fu k14 l13i0_0 l13i0_1 l13i0_2 l13i0_3 l13xm0_4 l13x0_5 l13xm0_6 l13i0_7 l13x5 l13i20 = some r := h
  obtain _ | k14 := k14
  rw [f___walk_planter__directory_L15] at h; cases h
  rw [f___walk_planter__directory_L15] at h
  refine aw_show (m := (mm16 w0 Z0 a0 a1 bx0 g1 gm0_4 gm0_6 l13i0_0 l13i0_1 l13i0_2 l13i0_3 l13i0_7 l13us5 l13v0_5 l13v5 l13x0_5 l13x5 l13xm0_4 l13xm0_6 s12 v0_5)) (S := _) ?_
  obtain ⟨kk16, hkk16, h⟩ := lt_some h
  refine aw_body_join (ι := Int × Int × Int × Int × (List ((List UInt8) × (List S_api_Item))) × Value × (List S_api_Blob) × (List (A8u8 × S_api_Blob)) × Int × Value × (List S_api_Node) × (List Value) × Int) (fun i => (mm16 w0 Z0 a0 a1 bx0 g1 gm0_4 gm0_6 i.1 i.2.1 i.2.2.1 i.2.2.2.1 i.2.2.2.2.2.2.2.2.1 i.2.2.2.2.2.2.2.2.2.2.2.1 i.2.2.2.2.2.1 i.2.2.2.2.2.2.2.2.2.1 i.2.2.2.2.2.2.1 i.2.2.2.2.2.2.2.2.2.2.1 i.2.2.2.2.1 i.2.2.2.2.2.2.2.1 s12 v0_5)) (fun i => (tab [(0, (pq bx0)), (1, (str a1)), (4, (pq g1)), (5, i.2.2.2.2.2.2.2.2.2.1), (18, s12), (19, (iq (((gget a0.kids a1).getD []).length : Int))), (20, (iq i.2.2.2.2.2.2.2.2.2.2.2.2))])) (fun i => kk16 i.1 i.2.1 i.2.2.1 i.2.2.2.1 i.2.2.2.2.1 i.2.2.2.2.2.2.1 i.2.2.2.2.2.2.2.1 i.2.2.2.2.2.2.2.2.1 i.2.2.2.2.2.2.2.2.2.2.1 i.2.2.2.2.2.2.2.2.2.2.2.2 = some r) (fun i h => aq_again k14 i (Nat.lt_succ_self _) (by rw [hkk16] at h; exact h) (fun w a hm hs => ⟨hm, hs⟩)) ?_
  clear hkk16
  refine aw_sr ?_
  refine im_ ?_
  refine aw_seq ?_
  refine aw_cond rfl (fun hb17 => ?_) (fun hb17 => ?_)
  replace h := bif_t hb17 h
  refine aw_skip ?_
  refine aq_then ?_
  obtain ⟨kk19, hkk19, h⟩ := lt_some h
  refine aw_seq_join (ι := Int × Int × Int × Int × (List ((List UInt8) × (List S_api_Item))) × Value × (List S_api_Blob) × (List (A8u8 × S_api_Blob)) × Int × Value × (List S_api_Node) × (List Value)) (fun i => (mm17 w0 Z0 a0 a1 bx0 g1 gm0_4 gm0_6 i.1 i.2.1 i.2.2.1 i.2.2.2.1 i.2.2.2.2.2.2.2.2.1 i.2.2.2.2.2.2.2.2.2.2.2 i.2.2.2.2.2.1 i.2.2.2.2.2.2.2.2.2.1 i.2.2.2.2.2.2.1 i.2.2.2.2.2.2.2.2.2.2.1 i.2.2.2.2.1 i.2.2.2.2.2.2.2.1 s12 v0_5)) (fun i => (tab [(0, (pq bx0)), (1, (str a1)), (4, (pq g1)), (5, i.2.2.2.2.2.2.2.2.2.1), (18, s12), (19, (iq (((gget a0.kids a1).getD []).length : Int))), (20, (iq l13i20))])) (fun i => kk19 i.1 i.2.1 i.2.2.1 i.2.2.2.1 i.2.2.2.2.1 i.2.2.2.2.2.2.1 i.2.2.2.2.2.2.2.1 i.2.2.2.2.2.2.2.2.1 i.2.2.2.2.2.2.2.2.2.2.1 = some r) ?_ ?_
  rintro ⟨j18i0_0, j18i0_1, j18i0_2, j18i0_3, j18xm0_4, j18v0_5, j18x0_5, j18xm0_6, j18i0_7, j18v5, j18x5, j18us5⟩ h
  have h : kk19 j18i0_0 j18i0_1 j18i0_2 j18i0_3 j18xm0_4 j18x0_5 j18xm0_6 j18i0_7 j18x5 = some r := h
  rw [hkk19] at h
  dsimp only at h
  clear hkk19
  refine aw_show (m := (mm17 w0 Z0 a0 a1 bx0 g1 gm0_4 gm0_6 j18i0_0 j18i0_1 j18i0_2 j18i0_3 j18i0_7 j18us5 j18v0_5 j18v5 j18x0_5 j18x5 j18xm0_4 j18xm0_6 s12 v0_5)) (S := _) ?_
  refine aw_region ?_
  refine in_ ?_
  refine mv_ ?_
  refine al_nil ?_
  exact aq_join (j18i0_0, j18i0_1, j18i0_2, j18i0_3, j18xm0_4, j18v0_5, j18x0_5, j18xm0_6, j18i0_7, j18v5, j18x5, j18us5, (wq (l13i20 + (1 : Int)))) h (nm_ [0, 1, 2, 3, 4, 5] [0, 1, 2] (by decide) ⟨rfl, rfl, rfl, rfl, rfl, rfl, rfl, trivial⟩)
  clear hkk19
  refine aw_block ?_
  refine aw_sr ?_
  obtain ⟨u20, hu21, h⟩ := opt_some h
  refine al_idxD 0 hu21 rfl rfl rfl Tryz.underlying26 sz45 rfl (fun p22 => ?_)
  refine al_val (ov_loadP (ds := [(str u20.Path), (iq u20.Kind), (iq u20.Mode), (iq u20.Time), (str u20.Bytes)]) 0 rfl encS_api_Item rfl Tryz.underlying45 sz45 rfl rfl rfl) ?_
  refine al_alloc (zs := [(str ([] : List UInt8)), (iq (0 : Int)), (iq (0 : Int)), (iq (0 : Int)), (str ([] : List UInt8))]) (zeroOf_to to45) rfl rfl (fun g23 => ?_)
  refine al_store (i := 0) (vs := [(str u20.Path), (iq u20.Kind), (iq u20.Mode), (iq u20.Time), (str u20.Bytes)]) (cs' := [(str u20.Path), (iq u20.Kind), (iq u20.Mode), (iq u20.Time), (str u20.Bytes)]) rfl rfl rfl sz45 (cv_rfl rfl) rfl (co_val rfl (co_val rfl (co_val rfl (co_val rfl (co_val rfl co_nil))))) (Nat.le_of_ble_eq_true rfl) rfl rfl ?_
  refine al_nt ?_
  refine aw_seq ?_
  obtain ⟨hc24, h⟩ := req_some h
  refine aw_region_open [(sp_ 0 24 (pq g23)), (sp_ 1 25 (str u20.Path)), (sp_ 2 26 (str a1)), (sp_ 3 27 (iq (a1.length : Int))), (sp_ 4 28 (iq (wq ((a1.length : Int) + (1 : Int))))), (sp_ 5 29 (str (u20.Path.drop ((wq ((a1.length : Int) + (1 : Int)))).toNat))), (sp_ 6 30 (ptr g23 1)), (sp_ 7 31 (iq u20.Kind)), (sp_ 8 32 (ptr g23 2)), (sp_ 9 33 (iq u20.Mode)), (sp_ 10 34 (ptr g23 3)), (sp_ 11 35 (iq u20.Time)), (sp_ 12 36 (ag [(str (u20.Path.drop ((wq ((a1.length : Int) + (1 : Int)))).toNat)), (iq u20.Kind), (iq u20.Mode), (iq u20.Time), (iq (0 : Int)), nS, (str ([] : List UInt8))])), ⟨13, 8, Nat, fun (i : Nat) => { val := (pq i), own := [(oBox i 64 [(str ([] : List UInt8)), (iq (0 : Int)), (iq (0 : Int)), (iq (0 : Int)), (iq (0 : Int)), nS, (str ([] : List UInt8))])] }⟩] (tab [(0, (pq bx0)), (1, (str a1)), (4, (pq g1)), (5, l13v5), (7, (pq g23)), (18, s12), (19, (iq (((gget a0.kids a1).getD []).length : Int))), (20, (iq l13i20))]) mixed (fun a hs => hs.tab _ (allT_mem ⟨rfl, rfl, rfl, rfl, rfl, rfl, rfl, rfl, trivial⟩)) ?_
  refine ta_show (m := (mm18 w0 Z0 a0 a1 bx0 g1 g23 gm0_4 gm0_6 l13i0_0 l13i0_1 l13i0_2 l13i0_3 l13i0_7 l13us5 l13v0_5 l13v5 l13x0_5 l13x5 l13xm0_4 l13xm0_6 p22 s12 u20 v0_5)) (S := _) ?_
  refine ta_step 14 _ [0, 1, 2, 3, 4, 5, 6, 7, 8, 9, 10, 11, 12, 13] [24, 25, 26, 27, 28, 29, 30, 31, 32, 33, 34, 35, 36, 8] [0, 1, 2, 3, 4, 5, 6, 7, 8, 9, 10, 11, 12, 13] [] [(sp_ 0 24 (pq g23)), (sp_ 1 25 (str u20.Path)), (sp_ 2 26 (str a1)), (sp_ 3 27 (iq (a1.length : Int))), (sp_ 4 28 (iq (wq ((a1.length : Int) + (1 : Int))))), (sp_ 5 29 (str (u20.Path.drop ((wq ((a1.length : Int) + (1 : Int)))).toNat))), (sp_ 6 30 (ptr g23 1)), (sp_ 7 31 (iq u20.Kind)), (sp_ 8 32 (ptr g23 2)), (sp_ 9 33 (iq u20.Mode)), (sp_ 10 34 (ptr g23 3)), (sp_ 11 35 (iq u20.Time)), (sp_ 12 36 (ag [(str (u20.Path.drop ((wq ((a1.length : Int) + (1 : Int)))).toNat)), (iq u20.Kind), (iq u20.Mode), (iq u20.Time), (iq (0 : Int)), nS, (str ([] : List UInt8))])), ⟨13, 8, Nat, fun (i : Nat) => { val := (pq i), own := [(oBox i 64 [(str ([] : List UInt8)), (iq (0 : Int)), (iq (0 : Int)), (iq (0 : Int)), (iq (0 : Int)), nS, (str ([] : List UInt8))])] }⟩] [] rfl rfl rfl (by kernel_rfl) rfl rfl rfl ⟨⟨_, rfl, [], rfl, by
   intro X_ Y_ F_ K_ hK_
   refine sh_ (mm18 w0 Z0 a0 a1 bx0 g1 g23 gm0_4 gm0_6 l13i0_0 l13i0_1 l13i0_2 l13i0_3 l13i0_7 l13us5 l13v0_5 l13v5 l13x0_5 l13x5 l13xm0_4 l13xm0_6 p22 s12 u20 v0_5) X_ Y_ ?_
   refine al_val (ov_fieldA (p := 0) rfl Tryz.underlying45 rfl sz9 rfl rfl rfl) ?_
   refine al_nil ?_
   exact fr_fin hK_ ()⟩, ⟨_, rfl, [0], rfl, by
   intro _
   intro X_ Y_ F_ K_ hK_
   refine sh_ (mm18 w0 Z0 a0 a1 bx0 g1 g23 gm0_4 gm0_6 l13i0_0 l13i0_1 l13i0_2 l13i0_3 l13i0_7 l13us5 l13v0_5 l13v5 l13x0_5 l13x5 l13xm0_4 l13xm0_6 p22 s12 u20 v0_5) X_ Y_ ?_
   refine al_val (ov_load (i := 0) (v := (str u20.Path)) rfl rfl Tryz.underlying9 sz9 rfl rfl rfl rfl) ?_
   refine al_nil ?_
   exact fr_fin hK_ ()⟩, ⟨_, rfl, [], rfl, by
   intro X_ Y_ F_ K_ hK_
   refine sh_ (mm18 w0 Z0 a0 a1 bx0 g1 g23 gm0_4 gm0_6 l13i0_0 l13i0_1 l13i0_2 l13i0_3 l13i0_7 l13us5 l13v0_5 l13v5 l13x0_5 l13x5 l13xm0_4 l13xm0_6 p22 s12 u20 v0_5) X_ Y_ ?_
   refine mv_ ?_
   refine al_nil ?_
   exact fr_fin hK_ ()⟩, ⟨_, rfl, [2], rfl, by
   intro _
   intro X_ Y_ F_ K_ hK_
   refine sh_ (mm18 w0 Z0 a0 a1 bx0 g1 g23 gm0_4 gm0_6 l13i0_0 l13i0_1 l13i0_2 l13i0_3 l13i0_7 l13us5 l13v0_5 l13v5 l13x0_5 l13x5 l13xm0_4 l13xm0_6 p22 s12 u20 v0_5) X_ Y_ ?_
   refine al_val (ov_strLen Tryz.underlying9 rfl rfl) ?_
   refine al_nil ?_
   exact fr_fin hK_ ()⟩, ⟨_, rfl, [3], rfl, by
   intro _
   intro X_ Y_ F_ K_ hK_
   refine sh_ (mm18 w0 Z0 a0 a1 bx0 g1 g23 gm0_4 gm0_6 l13i0_0 l13i0_1 l13i0_2 l13i0_3 l13i0_7 l13us5 l13v0_5 l13v5 l13x0_5 l13x5 l13xm0_4 l13xm0_6 p22 s12 u20 v0_5) X_ Y_ ?_
   refine in_ ?_
   refine al_nil ?_
   exact fr_fin hK_ ()⟩, ⟨_, rfl, [1, 4], rfl, by
   intro _
   intro _
   intro X_ Y_ F_ K_ hK_
   refine sh_ (mm18 w0 Z0 a0 a1 bx0 g1 g23 gm0_4 gm0_6 l13i0_0 l13i0_1 l13i0_2 l13i0_3 l13i0_7 l13us5 l13v0_5 l13v5 l13x0_5 l13x5 l13xm0_4 l13xm0_6 p22 s12 u20 v0_5) X_ Y_ ?_
   refine al_val (ov_strFrom hc24.1 hc24.2 Tryz.underlying9 rfl rfl rfl) ?_
   refine al_nil ?_
   exact fr_fin hK_ ()⟩, ⟨_, rfl, [], rfl, by
   intro X_ Y_ F_ K_ hK_
   refine sh_ (mm18 w0 Z0 a0 a1 bx0 g1 g23 gm0_4 gm0_6 l13i0_0 l13i0_1 l13i0_2 l13i0_3 l13i0_7 l13us5 l13v0_5 l13v5 l13x0_5 l13x5 l13xm0_4 l13xm0_6 p22 s12 u20 v0_5) X_ Y_ ?_
   refine al_val (ov_fieldA (p := 1) rfl Tryz.underlying45 rfl sz3 rfl rfl rfl) ?_
   refine al_nil ?_
   exact fr_fin hK_ ()⟩, ⟨_, rfl, [6], rfl, by
   intro _
   intro X_ Y_ F_ K_ hK_
   refine sh_ (mm18 w0 Z0 a0 a1 bx0 g1 g23 gm0_4 gm0_6 l13i0_0 l13i0_1 l13i0_2 l13i0_3 l13i0_7 l13us5 l13v0_5 l13v5 l13x0_5 l13x5 l13xm0_4 l13xm0_6 p22 s12 u20 v0_5) X_ Y_ ?_
   refine al_val (ov_load (i := 0) (v := (iq u20.Kind)) rfl rfl Tryz.underlying3 sz3 rfl rfl rfl rfl) ?_
   refine al_nil ?_
   exact fr_fin hK_ ()⟩, ⟨_, rfl, [], rfl, by
   intro X_ Y_ F_ K_ hK_
   refine sh_ (mm18 w0 Z0 a0 a1 bx0 g1 g23 gm0_4 gm0_6 l13i0_0 l13i0_1 l13i0_2 l13i0_3 l13i0_7 l13us5 l13v0_5 l13v5 l13x0_5 l13x5 l13xm0_4 l13xm0_6 p22 s12 u20 v0_5) X_ Y_ ?_
   refine al_val (ov_fieldA (p := 2) rfl Tryz.underlying45 rfl sz3 rfl rfl rfl) ?_
   refine al_nil ?_
   exact fr_fin hK_ ()⟩, ⟨_, rfl, [8], rfl, by
   intro _
   intro X_ Y_ F_ K_ hK_
   refine sh_ (mm18 w0 Z0 a0 a1 bx0 g1 g23 gm0_4 gm0_6 l13i0_0 l13i0_1 l13i0_2 l13i0_3 l13i0_7 l13us5 l13v0_5 l13v5 l13x0_5 l13x5 l13xm0_4 l13xm0_6 p22 s12 u20 v0_5) X_ Y_ ?_
   refine al_val (ov_load (i := 0) (v := (iq u20.Mode)) rfl rfl Tryz.underlying3 sz3 rfl rfl rfl rfl) ?_
   refine al_nil ?_
   exact fr_fin hK_ ()⟩, ⟨_, rfl, [], rfl, by
   intro X_ Y_ F_ K_ hK_
   refine sh_ (mm18 w0 Z0 a0 a1 bx0 g1 g23 gm0_4 gm0_6 l13i0_0 l13i0_1 l13i0_2 l13i0_3 l13i0_7 l13us5 l13v0_5 l13v5 l13x0_5 l13x5 l13xm0_4 l13xm0_6 p22 s12 u20 v0_5) X_ Y_ ?_
   refine al_val (ov_fieldA (p := 3) rfl Tryz.underlying45 rfl sz3 rfl rfl rfl) ?_
   refine al_nil ?_
   exact fr_fin hK_ ()⟩, ⟨_, rfl, [10], rfl, by
   intro _
   intro X_ Y_ F_ K_ hK_
   refine sh_ (mm18 w0 Z0 a0 a1 bx0 g1 g23 gm0_4 gm0_6 l13i0_0 l13i0_1 l13i0_2 l13i0_3 l13i0_7 l13us5 l13v0_5 l13v5 l13x0_5 l13x5 l13xm0_4 l13xm0_6 p22 s12 u20 v0_5) X_ Y_ ?_
   refine al_val (ov_load (i := 0) (v := (iq u20.Time)) rfl rfl Tryz.underlying3 sz3 rfl rfl rfl rfl) ?_
   refine al_nil ?_
   exact fr_fin hK_ ()⟩, ⟨_, rfl, [5, 7, 9, 11], rfl, by
   intro _
   intro _
   intro _
   intro _
   intro X_ Y_ F_ K_ hK_
   refine sh_ (mm18 w0 Z0 a0 a1 bx0 g1 g23 gm0_4 gm0_6 l13i0_0 l13i0_1 l13i0_2 l13i0_3 l13i0_7 l13us5 l13v0_5 l13v5 l13x0_5 l13x5 l13xm0_4 l13xm0_6 p22 s12 u20 v0_5) X_ Y_ ?_
   refine al_val (ov_build (cells := ([(str (u20.Path.drop ((wq ((a1.length : Int) + (1 : Int)))).toNat)), (iq u20.Kind), (iq u20.Mode), (iq u20.Time), (iq (0 : Int)), nS, (str ([] : List UInt8))] : List Value).toArray) (cs := [(str (u20.Path.drop ((wq ((a1.length : Int) + (1 : Int)))).toNat)), (iq u20.Kind), (iq u20.Mode), (iq u20.Time), (iq (0 : Int)), nS, (str ([] : List UInt8))]) rfl (fun w a hm hs => by simp only [List.map_toArray, List.map_cons, List.map_nil, List.toList_toArray, hs.ev (x := .tmp 29) rfl, hs.ev (x := .tmp 31) rfl, hs.ev (x := .tmp 33) rfl, hs.ev (x := .tmp 35) rfl]; kernel_rfl)) ?_
   refine al_nil ?_
   exact fr_fin hK_ ()⟩, ⟨_, rfl, [], rfl, by
   intro X_ Y_ F_ K_ hK_
   refine sh_ (mm18 w0 Z0 a0 a1 bx0 g1 g23 gm0_4 gm0_6 l13i0_0 l13i0_1 l13i0_2 l13i0_3 l13i0_7 l13us5 l13v0_5 l13v5 l13x0_5 l13x5 l13xm0_4 l13xm0_6 p22 s12 u20 v0_5) X_ Y_ ?_
   refine al_alloc (zs := [(str ([] : List UInt8)), (iq (0 : Int)), (iq (0 : Int)), (iq (0 : Int)), (iq (0 : Int)), nS, (str ([] : List UInt8))]) (zeroOf_to to64) rfl rfl (fun g25 => ?_)
   refine al_nil ?_
   exact fr_fin hK_ g25⟩, trivial⟩ ?_
  intro _
  intro _
  intro _
  intro _
  intro _
  intro _
  intro _
  intro _
  intro _
  intro _
  intro _
  intro _
  intro _
  intro g25
  intro X_ Y_ F_ K_ hK_
  refine sh_ (memOf w0 Z0 [(oBox bx0 43 [(iq a0.way.Fixed), (iq a0.way.Cut.Min), (iq a0.way.Cut.Max), (iq a0.way.Cut.Bits), (Value.map (some gm0_4)), v0_5, (Value.map (some gm0_6)), (iq a0.e)]), (oMapD Tryz.prog 9 gm0_4 str tyS_api_Item a0.kids), (oRow v0_5 37 tyS_api_Blob a0.out), (oMapK Tryz.prog 29 gm0_6 (fun x : A8u8 => ag (cA8u8 x)) (fun x : S_api_Blob => ag [(iq x.Kind), (str x.Bytes)]) a0.seen)] [(oBox g25 64 [(str ([] : List UInt8)), (iq (0 : Int)), (iq (0 : Int)), (iq (0 : Int)), (iq (0 : Int)), nS, (str ([] : List UInt8))]), (oBox g23 45 [(str u20.Path), (iq u20.Kind), (iq u20.Mode), (iq u20.Time), (str u20.Bytes)]), (oMapD Tryz.prog 9 gm0_4 str tyS_api_Item l13xm0_4), (oRow l13v0_5 37 tyS_api_Blob l13x0_5), (oMapK Tryz.prog 29 gm0_6 (fun x : A8u8 => ag (cA8u8 x)) (fun x : S_api_Blob => ag [(iq x.Kind), (str x.Bytes)]) l13xm0_6), (oBox bx0 43 [(iq l13i0_0), (iq l13i0_1), (iq l13i0_2), (iq l13i0_3), (Value.map (some gm0_4)), l13v0_5, (Value.map (some gm0_6)), (iq l13i0_7)]), (oBox g1 29 (cA8u8 zA8u8)), (oKids l13v5 64 tyhS_api_Node 29 tyA8u8 (fun x : S_api_Node => x.Parts) none l13us5 l13x5)] [(fPtr tyS_api_Item p22 u20), (fDat (tyList tyS_api_Item) [s12] ((gget a0.kids a1).getD [])), uMax, uTabs]) X_ Y_ ?_
  refine al_store (i := 0) (vs := [(str (u20.Path.drop ((wq ((a1.length : Int) + (1 : Int)))).toNat)), (iq u20.Kind), (iq u20.Mode), (iq u20.Time), (iq (0 : Int)), nS, (str ([] : List UInt8))]) (cs' := [(str (u20.Path.drop ((wq ((a1.length : Int) + (1 : Int)))).toNat)), (iq u20.Kind), (iq u20.Mode), (iq u20.Time), (iq (0 : Int)), nS, (str ([] : List UInt8))]) rfl rfl rfl sz64 (cv_rfl rfl) rfl (co_val rfl (co_val rfl (co_val rfl (co_val rfl (co_val rfl (co_val rfl (co_val rfl co_nil))))))) (Nat.le_of_ble_eq_true rfl) rfl rfl ?_
  refine al_nil ?_
  refine aq_show (m := Mem.plus (mm19 w0 Z0 a0 a1 bx0 g1 g23 g25 gm0_4 gm0_6 l13i0_0 l13i0_1 l13i0_2 l13i0_3 l13i0_7 l13us5 l13v0_5 l13v5 l13x0_5 l13x5 l13xm0_4 l13xm0_6 p22 s12 u20 v0_5) X_ Y_) ?_
  refine aq_next hK_ [0, 1, 2, 3, 4, 5, 6, 7] [0, 1, 2, 3] [(0, (pq bx0)), (1, (str a1)), (4, (pq g1)), (5, l13v5), (7, (pq g23)), (8, (pq g25)), (18, s12), (19, (iq (((gget a0.kids a1).getD []).length : Int))), (20, (iq l13i20))] [] [] rfl rfl (by decide) rfl ⟨rfl, rfl, rfl, rfl, rfl, rfl, rfl, rfl, rfl, trivial⟩ trivial ?_
  clear hK_ K_ F_ X_ Y_
  refine ta_show (m := (mm19 w0 Z0 a0 a1 bx0 g1 g23 g25 gm0_4 gm0_6 l13i0_0 l13i0_1 l13i0_2 l13i0_3 l13i0_7 l13us5 l13v0_5 l13v5 l13x0_5 l13x5 l13xm0_4 l13xm0_6 p22 s12 u20 v0_5)) (S := _) ?_
  refine ta_end [] [] rfl rfl (by kernel_rfl) rfl trivial ?_
  refine aq_show (m := (mm19 w0 Z0 a0 a1 bx0 g1 g23 g25 gm0_4 gm0_6 l13i0_0 l13i0_1 l13i0_2 l13i0_3 l13i0_7 l13us5 l13v0_5 l13v5 l13x0_5 l13x5 l13xm0_4 l13xm0_6 p22 s12 u20 v0_5)) (S := (tab [(0, (pq bx0)), (1, (str a1)), (4, (pq g1)), (5, l13v5), (7, (pq g23)), (8, (pq g25)), (18, s12), (19, (iq (((gget a0.kids a1).getD []).length : Int))), (20, (iq l13i20))])) ?_
  refine aq_then ?_
  obtain ⟨kk27, hkk27, h⟩ := lt_some h
  refine aw_seq_join (ι := Int × Int × Int × Int × (List ((List UInt8) × (List S_api_Item))) × Value × (List S_api_Blob) × (List (A8u8 × S_api_Blob)) × Int × Int × Value × (List A8u8) × (List UInt8)) (fun i => (mm20 w0 Z0 a0 a1 bx0 g1 g25 gm0_4 gm0_6 i.1 i.2.1 i.2.2.1 i.2.2.2.1 i.2.2.2.2.2.2.2.2.1 i.2.2.2.2.2.2.2.2.2.1 i.2.2.2.2.2.2.2.2.2.2.2.2 i.2.2.2.2.2.1 i.2.2.2.2.2.2.2.2.2.2.1 i.2.2.2.2.2.2.1 i.2.2.2.2.2.2.2.2.2.2.2.1 i.2.2.2.2.1 i.2.2.2.2.2.2.2.1 l13us5 l13v5 l13x5 p22 s12 u20 v0_5)) (fun i => (tab [(0, (pq bx0)), (1, (str a1)), (4, (pq g1)), (5, l13v5), (8, (pq g25)), (18, s12), (19, (iq (((gget a0.kids a1).getD []).length : Int))), (20, (iq l13i20))])) (fun i => kk27 i.1 i.2.1 i.2.2.1 i.2.2.2.1 i.2.2.2.2.1 i.2.2.2.2.2.2.1 i.2.2.2.2.2.2.2.1 i.2.2.2.2.2.2.2.2.1 i.2.2.2.2.2.2.2.2.2.1 i.2.2.2.2.2.2.2.2.2.2.2.1 i.2.2.2.2.2.2.2.2.2.2.2.2 = some r) ?_ ?_
  rintro ⟨j26i0_0, j26i0_1, j26i0_2, j26i0_3, j26xm0_4, j26v0_5, j26x0_5, j26xm0_6, j26i0_7, j26i8_4, j26v8_5, j26x8_5, j26s8_6⟩ h
  have h : kk27 j26i0_0 j26i0_1 j26i0_2 j26i0_3 j26xm0_4 j26x0_5 j26xm0_6 j26i0_7 j26i8_4 j26x8_5 j26s8_6 = some r := h
  rw [hkk27] at h
  dsimp only at h
  clear hkk27
  refine aw_show (m := (mm20 w0 Z0 a0 a1 bx0 g1 g25 gm0_4 gm0_6 j26i0_0 j26i0_1 j26i0_2 j26i0_3 j26i0_7 j26i8_4 j26s8_6 j26v0_5 j26v8_5 j26x0_5 j26x8_5 j26xm0_4 j26xm0_6 l13us5 l13v5 l13x5 p22 s12 u20 v0_5)) (S := _) ?_
  refine aw_region ?_
  refine mv_ ?_
  refine al_val (ov_load (i := 7) (v := (ag [(str (u20.Path.drop ((wq ((a1.length : Int) + (1 : Int)))).toNat)), (iq u20.Kind), (iq u20.Mode), (iq u20.Time), (iq j26i8_4), j26v8_5, (str j26s8_6)])) rfl rfl Tryz.underlying64 sz64 rfl rfl rfl rfl) ?_
  refine al_reo [6, 0, 1, 2, 3, 4, 5, 7] (by decide) ?_
  refine al_buildSliceK (x := (S_api_Node.mk (u20.Path.drop ((wq ((a1.length : Int) + (1 : Int)))).toNat) u20.Kind u20.Mode u20.Time j26i8_4 j26x8_5 j26s8_6)) (u := j26v8_5) (eb := 29) (τk := tyA8u8) (kd := (fun x : S_api_Node => x.Parts)) (τh := tyhS_api_Node) (e := 64) (cs := [(str (u20.Path.drop ((wq ((a1.length : Int) + (1 : Int)))).toNat)), (iq u20.Kind), (iq u20.Mode), (iq u20.Time), (iq j26i8_4), j26v8_5, (str j26s8_6)]) rfl (fun w a hm hs => ⟨([(str (u20.Path.drop ((wq ((a1.length : Int) + (1 : Int)))).toNat)), (iq u20.Kind), (iq u20.Mode), (iq u20.Time), (iq j26i8_4), j26v8_5, (str j26s8_6)]).toArray, rfl, by simp only [List.map_toArray, List.map_cons, List.map_nil, hs.ev (x := .tmp 76) rfl]; exact run_bs [(ag [(str (u20.Path.drop ((wq ((a1.length : Int) + (1 : Int)))).toNat)), (iq u20.Kind), (iq u20.Mode), (iq u20.Time), (iq j26i8_4), j26v8_5, (str j26s8_6)])] [(str (u20.Path.drop ((wq ((a1.length : Int) + (1 : Int)))).toNat)), (iq u20.Kind), (iq u20.Mode), (iq u20.Time), (iq j26i8_4), j26v8_5, (str j26s8_6)] Tryz.underlying61 to64 rfl rfl (bs_cons (l := [(str (u20.Path.drop ((wq ((a1.length : Int) + (1 : Int)))).toNat)), (iq u20.Kind), (iq u20.Mode), (iq u20.Time), (iq j26i8_4), j26v8_5, (str j26s8_6)]) (cs := []) (cv_rfl rfl) rfl bs_nil) hm⟩) (fun hu => mkhS_api_Node (x := (S_api_Node.mk (u20.Path.drop ((wq ((a1.length : Int) + (1 : Int)))).toNat) u20.Kind u20.Mode u20.Time j26i8_4 j26x8_5 j26s8_6)) rfl hu) rfl (fun v28 => ?_)
  refine al_reo [6, 0, 1, 2, 3, 4, 5, 7] (by decide) ?_
  obtain ⟨hc30, h⟩ := req_some h
  refine al_appendK hc30.1 hc30.2 rfl rfl rfl Tryz.underlying61 to64 rfl rfl rfl (fun v29 => ?_)
  refine as_ ?_
  refine al_nil ?_
  refine aq_block ?_
  exact aq_join (j26i0_0, j26i0_1, j26i0_2, j26i0_3, j26xm0_4, j26v0_5, j26x0_5, j26xm0_6, j26i0_7, v29, (l13x5 ++ ([(S_api_Node.mk (u20.Path.drop ((wq ((a1.length : Int) + (1 : Int)))).toNat) u20.Kind u20.Mode u20.Time j26i8_4 j26x8_5 j26s8_6)])), (l13us5 ++ ([j26v8_5]))) h (nm_ [1, 2, 3, 4, 5, 0] [0, 2, 3] (by decide) ⟨rfl, rfl, rfl, rfl, rfl, rfl, rfl, trivial⟩)
  clear hkk27
  refine aw_sr ?_
  refine al_val (ov_fieldA (p := 1) rfl Tryz.underlying45 rfl sz3 rfl rfl rfl) ?_
  refine al_val (ov_load (i := 1) (v := (iq u20.Kind)) rfl rfl Tryz.underlying3 sz3 rfl rfl rfl rfl) ?_
  refine al_nt ?_
  refine aw_block ?_
  refine aw_sr ?_
  refine in_ ?_
  refine an_ ?_
  refine aw_cond rfl (fun hb31 => ?_) (fun hb31 => ?_)
  replace h := bif_t hb31 h
  refine aw_sr ?_
  refine al_val (ov_fieldA (p := 4) rfl Tryz.underlying45 rfl sz9 rfl rfl rfl) ?_
  refine al_val (ov_load (i := 1) (v := (str u20.Bytes)) rfl rfl Tryz.underlying9 sz9 rfl rfl rfl rfl) ?_
  refine al_val (ov_strLen Tryz.underlying9 rfl rfl) ?_
  refine al_val (ov_fieldA (p := 4) rfl Tryz.underlying64 rfl sz3 rfl rfl rfl) ?_
  refine al_store (i := 0) (vs := [(iq (u20.Bytes.length : Int))]) (cs' := [(str (u20.Path.drop ((wq ((a1.length : Int) + (1 : Int)))).toNat)), (iq u20.Kind), (iq u20.Mode), (iq u20.Time), (iq (u20.Bytes.length : Int)), nS, (str ([] : List UInt8))]) rfl rfl rfl sz3 (cv_rfl rfl) rfl (co_val rfl co_nil) (Nat.le_of_ble_eq_true rfl) rfl rfl ?_
  refine al_nt ?_
  refine sm_ ?_
  refine al_val (ov_fieldA (p := 4) rfl Tryz.underlying45 rfl sz9 rfl rfl rfl) ?_
  refine al_val (ov_load (i := 1) (v := (str u20.Bytes)) rfl rfl Tryz.underlying9 sz9 rfl rfl rfl rfl) ?_
  obtain ⟨r33, hc32, h⟩ := opt_some h
  refine al_call (vs := [(pq bx0), (str u20.Bytes)]) (f___walk_planter__pieces_ok fu bx0 gm0_4 l13v0_5 gm0_6 (D_walk_planter.mk (S_api_Way.mk l13i0_0 (S_api_Cut.mk l13i0_1 l13i0_2 l13i0_3)) l13xm0_4 l13x0_5 l13xm0_6 l13i0_7) u20.Bytes hc32) [] [5, 2, 3, 4] [0, 1, 6, 7] pre_nil rfl (by simp) (by decide) (.inl rfl) rfl Tryz.func23 rfl rfl rfl (fun ⟨v34, v35⟩ => ?_)
  refine al_val (ov_lenR 0 rfl rfl Tryz.underlying54 rfl) ?_
  refine mv_ ?_
  refine al_nt ?_
  refine aw_block ?_
  refine aw_nilR 29 tyA8u8 ?_
  refine aw_state (aw_loop (ι := Int × Int × Int × Int × (List ((List UInt8) × (List S_api_Item))) × Value × (List S_api_Blob) × (List (A8u8 × S_api_Blob)) × Int × Value × (List A8u8) × Int) (fun i => (mm21 w0 Z0 a0 a1 bx0 g1 g25 gm0_4 gm0_6 l13us5 l13v5 l13x5 i.1 i.2.1 i.2.2.1 i.2.2.2.1 i.2.2.2.2.2.2.2.2.1 i.2.2.2.2.2.1 i.2.2.2.2.2.2.2.2.2.1 i.2.2.2.2.2.2.1 i.2.2.2.2.2.2.2.2.2.2.1 i.2.2.2.2.1 i.2.2.2.2.2.2.2.1 p22 r33 s12 u20 v0_5 v34)) (fun i => (tab [(0, (pq bx0)), (1, (str a1)), (4, (pq g1)), (5, l13v5), (8, (pq g25)), (18, s12), (19, (iq (((gget a0.kids a1).getD []).length : Int))), (20, (iq l13i20)), (51, v34), (52, (iq (r33.1.length : Int))), (53, (iq i.2.2.2.2.2.2.2.2.2.2.2))])) (fun q i => f___walk_planter__directory_L38 u20 kk27 r33 fu q i.1 i.2.1 i.2.2.1 i.2.2.2.1 i.2.2.2.2.1 i.2.2.2.2.2.2.1 i.2.2.2.2.2.2.2.1 i.2.2.2.2.2.2.2.2.1 i.2.2.2.2.2.2.2.2.2.2.1 i.2.2.2.2.2.2.2.2.2.2.2 = some r) ?_ fu (r33.2.way.Fixed, r33.2.way.Cut.Min, r33.2.way.Cut.Max, r33.2.way.Cut.Bits, r33.2.kids, v35, r33.2.out, r33.2.seen, r33.2.e, nS, ([] : List A8u8), (0 : Int)) h) (nm_ [3, 4, 5, 2, 8, 9, 0, 6, 1] [1, 0, 2, 3] (by decide) ⟨rfl, rfl, rfl, rfl, rfl, rfl, rfl, rfl, rfl, rfl, rfl, trivial⟩)
  clear h
  rintro k37 ⟨l36i0_0, l36i0_1, l36i0_2, l36i0_3, l36xm0_4, l36v0_5, l36x0_5, l36xm0_6, l36i0_7, l36v8_5, l36x8_5, l36i53⟩ h
  have h : f___walk_planter__directory_L38 u20 kk27 r33 fu k37 l36i0_0 l36i0_1 l36i0_2 l36i0_3 l36xm0_4 l36x0_5 l36xm0_6 l36i0_7 l36x8_5 l36i53 = some r := h
  obtain _ | k37 := k37
  rw [f___walk_planter__directory_L38] at h; cases h
  rw [f___walk_planter__directory_L38] at h
  refine aw_show (m := (mm21 w0 Z0 a0 a1 bx0 g1 g25 gm0_4 gm0_6 l13us5 l13v5 l13x5 l36i0_0 l36i0_1 l36i0_2 l36i0_3 l36i0_7 l36v0_5 l36v8_5 l36x0_5 l36x8_5 l36xm0_4 l36xm0_6 p22 r33 s12 u20 v0_5 v34)) (S := _) ?_
  refine aw_sr ?_
  refine im_ ?_
  refine aw_seq ?_
  refine aw_cond rfl (fun hb39 => ?_) (fun hb39 => ?_)
  replace h := bif_t hb39 h
  refine aw_skip ?_
  refine aq_then ?_
  refine aw_seq ?_
  refine aw_block ?_
  refine aw_sr ?_
  obtain ⟨u40, hu41, h⟩ := opt_some h
  refine al_idxR 8 (at_some hu41).1 (at_some hu41).2.1 rfl rfl rfl Tryz.underlying54 sz9 rfl (fun p42 hp43 => ?_)
  refine al_val (ov_loadR (ds := [(str u40)]) 8 rfl hp43 (at_some hu41).2.2 (fun h => h) rfl Tryz.underlying9 sz9 rfl rfl rfl) ?_
  refine an_ ?_
  refine aw_region_open [(sp_ 0 57 (ptr g25 5)), (sp_ 1 58 l36v8_5), (sp_ 2 59 (pq bx0)), (sp_ 3 60 (str u40)), (sp_ 4 61 (ag [(iq (1 : Int)), (str u40)]))] (tab [(0, (pq bx0)), (1, (str a1)), (4, (pq g1)), (5, l13v5), (8, (pq g25)), (10, (str u40)), (18, s12), (19, (iq (((gget a0.kids a1).getD []).length : Int))), (20, (iq l13i20)), (51, v34), (52, (iq (r33.1.length : Int))), (53, (iq l36i53))]) mixed (fun a hs => hs.tab _ (allT_mem ⟨rfl, rfl, rfl, rfl, rfl, rfl, rfl, rfl, rfl, rfl, rfl, rfl, trivial⟩)) ?_
  refine ta_show (m := (mm21 w0 Z0 a0 a1 bx0 g1 g25 gm0_4 gm0_6 l13us5 l13v5 l13x5 l36i0_0 l36i0_1 l36i0_2 l36i0_3 l36i0_7 l36v0_5 l36v8_5 l36x0_5 l36x8_5 l36xm0_4 l36xm0_6 p22 r33 s12 u20 v0_5 v34)) (S := _) ?_
  refine ta_step 5 _ [0, 1, 2, 3, 4] [57, 58, 59, 60, 61] [2, 3, 4] [6] [(sp_ 2 59 (pq bx0)), (sp_ 3 60 (str u40)), (sp_ 4 61 (ag [(iq (1 : Int)), (str u40)]))] [(sp_ 0 57 (ptr g25 5)), (sp_ 1 58 l36v8_5)] rfl rfl rfl (by kernel_rfl) rfl rfl rfl ⟨⟨_, rfl, [], rfl, by
   intro X_ Y_ F_ K_ hK_
   refine sh_ (mm21 w0 Z0 a0 a1 bx0 g1 g25 gm0_4 gm0_6 l13us5 l13v5 l13x5 l36i0_0 l36i0_1 l36i0_2 l36i0_3 l36i0_7 l36v0_5 l36v8_5 l36x0_5 l36x8_5 l36xm0_4 l36xm0_6 p22 r33 s12 u20 v0_5 v34) X_ Y_ ?_
   refine al_val (ov_fieldA (p := 5) rfl Tryz.underlying64 rfl sz62 rfl rfl rfl) ?_
   refine al_nil ?_
   exact fr_fin hK_ ()⟩, ⟨_, rfl, [0], rfl, by
   intro _
   intro X_ Y_ F_ K_ hK_
   refine sh_ (mm21 w0 Z0 a0 a1 bx0 g1 g25 gm0_4 gm0_6 l13us5 l13v5 l13x5 l36i0_0 l36i0_1 l36i0_2 l36i0_3 l36i0_7 l36v0_5 l36v8_5 l36x0_5 l36x8_5 l36xm0_4 l36xm0_6 p22 r33 s12 u20 v0_5 v34) X_ Y_ ?_
   refine al_val (ov_load (i := 7) (v := l36v8_5) rfl rfl Tryz.underlying62 sz62 rfl rfl rfl rfl) ?_
   refine al_nil ?_
   exact fr_fin hK_ ()⟩, ⟨_, rfl, [], rfl, by
   intro X_ Y_ F_ K_ hK_
   refine sh_ (mm21 w0 Z0 a0 a1 bx0 g1 g25 gm0_4 gm0_6 l13us5 l13v5 l13x5 l36i0_0 l36i0_1 l36i0_2 l36i0_3 l36i0_7 l36v0_5 l36v8_5 l36x0_5 l36x8_5 l36xm0_4 l36xm0_6 p22 r33 s12 u20 v0_5 v34) X_ Y_ ?_
   refine mv_ ?_
   refine al_nil ?_
   exact fr_fin hK_ ()⟩, ⟨_, rfl, [], rfl, by
   intro X_ Y_ F_ K_ hK_
   refine sh_ (mm21 w0 Z0 a0 a1 bx0 g1 g25 gm0_4 gm0_6 l13us5 l13v5 l13x5 l36i0_0 l36i0_1 l36i0_2 l36i0_3 l36i0_7 l36v0_5 l36v8_5 l36x0_5 l36x8_5 l36xm0_4 l36xm0_6 p22 r33 s12 u20 v0_5 v34) X_ Y_ ?_
   refine mv_ ?_
   refine al_nil ?_
   exact fr_fin hK_ ()⟩, ⟨_, rfl, [3], rfl, by
   intro _
   intro X_ Y_ F_ K_ hK_
   refine sh_ (mm21 w0 Z0 a0 a1 bx0 g1 g25 gm0_4 gm0_6 l13us5 l13v5 l13x5 l36i0_0 l36i0_1 l36i0_2 l36i0_3 l36i0_7 l36v0_5 l36v8_5 l36x0_5 l36x8_5 l36xm0_4 l36xm0_6 p22 r33 s12 u20 v0_5 v34) X_ Y_ ?_
   refine al_val (ov_build (cells := ([(iq (1 : Int)), (str u40)] : List Value).toArray) (cs := [(iq (1 : Int)), (str u40)]) rfl (fun w a hm hs => by simp only [List.map_toArray, List.map_cons, List.map_nil, List.toList_toArray, hs.ev (x := .const (iq (1 : Int))) rfl, hs.ev (x := .tmp 60) rfl]; kernel_rfl)) ?_
   refine al_nil ?_
   exact fr_fin hK_ ()⟩, trivial⟩ ?_
  intro _
  intro _
  intro _
  intro X_ Y_ F_ K_ hK_
  refine sh_ (mm21 w0 Z0 a0 a1 bx0 g1 g25 gm0_4 gm0_6 l13us5 l13v5 l13x5 l36i0_0 l36i0_1 l36i0_2 l36i0_3 l36i0_7 l36v0_5 l36v8_5 l36x0_5 l36x8_5 l36xm0_4 l36xm0_6 p22 r33 s12 u20 v0_5 v34) X_ Y_ ?_
  obtain ⟨r45, hc44, h⟩ := opt_some h
  refine al_callX (vs := [(pq bx0), (ag [(iq (1 : Int)), (str u40)])]) (f___walk_planter__put_ok fu bx0 gm0_4 l36v0_5 gm0_6 (D_walk_planter.mk (S_api_Way.mk l36i0_0 (S_api_Cut.mk l36i0_1 l36i0_2 l36i0_3)) l36xm0_4 l36x0_5 l36xm0_6 l36i0_7) (S_api_Blob.mk (1 : Int) u40) hc44) [] [3, 0, 1, 2] [4, 5, 6, 7, 8] pre_nil rfl (by simp) (by decide) rfl (.inl rfl) rfl Tryz.func24 rfl rfl rfl (fun v46 => ?_)
  refine al_nil ?_
  refine aq_show (m := Mem.plus (mm22 w0 Z0 a0 a1 bx0 g1 g25 gm0_4 gm0_6 l13us5 l13v5 l13x5 l36v8_5 l36x8_5 p22 r33 r45 s12 u20 v0_5 v34 v46) X_ Y_) ?_
  refine aq_next hK_ [0, 1, 2, 3, 4, 5, 6, 7, 8] [0, 1, 2, 3] [(0, (pq bx0)), (1, (str a1)), (4, (pq g1)), (5, l13v5), (8, (pq g25)), (18, s12), (19, (iq (((gget a0.kids a1).getD []).length : Int))), (20, (iq l13i20)), (51, v34), (52, (iq (r33.1.length : Int))), (53, (iq l36i53)), (62, (ag (cA8u8 r45.1)))] [57, 58] [⟨6, 63, Value, fun (i : Value) => { val := i, own := [(oRow i 29 tyA8u8 [r45.1])] }⟩] rfl rfl (by decide) rfl ⟨rfl, rfl, rfl, rfl, rfl, rfl, rfl, rfl, rfl, rfl, rfl, rfl, trivial⟩ ⟨rfl, rfl, trivial⟩ ?_
  clear hK_ K_ F_ X_ Y_
  refine ta_show (m := (mm22 w0 Z0 a0 a1 bx0 g1 g25 gm0_4 gm0_6 l13us5 l13v5 l13x5 l36v8_5 l36x8_5 p22 r33 r45 s12 u20 v0_5 v34 v46)) (S := _) ?_
  refine ta_step 7 _ [0, 1, 6] [57, 58, 63] [0, 1, 6] [8] [(sp_ 0 57 (ptr g25 5)), (sp_ 1 58 l36v8_5), ⟨6, 63, Value, fun (i : Value) => { val := i, own := [(oRow i 29 tyA8u8 [r45.1])] }⟩] [] rfl rfl rfl (by kernel_rfl) rfl rfl rfl ⟨⟨_, rfl, [], rfl, by
   intro X_ Y_ F_ K_ hK_
   refine sh_ (mm22 w0 Z0 a0 a1 bx0 g1 g25 gm0_4 gm0_6 l13us5 l13v5 l13x5 l36v8_5 l36x8_5 p22 r33 r45 s12 u20 v0_5 v34 v46) X_ Y_ ?_
   refine al_val (ov_fieldA (p := 5) rfl Tryz.underlying64 rfl sz62 rfl rfl rfl) ?_
   refine al_nil ?_
   exact fr_fin hK_ ()⟩, ⟨_, rfl, [0], rfl, by
   intro _
   intro X_ Y_ F_ K_ hK_
   refine sh_ (mm22 w0 Z0 a0 a1 bx0 g1 g25 gm0_4 gm0_6 l13us5 l13v5 l13x5 l36v8_5 l36x8_5 p22 r33 r45 s12 u20 v0_5 v34 v46) X_ Y_ ?_
   refine al_val (ov_load (i := 7) (v := l36v8_5) rfl rfl Tryz.underlying62 sz62 rfl rfl rfl rfl) ?_
   refine al_nil ?_
   exact fr_fin hK_ ()⟩, ⟨_, rfl, [], rfl, by
   intro X_ Y_ F_ K_ hK_
   refine sh_ (mm22 w0 Z0 a0 a1 bx0 g1 g25 gm0_4 gm0_6 l13us5 l13v5 l13x5 l36v8_5 l36x8_5 p22 r33 r45 s12 u20 v0_5 v34 v46) X_ Y_ ?_
   refine al_buildSlice (τ := tyA8u8) (e := 29) (k := 1) (sz := 0) (by_ := 0) (z := undef) (cs := (cA8u8 r45.1)) (xs := [r45.1]) rfl (by decide) (fun w a hm hs => ⟨((cA8u8 r45.1)).toArray, rfl, by simp only [List.map_toArray, List.map_cons, List.map_nil, hs.ev (x := .tmp 62) rfl]; exact run_bs [(ag (cA8u8 r45.1))] (cA8u8 r45.1) Tryz.underlying62 to29 rfl rfl (bs_cons (l := (cA8u8 r45.1)) (cs := []) (cv_rfl rfl) rfl bs_nil) hm⟩) (fun hm => ⟨(cA8u8 r45.1), [], rfl, mkA8u8 rfl, rfl⟩) rfl (fun v47 => ?_)
   refine al_nil ?_
   exact fr_fin hK_ v47⟩, trivial⟩ ?_
  intro _
  intro _
  intro v47
  intro X_ Y_ F_ K_ hK_
  refine sh_ (memOf w0 Z0 [(oBox bx0 43 [(iq a0.way.Fixed), (iq a0.way.Cut.Min), (iq a0.way.Cut.Max), (iq a0.way.Cut.Bits), (Value.map (some gm0_4)), v0_5, (Value.map (some gm0_6)), (iq a0.e)]), (oMapD Tryz.prog 9 gm0_4 str tyS_api_Item a0.kids), (oRow v0_5 37 tyS_api_Blob a0.out), (oMapK Tryz.prog 29 gm0_6 (fun x : A8u8 => ag (cA8u8 x)) (fun x : S_api_Blob => ag [(iq x.Kind), (str x.Bytes)]) a0.seen)] [(oRow v47 29 tyA8u8 [r45.1]), (oBox bx0 43 [(iq r45.2.way.Fixed), (iq r45.2.way.Cut.Min), (iq r45.2.way.Cut.Max), (iq r45.2.way.Cut.Bits), (Value.map (some gm0_4)), v46, (Value.map (some gm0_6)), (iq r45.2.e)]), (oMapD Tryz.prog 9 gm0_4 str tyS_api_Item r45.2.kids), (oRow v46 37 tyS_api_Blob r45.2.out), (oMapK Tryz.prog 29 gm0_6 (fun x : A8u8 => ag (cA8u8 x)) (fun x : S_api_Blob => ag [(iq x.Kind), (str x.Bytes)]) r45.2.seen), (oBox g1 29 (cA8u8 zA8u8)), (oKids l13v5 64 tyhS_api_Node 29 tyA8u8 (fun x : S_api_Node => x.Parts) none l13us5 l13x5), (oRow l36v8_5 29 tyA8u8 l36x8_5), (oBox g25 64 [(str (u20.Path.drop ((wq ((a1.length : Int) + (1 : Int)))).toNat)), (iq u20.Kind), (iq u20.Mode), (iq u20.Time), (iq (u20.Bytes.length : Int)), l36v8_5, (str ([] : List UInt8))]), (oRow v34 9 tyStr r33.1)] [(fDat (tyList tyS_api_Item) [s12] ((gget a0.kids a1).getD [])), (fPtr tyS_api_Item p22 u20), uMax, uTabs]) X_ Y_ ?_
  obtain ⟨hc48, h⟩ := req_some h
  refine al_append 7 hc48.1 hc48.2 rfl (src_own (i := 7) 0 rfl) rfl rfl Tryz.underlying62 to29 rfl rfl rfl (fun v49 => ?_)
  refine al_nil ?_
  refine aq_show (m := Mem.plus (mm23 w0 Z0 a0 a1 bx0 g1 g25 gm0_4 gm0_6 l13us5 l13v5 l13x5 l36v8_5 l36x8_5 p22 r33 r45 s12 u20 v0_5 v34 v46 v47 v49) X_ Y_) ?_
  refine aq_next hK_ [0, 1, 2, 3, 4, 5, 6, 7, 8, 9] [0, 1, 2, 3] [(0, (pq bx0)), (1, (str a1)), (4, (pq g1)), (5, l13v5), (8, (pq g25)), (18, s12), (19, (iq (((gget a0.kids a1).getD []).length : Int))), (20, (iq l13i20)), (51, v34), (52, (iq (r33.1.length : Int))), (53, (iq l36i53)), (64, v49)] [] [(sp_ 8 65 (ptr g25 5))] rfl rfl (by decide) rfl ⟨rfl, rfl, rfl, rfl, rfl, rfl, rfl, rfl, rfl, rfl, rfl, rfl, trivial⟩ trivial ?_
  clear hK_ K_ F_ X_ Y_
  refine ta_show (m := (mm23 w0 Z0 a0 a1 bx0 g1 g25 gm0_4 gm0_6 l13us5 l13v5 l13x5 l36v8_5 l36x8_5 p22 r33 r45 s12 u20 v0_5 v34 v46 v47 v49)) (S := _) ?_
  refine ta_step 9 _ [8] [65] [8] [] [(sp_ 8 65 (ptr g25 5))] [] rfl rfl rfl (by kernel_rfl) rfl rfl rfl ⟨⟨_, rfl, [], rfl, by
   intro X_ Y_ F_ K_ hK_
   refine sh_ (mm23 w0 Z0 a0 a1 bx0 g1 g25 gm0_4 gm0_6 l13us5 l13v5 l13x5 l36v8_5 l36x8_5 p22 r33 r45 s12 u20 v0_5 v34 v46 v47 v49) X_ Y_ ?_
   refine al_val (ov_fieldA (p := 5) rfl Tryz.underlying64 rfl sz62 rfl rfl rfl) ?_
   refine al_nil ?_
   exact fr_fin hK_ ()⟩, trivial⟩ ?_
  intro _
  intro X_ Y_ F_ K_ hK_
  refine sh_ (mm23 w0 Z0 a0 a1 bx0 g1 g25 gm0_4 gm0_6 l13us5 l13v5 l13x5 l36v8_5 l36x8_5 p22 r33 r45 s12 u20 v0_5 v34 v46 v47 v49) X_ Y_ ?_
  refine al_store (i := 8) (vs := [v49]) (cs' := [(str (u20.Path.drop ((wq ((a1.length : Int) + (1 : Int)))).toNat)), (iq u20.Kind), (iq u20.Mode), (iq u20.Time), (iq (u20.Bytes.length : Int)), v49, (str ([] : List UInt8))]) rfl rfl rfl sz62 (cv_own 7 rfl) rfl (co_own 7 rfl co_nil) (Nat.le_of_ble_eq_true rfl) rfl rfl ?_
  refine al_nil ?_
  refine aq_show (m := Mem.plus (mm24 w0 Z0 a0 a1 bx0 g1 g25 gm0_4 gm0_6 l13us5 l13v5 l13x5 l36x8_5 p22 r33 r45 s12 u20 v0_5 v34 v46 v47 v49) X_ Y_) ?_
  refine aq_next hK_ [0, 1, 2, 3, 4, 5, 6, 7, 8, 9] [0, 1, 2, 3] [(0, (pq bx0)), (1, (str a1)), (4, (pq g1)), (5, l13v5), (8, (pq g25)), (18, s12), (19, (iq (((gget a0.kids a1).getD []).length : Int))), (20, (iq l13i20)), (51, v34), (52, (iq (r33.1.length : Int))), (53, (iq l36i53))] [] [] rfl rfl (by decide) rfl ⟨rfl, rfl, rfl, rfl, rfl, rfl, rfl, rfl, rfl, rfl, rfl, trivial⟩ trivial ?_
  clear hK_ K_ F_ X_ Y_
  refine ta_show (m := (mm24 w0 Z0 a0 a1 bx0 g1 g25 gm0_4 gm0_6 l13us5 l13v5 l13x5 l36x8_5 p22 r33 r45 s12 u20 v0_5 v34 v46 v47 v49)) (S := _) ?_
  refine ta_end [] [] rfl rfl (by kernel_rfl) rfl trivial ?_
  refine aq_show (m := (mm24 w0 Z0 a0 a1 bx0 g1 g25 gm0_4 gm0_6 l13us5 l13v5 l13x5 l36x8_5 p22 r33 r45 s12 u20 v0_5 v34 v46 v47 v49)) (S := (tab [(0, (pq bx0)), (1, (str a1)), (4, (pq g1)), (5, l13v5), (8, (pq g25)), (18, s12), (19, (iq (((gget a0.kids a1).getD []).length : Int))), (20, (iq l13i20)), (51, v34), (52, (iq (r33.1.length : Int))), (53, (iq l36i53))])) ?_
  refine aq_block ?_
  refine aq_then ?_
  refine aw_region ?_
  refine in_ ?_
  refine mv_ ?_
  refine al_nil ?_
  exact aq_again k37 (r45.2.way.Fixed, r45.2.way.Cut.Min, r45.2.way.Cut.Max, r45.2.way.Cut.Bits, r45.2.kids, v46, r45.2.out, r45.2.seen, r45.2.e, v49, (l36x8_5 ++ ([r45.1])), (wq (l36i53 + (1 : Int)))) (Nat.lt_succ_self _) h (nm_ [2, 3, 4, 1, 5, 6, 7, 8, 9] [0, 1, 2, 3] (by decide) ⟨rfl, rfl, rfl, rfl, rfl, rfl, rfl, rfl, rfl, rfl, rfl, trivial⟩)
  replace h := bif_f hb39 h
  refine aw_exit ?_
  refine aq_then_exit ?_
  refine aq_then_exit ?_
  refine aq_block_exit ?_
  refine aq_block ?_
  exact aq_join (l36i0_0, l36i0_1, l36i0_2, l36i0_3, l36xm0_4, l36v0_5, l36x0_5, l36xm0_6, l36i0_7, (u20.Bytes.length : Int), l36v8_5, l36x8_5, ([] : List UInt8)) h (nm_ [0, 1, 2, 3, 4, 5, 6, 7] [0, 1, 2, 3] (by decide) ⟨rfl, rfl, rfl, rfl, rfl, rfl, rfl, rfl, trivial⟩)
  replace h := bif_f hb31 h
  refine aw_sr ?_
  refine in_ ?_
  refine an_ ?_
  refine aw_cond rfl (fun hb50 => ?_) (fun hb50 => ?_)
  replace h := bif_t hb50 h
  refine aw_region ?_
  refine mv_ ?_
  refine al_val (ov_fieldA (p := 0) rfl Tryz.underlying45 rfl sz9 rfl rfl rfl) ?_
  refine al_val (ov_load (i := 1) (v := (str u20.Path)) rfl rfl Tryz.underlying9 sz9 rfl rfl rfl rfl) ?_
  obtain ⟨r52, hc51, h⟩ := opt_some h
  refine al_call (vs := [(pq bx0), (str u20.Path)]) (f___walk_planter__directory_ok fu bx0 gm0_4 l13v0_5 gm0_6 (D_walk_planter.mk (S_api_Way.mk l13i0_0 (S_api_Cut.mk l13i0_1 l13i0_2 l13i0_3)) l13xm0_4 l13x0_5 l13xm0_6 l13i0_7) u20.Path hc51) [] [5, 2, 3, 4] [0, 1, 6, 7] (pre_fz 2 rfl (pre_fz 3 rfl pre_nil)) rfl (by simp) (by decide) (.inl rfl) rfl Tryz.func12 rfl rfl rfl (fun v53 => ?_)
  refine al_buildSlice (τ := tyA8u8) (e := 29) (k := 1) (sz := 0) (by_ := 0) (z := undef) (cs := (cA8u8 r52.1)) (xs := [r52.1]) rfl (by decide) (fun w a hm hs => ⟨((cA8u8 r52.1)).toArray, rfl, by simp only [List.map_toArray, List.map_cons, List.map_nil, hs.ev (x := .tmp 72) rfl]; exact run_bs [(ag (cA8u8 r52.1))] (cA8u8 r52.1) Tryz.underlying62 to29 rfl rfl (bs_cons (l := (cA8u8 r52.1)) (cs := []) (cv_rfl rfl) rfl bs_nil) hm⟩) (fun hm => ⟨(cA8u8 r52.1), [], rfl, mkA8u8 rfl, rfl⟩) rfl (fun v54 => ?_)
  refine al_val (ov_fieldA (p := 5) rfl Tryz.underlying64 rfl sz62 rfl rfl rfl) ?_
  refine al_store (i := 5) (vs := [v54]) (cs' := [(str (u20.Path.drop ((wq ((a1.length : Int) + (1 : Int)))).toNat)), (iq u20.Kind), (iq u20.Mode), (iq u20.Time), (iq (0 : Int)), v54, (str ([] : List UInt8))]) rfl rfl rfl sz62 (cv_own 0 rfl) rfl (co_own 0 rfl co_nil) (Nat.le_of_ble_eq_true rfl) rfl rfl ?_
  refine al_nil ?_
  refine aq_block ?_
  exact aq_join (r52.2.way.Fixed, r52.2.way.Cut.Min, r52.2.way.Cut.Max, r52.2.way.Cut.Bits, r52.2.kids, v53, r52.2.out, r52.2.seen, r52.2.e, (0 : Int), v54, ([r52.1]), ([] : List UInt8)) h (nm_ [2, 3, 4, 1, 7, 8, 0, 5] [1, 0, 2, 3] (by decide) ⟨rfl, rfl, rfl, rfl, rfl, rfl, rfl, rfl, trivial⟩)
  replace h := bif_f hb50 h
  refine aw_region ?_
  refine al_val (ov_fieldA (p := 4) rfl Tryz.underlying45 rfl sz9 rfl rfl rfl) ?_
  refine al_val (ov_load (i := 1) (v := (str u20.Bytes)) rfl rfl Tryz.underlying9 sz9 rfl rfl rfl rfl) ?_
  refine al_val (ov_fieldA (p := 6) rfl Tryz.underlying64 rfl sz9 rfl rfl rfl) ?_
  refine al_store (i := 0) (vs := [(str u20.Bytes)]) (cs' := [(str (u20.Path.drop ((wq ((a1.length : Int) + (1 : Int)))).toNat)), (iq u20.Kind), (iq u20.Mode), (iq u20.Time), (iq (0 : Int)), nS, (str u20.Bytes)]) rfl rfl rfl sz9 (cv_rfl rfl) rfl (co_val rfl co_nil) (Nat.le_of_ble_eq_true rfl) rfl rfl ?_
  refine al_nil ?_
  refine aq_block ?_
  refine aq_nilR 29 tyA8u8 ?_
  exact aq_join (l13i0_0, l13i0_1, l13i0_2, l13i0_3, l13xm0_4, l13v0_5, l13x0_5, l13xm0_6, l13i0_7, (0 : Int), nS, ([] : List A8u8), u20.Bytes) h (nm_ [3, 4, 5, 6, 7, 8, 0, 1] [1, 0, 2, 3] (by decide) ⟨rfl, rfl, rfl, rfl, rfl, rfl, rfl, rfl, trivial⟩)
  replace h := bif_f hb17 h
  refine aw_exit ?_
  refine aq_then_exit ?_
  refine aq_then_exit ?_
  refine aq_block_exit ?_
  exact aq_join (l13i0_0, l13i0_1, l13i0_2, l13i0_3, l13xm0_4, l13v0_5, l13x0_5, l13xm0_6, l13i0_7, l13v5, l13x5, l13us5) h (nm_ [0, 1, 2, 3, 4, 5] [1, 2] (by decide) ⟨rfl, rfl, rfl, trivial⟩)
def f_walk_Plant_L23 (a1 : (List S_api_Item)) (kk13 : ((List ((List UInt8) × Option (List S_api_Item))) → Option ((List S_api_Blob) × A8u8 × Int))) (fu : Nat) : Nat → (List ((List UInt8) × Option (List S_api_Item))) → Int → Option ((List S_api_Blob) × A8u8 × Int)
  | 0, _, _ => none
  | k22 + 1, l21xm9_4, l21i32 => (bif (decide (l21i32 < (a1.length : Int))) then (opt (at? a1 l21i32) fun (u25 : S_api_Item) => (opt (f_walk_Parent fu u25.Path) fun (r31 : (List UInt8)) => (opt (f_walk_Parent fu u25.Path) fun (r33 : (List UInt8)) => (req (r33.length ≤ 9223372036854775807) (opt (hget l21xm9_4 r33) fun (xs35 : List S_api_Item) => (req (((xs35.length + ([u25]).length) * 56 : Nat) ≤ 140737488355328 ∧ xs35.length + ([u25]).length ≤ 9223372036854775807) (req (r31.length ≤ 9223372036854775807) (f_walk_Plant_L23 a1 kk13 fu k22 (gset (hold l21xm9_4 r33) r31 (some (xs35 ++ ([u25])))) (IntKind.i64.wrap (l21i32 + (1 : Int))))))))))) else (kk13 l21xm9_4))
def f_walk_Plant (fu : Nat) (a0 : S_api_Way) (a1 : (List S_api_Item)) : Option ((List S_api_Blob) × A8u8 × Int) := (opt (f_walk_WayOK fu a0) fun (r4 : Int) => (bif (r4 != (0 : Int)) then (some (([] : List S_api_Blob), zA8u8, r4)) else (opt (f_walk_Check fu a1) fun (r7 : Int) => (bif (r7 != (0 : Int)) then (some (([] : List S_api_Blob), zA8u8, r7)) else (lt (fun (j12xm9_4 : (List ((List UInt8) × Option (List S_api_Item)))) => (opt (allS j12xm9_4) fun (lm14 : (List ((List UInt8) × List S_api_Item))) => (opt (f___walk_planter__directory fu (D_walk_planter.mk a0 lm14 ([] : List S_api_Blob) ([] : List (A8u8 × S_api_Blob)) (0 : Int)) ([] : List UInt8)) fun (r17 : (A8u8 × D_walk_planter)) => (bif (r17.2.e != (0 : Int)) then (some (([] : List S_api_Blob), zA8u8, r17.2.e)) else (some (r17.2.out, r17.1, (0 : Int))))))) fun (kk13 : (List ((List UInt8) × Option (List S_api_Item))) → Option ((List S_api_Blob) × A8u8 × Int)) => (f_walk_Plant_L23 a1 kk13 fu fu ([] : List ((List UInt8) × Option (List S_api_Item))) (0 : Int)))))))
abbrev mm25 (w0 : World) (Z0 : Nat → Prop) (a0 : S_api_Way) (a1 : (List S_api_Item)) (g10 : Nat) (g11 : Nat) (g2 : Nat) (g9 : Nat) (j12um9_4 : (List Value)) (j12xm9_4 : (List ((List UInt8) × Option (List S_api_Item)))) (v1_0 : Value) : Mem := memOf w0 Z0 [] [(oBox g2 29 (cA8u8 zA8u8)), (oMapR Tryz.prog 9 g9 str 45 tyS_api_Item j12um9_4 j12xm9_4), (oMapK Tryz.prog 29 g10 (fun x : A8u8 => ag (cA8u8 x)) (fun x : S_api_Blob => ag [(int .i64 x.Kind), (str x.Bytes)]) ([] : List (A8u8 × S_api_Blob))), (oBox g11 43 [(int .i64 a0.Fixed), (int .i64 a0.Cut.Min), (int .i64 a0.Cut.Max), (int .i64 a0.Cut.Bits), (Value.map (some g9)), (Value.slice none 0 0), (Value.map (some g10)), (int .i64 (0 : Int))])] [(fDat (tyList tyS_api_Item) [v1_0] a1), uMax, uTabs]
abbrev mm26 (w0 : World) (Z0 : Nat → Prop) (a1 : (List S_api_Item)) (g10 : Nat) (g11 : Nat) (g19 : Nat) (g2 : Nat) (g9 : Nat) (r17 : (A8u8 × D_walk_planter)) (v18 : Value) (v1_0 : Value) : Mem := memOf w0 Z0 [] [(oBox g19 29 (cA8u8 r17.1)), (oBox g11 43 [(int .i64 r17.2.way.Fixed), (int .i64 r17.2.way.Cut.Min), (int .i64 r17.2.way.Cut.Max), (int .i64 r17.2.way.Cut.Bits), (Value.map (some g9)), v18, (Value.map (some g10)), (int .i64 r17.2.e)]), (oMapD Tryz.prog 9 g9 str tyS_api_Item r17.2.kids), (oRow v18 37 tyS_api_Blob r17.2.out), (oMapK Tryz.prog 29 g10 (fun x : A8u8 => ag (cA8u8 x)) (fun x : S_api_Blob => ag [(int .i64 x.Kind), (str x.Bytes)]) r17.2.seen), (oBox g2 29 (cA8u8 zA8u8))] [(fDat (tyList tyS_api_Item) [v1_0] a1), uMax, uTabs]
abbrev mm27 (w0 : World) (Z0 : Nat → Prop) (a1 : (List S_api_Item)) (g10 : Nat) (g11 : Nat) (g19 : Nat) (g2 : Nat) (g9 : Nat) (r17 : (A8u8 × D_walk_planter)) (v18 : Value) (v1_0 : Value) : Mem := memOf w0 Z0 [] [(oBox g19 29 (cA8u8 r17.1)), (oBox g11 43 [(int .i64 r17.2.way.Fixed), (int .i64 r17.2.way.Cut.Min), (int .i64 r17.2.way.Cut.Max), (int .i64 r17.2.way.Cut.Bits), (Value.map (some g9)), v18, (Value.map (some g10)), (int .i64 r17.2.e)]), (oMapD Tryz.prog 9 g9 str tyS_api_Item r17.2.kids), (oRow v18 37 tyS_api_Blob r17.2.out), (oMapK Tryz.prog 29 g10 (fun x : A8u8 => ag (cA8u8 x)) (fun x : S_api_Blob => ag [(int .i64 x.Kind), (str x.Bytes)]) r17.2.seen), (oBox g2 29 (cA8u8 r17.1))] [(fDat (tyList tyS_api_Item) [v1_0] a1), uMax, uTabs]
abbrev mm28 (w0 : World) (Z0 : Nat → Prop) (a0 : S_api_Way) (a1 : (List S_api_Item)) (g10 : Nat) (g11 : Nat) (g2 : Nat) (g9 : Nat) (l21um9_4 : (List Value)) (l21xm9_4 : (List ((List UInt8) × Option (List S_api_Item)))) (v1_0 : Value) : Mem := memOf w0 Z0 [] [(oBox g2 29 (cA8u8 zA8u8)), (oMapR Tryz.prog 9 g9 str 45 tyS_api_Item l21um9_4 l21xm9_4), (oMapK Tryz.prog 29 g10 (fun x : A8u8 => ag (cA8u8 x)) (fun x : S_api_Blob => ag [(int .i64 x.Kind), (str x.Bytes)]) ([] : List (A8u8 × S_api_Blob))), (oBox g11 43 [(int .i64 a0.Fixed), (int .i64 a0.Cut.Min), (int .i64 a0.Cut.Max), (int .i64 a0.Cut.Bits), (Value.map (some g9)), (Value.slice none 0 0), (Value.map (some g10)), (int .i64 (0 : Int))])] [(fDat (tyList tyS_api_Item) [v1_0] a1), uMax, uTabs]
abbrev mm29 (w0 : World) (Z0 : Nat → Prop) (a0 : S_api_Way) (a1 : (List S_api_Item)) (g10 : Nat) (g11 : Nat) (g2 : Nat) (g28 : Nat) (g9 : Nat) (l21um9_4 : (List Value)) (l21xm9_4 : (List ((List UInt8) × Option (List S_api_Item)))) (p27 : Value) (u25 : S_api_Item) (v1_0 : Value) : Mem := memOf w0 Z0 [] [(oBox g28 45 [(str u25.Path), (int .i64 u25.Kind), (int .i64 u25.Mode), (int .i64 u25.Time), (str u25.Bytes)]), (oBox g2 29 (cA8u8 zA8u8)), (oMapR Tryz.prog 9 g9 str 45 tyS_api_Item l21um9_4 l21xm9_4), (oMapK Tryz.prog 29 g10 (fun x : A8u8 => ag (cA8u8 x)) (fun x : S_api_Blob => ag [(int .i64 x.Kind), (str x.Bytes)]) ([] : List (A8u8 × S_api_Blob))), (oBox g11 43 [(int .i64 a0.Fixed), (int .i64 a0.Cut.Min), (int .i64 a0.Cut.Max), (int .i64 a0.Cut.Bits), (Value.map (some g9)), (Value.slice none 0 0), (Value.map (some g10)), (int .i64 (0 : Int))])] [(fPtr tyS_api_Item p27 u25), (fDat (tyList tyS_api_Item) [v1_0] a1), uMax, uTabs]
abbrev mm30 (w0 : World) (Z0 : Nat → Prop) (a0 : S_api_Way) (a1 : (List S_api_Item)) (g10 : Nat) (g11 : Nat) (g2 : Nat) (g28 : Nat) (g9 : Nat) (l21um9_4 : (List Value)) (l21xm9_4 : (List ((List UInt8) × Option (List S_api_Item)))) (p27 : Value) (r33 : (List UInt8)) (u25 : S_api_Item) (v1_0 : Value) (v37 : Value) (xs35 : (List S_api_Item)) : Mem := memOf w0 Z0 [] [(oRow v37 45 tyS_api_Item xs35), (oMapR Tryz.prog 9 g9 str 45 tyS_api_Item l21um9_4 (hold l21xm9_4 r33)), (oBox g28 45 [(str u25.Path), (int .i64 u25.Kind), (int .i64 u25.Mode), (int .i64 u25.Time), (str u25.Bytes)]), (oBox g2 29 (cA8u8 zA8u8)), (oMapK Tryz.prog 29 g10 (fun x : A8u8 => ag (cA8u8 x)) (fun x : S_api_Blob => ag [(int .i64 x.Kind), (str x.Bytes)]) ([] : List (A8u8 × S_api_Blob))), (oBox g11 43 [(int .i64 a0.Fixed), (int .i64 a0.Cut.Min), (int .i64 a0.Cut.Max), (int .i64 a0.Cut.Bits), (Value.map (some g9)), (Value.slice none 0 0), (Value.map (some g10)), (int .i64 (0 : Int))])] [(fPtr tyS_api_Item p27 u25), (fDat (tyList tyS_api_Item) [v1_0] a1), uMax, uTabs]
abbrev mm31 (w0 : World) (Z0 : Nat → Prop) (a0 : S_api_Way) (a1 : (List S_api_Item)) (g10 : Nat) (g11 : Nat) (g2 : Nat) (g28 : Nat) (g9 : Nat) (l21um9_4 : (List Value)) (l21xm9_4 : (List ((List UInt8) × Option (List S_api_Item)))) (p27 : Value) (r33 : (List UInt8)) (u25 : S_api_Item) (v1_0 : Value) (v29 : Value) (v39 : Value) (xs35 : (List S_api_Item)) : Mem := memOf w0 Z0 [] [(oRow v29 45 tyS_api_Item [u25]), (oRow v39 45 tyS_api_Item (xs35 ++ ([u25]))), (oMapR Tryz.prog 9 g9 str 45 tyS_api_Item l21um9_4 (hold l21xm9_4 r33)), (oBox g28 45 [(str u25.Path), (int .i64 u25.Kind), (int .i64 u25.Mode), (int .i64 u25.Time), (str u25.Bytes)]), (oBox g2 29 (cA8u8 zA8u8)), (oMapK Tryz.prog 29 g10 (fun x : A8u8 => ag (cA8u8 x)) (fun x : S_api_Blob => ag [(int .i64 x.Kind), (str x.Bytes)]) ([] : List (A8u8 × S_api_Blob))), (oBox g11 43 [(int .i64 a0.Fixed), (int .i64 a0.Cut.Min), (int .i64 a0.Cut.Max), (int .i64 a0.Cut.Bits), (Value.map (some g9)), (Value.slice none 0 0), (Value.map (some g10)), (int .i64 (0 : Int))])] [(fPtr tyS_api_Item p27 u25), (fDat (tyList tyS_api_Item) [v1_0] a1), uMax, uTabs]
abbrev mm32 (w0 : World) (Z0 : Nat → Prop) (a0 : S_api_Way) (a1 : (List S_api_Item)) (g10 : Nat) (g11 : Nat) (g2 : Nat) (g28 : Nat) (g9 : Nat) (l21xm9_4 : (List ((List UInt8) × Option (List S_api_Item)))) (p27 : Value) (r31 : (List UInt8)) (r33 : (List UInt8)) (u25 : S_api_Item) (us41 : (List Value)) (v1_0 : Value) (v29 : Value) (xs35 : (List S_api_Item)) : Mem := memOf w0 Z0 [] [(oMapR Tryz.prog 9 g9 str 45 tyS_api_Item us41 (gset (hold l21xm9_4 r33) r31 (some (xs35 ++ ([u25]))))), (oRow v29 45 tyS_api_Item [u25]), (oBox g28 45 [(str u25.Path), (int .i64 u25.Kind), (int .i64 u25.Mode), (int .i64 u25.Time), (str u25.Bytes)]), (oBox g2 29 (cA8u8 zA8u8)), (oMapK Tryz.prog 29 g10 (fun x : A8u8 => ag (cA8u8 x)) (fun x : S_api_Blob => ag [(int .i64 x.Kind), (str x.Bytes)]) ([] : List (A8u8 × S_api_Blob))), (oBox g11 43 [(int .i64 a0.Fixed), (int .i64 a0.Cut.Min), (int .i64 a0.Cut.Max), (int .i64 a0.Cut.Bits), (Value.map (some g9)), (Value.slice none 0 0), (Value.map (some g10)), (int .i64 (0 : Int))])] [(fPtr tyS_api_Item p27 u25), (fDat (tyList tyS_api_Item) [v1_0] a1), uMax, uTabs]
end Go.Proofs.YtiioclkiapbjnaaGreatDoor
