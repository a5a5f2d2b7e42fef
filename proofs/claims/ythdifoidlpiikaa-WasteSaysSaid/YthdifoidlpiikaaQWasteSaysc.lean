/- What WasteSays leans on, part 3. No condition. -/
import Derived.Test.YthdifoidlpiikaaQWasteSaysb
import Derived.Test.YthdifoidlpiikaaChecked
import Derived.WalkKit
import Derived.Lib.Hide
import Derived.IntWalk
import GoSem.Core.Float
namespace Go.Proofs.Ythdifoidlpiikaa
open Go.RowKit Ythdifoidlpiikaa.En
set_option linter.unusedVariables false
set_option linter.unusedSimpArgs false
open Go.Value (int bool)
set_option maxHeartbeats 2000000 in
set_option maxRecDepth 100000 in
theorem f_lumref_Total_ok (fu : Nat) (v0_0 : Value) (a0 : (List S_api_Waste)) (v1_0 : Value) (a1 : (List Int)) {r : (S_api_Waste × Int)} (h : f_lumref_Total fu a0 a1 = some r) : FnOk Try.prog 24 [v0_0, v1_0] [(fDat (tyList tyS_api_Waste) [v0_0] a0), (fDat (tyList (tyInt .i64)) [v1_0] a1)] [] (fun (i : Unit) => { val := (Value.tuple #[(ag [(int .i64 r.1.Size), (int .i64 r.1.Dead)]), (int .i64 r.2)]) }) := by
 unfold f_lumref_Total at h
 refine fn_enter Try.func24 rfl Try.ntmps24 rfl (fun w0 Z0 => ?_)
 refine aw_sr ?_
 refine al_alloc (zs := [(iq (0 : Int)), (iq (0 : Int))]) (zeroOf_to to47) rfl rfl (fun g1 => ?_)
 refine al_as rfl rfl ?_
 refine al_nt ?_
 refine aw_seq ?_
 refine aw_sr ?_
 refine al_mv rfl rfl ?_
 obtain ⟨r3, hc2, h⟩ := opt_some h
 refine al_call (vs := [v0_0]) (f_lumref_Wastes_ok fu v0_0 a0 hc2) [] [] [0] (pre_fz 0 rfl pre_nil) rfl (by simp) (by decide) (.inl rfl) rfl Try.func29 rfl rfl rfl (fun _ => ?_)
 refine al_as rfl rfl ?_
 refine al_nt ?_
 refine aw_sr ?_
 refine al_mv rfl rfl ?_
 refine al_in rfl rfl rfl rfl ?_
 refine al_nt ?_
 refine aw_cond rfl (fun hb4 => ?_) (fun hb4 => ?_)
 ·replace h := bif_t hb4 h
  refine aw_sr ?_
  refine al_val (ov_build (cells := ([(iq (0 : Int)), (iq (0 : Int))]).toArray) (cs := [(iq (0 : Int)), (iq (0 : Int))]) rfl (fun w a hm hs => by simp only [List.map_toArray, List.map_cons, List.map_nil, List.toList_toArray]; kernel_rfl)) ?_
  refine al_mv rfl rfl ?_
  refine al_store (i := 0) (vs := [(iq (0 : Int)), (iq (0 : Int))]) (cs' := [(iq (0 : Int)), (iq (0 : Int))]) rfl rfl rfl sz47 (cv_rfl rfl) rfl (co_val rfl (co_val rfl co_nil)) (Nat.le_of_ble_eq_true rfl) rfl rfl ?_
  refine al_as rfl rfl ?_
  refine al_nt ?_
  refine aw_ret ?_
  refine aq_then_ret ?_
  obtain rfl := Option.some.inj h
  exact fn_ret () [] [] rfl rfl rfl rfl (resC rfl (resB (i := 0) rfl rfl Try.underlying47 sz47 rfl rfl rfl (resT rfl (resN))) rfl) rfl rfl rfl (by decide)
 ·replace h := bif_f hb4 h
  refine aw_skip ?_
  refine aq_tr ?_
  refine al_alloc (zs := [(iq (0 : Int)), (iq (0 : Int))]) (zeroOf_to to47) rfl rfl (fun g5 => ?_)
  refine al_nt ?_
  obtain ⟨kk7, hkk7, h⟩ := lt_some h
  refine aw_seq_join (ι := Int × Int) (fun i => (memOf w0 Z0 [] [(oBox g1 47 [(iq (0 : Int)), (iq (0 : Int))]), (oBox g5 47 [(iq i.1), (iq i.2)])] [(fDat (tyList tyS_api_Waste) [v0_0] a0), (fDat (tyList tq) [v1_0] a1)])) (fun i => (tab [(4, (pq g1)), (7, (pq g5))])) (fun i => kk7 i.1 i.2 = some r) ?_ ?_
  ·rintro ⟨j6i7_0, j6i7_1⟩ h
   have h : kk7 j6i7_0 j6i7_1 = some r := h
   rw [hkk7] at h
   dsimp only at h
   clear hkk7
   refine aw_show (m := (memOf w0 Z0 [] [(oBox g1 47 [(iq (0 : Int)), (iq (0 : Int))]), (oBox g5 47 [(iq j6i7_0), (iq j6i7_1)])] [(fDat (tyList tyS_api_Waste) [v0_0] a0), (fDat (tyList tq) [v1_0] a1)])) (S := (tab [(4, (pq g1)), (7, (pq g5))])) ?_
   refine aw_sr ?_
   refine al_val (ov_load (i := 1) (v := (ag [(iq j6i7_0), (iq j6i7_1)])) rfl rfl Try.underlying47 sz47 rfl rfl rfl rfl) ?_
   refine al_store (i := 0) (vs := [(iq j6i7_0), (iq j6i7_1)]) (cs' := [(iq j6i7_0), (iq j6i7_1)]) rfl rfl rfl sz47 (cv_rfl rfl) rfl (co_val rfl (co_val rfl co_nil)) (Nat.le_of_ble_eq_true rfl) rfl rfl ?_
   refine al_as rfl rfl ?_
   refine al_nt ?_
   refine aw_ret ?_
   obtain rfl := Option.some.inj h
   exact fn_ret () [] [] rfl rfl rfl rfl (resC rfl (resB (i := 0) rfl rfl Try.underlying47 sz47 rfl rfl rfl (resT rfl (resN))) rfl) rfl rfl rfl (by decide)
  ·clear hkk7
   refine aw_sr ?_
   refine al_mv rfl rfl ?_
   refine al_val (ov_lenD 1 rfl rfl Try.underlying49 rfl) ?_
   refine al_mv rfl rfl ?_
   refine al_nt ?_
   refine aw_block ?_
   refine aw_state (aw_loop (ι := Int × Int × Int) (fun i => (memOf w0 Z0 [] [(oBox g1 47 [(iq (0 : Int)), (iq (0 : Int))]), (oBox g5 47 [(iq i.1), (iq i.2.1)])] [(fDat (tyList tyS_api_Waste) [v0_0] a0), (fDat (tyList tq) [v1_0] a1)])) (fun i => (tab [(0, v0_0), (1, v1_0), (4, (pq g1)), (7, (pq g5)), (16, v1_0), (17, (iq (a1.length : Int))), (18, (iq i.2.2))])) (fun q i => f_lumref_Total_L10 a0 a1 kk7 fu q i.1 i.2.1 i.2.2 = some r) ?_ fu ((0 : Int), (0 : Int), (0 : Int)) h) (fun w a hm hs => norm hm hs [1, 0] [0, 1] [(0, v0_0), (1, v1_0), (4, (pq g1)), (7, (pq g5)), (16, v1_0), (17, (iq (a1.length : Int))), (18, (iq (0 : Int)))] (by decide) ⟨rfl, rfl, rfl, rfl, rfl, rfl, rfl, trivial⟩)
   clear h
   rintro k9 ⟨l8i7_0, l8i7_1, l8i18⟩ h
   have h : f_lumref_Total_L10 a0 a1 kk7 fu k9 l8i7_0 l8i7_1 l8i18 = some r := h
   obtain _ | k9 := k9
   · rw [f_lumref_Total_L10] at h; cases h
   rw [f_lumref_Total_L10] at h
   refine aw_show (m := (memOf w0 Z0 [] [(oBox g1 47 [(iq (0 : Int)), (iq (0 : Int))]), (oBox g5 47 [(iq l8i7_0), (iq l8i7_1)])] [(fDat (tyList tyS_api_Waste) [v0_0] a0), (fDat (tyList tq) [v1_0] a1)])) (S := (tab [(0, v0_0), (1, v1_0), (4, (pq g1)), (7, (pq g5)), (16, v1_0), (17, (iq (a1.length : Int))), (18, (iq l8i18))])) ?_
   refine aw_sr ?_
   refine al_in rfl rfl rfl rfl ?_
   refine al_nt ?_
   refine aw_seq ?_
   refine aw_cond rfl (fun hb11 => ?_) (fun hb11 => ?_)
   ·replace h := bif_t hb11 h
    refine aw_skip ?_
    refine aq_then ?_
    refine aw_seq ?_
    refine aw_block ?_
    refine aw_sr ?_
    refine al_mv rfl rfl ?_
    obtain ⟨u12, hu13, h⟩ := opt_some h
    refine al_idxD 1 hu13 rfl rfl rfl Try.underlying49 sz3 rfl (fun p14 => ?_)
    refine al_val (ov_loadP (ds := [(iq u12)]) 0 rfl (fun h => h) rfl Try.underlying3 sz3 rfl rfl rfl) ?_
    refine al_as rfl rfl ?_
    refine al_as rfl rfl ?_
    refine al_nt ?_
    refine aw_seq ?_
    obtain ⟨kk16, hkk16, h⟩ := lt_some h
    refine aw_seq_join (ι := Bool) (fun i => (memOf w0 Z0 [] [(oBox g1 47 [(iq (0 : Int)), (iq (0 : Int))]), (oBox g5 47 [(iq l8i7_0), (iq l8i7_1)])] [(fDat (tyList tyS_api_Waste) [v0_0] a0), (fDat (tyList tq) [v1_0] a1), (fPtr tq p14 u12)])) (fun i => (tab [(0, v0_0), (1, v1_0), (4, (pq g1)), (7, (pq g5)), (8, (iq l8i18)), (9, (iq u12)), (16, v1_0), (17, (iq (a1.length : Int))), (18, (iq l8i18)), (30, (bool i))])) (fun i => kk16 i = some r) ?_ ?_
    ·rintro j15b30 h
     have h : kk16 j15b30 = some r := h
     rw [hkk16] at h
     dsimp only at h
     clear hkk16
     refine aw_show (m := (memOf w0 Z0 [] [(oBox g1 47 [(iq (0 : Int)), (iq (0 : Int))]), (oBox g5 47 [(iq l8i7_0), (iq l8i7_1)])] [(fDat (tyList tyS_api_Waste) [v0_0] a0), (fDat (tyList tq) [v1_0] a1), (fPtr tq p14 u12)])) (S := (tab [(0, v0_0), (1, v1_0), (4, (pq g1)), (7, (pq g5)), (8, (iq l8i18)), (9, (iq u12)), (16, v1_0), (17, (iq (a1.length : Int))), (18, (iq l8i18)), (30, (bool j15b30))])) ?_
     refine aw_cond rfl (fun hb17 => ?_) (fun hb17 => ?_)
     ·replace h := bif_t hb17 h
      refine aw_sr ?_
      refine al_val (ov_build (cells := ([(iq (0 : Int)), (iq (0 : Int))]).toArray) (cs := [(iq (0 : Int)), (iq (0 : Int))]) rfl (fun w a hm hs => by simp only [List.map_toArray, List.map_cons, List.map_nil, List.toList_toArray]; kernel_rfl)) ?_
      refine al_store (i := 0) (vs := [(iq (0 : Int)), (iq (0 : Int))]) (cs' := [(iq (0 : Int)), (iq (0 : Int))]) rfl rfl rfl sz47 (cv_rfl rfl) rfl (co_val rfl (co_val rfl co_nil)) (Nat.le_of_ble_eq_true rfl) rfl rfl ?_
      refine al_as rfl rfl ?_
      refine al_nt ?_
      refine aw_ret ?_
      refine aq_then_ret ?_
      refine aq_block_ret ?_
      refine aq_then_ret ?_
      refine aq_then_ret ?_
      refine aq_block_ret ?_
      refine aq_then_ret ?_
      obtain rfl := Option.some.inj h
      exact fn_ret () [] [] rfl rfl rfl rfl (resC rfl (resB (i := 0) rfl rfl Try.underlying47 sz47 rfl rfl rfl (resT rfl (resN))) rfl) rfl rfl rfl (by decide)
     ·replace h := bif_f hb17 h
      refine aw_skip ?_
      refine aq_then ?_
      refine aw_seq ?_
      refine aw_sr ?_
      refine al_mv rfl rfl ?_
      refine al_mv rfl rfl ?_
      obtain ⟨hc18, h⟩ := req_some h
      refine al_sliceDT 1 hc18.1 hc18.2 rfl rfl rfl Try.underlying49 sz3 rfl (fun s19 => ?_)
      refine al_mv rfl rfl ?_
      obtain ⟨r21, hc20, h⟩ := opt_some h
      refine al_call (vs := [s19, (iq u12)]) (f_lumref_has_ok fu s19 (a1.take (l8i18).toNat) u12 hc20) [] [] [0, 1] (pre_fz 0 rfl pre_nil) rfl (by simp) (by decide) (.inl rfl) rfl Try.func75 rfl rfl rfl (fun _ => ?_)
      refine al_nt ?_
      refine aw_cond rfl (fun hb22 => ?_) (fun hb22 => ?_)
      ·replace h := bif_t hb22 h
       refine aw_sr ?_
       refine al_val (ov_build (cells := ([(iq (0 : Int)), (iq (0 : Int))]).toArray) (cs := [(iq (0 : Int)), (iq (0 : Int))]) rfl (fun w a hm hs => by simp only [List.map_toArray, List.map_cons, List.map_nil, List.toList_toArray]; kernel_rfl)) ?_
       refine al_store (i := 0) (vs := [(iq (0 : Int)), (iq (0 : Int))]) (cs' := [(iq (0 : Int)), (iq (0 : Int))]) rfl rfl rfl sz47 (cv_rfl rfl) rfl (co_val rfl (co_val rfl co_nil)) (Nat.le_of_ble_eq_true rfl) rfl rfl ?_
       refine al_as rfl rfl ?_
       refine al_nt ?_
       refine aw_ret ?_
       refine aq_then_ret ?_
       refine aq_block_ret ?_
       refine aq_then_ret ?_
       refine aq_then_ret ?_
       refine aq_block_ret ?_
       refine aq_then_ret ?_
       obtain rfl := Option.some.inj h
       exact fn_ret () [] [] rfl rfl rfl rfl (resC rfl (resB (i := 0) rfl rfl Try.underlying47 sz47 rfl rfl rfl (resT rfl (resN))) rfl) rfl rfl rfl (by decide)
      ·replace h := bif_f hb22 h
       refine aw_skip ?_
       refine aq_then ?_
       obtain ⟨u23, hu24, h⟩ := opt_some h
       obtain ⟨u27, hu28, h⟩ := opt_some h
       refine aw_region_draw 16 [(38, (fun u => fEq u (pq g5))), (39, (fun u => fEq u (iq l8i7_0))), (40, (fun u => fEq u v0_0)), (41, (fun u => fEq u (iq u12))), (42, (fun p25 => (fPtr tyS_api_Waste p25 u23))), (43, (fun p26 => (fPtr tq p26 u23.Size))), (44, (fun u => fEq u (iq u23.Size))), (45, (fun u => fEq u (iq (wq (l8i7_0 + u23.Size))))), (46, (fun u => fEq u (ptr g5 1))), (47, (fun u => fEq u (iq l8i7_1))), (48, (fun u => fEq u v0_0)), (49, (fun u => fEq u (iq u12))), (50, (fun p29 => (fPtr tyS_api_Waste p29 u27))), (51, (fun p30 => (fPtr tq p30 u27.Dead))), (52, (fun u => fEq u (iq u27.Dead))), (53, (fun u => fEq u (iq (wq (l8i7_1 + u27.Dead)))))] (tab [(0, v0_0), (1, v1_0), (4, (pq g1)), (7, (pq g5)), (9, (iq u12)), (16, v1_0), (17, (iq (a1.length : Int))), (18, (iq l8i18))]) mixed (by kernel_rfl) rfl rfl rfl (fun a hs => hs.tab _ (allT_mem ⟨rfl, rfl, rfl, rfl, rfl, rfl, rfl, rfl, trivial⟩)) ⟨⟨rfl, ld_val (ov_fieldA (p := 0) rfl Try.underlying47 rfl sz3 rfl rfl rfl)⟩, ⟨rfl, ld_eq (j := 0) rfl rfl (ld_val (ov_load (i := 1) (v := (iq l8i7_0)) rfl rfl Try.underlying3 sz3 rfl rfl rfl rfl))⟩, ⟨rfl, ld_val (ov_move rfl rfl)⟩, ⟨rfl, ld_val (ov_move rfl rfl)⟩, ⟨rfl, ld_eq (j := 2) rfl rfl (ld_eq (j := 3) rfl rfl (ld_of (of_idxD 1 hu24 rfl rfl rfl Try.underlying45 sz47 rfl)))⟩, ⟨rfl, ld_fact (j := 4) rfl rfl (fun p25 => ld_of (of_fieldD (pr := fun (y : S_api_Waste) => y.Size) 0 rfl subS_api_Waste_0 rfl Try.underlying47 rfl sz3 rfl rfl))⟩, ⟨rfl, ld_fact (j := 5) rfl rfl (fun p26 => ld_val (ov_loadP (ds := [(iq u23.Size)]) 0 rfl (fun h => h) rfl Try.underlying3 sz3 rfl rfl rfl))⟩, ⟨rfl, ld_eq (j := 1) rfl rfl (ld_eq (j := 6) rfl rfl (ld_val (ov_int rfl rfl rfl rfl)))⟩, ⟨rfl, ld_val (ov_fieldA (p := 1) rfl Try.underlying47 rfl sz3 rfl rfl rfl)⟩, ⟨rfl, ld_eq (j := 8) rfl rfl (ld_val (ov_load (i := 1) (v := (iq l8i7_1)) rfl rfl Try.underlying3 sz3 rfl rfl rfl rfl))⟩, ⟨rfl, ld_val (ov_move rfl rfl)⟩, ⟨rfl, ld_val (ov_move rfl rfl)⟩, ⟨rfl, ld_eq (j := 10) rfl rfl (ld_eq (j := 11) rfl rfl (ld_of (of_idxD 1 hu28 rfl rfl rfl Try.underlying45 sz47 rfl)))⟩, ⟨rfl, ld_fact (j := 12) rfl rfl (fun p29 => ld_of (of_fieldD (pr := fun (y : S_api_Waste) => y.Dead) 0 rfl subS_api_Waste_1 rfl Try.underlying47 rfl sz3 rfl rfl))⟩, ⟨rfl, ld_fact (j := 13) rfl rfl (fun p30 => ld_val (ov_loadP (ds := [(iq u27.Dead)]) 0 rfl (fun h => h) rfl Try.underlying3 sz3 rfl rfl rfl))⟩, ⟨rfl, ld_eq (j := 9) rfl rfl (ld_eq (j := 14) rfl rfl (ld_val (ov_int rfl rfl rfl rfl)))⟩, trivial⟩ ?_
       refine tl_eq 7 rfl ?_
       refine tl_eq 15 rfl ?_
       refine tl_done ?_
       refine al_val (ov_build (cells := ([(iq (wq (l8i7_0 + u23.Size))), (iq (wq (l8i7_1 + u27.Dead)))]).toArray) (cs := [(iq (wq (l8i7_0 + u23.Size))), (iq (wq (l8i7_1 + u27.Dead)))]) rfl (fun w a hm hs => by simp only [List.map_toArray, List.map_cons, List.map_nil, List.toList_toArray, hs.ev (x := .tmp 45) rfl, hs.ev (x := .tmp 53) rfl]; kernel_rfl)) ?_
       refine al_store (i := 1) (vs := [(iq (wq (l8i7_0 + u23.Size))), (iq (wq (l8i7_1 + u27.Dead)))]) (cs' := [(iq (wq (l8i7_0 + u23.Size))), (iq (wq (l8i7_1 + u27.Dead)))]) rfl rfl rfl sz47 (cv_rfl rfl) rfl (co_val rfl (co_val rfl co_nil)) (Nat.le_of_ble_eq_true rfl) rfl rfl ?_
       refine al_nil ?_
       refine aq_block ?_
       refine aq_then ?_
       refine aw_region ?_
       refine al_in rfl rfl rfl rfl ?_
       refine al_mv rfl rfl ?_
       refine al_nil ?_
       exact aq_again k9 ((wq (l8i7_0 + u23.Size)), (wq (l8i7_1 + u27.Dead)), (wq (l8i18 + (1 : Int)))) (Nat.lt_succ_self _) h (fun w a hm hs => norm hm hs [0, 1] [1, 2] [(0, v0_0), (1, v1_0), (4, (pq g1)), (7, (pq g5)), (16, v1_0), (17, (iq (a1.length : Int))), (18, (iq (wq (l8i18 + (1 : Int)))))] (by decide) ⟨rfl, rfl, rfl, rfl, rfl, rfl, rfl, trivial⟩)
    ·clear hkk16
     refine aw_region ?_
     refine al_mv rfl rfl ?_
     refine al_in rfl rfl rfl rfl ?_
     refine al_mv rfl rfl ?_
     refine al_caseB 25 rfl (fun hb31 => ?_) (fun hb31 => ?_)
     ·replace h := bif_t hb31 h
      refine al_skip ?_
      refine al_skip ?_
      refine al_skip ?_
      refine al_skip ?_
      refine al_val (ov_pick_t rfl rfl rfl) ?_
      refine al_nil ?_
      exact aq_join true h (fun w a hm hs => norm hm hs [0, 1] [1, 2, 0] [(0, v0_0), (1, v1_0), (4, (pq g1)), (7, (pq g5)), (8, (iq l8i18)), (9, (iq u12)), (16, v1_0), (17, (iq (a1.length : Int))), (18, (iq l8i18)), (30, (bool true))] (by decide) ⟨rfl, rfl, rfl, rfl, rfl, rfl, rfl, rfl, rfl, rfl, trivial⟩)
     ·replace h := bif_f hb31 h
      refine al_mv rfl rfl ?_
      refine al_mv rfl rfl ?_
      refine al_val (ov_lenD 1 rfl rfl Try.underlying45 rfl) ?_
      refine al_in rfl rfl rfl rfl ?_
      refine al_val (ov_pick_f rfl rfl rfl) ?_
      refine al_nil ?_
      exact aq_join (decide (u12 ≥ (a0.length : Int))) h (fun w a hm hs => norm hm hs [0, 1] [1, 2, 0] [(0, v0_0), (1, v1_0), (4, (pq g1)), (7, (pq g5)), (8, (iq l8i18)), (9, (iq u12)), (16, v1_0), (17, (iq (a1.length : Int))), (18, (iq l8i18)), (30, (bool (decide (u12 ≥ (a0.length : Int)))))] (by decide) ⟨rfl, rfl, rfl, rfl, rfl, rfl, rfl, rfl, rfl, rfl, trivial⟩)
   ·replace h := bif_f hb11 h
    refine aw_exit ?_
    refine aq_then_exit ?_
    refine aq_then_exit ?_
    refine aq_block_exit ?_
    exact aq_join (l8i7_0, l8i7_1) h (fun w a hm hs => norm hm hs [0, 1] [0, 1] [(4, (pq g1)), (7, (pq g5))] (by decide) ⟨rfl, rfl, trivial⟩)
def f_slices_Equal___int_int__L6 (a0 : (List Int)) (a1 : (List Int)) (kk3 : (Unit → Option Bool)) : Nat → Int → Option Bool
  | 0, _ => none
  | k5 + 1, l4i13 => (bif (decide (l4i13 < (a0.length : Int))) then (opt (at? a0 l4i13) fun (u8 : Int) => (opt (at? a1 l4i13) fun (u11 : Int) => (bif (u8 != u11) then (some false) else (f_slices_Equal___int_int__L6 a0 a1 kk3 k5 (IntKind.i64.wrap (l4i13 + (1 : Int))))))) else (kk3 ()))
def f_slices_Equal___int_int_ (fu : Nat) (a0 : (List Int)) (a1 : (List Int)) : Option Bool := (bif ((a0.length : Int) != (a1.length : Int)) then (some false) else (lt (fun (_ : Unit) => (some true)) fun (kk3 : Unit → Option Bool) => (f_slices_Equal___int_int__L6 a0 a1 kk3 fu (0 : Int))))
set_option maxHeartbeats 2000000 in
set_option maxRecDepth 100000 in
theorem f_slices_Equal___int_int__ok (fu : Nat) (v0_0 : Value) (a0 : (List Int)) (v1_0 : Value) (a1 : (List Int)) {r : Bool} (h : f_slices_Equal___int_int_ fu a0 a1 = some r) : FnOk Try.prog 30 [v0_0, v1_0] [(fDat (tyList (tyInt .i64)) [v0_0] a0), (fDat (tyList (tyInt .i64)) [v1_0] a1)] [] (fun (i : Unit) => { val := (bool r) }) := by
 unfold f_slices_Equal___int_int_ at h
 refine fn_enter Try.func30 rfl Try.ntmps30 rfl (fun w0 Z0 => ?_)
 refine aw_sr ?_
 refine al_as rfl rfl ?_
 refine al_nt ?_
 refine aw_seq ?_
 refine aw_sr ?_
 refine al_mv rfl rfl ?_
 refine al_val (ov_lenD 0 rfl rfl Try.underlying49 rfl) ?_
 refine al_mv rfl rfl ?_
 refine al_val (ov_lenD 1 rfl rfl Try.underlying49 rfl) ?_
 refine al_in rfl rfl rfl rfl ?_
 refine al_nt ?_
 refine aw_cond rfl (fun hb1 => ?_) (fun hb1 => ?_)
 ·replace h := bif_t hb1 h
  refine aw_sr ?_
  refine al_as rfl rfl ?_
  refine al_nt ?_
  refine aw_ret ?_
  refine aq_then_ret ?_
  obtain rfl := Option.some.inj h
  exact fn_ret () [] [] rfl rfl rfl rfl (res1 rfl rfl) rfl rfl rfl (by decide)
 ·replace h := bif_f hb1 h
  refine aw_skip ?_
  refine aq_then ?_
  obtain ⟨kk3, hkk3, h⟩ := lt_some h
  refine aw_seq_join (ι := Unit) (fun i => (memOf w0 Z0 [] [] [(fDat (tyList tq) [v0_0] a0), (fDat (tyList tq) [v1_0] a1)])) (fun i => (tab [])) (fun i => kk3 () = some r) ?_ ?_
  ·rintro _ h
   have h : kk3 () = some r := h
   rw [hkk3] at h
   dsimp only at h
   clear hkk3
   refine aw_show (m := (memOf w0 Z0 [] [] [(fDat (tyList tq) [v0_0] a0), (fDat (tyList tq) [v1_0] a1)])) (S := (tab [])) ?_
   refine aw_sr ?_
   refine al_as rfl rfl ?_
   refine al_nt ?_
   refine aw_ret ?_
   obtain rfl := Option.some.inj h
   exact fn_ret () [] [] rfl rfl rfl rfl (res1 rfl rfl) rfl rfl rfl (by decide)
  ·clear hkk3
   refine aw_sr ?_
   refine al_mv rfl rfl ?_
   refine al_val (ov_lenD 0 rfl rfl Try.underlying49 rfl) ?_
   refine al_mv rfl rfl ?_
   refine al_nt ?_
   refine aw_block ?_
   refine aw_state (aw_loop (ι := Int) (fun i => (memOf w0 Z0 [] [] [(fDat (tyList tq) [v0_0] a0), (fDat (tyList tq) [v1_0] a1)])) (fun i => (tab [(0, v0_0), (1, v1_0), (12, (iq (a0.length : Int))), (13, (iq i))])) (fun q i => f_slices_Equal___int_int__L6 a0 a1 kk3 q i = some r) ?_ fu (0 : Int) h) (fun w a hm hs => norm hm hs [] [0, 1] [(0, v0_0), (1, v1_0), (12, (iq (a0.length : Int))), (13, (iq (0 : Int)))] (by decide) ⟨rfl, rfl, rfl, rfl, trivial⟩)
   clear h
   rintro k5 l4i13 h
   have h : f_slices_Equal___int_int__L6 a0 a1 kk3 k5 l4i13 = some r := h
   obtain _ | k5 := k5
   · rw [f_slices_Equal___int_int__L6] at h; cases h
   rw [f_slices_Equal___int_int__L6] at h
   refine aw_show (m := (memOf w0 Z0 [] [] [(fDat (tyList tq) [v0_0] a0), (fDat (tyList tq) [v1_0] a1)])) (S := (tab [(0, v0_0), (1, v1_0), (12, (iq (a0.length : Int))), (13, (iq l4i13))])) ?_
   refine aw_sr ?_
   refine al_in rfl rfl rfl rfl ?_
   refine al_nt ?_
   refine aw_seq ?_
   refine aw_cond rfl (fun hb7 => ?_) (fun hb7 => ?_)
   ·replace h := bif_t hb7 h
    refine aw_skip ?_
    refine aq_then ?_
    refine aw_seq ?_
    refine aw_block ?_
    refine aw_sr ?_
    refine al_mv rfl rfl ?_
    refine al_as rfl rfl ?_
    refine al_nt ?_
    refine aw_seq ?_
    obtain ⟨u8, hu9, h⟩ := opt_some h
    obtain ⟨u11, hu12, h⟩ := opt_some h
    refine aw_region_draw 8 [(16, (fun u => fEq u v0_0)), (17, (fun u => fEq u (iq l4i13))), (18, (fun p10 => (fPtr tq p10 u8))), (19, (fun u => fEq u (iq u8))), (20, (fun u => fEq u v1_0)), (21, (fun u => fEq u (iq l4i13))), (22, (fun p13 => (fPtr tq p13 u11))), (23, (fun u => fEq u (iq u11)))] (tab [(0, v0_0), (1, v1_0), (5, (iq l4i13)), (12, (iq (a0.length : Int))), (13, (iq l4i13))]) mixed (by kernel_rfl) rfl rfl rfl (fun a hs => hs.tab _ (allT_mem ⟨rfl, rfl, rfl, rfl, rfl, trivial⟩)) ⟨⟨rfl, ld_val (ov_move rfl rfl)⟩, ⟨rfl, ld_val (ov_move rfl rfl)⟩, ⟨rfl, ld_eq (j := 0) rfl rfl (ld_eq (j := 1) rfl rfl (ld_of (of_idxD 0 hu9 rfl rfl rfl Try.underlying49 sz3 rfl)))⟩, ⟨rfl, ld_fact (j := 2) rfl rfl (fun p10 => ld_val (ov_loadP (ds := [(iq u8)]) 0 rfl (fun h => h) rfl Try.underlying3 sz3 rfl rfl rfl))⟩, ⟨rfl, ld_val (ov_move rfl rfl)⟩, ⟨rfl, ld_val (ov_move rfl rfl)⟩, ⟨rfl, ld_eq (j := 4) rfl rfl (ld_eq (j := 5) rfl rfl (ld_of (of_idxD 1 hu12 rfl rfl rfl Try.underlying49 sz3 rfl)))⟩, ⟨rfl, ld_fact (j := 6) rfl rfl (fun p13 => ld_val (ov_loadP (ds := [(iq u11)]) 0 rfl (fun h => h) rfl Try.underlying3 sz3 rfl rfl rfl))⟩, trivial⟩ ?_
    refine tl_eq 3 rfl ?_
    refine tl_eq 7 rfl ?_
    refine tl_done ?_
    refine al_in rfl rfl rfl rfl ?_
    refine al_nt ?_
    refine aw_cond rfl (fun hb14 => ?_) (fun hb14 => ?_)
    ·replace h := bif_t hb14 h
     refine aw_sr ?_
     refine al_as rfl rfl ?_
     refine al_nt ?_
     refine aw_ret ?_
     refine aq_block_ret ?_
     refine aq_then_ret ?_
     refine aq_then_ret ?_
     refine aq_block_ret ?_
     refine aq_then_ret ?_
     obtain rfl := Option.some.inj h
     exact fn_ret () [] [] rfl rfl rfl rfl (res1 rfl rfl) rfl rfl rfl (by decide)
    ·replace h := bif_f hb14 h
     refine aw_skip ?_
     refine aq_block ?_
     refine aq_then ?_
     refine aw_region ?_
     refine al_in rfl rfl rfl rfl ?_
     refine al_mv rfl rfl ?_
     refine al_nil ?_
     exact aq_again k5 (wq (l4i13 + (1 : Int))) (Nat.lt_succ_self _) h (fun w a hm hs => norm hm hs [] [0, 1] [(0, v0_0), (1, v1_0), (12, (iq (a0.length : Int))), (13, (iq (wq (l4i13 + (1 : Int)))))] (by decide) ⟨rfl, rfl, rfl, rfl, trivial⟩)
   ·replace h := bif_f hb7 h
    refine aw_exit ?_
    refine aq_then_exit ?_
    refine aq_then_exit ?_
    refine aq_block_exit ?_
    exact aq_join () h (fun w a hm hs => norm hm hs [] [0, 1] [] (by decide) trivial)
def f_lumlaw_WasteSays (fu : Nat) (a0 : (List S_api_Waste)) (a1 : S_api_Waste) (a2 : Int) (a3 : (List Int)) : Option Bool := (opt (f_waste_Choose fu a0 a2) fun (r3 : ((List Int) × Int)) => (opt (f_lumref_Choose fu a0 a2) fun (r6 : ((List Int) × Int)) => (opt (f_waste_Total fu a0 a3) fun (r9 : (S_api_Waste × Int)) => (opt (f_lumref_Total fu a0 a3) fun (r12 : (S_api_Waste × Int)) => (opt (f_waste_Share fu a1) fun (r15 : Int) => (opt (f_lumref_Share fu a1) fun (r17 : Int) => (lt (fun (j18b8 : Bool) => (some j18b8)) fun (kk19 : Bool → Option Bool) => (opt (f_waste_Check fu a0) fun (r21 : Int) => (opt (f_lumref_Wastes fu a0) fun (r23 : Int) => (bif (r21 == r23) then (opt (f_slices_Equal___int_int_ fu r3.1 r6.1) fun (r26 : Bool) => (bif r26 then (bif (r3.2 == r6.2) then (req ((Lit.int .i64 r9.1.Size).wf = true) (req ((Lit.int .i64 r9.1.Dead).wf = true) (req ((Lit.int .i64 r12.1.Size).wf = true) (req ((Lit.int .i64 r12.1.Dead).wf = true) (bif ((S_api_Waste.mk r9.1.Size r9.1.Dead) == (S_api_Waste.mk r12.1.Size r12.1.Dead)) then (bif (r9.2 == r12.2) then (kk19 ((((r15).toNat : Nat) : Int) == (((r17).toNat : Nat) : Int))) else (kk19 false)) else (kk19 false)))))) else (kk19 false)) else (kk19 false))) else (kk19 false)))))))))))
set_option maxHeartbeats 2000000 in
set_option maxRecDepth 100000 in
theorem f_lumlaw_WasteSays_ok (fu : Nat) (v0_0 : Value) (a0 : (List S_api_Waste)) (a1 : S_api_Waste) (a2 : Int) (v3_0 : Value) (a3 : (List Int)) {r : Bool} (h : f_lumlaw_WasteSays fu a0 a1 a2 a3 = some r) : FnOk Try.prog 5 [v0_0, (ag [(int .i64 a1.Size), (int .i64 a1.Dead)]), (Value.float .f64 (a2).toNat), v3_0] [(fDat (tyList tyS_api_Waste) [v0_0] a0), (fDat (tyList (tyInt .i64)) [v3_0] a3)] [] (fun (i : Unit) => { val := (bool r) }) := by
 unfold f_lumlaw_WasteSays at h
 refine fn_enter Try.func5 rfl Try.ntmps5 rfl (fun w0 Z0 => ?_)
 refine aw_sr ?_
 refine al_box (vs := [(iq a1.Size), (iq a1.Dead)]) rfl (cv_rfl rfl) rfl (fun g1 => ?_)
 refine al_as rfl rfl ?_
 refine al_nt ?_
 refine aw_sr ?_
 refine al_mv rfl rfl ?_
 refine al_mv rfl rfl ?_
 obtain ⟨r3, hc2, h⟩ := opt_some h
 refine al_call (vs := [v0_0, (Value.float .f64 (a2).toNat)]) (f_waste_Choose_ok fu v0_0 a0 a2 hc2) [] [] [0] (pre_fz 0 rfl pre_nil) rfl (by simp) (by decide) (.inl rfl) rfl Try.func21 rfl rfl rfl (fun v4 => ?_)
 refine al_mv rfl rfl ?_
 refine al_ex rfl rfl rfl ?_
 refine al_ex rfl rfl rfl ?_
 refine al_as rfl rfl ?_
 refine al_as rfl rfl ?_
 refine al_nt ?_
 refine aw_sr ?_
 refine al_mv rfl rfl ?_
 refine al_mv rfl rfl ?_
 obtain ⟨r6, hc5, h⟩ := opt_some h
 refine al_call (vs := [v0_0, (Value.float .f64 (a2).toNat)]) (f_lumref_Choose_ok fu v0_0 a0 a2 hc5) [] [] [0, 1] (pre_fz 0 rfl pre_nil) rfl (by simp) (by decide) (.inl rfl) rfl Try.func22 rfl rfl rfl (fun v7 => ?_)
 refine al_mv rfl rfl ?_
 refine al_ex rfl rfl rfl ?_
 refine al_ex rfl rfl rfl ?_
 refine al_as rfl rfl ?_
 refine al_as rfl rfl ?_
 refine al_nt ?_
 refine aw_sr ?_
 refine al_mv rfl rfl ?_
 refine al_mv rfl rfl ?_
 obtain ⟨r9, hc8, h⟩ := opt_some h
 refine al_call (vs := [v0_0, v3_0]) (f_waste_Total_ok fu v0_0 a0 v3_0 a3 hc8) [] [] [0, 1, 2] (pre_fz 0 rfl (pre_fz 1 rfl pre_nil)) rfl (by simp) (by decide) (.inl rfl) rfl Try.func23 rfl rfl rfl (fun _ => ?_)
 refine al_mv rfl rfl ?_
 refine al_ex rfl rfl rfl ?_
 refine al_ex rfl rfl rfl ?_
 refine al_alloc (zs := [(iq (0 : Int)), (iq (0 : Int))]) (zeroOf_to to47) rfl rfl (fun g10 => ?_)
 refine al_store (i := 0) (vs := [(iq r9.1.Size), (iq r9.1.Dead)]) (cs' := [(iq r9.1.Size), (iq r9.1.Dead)]) rfl rfl rfl sz47 (cv_rfl rfl) rfl (co_val rfl (co_val rfl co_nil)) (Nat.le_of_ble_eq_true rfl) rfl rfl ?_
 refine al_as rfl rfl ?_
 refine al_nt ?_
 refine aw_sr ?_
 refine al_mv rfl rfl ?_
 refine al_mv rfl rfl ?_
 obtain ⟨r12, hc11, h⟩ := opt_some h
 refine al_call (vs := [v0_0, v3_0]) (f_lumref_Total_ok fu v0_0 a0 v3_0 a3 hc11) [] [] [0, 1, 2, 3] (pre_fz 0 rfl (pre_fz 1 rfl pre_nil)) rfl (by simp) (by decide) (.inl rfl) rfl Try.func24 rfl rfl rfl (fun _ => ?_)
 refine al_mv rfl rfl ?_
 refine al_ex rfl rfl rfl ?_
 refine al_ex rfl rfl rfl ?_
 refine al_alloc (zs := [(iq (0 : Int)), (iq (0 : Int))]) (zeroOf_to to47) rfl rfl (fun g13 => ?_)
 refine al_store (i := 0) (vs := [(iq r12.1.Size), (iq r12.1.Dead)]) (cs' := [(iq r12.1.Size), (iq r12.1.Dead)]) rfl rfl rfl sz47 (cv_rfl rfl) rfl (co_val rfl (co_val rfl co_nil)) (Nat.le_of_ble_eq_true rfl) rfl rfl ?_
 refine al_as rfl rfl ?_
 refine al_nt ?_
 refine aw_seq ?_
 obtain ⟨r15, hc14, h⟩ := opt_some h
 obtain ⟨r17, hc16, h⟩ := opt_some h
 refine aw_region_draw 7 [(42, (fun u => fEq u (ag [(iq a1.Size), (iq a1.Dead)]))), (43, (fun u => fEq u (Value.float .f64 (r15).toNat))), (44, (fun u => fEq u (uq (((r15).toNat : Nat) : Int)))), (45, (fun u => fEq u (ag [(iq a1.Size), (iq a1.Dead)]))), (46, (fun u => fEq u (Value.float .f64 (r17).toNat))), (47, (fun u => fEq u (uq (((r17).toNat : Nat) : Int)))), (48, (fun u => fEq u (bool ((((r15).toNat : Nat) : Int) == (((r17).toNat : Nat) : Int)))))] (tab [(0, v0_0), (5, (pq g1)), (9, v4), (10, (iq r3.2)), (11, v7), (12, (iq r6.2)), (13, (pq g10)), (14, (iq r9.2)), (15, (pq g13)), (16, (iq r12.2))]) mixed (by kernel_rfl) rfl rfl rfl (fun a hs => hs.tab _ (allT_mem ⟨rfl, rfl, rfl, rfl, rfl, rfl, rfl, rfl, rfl, rfl, trivial⟩)) ⟨⟨rfl, ld_val (ov_load (i := 4) (v := (ag [(iq a1.Size), (iq a1.Dead)])) rfl rfl Try.underlying47 sz47 rfl rfl rfl rfl)⟩, ⟨rfl, ld_eq (j := 0) rfl rfl (ld_callV (vs := [(ag [(iq a1.Size), (iq a1.Dead)])]) (f_waste_Share_ok fu a1 hc14) [] pre_nil rfl Try.func26 rfl rfl rfl)⟩, ⟨rfl, ld_eq (j := 1) rfl rfl (ld_val (v := (uq (((r15).toNat : Nat) : Int))) (ov_fbits rfl Try.func25 rfl rfl rfl rfl rfl))⟩, ⟨rfl, ld_val (ov_load (i := 4) (v := (ag [(iq a1.Size), (iq a1.Dead)])) rfl rfl Try.underlying47 sz47 rfl rfl rfl rfl)⟩, ⟨rfl, ld_eq (j := 3) rfl rfl (ld_callV (vs := [(ag [(iq a1.Size), (iq a1.Dead)])]) (f_lumref_Share_ok fu a1 hc16) [] pre_nil rfl Try.func27 rfl rfl rfl)⟩, ⟨rfl, ld_eq (j := 4) rfl rfl (ld_val (v := (uq (((r17).toNat : Nat) : Int))) (ov_fbits rfl Try.func25 rfl rfl rfl rfl rfl))⟩, ⟨rfl, ld_eq (j := 2) rfl rfl (ld_eq (j := 5) rfl rfl (ld_val (ov_int rfl rfl rfl rfl)))⟩, trivial⟩ ?_
 refine tl_eq 6 rfl ?_
 refine tl_done ?_
 refine al_as rfl rfl ?_
 refine al_nt ?_
 obtain ⟨kk19, hkk19, h⟩ := lt_some h
 refine aw_seq_join (ι := Bool) (fun i => (memOf w0 Z0 [] [] [(fDat (tyList tyS_api_Waste) [v0_0] a0), (fDat (tyList tq) [v3_0] a3)])) (fun i => (tab [(8, (bool i))])) (fun i => kk19 i = some r) ?_ ?_
 ·rintro j18b8 h
  have h : kk19 j18b8 = some r := h
  rw [hkk19] at h
  dsimp only at h
  clear hkk19
  refine aw_show (m := (memOf w0 Z0 [] [] [(fDat (tyList tyS_api_Waste) [v0_0] a0), (fDat (tyList tq) [v3_0] a3)])) (S := (tab [(8, (bool j18b8))])) ?_
  refine aw_ret ?_
  obtain rfl := Option.some.inj h
  exact fn_ret () [] [] rfl rfl rfl rfl (res1 rfl rfl) rfl rfl rfl (by decide)
 ·clear hkk19
  refine aw_region ?_
  refine al_mv rfl rfl ?_
  obtain ⟨r21, hc20, h⟩ := opt_some h
  refine al_call (vs := [v0_0]) (f_waste_Check_ok fu v0_0 a0 hc20) [] [] [0, 1, 2, 3, 4] (pre_fz 0 rfl pre_nil) rfl (by simp) (by decide) (.inl rfl) rfl Try.func28 rfl rfl rfl (fun _ => ?_)
  refine al_mv rfl rfl ?_
  obtain ⟨r23, hc22, h⟩ := opt_some h
  refine al_call (vs := [v0_0]) (f_lumref_Wastes_ok fu v0_0 a0 hc22) [] [] [0, 1, 2, 3, 4] (pre_fz 0 rfl pre_nil) rfl (by simp) (by decide) (.inl rfl) rfl Try.func29 rfl rfl rfl (fun _ => ?_)
  refine al_in rfl rfl rfl rfl ?_
  refine al_mv rfl rfl ?_
  refine al_caseB 54 rfl (fun hb24 => ?_) (fun hb24 => ?_)
  ·replace h := bif_t hb24 h
   refine al_mv rfl rfl ?_
   refine al_mv rfl rfl ?_
   obtain ⟨r26, hc25, h⟩ := opt_some h
   refine al_call (vs := [v4, v7]) (f_slices_Equal___int_int__ok fu v4 r3.1 v7 r6.1 hc25) [2, 3] [] [0, 1, 2, 3, 4] (pre_own 3 rfl rfl (pre_own 2 rfl rfl pre_nil)) rfl (by simp) (by decide) (.inr flat_res0) rfl Try.func30 rfl rfl rfl (fun _ => ?_)
   refine al_val (ov_pick_t rfl rfl rfl) ?_
   refine al_mv rfl rfl ?_
   refine al_caseB 59 rfl (fun hb27 => ?_) (fun hb27 => ?_)
   ·replace h := bif_t hb27 h
    refine al_mv rfl rfl ?_
    refine al_mv rfl rfl ?_
    refine al_in rfl rfl rfl rfl ?_
    refine al_val (ov_pick_t rfl rfl rfl) ?_
    refine al_mv rfl rfl ?_
    refine al_caseB 64 rfl (fun hb28 => ?_) (fun hb28 => ?_)
    ·replace h := bif_t hb28 h
     refine al_val (ov_load (i := 1) (v := (ag [(iq r9.1.Size), (iq r9.1.Dead)])) rfl rfl Try.underlying47 sz47 rfl rfl rfl rfl) ?_
     refine al_val (ov_load (i := 0) (v := (ag [(iq r12.1.Size), (iq r12.1.Dead)])) rfl rfl Try.underlying47 sz47 rfl rfl rfl rfl) ?_
     obtain ⟨hc29, h⟩ := req_some h
     obtain ⟨hc30, h⟩ := req_some h
     obtain ⟨hc31, h⟩ := req_some h
     obtain ⟨hc32, h⟩ := req_some h
     refine al_val (ov_eqlA (cs := [(iq r9.1.Size), (iq r9.1.Dead)]) (ds := [(iq r12.1.Size), (iq r12.1.Dead)]) (ls := [3, 3]) (p := ((S_api_Waste.mk r9.1.Size r9.1.Dead) == (S_api_Waste.mk r12.1.Size r12.1.Dead))) eg47 kt47 lv47 rfl rfl (by kernel_rfl) (by kernel_rfl) (fit_cons (fit_int Try.underlying3 hc29) (fit_cons (fit_int Try.underlying3 hc30) fit_nil)) (fit_cons (fit_int Try.underlying3 hc31) (fit_cons (fit_int Try.underlying3 hc32) fit_nil)) (injS_api_Waste (x := (S_api_Waste.mk r9.1.Size r9.1.Dead)) (y := (S_api_Waste.mk r12.1.Size r12.1.Dead))) rfl) ?_
     refine al_val (ov_pick_t rfl rfl rfl) ?_
     refine al_mv rfl rfl ?_
     refine al_caseB 69 rfl (fun hb33 => ?_) (fun hb33 => ?_)
     ·replace h := bif_t hb33 h
      refine al_mv rfl rfl ?_
      refine al_mv rfl rfl ?_
      refine al_in rfl rfl rfl rfl ?_
      refine al_val (ov_pick_t rfl rfl rfl) ?_
      refine al_mv rfl rfl ?_
      refine al_caseB 74 rfl (fun hb34 => ?_) (fun hb34 => ?_)
      ·replace h := bif_t hb34 h
       refine al_mv rfl rfl ?_
       refine al_val (ov_pick_t rfl rfl rfl) ?_
       refine al_as rfl rfl ?_
       refine al_nil ?_
       exact aq_join ((((r15).toNat : Nat) : Int) == (((r17).toNat : Nat) : Int)) h (fun w a hm hs => norm hm hs [] [0, 1] [(8, (bool ((((r15).toNat : Nat) : Int) == (((r17).toNat : Nat) : Int))))] (by decide) ⟨rfl, trivial⟩)
      ·replace h := bif_f hb34 h
       refine al_skip ?_
       refine al_val (ov_pick_f rfl rfl rfl) ?_
       refine al_as rfl rfl ?_
       refine al_nil ?_
       exact aq_join false h (fun w a hm hs => norm hm hs [] [0, 1] [(8, (bool false))] (by decide) ⟨rfl, trivial⟩)
     ·replace h := bif_f hb33 h
      refine al_skip ?_
      refine al_skip ?_
      refine al_skip ?_
      refine al_val (ov_pick_f rfl rfl rfl) ?_
      refine al_mv rfl rfl ?_
      refine al_skip ?_
      refine al_val (ov_pick_f rfl rfl rfl) ?_
      refine al_as rfl rfl ?_
      refine al_nil ?_
      exact aq_join false h (fun w a hm hs => norm hm hs [] [0, 1] [(8, (bool false))] (by decide) ⟨rfl, trivial⟩)
    ·replace h := bif_f hb28 h
     refine al_skip ?_
     refine al_skip ?_
     refine al_skip ?_
     refine al_val (ov_pick_f rfl rfl rfl) ?_
     refine al_mv rfl rfl ?_
     refine al_skip ?_
     refine al_skip ?_
     refine al_skip ?_
     refine al_val (ov_pick_f rfl rfl rfl) ?_
     refine al_mv rfl rfl ?_
     refine al_skip ?_
     refine al_val (ov_pick_f rfl rfl rfl) ?_
     refine al_as rfl rfl ?_
     refine al_nil ?_
     exact aq_join false h (fun w a hm hs => norm hm hs [] [0, 1] [(8, (bool false))] (by decide) ⟨rfl, trivial⟩)
   ·replace h := bif_f hb27 h
    refine al_skip ?_
    refine al_skip ?_
    refine al_skip ?_
    refine al_val (ov_pick_f rfl rfl rfl) ?_
    refine al_mv rfl rfl ?_
    refine al_skip ?_
    refine al_skip ?_
    refine al_skip ?_
    refine al_val (ov_pick_f rfl rfl rfl) ?_
    refine al_mv rfl rfl ?_
    refine al_skip ?_
    refine al_skip ?_
    refine al_skip ?_
    refine al_val (ov_pick_f rfl rfl rfl) ?_
    refine al_mv rfl rfl ?_
    refine al_skip ?_
    refine al_val (ov_pick_f rfl rfl rfl) ?_
    refine al_as rfl rfl ?_
    refine al_nil ?_
    exact aq_join false h (fun w a hm hs => norm hm hs [] [0, 1] [(8, (bool false))] (by decide) ⟨rfl, trivial⟩)
  ·replace h := bif_f hb24 h
   refine al_skip ?_
   refine al_skip ?_
   refine al_skip ?_
   refine al_val (ov_pick_f rfl rfl rfl) ?_
   refine al_mv rfl rfl ?_
   refine al_skip ?_
   refine al_skip ?_
   refine al_skip ?_
   refine al_val (ov_pick_f rfl rfl rfl) ?_
   refine al_mv rfl rfl ?_
   refine al_skip ?_
   refine al_skip ?_
   refine al_skip ?_
   refine al_val (ov_pick_f rfl rfl rfl) ?_
   refine al_mv rfl rfl ?_
   refine al_skip ?_
   refine al_skip ?_
   refine al_skip ?_
   refine al_val (ov_pick_f rfl rfl rfl) ?_
   refine al_mv rfl rfl ?_
   refine al_skip ?_
   refine al_val (ov_pick_f rfl rfl rfl) ?_
   refine al_as rfl rfl ?_
   refine al_nil ?_
   exact aq_join false h (fun w a hm hs => norm hm hs [] [0, 1] [(8, (bool false))] (by decide) ⟨rfl, trivial⟩)
end Go.Proofs.Ythdifoidlpiikaa
namespace Go.Proofs.Ythdifoidlpiikaa.TotO
set_option linter.unusedVariables false
set_option linter.unusedSimpArgs false
structure Tot {α : Type} (c : α → α → Int) : Prop where
  refl : ∀ x, c x x = 0
  anti : ∀ x y, c x y < 0 ↔ 0 < c y x
  trans : ∀ x y z, c x y < 0 → c y z < 0 → c x z < 0
  eql : ∀ x y z, c x y = 0 → c x z = c y z
  eqr : ∀ x y z, c x y = 0 → c z x = c z y
variable {α : Type}
theorem Tot.chain {c d : α → α → Int} (hc : Tot c) (hd : Tot d) : Tot (fun x y => if c x y ≠ 0 then c x y else d x y) where
  refl x := by simp [hc.refl, hd.refl]
  anti x y := by
    have h1 := hc.anti x y
    have h2 := hc.anti y x
    have h3 := hd.anti x y
    by_cases h : c x y = 0
    · have h' : c y x = 0 := by omega
      simp [h, h', h3]
    · have h' : c y x ≠ 0 := by omega
      simp [h, h', h1]
  trans x y z := by
    intro h1 h2
    by_cases a : c x y = 0
    · have e := hc.eql x y z a
      simp only [a, ne_eq, not_true_eq_false, if_false] at h1
      by_cases b : c y z = 0
      · simp only [b, ne_eq, not_true_eq_false, if_false] at h2
        have : c x z = 0 := by omega
        simp only [this, ne_eq, not_true_eq_false, if_false]
        exact hd.trans x y z h1 h2
      · simp only [ne_eq, b, not_false_eq_true, if_true] at h2
        have : c x z ≠ 0 := by omega
        simp only [ne_eq, this, not_false_eq_true, if_true]; omega
    · simp only [ne_eq, a, not_false_eq_true, if_true] at h1
      by_cases b : c y z = 0
      · have e := hc.eqr y z x b
        have : c x z ≠ 0 := by omega
        simp only [ne_eq, this, not_false_eq_true, if_true]; omega
      · simp only [ne_eq, b, not_false_eq_true, if_true] at h2
        have h3 := hc.trans x y z h1 h2
        have : c x z ≠ 0 := by omega
        simp only [ne_eq, this, not_false_eq_true, if_true]; exact h3
  eql x y z := by
    intro h
    by_cases a : c x y = 0
    · simp only [a, ne_eq, not_true_eq_false, if_false] at h
      simp only [hc.eql x y z a, hd.eql x y z h]
    · simp only [ne_eq, a, not_false_eq_true, if_true] at h
  eqr x y z := by
    intro h
    by_cases a : c x y = 0
    · simp only [a, ne_eq, not_true_eq_false, if_false] at h
      simp only [hc.eqr x y z a, hd.eqr x y z h]
    · simp only [ne_eq, a, not_false_eq_true, if_true] at h
def cI (x y : Int) : Int := if x < y then -1 else if y < x then 1 else 0
theorem cI_zero {x y : Int} : cI x y = 0 ↔ x = y := by unfold cI; split <;> (try split) <;> omega
theorem Tot.int (f : α → Int) : Tot (fun x y => cI (f x) (f y)) where
  refl x := by unfold cI; rw [if_neg (by omega), if_neg (by omega)]
  anti x y := by unfold cI; split <;> split <;> (try split) <;> omega
  trans x y z := by unfold cI; split <;> split <;> (try split) <;> (try split) <;> (try split) <;> omega
  eql x y z := by intro h; have : f x = f y := cI_zero.1 h; rw [this]
  eqr x y z := by intro h; have : f x = f y := cI_zero.1 h; rw [this]
end Go.Proofs.Ythdifoidlpiikaa.TotO
namespace Go.Proofs.Ythdifoidlpiikaa
open Go.RowKit Ythdifoidlpiikaa.En
theorem at_nat {α : Type} (xs : List α) (k : Nat) : at? xs (k : Int) = xs[k]? := by unfold at?; rw [if_pos (Int.natCast_nonneg k)]; simp
theorem at_lt {α : Type} {xs : List α} {k : Nat} (h : k < xs.length) : at? xs (k : Int) = some xs[k] := by rw [at_nat, List.getElem?_eq_getElem h]
theorem at_of {α : Type} {xs : List α} {k : Nat} {x : α} (h : xs[k]? = some x) : at? xs (k : Int) = some x := by rw [at_nat, h]
theorem at_int {α : Type} {xs : List α} {i : Int} (h0 : 0 ≤ i) (h : i.toNat < xs.length) : at? xs i = some xs[i.toNat] := by unfold at?; rw [if_pos h0, List.getElem?_eq_getElem h]
theorem w64 {x : Int} (h0 : -9223372036854775808 ≤ x) (h1 : x ≤ 9223372036854775807) : IntKind.i64.wrap x = x := IntWalk.i64_in x (by omega)
theorem wsucc {k : Nat} (h : k < 9223372036854775807) : IntKind.i64.wrap ((k : Int) + 1) = ((k + 1 : Nat) : Int) := by rw [w64 (by omega) (by omega)]; omega
theorem dlt {a b : Int} (h : a < b) : decide (a < b) = true := decide_eq_true h
theorem dge {a b : Int} (h : b ≤ a) : decide (a < b) = false := decide_eq_false (by omega)
theorem cond_tt {α : Type} {b : Bool} {x y : α} (h : b = true) : (bif b then x else y) = x := by rw [h]; rfl
theorem cond_ff {α : Type} {b : Bool} {x y : α} (h : b = false) : (bif b then x else y) = y := by rw [h]; rfl
theorem wfi64 {x : Int} (h : (Lit.int .i64 x).wf = true) : -9223372036854775808 ≤ x ∧ x ≤ 9223372036854775807 := by
  simpa [Lit.wf, IntKind.min, IntKind.max, IntKind.signed, IntKind.bits] using h
end Go.Proofs.Ythdifoidlpiikaa
namespace Go.Proofs.Ythdifoidlpiikaa
open Go.RowKit Ythdifoidlpiikaa.En
theorem shr_nat {x m : Nat} {j : Int} {k : IntKind} (hj : j = (m : Int)) (hm : m ≤ k.bits) : ((x : Int)).fdiv (2 ^ min j.toNat k.bits) = ((x / 2 ^ m : Nat) : Int) := by
  subst hj
  rw [Int.toNat_natCast, Nat.min_eq_left hm, Int.fdiv_eq_ediv_of_nonneg _ (by apply Int.le_of_lt; apply Int.pow_pos; decide)]
  simp
end Go.Proofs.Ythdifoidlpiikaa
namespace Go.Proofs.Ythdifoidlpiikaa.WsS
open Go.RowKit Ythdifoidlpiikaa.En Ythdifoidlpiikaa Go.Proofs.Ythdifoidlpiikaa.TotO
set_option linter.unusedVariables false
set_option linter.unusedSimpArgs false
abbrev Wa := S_api_Waste
def g (d : List Int) (k : Nat) : Int := d.getD k 0
theorem g_at {d : List Int} {k : Nat} (h : k < d.length) : at? d (k : Int) = some (g d k) := by rw [at_lt h]; simp [g, h]
theorem g_set {d : List Int} {i k : Nat} {v : Int} (h : i < d.length) : g (d.set i v) k = if k = i then v else g d k := by
  unfold g
  rw [List.getD_eq_getElem?_getD, List.getD_eq_getElem?_getD, List.getElem?_set]
  by_cases e : i = k
  · subst e; simp [h]
  · rw [if_neg e, if_neg (fun h => e h.symm)]
theorem g_mem {d : List Int} {k : Nat} (h : k < d.length) : g d k ∈ d := by
  unfold g; rw [List.getD_eq_getElem?_getD, List.getElem?_eq_getElem h]; exact List.getElem_mem h
theorem set_perm (d : List Int) {i j : Nat} (hi : i < d.length) (hj : j < d.length) : ((d.set i (g d j)).set j (g d i)).Perm d := by
  have h1 : g d j = d[j] := by simp [g, hj]
  have h2 : g d i = d[i] := by simp [g, hi]
  rw [h1, h2]
  exact List.set_set_perm hi hj
structure Ch (a b : Nat) (d e : List Int) : Prop where
  len : e.length = d.length
  perm : e.Perm d
  out : ∀ k, k < a ∨ b ≤ k → g e k = g d k
  ins : ∀ k, a ≤ k → k < b → ∃ j, a ≤ j ∧ j < b ∧ g e k = g d j
theorem Ch.refl (a b : Nat) (d : List Int) : Ch a b d d := ⟨rfl, .refl _, fun _ _ => rfl, fun k h1 h2 => ⟨k, h1, h2, rfl⟩⟩
theorem Ch.trans {a b : Nat} {d e f : List Int} (h : Ch a b d e) (h' : Ch a b e f) : Ch a b d f :=
  ⟨h'.len.trans h.len, h'.perm.trans h.perm, fun k hk => (h'.out k hk).trans (h.out k hk), fun k h1 h2 => by
    obtain ⟨j, j1, j2, e1⟩ := h'.ins k h1 h2
    obtain ⟨i, i1, i2, e2⟩ := h.ins j j1 j2
    exact ⟨i, i1, i2, e1.trans e2⟩⟩
theorem Ch.mono {a b a' b' : Nat} {d e : List Int} (h : Ch a b d e) (h1 : a' ≤ a) (h2 : b ≤ b') : Ch a' b' d e :=
  ⟨h.len, h.perm, fun k hk => h.out k (by omega), fun k k1 k2 => by
    by_cases hk : a ≤ k ∧ k < b
    · obtain ⟨j, j1, j2, e1⟩ := h.ins k hk.1 hk.2
      exact ⟨j, by omega, by omega, e1⟩
    · exact ⟨k, k1, k2, h.out k (by omega)⟩⟩
theorem Ch.swap {a b i j : Nat} {d : List Int} (hb : b ≤ d.length) (hi : a ≤ i ∧ i < b) (hj : a ≤ j ∧ j < b) : Ch a b d ((d.set i (g d j)).set j (g d i)) := by
  have h1 : ∀ k, g ((d.set i (g d j)).set j (g d i)) k = if k = j then g d i else if k = i then g d j else g d k := fun k => by
    rw [g_set (by simp; omega), g_set (by omega)]
  refine ⟨by simp, set_perm d (by omega) (by omega), fun k hk => ?_, fun k k1 k2 => ?_⟩
  · rw [h1, if_neg (by omega), if_neg (by omega)]
  · rw [h1]
    by_cases e1 : k = j
    · exact ⟨i, hi.1, hi.2, by rw [if_pos e1]⟩
    · by_cases e2 : k = i
      · exact ⟨j, hj.1, hj.2, by rw [if_neg e1, if_pos e2]⟩
      · exact ⟨k, k1, k2, by rw [if_neg e1, if_neg e2]⟩
theorem wnat {a b : Nat} (h : a + b < 1000000) : IntKind.i64.wrap ((a : Int) + (b : Int)) = ((a + b : Nat) : Int) := by rw [w64 (by omega) (by omega)]; omega
theorem wsub {a b : Nat} (h : b ≤ a) (ha : a < 1000000) : IntKind.i64.wrap ((a : Int) - (b : Int)) = ((a - b : Nat) : Int) := by rw [w64 (by omega) (by omega)]; omega
theorem wmid {lo hi : Nat} (h : lo + hi < 1000000) : IntKind.i64.wrap (((IntKind.u64.wrap (IntKind.i64.wrap ((lo : Int) + (hi : Int))))).fdiv (2 ^ min ((1 : Int)).toNat (IntKind.bits .u64))) = (((lo + hi) / 2 : Nat) : Int) := by
  rw [w64 (x := (lo : Int) + (hi : Int)) (by omega) (by omega), show (lo : Int) + (hi : Int) = ((lo + hi : Nat) : Int) by omega, IntKind.wrap_u64, Int.emod_eq_of_lt (by omega) (by omega), shr_nat (m := 1) (j := 1) rfl (by decide), w64 (by omega) (by omega)]
theorem swap_go (d : List Int) {a b n : Nat} (h1 : a + n ≤ b) (h2 : b + n ≤ d.length) (hn : d.length ≤ 1000) : ∀ (fuel i : Nat) (cur : List Int), i ≤ n → n - i < fuel → cur.length = d.length → cur.Perm d →
    (∀ k, g cur k = if a ≤ k ∧ k < a + i then g d (k - a + b) else if b ≤ k ∧ k < b + i then g d (k - b + a) else g d k) →
    ∃ e, f_slices_swapRangeCmpFunc_int__lent_F73_L3 (a : Int) (b : Int) (n : Int) fuel cur (i : Int) = some e ∧ e.length = d.length ∧ e.Perm d ∧ ∀ k, g e k = if a ≤ k ∧ k < a + n then g d (k - a + b) else if b ≤ k ∧ k < b + n then g d (k - b + a) else g d k
  | 0, _, _, _, hf, _, _, _ => absurd hf (Nat.not_lt_zero _)
  | fuel + 1, i, cur, hi, hf, hl, hp, hc => by
    rw [f_slices_swapRangeCmpFunc_int__lent_F73_L3]
    by_cases hlt : i < n
    · rw [cond_tt (dlt (by omega)), wnat (a := b) (by omega), wnat (a := a) (by omega), g_at (d := cur) (k := b + i) (by omega), opt_of, g_at (d := cur) (k := a + i) (by omega), opt_of, opt_of, Int.toNat_natCast, g_at (by simp; omega), opt_of, Int.toNat_natCast, wsucc (by omega)]
      refine swap_go d h1 h2 hn fuel (i + 1) _ (by omega) (by omega) (by simpa using hl) ((set_perm cur (by omega) (by omega)).trans hp) (fun k => ?_)
      rw [g_set (by simp; omega), g_set (by omega), hc, hc, hc]
      repeat' split
      all_goals first | (exfalso; omega) | (congr 1 <;> omega)
    · have : i = n := by omega
      subst this
      rw [cond_ff (dge (by omega))]
      exact ⟨cur, rfl, hl, hp, hc⟩
theorem swap_ok (d : List Int) {a b n : Nat} (h1 : a + n ≤ b) (h2 : b + n ≤ d.length) (hn : d.length ≤ 1000) (l : List Wa) (fu : Nat) (hfu : 2000 ≤ fu) :
    ∃ e, f_slices_swapRangeCmpFunc_int__lent_F73 fu d (a : Int) (b : Int) (n : Int) l = some e ∧ e.length = d.length ∧ e.Perm d ∧ ∀ k, g e k = if a ≤ k ∧ k < a + n then g d (k - a + b) else if b ≤ k ∧ k < b + n then g d (k - b + a) else g d k := by
  unfold f_slices_swapRangeCmpFunc_int__lent_F73
  refine swap_go d h1 h2 hn fu 0 d (by omega) (by omega) rfl (.refl _) (fun k => ?_)
  rw [if_neg (by omega), if_neg (by omega)]
def rotF (d : List Int) (a m b k : Nat) : Int := if a ≤ k ∧ k < a + (b - m) then g d (k - a + m) else if a + (b - m) ≤ k ∧ k < b then g d (k - (b - m)) else g d k
theorem rot_go (T : Nat → Int) (N m : Nat) (hN : N ≤ 1000) (l : List Wa) (fu : Nat) (hfu : 2000 ≤ fu) (kk : List Int → Int → Option (List Int)) (d : List Int) : ∀ (fuel i j : Nat) (cur : List Int), 1 ≤ i → 1 ≤ j → i ≤ m → m + j ≤ N → i + j < fuel → cur.length = N → cur.Perm d →
    (∀ k, rotF cur (m - i) m (m + j) k = T k) →
    ∃ (e : List Int) (i' : Nat), f_slices_rotateCmpFunc_int__lent_F73_L7 (m : Int) l kk fu fuel cur (i : Int) (j : Int) = kk e (i' : Int) ∧ 1 ≤ i' ∧ i' ≤ m ∧ m + i' ≤ N ∧ e.length = N ∧ e.Perm d ∧ ∀ k, rotF e (m - i') m (m + i') k = T k
  | 0, _, _, _, _, _, _, _, hf, _, _, _ => absurd hf (Nat.not_lt_zero _)
  | fuel + 1, i, j, cur, hi, hj, him, hjN, hf, hl, hp, hT => by
    rw [f_slices_rotateCmpFunc_int__lent_F73_L7]
    by_cases hij : i = j
    · subst hij
      rw [cond_ff (by simp)]
      exact ⟨cur, i, rfl, hi, him, hjN, hl, hp, hT⟩
    · rw [cond_tt (by simp; omega)]
      by_cases hgt : j < i
      · rw [cond_tt (decide_eq_true (show (i : Int) > (j : Int) by omega)), wsub him (by omega)]
        obtain ⟨e, he, e1, e2, e3⟩ := swap_ok cur (a := m - i) (b := m) (n := j) (by omega) (by omega) (by omega) l fu hfu
        rw [he, opt_of, wsub (by omega) (by omega)]
        refine rot_go T N m hN l fu hfu kk d fuel (i - j) j e (by omega) hj (by omega) hjN (by omega) (e1.trans hl) (e2.trans hp) (fun k => ?_)
        rw [← hT k]
        unfold rotF
        simp only [e3]
        repeat' split
        all_goals first | (exfalso; omega) | (congr 1 <;> omega)
      · rw [cond_ff (decide_eq_false (show ¬ (i : Int) > (j : Int) by omega)), wsub him (by omega), wnat (by omega), wsub (by omega) (by omega)]
        obtain ⟨e, he, e1, e2, e3⟩ := swap_ok cur (a := m - i) (b := m + j - i) (n := i) (by omega) (by omega) (by omega) l fu hfu
        rw [he, opt_of, wsub (by omega) (by omega)]
        refine rot_go T N m hN l fu hfu kk d fuel i (j - i) e hi (by omega) him (by omega) (by omega) (e1.trans hl) (e2.trans hp) (fun k => ?_)
        rw [← hT k]
        unfold rotF
        simp only [e3]
        repeat' split
        all_goals first | (exfalso; omega) | (congr 1 <;> omega)
theorem rot_ok (d : List Int) {a m b : Nat} (h1 : a < m) (h2 : m < b) (h3 : b ≤ d.length) (hn : d.length ≤ 1000) (l : List Wa) (fu : Nat) (hfu : 2100 ≤ fu) :
    ∃ e, f_slices_rotateCmpFunc_int__lent_F73 fu d (a : Int) (m : Int) (b : Int) l = some e ∧ e.length = d.length ∧ e.Perm d ∧ ∀ k, g e k = rotF d a m b k := by
  unfold f_slices_rotateCmpFunc_int__lent_F73
  rw [lt_of, wsub (by omega) (by omega), wsub (by omega) (by omega)]
  obtain ⟨e, i, he, i1, i2, i3, e1, e2, e3⟩ := rot_go (rotF d a m b) d.length m hn l fu (by omega) _ d fu (m - a) (b - m) d (by omega) (by omega) (by omega) (by omega) (by omega) rfl (.refl _) (fun k => by rw [show m - (m - a) = a by omega, show m + (b - m) = b by omega])
  rw [he]
  rw [wsub i2 (by omega)]
  obtain ⟨f, hf, f1, f2, f3⟩ := swap_ok e (a := m - i) (b := m) (n := i) (by omega) (by omega) (by omega) l fu (by omega)
  rw [hf, opt_of]
  refine ⟨f, rfl, f1.trans e1, f2.trans e2, fun k => ?_⟩
  rw [← e3 k, f3 k]
  unfold rotF
  repeat' split
  all_goals first | (exfalso; omega) | (congr 1 <;> omega)
theorem rot_ch {d e : List Int} {a m b : Nat} (h1 : a ≤ m) (h2 : m ≤ b) (hl : e.length = d.length) (hp : e.Perm d) (he : ∀ k, g e k = rotF d a m b k) : Ch a b d e :=
  ⟨hl, hp, fun k hk => by rw [he]; unfold rotF; rw [if_neg (by omega), if_neg (by omega)], fun k k1 k2 => by
    rw [he]; unfold rotF
    by_cases h : k < a + (b - m)
    · exact ⟨k - a + m, by omega, by omega, by rw [if_pos (by omega)]⟩
    · exact ⟨k - (b - m), by omega, by omega, by rw [if_neg (by omega), if_pos (by omega)]⟩⟩
end Go.Proofs.Ythdifoidlpiikaa.WsS
namespace Go.Proofs.Ythdifoidlpiikaa.WsS
open Go.RowKit Ythdifoidlpiikaa.En Ythdifoidlpiikaa Go.Proofs.Ythdifoidlpiikaa.TotO
set_option linter.unusedVariables false
set_option linter.unusedSimpArgs false
structure Env (l : List Wa) where
  c0 : Int → Int → Int
  V : Int → Prop
  tot : Tot c0
  cmp : ∀ fu x y, V x → V y → f_waste_Choose_1 fu x y l = some (c0 x y)
variable {l : List Wa}
def Env.cc (E : Env l) (x y : Int) : Int := if E.c0 x y ≠ 0 then E.c0 x y else cI x y
theorem Env.cct (E : Env l) : Tot E.cc := E.tot.chain (Tot.int (fun x => x))
theorem Env.less (E : Env l) {x y : Int} (h : x < y) : E.c0 y x < 0 ↔ E.cc y x < 0 := by
  unfold Env.cc
  by_cases h0 : E.c0 y x = 0
  · rw [if_neg (by simpa using h0), h0]
    have : cI y x = 1 := by unfold cI; rw [if_neg (by omega), if_pos h]
    rw [this]; decide
  · rw [if_pos h0]
theorem Env.tri (E : Env l) {x y : Int} (h : x ≠ y) : E.cc x y < 0 ∨ E.cc y x < 0 := by
  by_cases h0 : E.cc x y = 0
  · unfold Env.cc at h0
    by_cases h1 : E.c0 x y = 0
    · rw [if_neg (by simpa using h1)] at h0; exact absurd (cI_zero.1 h0) h
    · rw [if_pos h1] at h0; exact absurd h0 h1
  · have := E.cct.anti y x; omega
theorem Env.asym (E : Env l) {x y : Int} (h : E.cc x y < 0) : ¬ E.cc y x < 0 := by
  have := E.cct.anti x y; omega
abbrev Env.trans (E : Env l) {x y z : Int} (h : E.cc x y < 0) (h' : E.cc y z < 0) : E.cc x z < 0 := E.cct.trans x y z h h'
def Env.Srt (E : Env l) (a b : Nat) (d : List Int) : Prop := ∀ i j, a ≤ i → i < j → j < b → E.cc (g d i) (g d j) < 0
def Idx (a m b : Nat) (d : List Int) : Prop := ∀ i j, a ≤ i → i < m → m ≤ j → j < b → g d i < g d j
theorem Ch.val {V : Int → Prop} {a b : Nat} {d e : List Int} (h : Ch a b d e) (hv : ∀ x ∈ d, V x) : ∀ x ∈ e, V x := fun x hx => hv x (h.perm.mem_iff.1 hx)
theorem ins_inner (E : Env l) (d : List Int) {a i : Nat} (hn : d.length ≤ 1000) (hi : i < d.length) (hv : ∀ x ∈ d, E.V x) (hlt : ∀ k, a ≤ k → k < i → g d k < g d i) (hs : E.Srt a i d) (kk : List Int → Option (List Int)) (fu : Nat) : ∀ (fuel j : Nat) (cur : List Int), a ≤ j → j ≤ i → j - a < fuel → Ch a (i + 1) d cur → g cur j = g d i →
    (∀ k, a ≤ k → k < j → g cur k = g d k) → (∀ k, j < k → k ≤ i → g cur k = g d (k - 1) ∧ E.cc (g d i) (g d (k - 1)) < 0) →
    ∃ e, f_slices_insertionSortCmpFunc_int__lent_F73_L10 (a : Int) l kk fu fuel cur (j : Int) = kk e ∧ Ch a (i + 1) d e ∧ E.Srt a (i + 1) e
  | 0, _, _, _, _, hf, _, _, _, _ => absurd hf (Nat.not_lt_zero _)
  | fuel + 1, j, cur, haj, hji, hf, hch, hj, hb, ha => by
    rw [f_slices_insertionSortCmpFunc_int__lent_F73_L10, lt_of]
    have hcl := hch.len
    have hcv := hch.val hv
    have fin : (j = a ∨ (a < j ∧ E.cc (g d (j - 1)) (g d i) < 0)) → E.Srt a (i + 1) cur := fun hstop p q h1 h2 h3 => by
      by_cases hq : q < j
      · rw [hb p h1 (by omega), hb q (by omega) hq]; exact hs p q h1 h2 (by omega)
      · by_cases hqj : q = j
        · subst hqj
          rw [hb p h1 h2, hj]
          rcases hstop with h | ⟨h, h'⟩
          · omega
          · by_cases e : p = q - 1
            · subst e; exact h'
            · exact E.trans (hs p (q - 1) h1 (by omega) (by omega)) h'
        · obtain ⟨q1, q2⟩ := ha q (by omega) (by omega)
          rw [q1]
          by_cases hp : p < j
          · rw [hb p h1 hp]
            exact hs p (q - 1) h1 (by omega) (by omega)
          · by_cases hpj : p = j
            · subst hpj; rw [hj]; exact q2
            · rw [(ha p (by omega) (by omega)).1]
              exact hs (p - 1) (q - 1) (by omega) (by omega) (by omega)
    by_cases hja : a < j
    · have e1 : IntKind.i64.wrap ((j : Int) - 1) = ((j - 1 : Nat) : Int) := wsub (b := 1) (by omega) (by omega)
      rw [cond_tt (decide_eq_true (show (j : Int) > (a : Int) by omega)), g_at (d := cur) (k := j) (by omega), opt_of, e1, g_at (d := cur) (k := j - 1) (by omega), opt_of, E.cmp _ _ _ (hcv _ (g_mem (by omega))) (hcv _ (g_mem (by omega))), opt_of, hj, hb (j - 1) (by omega) (by omega)]
      by_cases hc : E.c0 (g d i) (g d (j - 1)) < 0
      · have hc' := (E.less (hlt (j - 1) (by omega) (by omega))).1 hc
        rw [decide_eq_true hc]
        dsimp only
        rw [cond_tt rfl, opt_of, opt_of, opt_of, Int.toNat_natCast, Int.toNat_natCast, g_at (by simp; omega), opt_of]
        have hg : ∀ k, g ((cur.set j (g d (j - 1))).set (j - 1) (g d i)) k = if k = j - 1 then g d i else if k = j then g d (j - 1) else g cur k := fun k => by rw [g_set (by simp; omega), g_set (by omega)]
        have hsw : Ch a (i + 1) cur ((cur.set j (g d (j - 1))).set (j - 1) (g d i)) := by
          have := Ch.swap (a := a) (b := i + 1) (i := j) (j := j - 1) (d := cur) (by omega) ⟨by omega, by omega⟩ ⟨by omega, by omega⟩
          rwa [hj, hb (j - 1) (by omega) (by omega)] at this
        refine ins_inner E d hn hi hv hlt hs kk fu fuel (j - 1) _ (by omega) (by omega) (by omega) (hch.trans hsw) (by rw [hg, if_pos rfl]) (fun k k1 k2 => ?_) (fun k k1 k2 => ?_)
        · rw [hg, if_neg (by omega), if_neg (by omega)]; exact hb k k1 (by omega)
        · rw [hg, if_neg (by omega)]
          by_cases hk : k = j
          · subst hk; rw [if_pos rfl]; exact ⟨rfl, hc'⟩
          · rw [if_neg hk]; exact ha k (by omega) k2
      · have hc' : E.cc (g d (j - 1)) (g d i) < 0 := by
          rcases E.tri (x := g d (j - 1)) (y := g d i) (by have := hlt (j - 1) (by omega) (by omega); omega) with h | h
          · exact h
          · exact absurd ((E.less (hlt (j - 1) (by omega) (by omega))).2 h) hc
        rw [decide_eq_false hc]
        dsimp only
        rw [cond_ff rfl]
        exact ⟨cur, rfl, hch, fin (.inr ⟨hja, hc'⟩)⟩
    · rw [cond_ff (decide_eq_false (show ¬ (j : Int) > (a : Int) by omega))]
      dsimp only
      rw [cond_ff rfl]
      exact ⟨cur, rfl, hch, fin (.inl (by omega))⟩
theorem ins_outer (E : Env l) (d : List Int) {a b : Nat} (hn : d.length ≤ 1000) (hb : b ≤ d.length) (hv : ∀ x ∈ d, E.V x) (hlt : ∀ p q, a ≤ p → p < q → q < b → g d p < g d q) (fu : Nat) (hfu : 2000 ≤ fu) : ∀ (fuel i : Nat) (cur : List Int), a < i → (i ≤ b ∨ i = a + 1) → b - i < fuel → Ch a i d cur → E.Srt a i cur →
    ∃ e, f_slices_insertionSortCmpFunc_int__lent_F73_L3 (a : Int) (b : Int) l fu fuel cur (i : Int) = some e ∧ Ch a (max i b) d e ∧ E.Srt a b e
  | 0, _, _, _, _, hf, _, _ => absurd hf (Nat.not_lt_zero _)
  | fuel + 1, i, cur, hai, hib, hf, hch, hs => by
    rw [f_slices_insertionSortCmpFunc_int__lent_F73_L3, lt_of]
    have hcl := hch.len
    by_cases hlt' : i < b
    · rw [cond_tt (dlt (by omega)), lt_of]
      have hx : g cur i = g d i := hch.out i (by omega)
      obtain ⟨e, he, h1, h2⟩ := ins_inner E cur (a := a) (i := i) (by omega) (by omega) (hch.val hv) (fun k k1 k2 => by
        obtain ⟨j, j1, j2, e⟩ := hch.ins k k1 k2
        rw [e, hx]; exact hlt j i j1 j2 hlt') hs _ fu fu i cur (by omega) (by omega) (by omega) (Ch.refl _ _ _) rfl (fun _ _ _ => rfl) (fun k k1 k2 => by omega)
      rw [he, wsucc (by omega)]
      obtain ⟨f, hf', f1, f2⟩ := ins_outer E d hn hb hv hlt fu hfu fuel (i + 1) e (by omega) (by omega) (by omega) ((hch.mono (Nat.le_refl _) (by omega)).trans h1) h2
      exact ⟨f, hf', f1.mono (Nat.le_refl _) (by omega), f2⟩
    · rw [cond_ff (dge (by omega))]
      exact ⟨cur, rfl, hch.mono (Nat.le_refl _) (by omega), fun p q h1 h2 h3 => hs p q h1 h2 (by omega)⟩
theorem ins_ok (E : Env l) (d : List Int) {a b : Nat} (hn : d.length ≤ 1000) (hab : a < b) (hb : b ≤ d.length) (hv : ∀ x ∈ d, E.V x) (hlt : ∀ p q, a ≤ p → p < q → q < b → g d p < g d q) (fu : Nat) (hfu : 2000 ≤ fu) :
    ∃ e, f_slices_insertionSortCmpFunc_int__lent_F73 fu d (a : Int) (b : Int) l = some e ∧ Ch a b d e ∧ E.Srt a b e := by
  unfold f_slices_insertionSortCmpFunc_int__lent_F73
  rw [wsucc (by omega)]
  obtain ⟨e, he, h1, h2⟩ := ins_outer E d hn hb hv hlt fu hfu fu (a + 1) d (by omega) (by omega) (by omega) (Ch.refl _ _ _) (fun p q _ _ _ => by omega)
  exact ⟨e, he, h1.mono (Nat.le_refl _) (by omega), h2⟩
theorem ins_none (d : List Int) {a b : Nat} (hab : b ≤ a) (hn : a ≤ 1000) (fu : Nat) (hfu : 2000 ≤ fu) : f_slices_insertionSortCmpFunc_int__lent_F73 fu d (a : Int) (b : Int) l = some d := by
  unfold f_slices_insertionSortCmpFunc_int__lent_F73
  obtain ⟨k, rfl⟩ : ∃ k, fu = k + 1 := ⟨fu - 1, by omega⟩
  rw [wsucc (by omega), f_slices_insertionSortCmpFunc_int__lent_F73_L3, lt_of, cond_ff (dge (by omega))]
theorem bs_gen {X : Type} (F : Nat → Nat → Nat → Option X) (kk : Nat → Option X) (P : Nat → Prop) (lo0 hi0 : Nat) (hm : ∀ h k, lo0 ≤ h → h < k → k < hi0 → P k → P h)
    (h1 : ∀ fuel lo hi, lo0 ≤ lo → lo < hi → hi ≤ hi0 → P ((lo + hi) / 2) → F (fuel + 1) lo hi = F fuel ((lo + hi) / 2 + 1) hi) (h2 : ∀ fuel lo hi, lo0 ≤ lo → lo < hi → hi ≤ hi0 → ¬ P ((lo + hi) / 2) → F (fuel + 1) lo hi = F fuel lo ((lo + hi) / 2))
    (h3 : ∀ fuel lo, F (fuel + 1) lo lo = kk lo) : ∀ (fuel lo hi : Nat), lo0 ≤ lo → lo ≤ hi → hi ≤ hi0 → hi - lo < fuel → (∀ h, lo0 ≤ h → h < lo → P h) → (∀ h, hi ≤ h → h < hi0 → ¬ P h) →
    ∃ r, F fuel lo hi = kk r ∧ lo0 ≤ r ∧ r ≤ hi0 ∧ (∀ h, lo0 ≤ h → h < r → P h) ∧ (∀ h, r ≤ h → h < hi0 → ¬ P h)
  | 0, _, _, _, _, _, hf, _, _ => absurd hf (Nat.not_lt_zero _)
  | fuel + 1, lo, hi, a1, a2, a3, hf, b1, b2 => by
    by_cases hlt : lo < hi
    · by_cases hp : P ((lo + hi) / 2)
      · rw [h1 fuel lo hi a1 hlt a3 hp]
        refine bs_gen F kk P lo0 hi0 hm h1 h2 h3 fuel _ hi (by omega) (by omega) a3 (by omega) (fun h c1 c2 => ?_) b2
        by_cases e : h = (lo + hi) / 2
        · rw [e]; exact hp
        · exact hm h ((lo + hi) / 2) c1 (by omega) (by omega) hp
      · rw [h2 fuel lo hi a1 hlt a3 hp]
        refine bs_gen F kk P lo0 hi0 hm h1 h2 h3 fuel lo _ a1 (by omega) (by omega) (by omega) b1 (fun h c1 c2 hP => ?_)
        by_cases e : h = (lo + hi) / 2
        · rw [e] at hP; exact hp hP
        · exact hp (hm _ h (by omega) (by omega) c2 hP)
    · have : lo = hi := by omega
      subst this
      rw [h3]
      exact ⟨lo, rfl, a1, a3, b1, b2⟩
theorem up_go (d : List Int) {a i : Nat} (hn : d.length ≤ 1000) (hai : a < i) (hi : i ≤ d.length) (kk : List Int → Option (List Int)) : ∀ (fuel k : Nat) (cur : List Int), a ≤ k → k + 1 ≤ i → i - k ≤ fuel → cur.length = d.length → cur.Perm d → (∀ p, g cur p = rotF d a (a + 1) (k + 1) p) →
    ∃ e, f_slices_symMergeCmpFunc_int__lent_F73_L94 (i : Int) kk fuel cur (k : Int) = kk e ∧ e.length = d.length ∧ e.Perm d ∧ ∀ p, g e p = rotF d a (a + 1) i p
  | 0, k, _, _, h, hf, _, _, _ => by omega
  | fuel + 1, k, cur, h1, h2, hf, hl, hp, hc => by
    have e1 : IntKind.i64.wrap ((i : Int) - 1) = ((i - 1 : Nat) : Int) := wsub (b := 1) (by omega) (by omega)
    rw [f_slices_symMergeCmpFunc_int__lent_F73_L94, e1]
    by_cases hlt : k < i - 1
    · rw [cond_tt (dlt (by omega)), wsucc (by omega), g_at (d := cur) (k := k + 1) (by omega), opt_of, g_at (d := cur) (k := k) (by omega), opt_of, opt_of, Int.toNat_natCast, g_at (by simp; omega), opt_of, Int.toNat_natCast]
      refine up_go d hn hai hi kk fuel (k + 1) _ (by omega) (by omega) (by omega) (by simpa using hl) ((set_perm cur (by omega) (by omega)).trans hp) (fun p => ?_)
      rw [g_set (by simp; omega), g_set (by omega), hc, hc, hc]
      unfold rotF
      repeat' split
      all_goals first | (exfalso; omega) | (congr 1 <;> omega)
    · have : i = k + 1 := by omega
      rw [cond_ff (dge (by omega))]
      exact ⟨cur, rfl, hl, hp, by rw [this]; exact hc⟩
theorem down_go (d : List Int) {i m : Nat} (hn : d.length ≤ 1000) (him : i ≤ m) (hm : m < d.length) (kk : List Int → Option (List Int)) : ∀ (fuel k : Nat) (cur : List Int), i ≤ k → k ≤ m → k - i < fuel → cur.length = d.length → cur.Perm d → (∀ p, g cur p = rotF d k m (m + 1) p) →
    ∃ e, f_slices_symMergeCmpFunc_int__lent_F73_L54 (i : Int) kk fuel cur (k : Int) = kk e ∧ e.length = d.length ∧ e.Perm d ∧ ∀ p, g e p = rotF d i m (m + 1) p
  | 0, k, _, _, h, hf, _, _, _ => by omega
  | fuel + 1, k, cur, h1, h2, hf, hl, hp, hc => by
    rw [f_slices_symMergeCmpFunc_int__lent_F73_L54]
    by_cases hlt : i < k
    · have e1 : IntKind.i64.wrap ((k : Int) - 1) = ((k - 1 : Nat) : Int) := wsub (b := 1) (by omega) (by omega)
      rw [cond_tt (decide_eq_true (show (k : Int) > (i : Int) by omega)), e1, g_at (d := cur) (k := k - 1) (by omega), opt_of, g_at (d := cur) (k := k) (by omega), opt_of, opt_of, Int.toNat_natCast, g_at (by simp; omega), opt_of, Int.toNat_natCast]
      refine down_go d hn him hm kk fuel (k - 1) _ (by omega) (by omega) (by omega) (by simpa using hl) ((set_perm cur (by omega) (by omega)).trans hp) (fun p => ?_)
      rw [g_set (by simp; omega), g_set (by omega), hc, hc, hc]
      unfold rotF
      repeat' split
      all_goals first | (exfalso; omega) | (congr 1 <;> omega)
    · have : k = i := by omega
      subst this
      rw [cond_ff (decide_eq_false (show ¬ (k : Int) > (k : Int) by omega))]
      exact ⟨cur, rfl, hl, hp, hc⟩
end Go.Proofs.Ythdifoidlpiikaa.WsS
namespace Go.Proofs.Ythdifoidlpiikaa.WsS
open Go.RowKit Ythdifoidlpiikaa.En Ythdifoidlpiikaa Go.Proofs.Ythdifoidlpiikaa.TotO
set_option linter.unusedVariables false
set_option linter.unusedSimpArgs false
variable {l : List Wa}
theorem sym_search (E : Env l) (d : List Int) {a m b mid lo0 hi0 : Nat} (hmid : mid = (a + b) / 2) (hn : d.length ≤ 1000) (ham : a < m) (hmb : m < b) (hb : b ≤ d.length) (hv : ∀ x ∈ d, E.V x) (h1 : E.Srt a m d) (h2 : E.Srt m b d) (h3 : Idx a m b d) (hlh : lo0 ≤ hi0)
    (hL : ∀ c, lo0 ≤ c → c < hi0 → a ≤ c ∧ c < m ∧ m ≤ mid + m - 1 - c ∧ mid + m - 1 - c < b) (kk : Int → Option (List Int)) (fu : Nat) (hfu : 2000 ≤ fu) (hh : hi0 ≤ 1000) :
    ∃ s : Nat, f_slices_symMergeCmpFunc_int__lent_F73_L33 d (a : Int) (m : Int) (b : Int) l kk fu fu (lo0 : Int) (hi0 : Int) = kk (s : Int) ∧ lo0 ≤ s ∧ s ≤ hi0 ∧ (∀ c, lo0 ≤ c → c < s → E.cc (g d c) (g d (mid + m - 1 - c)) < 0) ∧ (∀ c, s ≤ c → c < hi0 → E.cc (g d (mid + m - 1 - c)) (g d c) < 0) := by
  have hidx : ∀ c, lo0 ≤ c → c < hi0 → g d c < g d (mid + m - 1 - c) := fun c c1 c2 => by
    obtain ⟨q1, q2, q3, q4⟩ := hL c c1 c2
    exact h3 c _ q1 q2 q3 q4
  have step : ∀ fuel lo hi, lo0 ≤ lo → lo < hi → hi ≤ hi0 → f_slices_symMergeCmpFunc_int__lent_F73_L33 d (a : Int) (m : Int) (b : Int) l kk fu (fuel + 1) (lo : Int) (hi : Int) = (bif (!(decide (E.c0 (g d (mid + m - 1 - (lo + hi) / 2)) (g d ((lo + hi) / 2)) < 0))) then f_slices_symMergeCmpFunc_int__lent_F73_L33 d (a : Int) (m : Int) (b : Int) l kk fu fuel (((lo + hi) / 2 + 1 : Nat) : Int) (hi : Int) else f_slices_symMergeCmpFunc_int__lent_F73_L33 d (a : Int) (m : Int) (b : Int) l kk fu fuel (lo : Int) (((lo + hi) / 2 : Nat) : Int)) := fun fuel lo hi c1 c2 c3 => by
    obtain ⟨q1, q2, q3, q4⟩ := hL ((lo + hi) / 2) (by omega) (by omega)
    rw [f_slices_symMergeCmpFunc_int__lent_F73_L33, cond_tt (dlt (by omega)), wmid (lo := a) (hi := b) (by omega), wmid (lo := lo) (hi := hi) (by omega), ← hmid, wnat (a := mid) (b := m) (by omega), show IntKind.i64.wrap (((mid + m : Nat) : Int) - 1) = ((mid + m - 1 : Nat) : Int) from wsub (b := 1) (by omega) (by omega), wsub (by omega) (by omega), g_at (d := d) (by omega), opt_of, g_at (d := d) (by omega), opt_of, E.cmp _ _ _ (hv _ (g_mem (by omega))) (hv _ (g_mem (by omega))), opt_of, wsucc (by omega)]
  obtain ⟨s, he, s1, s2, s3, s4⟩ := bs_gen (fun fuel lo hi => f_slices_symMergeCmpFunc_int__lent_F73_L33 d (a : Int) (m : Int) (b : Int) l kk fu fuel (lo : Int) (hi : Int)) (fun s => kk (s : Int)) (fun c => ¬ E.c0 (g d (mid + m - 1 - c)) (g d c) < 0) lo0 hi0
    (fun h k k1 k2 k3 hp hq => hp ((E.less (hidx k (by omega) k3)).2 (by
      have hq := (E.less (hidx h k1 (by omega))).1 hq
      obtain ⟨q1, q2, q3, q4⟩ := hL h k1 (by omega)
      obtain ⟨r1, r2, r3, r4⟩ := hL k (by omega) k3
      exact E.trans (E.trans (h2 (mid + m - 1 - k) (mid + m - 1 - h) r3 (by omega) q4) hq) (h1 h k q1 k2 r2))))
    (fun fuel lo hi c1 c2 c3 hp => by
      have := step fuel lo hi c1 c2 c3
      rw [decide_eq_false hp, cond_tt (show (!false) = true from rfl)] at this
      exact this)
    (fun fuel lo hi c1 c2 c3 hp => by
      have := step fuel lo hi c1 c2 c3
      rw [decide_eq_true (Decidable.of_not_not hp), cond_ff (show (!true) = false from rfl)] at this
      exact this)
    (fun fuel lo => by
      show f_slices_symMergeCmpFunc_int__lent_F73_L33 d (a : Int) (m : Int) (b : Int) l kk fu (fuel + 1) (lo : Int) (lo : Int) = _
      rw [f_slices_symMergeCmpFunc_int__lent_F73_L33, cond_ff (dge (by omega))])
    fu lo0 hi0 (Nat.le_refl _) hlh (Nat.le_refl _) (by omega) (fun h c1 c2 => by omega) (fun h c1 c2 => by omega)
  refine ⟨s, he, s1, s2, fun c c1 c2 => ?_, fun c c1 c2 => ?_⟩
  · have hi := hidx c c1 (by omega)
    rcases E.tri (x := g d c) (y := g d (mid + m - 1 - c)) (by omega) with h | h
    · exact h
    · exact absurd ((E.less hi).2 h) (s3 c c1 c2)
  · exact (E.less (hidx c (by omega) c2)).1 (Decidable.of_not_not (s4 c c1 c2))
theorem one_search (E : Env l) (d : List Int) {a m b : Nat} (hn : d.length ≤ 1000) (ham : a + 1 = m) (hmb : m < b) (hb : b ≤ d.length) (hv : ∀ x ∈ d, E.V x) (h2 : E.Srt m b d) (h3 : Idx a m b d) (kk : Int → Option (List Int)) (fu : Nat) (hfu : 2000 ≤ fu) :
    ∃ s : Nat, f_slices_symMergeCmpFunc_int__lent_F73_L114 d (a : Int) l kk fu fu (m : Int) (b : Int) = kk (s : Int) ∧ m ≤ s ∧ s ≤ b ∧ (∀ c, m ≤ c → c < s → E.cc (g d c) (g d a) < 0) ∧ (∀ c, s ≤ c → c < b → E.cc (g d a) (g d c) < 0) := by
  have hidx : ∀ c, m ≤ c → c < b → g d a < g d c := fun c c1 c2 => h3 a c (Nat.le_refl _) (by omega) c1 c2
  have step : ∀ fuel lo hi, m ≤ lo → lo < hi → hi ≤ b → f_slices_symMergeCmpFunc_int__lent_F73_L114 d (a : Int) l kk fu (fuel + 1) (lo : Int) (hi : Int) = (bif (decide (E.c0 (g d ((lo + hi) / 2)) (g d a) < 0)) then f_slices_symMergeCmpFunc_int__lent_F73_L114 d (a : Int) l kk fu fuel (((lo + hi) / 2 + 1 : Nat) : Int) (hi : Int) else f_slices_symMergeCmpFunc_int__lent_F73_L114 d (a : Int) l kk fu fuel (lo : Int) (((lo + hi) / 2 : Nat) : Int)) := fun fuel lo hi c1 c2 c3 => by
    rw [f_slices_symMergeCmpFunc_int__lent_F73_L114, cond_tt (dlt (by omega)), wmid (lo := lo) (hi := hi) (by omega), g_at (d := d) (by omega), opt_of, g_at (d := d) (by omega), opt_of, E.cmp _ _ _ (hv _ (g_mem (by omega))) (hv _ (g_mem (by omega))), opt_of, wsucc (by omega)]
  obtain ⟨s, he, s1, s2, s3, s4⟩ := bs_gen (fun fuel lo hi => f_slices_symMergeCmpFunc_int__lent_F73_L114 d (a : Int) l kk fu fuel (lo : Int) (hi : Int)) (fun s => kk (s : Int)) (fun c => E.c0 (g d c) (g d a) < 0) m b
    (fun h k k1 k2 k3 hp => (E.less (hidx h k1 (by omega))).2 (E.trans (h2 h k k1 k2 k3) ((E.less (hidx k (by omega) k3)).1 hp)))
    (fun fuel lo hi c1 c2 c3 hp => by
      have := step fuel lo hi c1 c2 c3
      rw [decide_eq_true hp, cond_tt rfl] at this
      exact this)
    (fun fuel lo hi c1 c2 c3 hp => by
      have := step fuel lo hi c1 c2 c3
      rw [decide_eq_false hp, cond_ff rfl] at this
      exact this)
    (fun fuel lo => by
      show f_slices_symMergeCmpFunc_int__lent_F73_L114 d (a : Int) l kk fu (fuel + 1) (lo : Int) (lo : Int) = _
      rw [f_slices_symMergeCmpFunc_int__lent_F73_L114, cond_ff (dge (by omega))])
    fu m b (Nat.le_refl _) (by omega) (Nat.le_refl _) (by omega) (fun h c1 c2 => by omega) (fun h c1 c2 => by omega)
  refine ⟨s, he, s1, s2, fun c c1 c2 => (E.less (hidx c c1 (by omega))).1 (s3 c c1 c2), fun c c1 c2 => ?_⟩
  have hi := hidx c (by omega) c2
  rcases E.tri (x := g d a) (y := g d c) (by omega) with h | h
  · exact h
  · exact absurd ((E.less hi).2 h) (s4 c c1 c2)
theorem two_search (E : Env l) (d : List Int) {a m b : Nat} (hn : d.length ≤ 1000) (ham : a < m) (hmb : m + 1 = b) (hb : b ≤ d.length) (hv : ∀ x ∈ d, E.V x) (h1 : E.Srt a m d) (h3 : Idx a m b d) (kk : Int → Option (List Int)) (fu : Nat) (hfu : 2000 ≤ fu) :
    ∃ s : Nat, f_slices_symMergeCmpFunc_int__lent_F73_L74 d (m : Int) l kk fu fu (a : Int) (m : Int) = kk (s : Int) ∧ a ≤ s ∧ s ≤ m ∧ (∀ c, a ≤ c → c < s → E.cc (g d c) (g d m) < 0) ∧ (∀ c, s ≤ c → c < m → E.cc (g d m) (g d c) < 0) := by
  have hidx : ∀ c, a ≤ c → c < m → g d c < g d m := fun c c1 c2 => h3 c m c1 c2 (Nat.le_refl _) (by omega)
  have step : ∀ fuel lo hi, a ≤ lo → lo < hi → hi ≤ m → f_slices_symMergeCmpFunc_int__lent_F73_L74 d (m : Int) l kk fu (fuel + 1) (lo : Int) (hi : Int) = (bif (!(decide (E.c0 (g d m) (g d ((lo + hi) / 2)) < 0))) then f_slices_symMergeCmpFunc_int__lent_F73_L74 d (m : Int) l kk fu fuel (((lo + hi) / 2 + 1 : Nat) : Int) (hi : Int) else f_slices_symMergeCmpFunc_int__lent_F73_L74 d (m : Int) l kk fu fuel (lo : Int) (((lo + hi) / 2 : Nat) : Int)) := fun fuel lo hi c1 c2 c3 => by
    rw [f_slices_symMergeCmpFunc_int__lent_F73_L74, cond_tt (dlt (by omega)), wmid (lo := lo) (hi := hi) (by omega), g_at (d := d) (by omega), opt_of, g_at (d := d) (by omega), opt_of, E.cmp _ _ _ (hv _ (g_mem (by omega))) (hv _ (g_mem (by omega))), opt_of, wsucc (by omega)]
  obtain ⟨s, he, s1, s2, s3, s4⟩ := bs_gen (fun fuel lo hi => f_slices_symMergeCmpFunc_int__lent_F73_L74 d (m : Int) l kk fu fuel (lo : Int) (hi : Int)) (fun s => kk (s : Int)) (fun c => ¬ E.c0 (g d m) (g d c) < 0) a m
    (fun h k k1 k2 k3 hp hq => hp ((E.less (hidx k (by omega) k3)).2 (E.trans ((E.less (hidx h k1 (by omega))).1 hq) (h1 h k k1 k2 k3))))
    (fun fuel lo hi c1 c2 c3 hp => by
      have := step fuel lo hi c1 c2 c3
      rw [decide_eq_false hp, cond_tt (show (!false) = true from rfl)] at this
      exact this)
    (fun fuel lo hi c1 c2 c3 hp => by
      have := step fuel lo hi c1 c2 c3
      rw [decide_eq_true (Decidable.of_not_not hp), cond_ff (show (!true) = false from rfl)] at this
      exact this)
    (fun fuel lo => by
      show f_slices_symMergeCmpFunc_int__lent_F73_L74 d (m : Int) l kk fu (fuel + 1) (lo : Int) (lo : Int) = _
      rw [f_slices_symMergeCmpFunc_int__lent_F73_L74, cond_ff (dge (by omega))])
    fu a m (Nat.le_refl _) (by omega) (Nat.le_refl _) (by omega) (fun h c1 c2 => by omega) (fun h c1 c2 => by omega)
  refine ⟨s, he, s1, s2, fun c c1 c2 => ?_, fun c c1 c2 => (E.less (hidx c (by omega) c2)).1 (Decidable.of_not_not (s4 c c1 c2))⟩
  have hi := hidx c c1 (by omega)
  rcases E.tri (x := g d c) (y := g d m) (by omega) with h | h
  · exact h
  · exact absurd ((E.less hi).2 h) (s3 c c1 c2)
def Cross (E : Env l) (a m b : Nat) (d : List Int) : Prop := ∀ i j, a ≤ i → i < m → m ≤ j → j < b → E.cc (g d i) (g d j) < 0
theorem srt_cross (E : Env l) {a m b : Nat} {d : List Int} (h1 : E.Srt a m d) (h2 : E.Srt m b d) (h : Cross E a m b d) : E.Srt a b d := fun i j i1 ij j1 => by
  by_cases hi : i < m
  · by_cases hj : j < m
    · exact h1 i j i1 ij hj
    · exact h i j i1 hi (by omega) j1
  · exact h2 i j (by omega) ij j1
theorem cross_ch (E : Env l) {a m b : Nat} {d e f : List Int} (h1 : Ch a m d e) (h2 : Ch m b e f) (hm : a ≤ m) (h : Cross E a m b d) : Cross E a m b f := fun i j i1 i2 j1 j2 => by
  rw [h2.out i (.inl i2)]
  obtain ⟨p, p1, p2, p3⟩ := h1.ins i i1 i2
  obtain ⟨q, q1, q2, q3⟩ := h2.ins j j1 j2
  rw [p3, q3, h1.out q (.inr q1)]
  exact h p q p1 p2 q1 q2
theorem sm_ok (E : Env l) : ∀ (N fu : Nat) (d : List Int) (a m b : Nat), b - a ≤ N → N + 3000 ≤ fu → d.length ≤ 1000 → a < m → m < b → b ≤ d.length → (∀ x ∈ d, E.V x) → E.Srt a m d → E.Srt m b d → Idx a m b d →
    ∃ e, f_slices_symMergeCmpFunc_int__lent_F73 fu d (a : Int) (m : Int) (b : Int) l = some e ∧ Ch a b d e ∧ E.Srt a b e
  | 0, _, _, a, m, b, h, _, _, ham, hmb, _, _, _, _, _ => by omega
  | N + 1, fu, d, a, m, b, hN, hfu, hn, ham, hmb, hb, hv, h1, h2, h3 => by
    obtain ⟨fu, rfl⟩ : ∃ k, fu = k + 1 := ⟨fu - 1, by omega⟩
    rw [f_slices_symMergeCmpFunc_int__lent_F73, lt_of, wsub (a := m) (b := a) (by omega) (by omega)]
    by_cases c1 : m - a = 1
    · rw [cond_tt (by rw [c1]; rfl), lt_of]
      obtain ⟨s, he, s1, s2, s3, s4⟩ := one_search E d hn (by omega) hmb hb hv h2 h3 (fun j88i10 => (lt (fun (j90x0 : List Int) => (some j90x0)) fun (kk91 : List Int → Option (List Int)) => (f_slices_symMergeCmpFunc_int__lent_F73_L94 j88i10 kk91 fu d (a : Int)))) fu (by omega)
      rw [he, lt_of]
      obtain ⟨e, he2, e1, e2, e3⟩ := up_go d (a := a) (i := s) hn (by omega) (by omega) (fun j90x0 => some j90x0) fu a d (Nat.le_refl _) (by omega) (by omega) rfl (.refl _) (fun p => by
        unfold rotF
        repeat' split
        all_goals first | (exfalso; omega) | (congr 1 <;> omega))
      rw [he2]
      refine ⟨e, rfl, (rot_ch (a := a) (m := a + 1) (b := s) (by omega) (by omega) e1 e2 e3).mono (Nat.le_refl _) s2, fun p q p1 pq q1 => ?_⟩
      rw [e3, e3]
      unfold rotF
      by_cases hq : q < a + (s - (a + 1))
      · rw [if_pos (by omega), if_pos (by omega)]
        exact h2 _ _ (by omega) (by omega) (by omega)
      · by_cases hq2 : q < s
        · rw [if_pos (by omega), if_neg (by omega), if_pos (by omega), show q - (s - (a + 1)) = a by omega]
          exact s3 _ (by omega) (by omega)
        · rw [if_neg (c := a ≤ q ∧ q < a + (s - (a + 1))) (by omega), if_neg (c := a + (s - (a + 1)) ≤ q ∧ q < s) (by omega)]
          by_cases hp : p < a + (s - (a + 1))
          · rw [if_pos (by omega)]
            exact h2 _ _ (by omega) (by omega) (by omega)
          · by_cases hp2 : p < s
            · rw [if_neg (by omega), if_pos (by omega), show p - (s - (a + 1)) = a by omega]
              exact s4 _ (by omega) (by omega)
            · rw [if_neg (by omega), if_neg (by omega)]
              exact h2 _ _ (by omega) (by omega) (by omega)
    · rw [cond_ff (by simp; omega), lt_of, wsub (a := b) (b := m) (by omega) (by omega)]
      by_cases c2 : b - m = 1
      · rw [cond_tt (by rw [c2]; rfl), lt_of]
        obtain ⟨s, he, s1, s2, s3, s4⟩ := two_search E d hn ham (by omega) hb hv h1 h3 (fun j48i14 => (lt (fun (j50x0 : List Int) => (some j50x0)) fun (kk51 : List Int → Option (List Int)) => (f_slices_symMergeCmpFunc_int__lent_F73_L54 j48i14 kk51 fu d (m : Int)))) fu (by omega)
        rw [he, lt_of]
        obtain ⟨e, he2, e1, e2, e3⟩ := down_go d (i := s) (m := m) hn s2 (by omega) (fun j50x0 => some j50x0) fu m d (by omega) (Nat.le_refl _) (by omega) rfl (.refl _) (fun p => by
          unfold rotF
          repeat' split
          all_goals first | (exfalso; omega) | (congr 1 <;> omega))
        rw [he2]
        refine ⟨e, rfl, (rot_ch (a := s) (m := m) (b := m + 1) (by omega) (by omega) e1 e2 e3).mono s1 (by omega), fun p q p1 pq q1 => ?_⟩
        rw [e3, e3]
        unfold rotF
        by_cases hp : p < s
        · rw [if_neg (c := s ≤ p ∧ p < s + (m + 1 - m)) (by omega), if_neg (c := s + (m + 1 - m) ≤ p ∧ p < m + 1) (by omega)]
          by_cases hq : q < s
          · rw [if_neg (by omega), if_neg (by omega)]; exact h1 _ _ p1 pq (by omega)
          · by_cases hq2 : q = s
            · rw [if_pos (by omega), show q - s + m = m by omega]; exact s3 _ p1 hp
            · rw [if_neg (by omega), if_pos (by omega)]; exact h1 _ _ p1 (by omega) (by omega)
        · by_cases hp2 : p = s
          · rw [if_pos (by omega), show p - s + m = m by omega, if_neg (by omega), if_pos (by omega)]
            exact s4 _ (by omega) (by omega)
          · rw [if_neg (by omega), if_pos (by omega), if_neg (by omega), if_pos (by omega)]
            exact h1 _ _ (by omega) (by omega) (by omega)
      · rw [cond_ff (by simp; omega), lt_of]
        obtain ⟨mid, hmid⟩ : ∃ mid, mid = (a + b) / 2 := ⟨_, rfl⟩
        rw [wmid (lo := a) (hi := b) (by omega), ← hmid, wnat (a := mid) (b := m) (by omega)]
        -- the end of all roads: from the place of the cut
        have fin : ∀ s : Nat, a ≤ s → s ≤ m → s ≤ mid → m ≤ mid + m - s → mid + m - s ≤ b → (∀ p q, a ≤ p → p < s → mid + m - s ≤ q → q < b → E.cc (g d p) (g d q) < 0) → (∀ p q, s ≤ p → p < m → m ≤ q → q < mid + m - s → E.cc (g d q) (g d p) < 0) →
            ∃ e, (fun (j7i20 : Int) => (lt (fun (j9x0 : (List Int)) => (lt (fun (j11x0 : (List Int)) => (lt (fun (j13b213 : Bool) => (bif j13b213 then (opt (f_slices_symMergeCmpFunc_int__lent_F73 fu j11x0 (mid : Int) (IntKind.i64.wrap (((mid + m : Nat) : Int) - j7i20)) (b : Int) l) fun (r17 : (List Int)) => (some r17)) else (some j11x0))) fun (kk14 : Bool → Option (List Int)) => (bif (decide ((mid : Int) < (IntKind.i64.wrap (((mid + m : Nat) : Int) - j7i20)))) then (kk14 (decide ((IntKind.i64.wrap (((mid + m : Nat) : Int) - j7i20)) < (b : Int)))) else (kk14 false)))) fun (kk12 : (List Int) → Option (List Int)) => (lt (fun (j19b199 : Bool) => (bif j19b199 then (opt (f_slices_symMergeCmpFunc_int__lent_F73 fu j9x0 (a : Int) j7i20 (mid : Int) l) fun (r23 : (List Int)) => (kk12 r23)) else (kk12 j9x0))) fun (kk20 : Bool → Option (List Int)) => (bif (decide ((a : Int) < j7i20)) then (kk20 (decide (j7i20 < (mid : Int)))) else (kk20 false))))) fun (kk10 : (List Int) → Option (List Int)) => (lt (fun (j25b185 : Bool) => (bif j25b185 then (opt (f_slices_rotateCmpFunc_int__lent_F73 fu d j7i20 (m : Int) (IntKind.i64.wrap (((mid + m : Nat) : Int) - j7i20)) l) fun (r29 : (List Int)) => (kk10 r29)) else (kk10 d))) fun (kk26 : Bool → Option (List Int)) => (bif (decide (j7i20 < (m : Int))) then (kk26 (decide ((m : Int) < (IntKind.i64.wrap (((mid + m : Nat) : Int) - j7i20))))) else (kk26 false))))) (s : Int) = some e ∧ Ch a b d e ∧ E.Srt a b e := by
          intro s s1 s2 s3 s4 s5 x1 x2
          obtain ⟨t, ht⟩ : ∃ t, t = mid + m - s := ⟨_, rfl⟩
          rw [← ht] at s4 s5 x1 x2
          dsimp only
          rw [wsub (a := mid + m) (b := s) (by omega) (by omega), ← ht, lt_of, lt_of]
          -- the third part
          have third : ∀ D2 : List Int, Ch a mid D2 D2 → D2.length = d.length → (∀ x ∈ D2, E.V x) → E.Srt mid t D2 → E.Srt t b D2 → Idx mid t b D2 → ∃ e, (lt (fun (j13b213 : Bool) => (bif j13b213 then (opt (f_slices_symMergeCmpFunc_int__lent_F73 fu D2 (mid : Int) (t : Int) (b : Int) l) fun (r17 : (List Int)) => (some r17)) else (some D2))) fun (kk14 : Bool → Option (List Int)) => (bif (decide ((mid : Int) < (t : Int))) then (kk14 (decide ((t : Int) < (b : Int)))) else (kk14 false))) = some e ∧ Ch mid b D2 e ∧ E.Srt mid b e := by
            intro D2 _ hl hv2 g1 g2 g3
            rw [lt_of]
            by_cases k1 : mid < t ∧ t < b
            · rw [cond_tt (dlt (by omega)), decide_eq_true (show (t : Int) < (b : Int) by omega)]
              dsimp only
              rw [cond_tt rfl]
              obtain ⟨e, he, e1, e2⟩ := sm_ok E N fu D2 mid t b (by omega) (by omega) (by omega) k1.1 k1.2 (by omega) hv2 g1 g2 g3
              rw [he, opt_of]
              exact ⟨e, rfl, e1, e2⟩
            · have hk : (bif (decide ((mid : Int) < (t : Int))) then (decide ((t : Int) < (b : Int))) else false) = false := by
                by_cases k2 : mid < t
                · rw [cond_tt (dlt (by omega)), decide_eq_false (show ¬ (t : Int) < (b : Int) by omega)]
                · rw [cond_ff (dge (by omega))]
              have hs : E.Srt mid b D2 := fun i j i1 ij j1 => by
                by_cases k2 : mid < t
                · exact g1 i j i1 ij (by omega)
                · exact g2 i j (by omega) ij j1
              refine ⟨D2, ?_, Ch.refl _ _ _, hs⟩
              by_cases k2 : mid < t
              · rw [cond_tt (dlt (by omega)), decide_eq_false (show ¬ (t : Int) < (b : Int) by omega)]
                dsimp only
                rw [cond_ff rfl]
              · rw [cond_ff (dge (by omega))]
                dsimp only
                rw [cond_ff rfl]
          -- the second part and the third
          have second : ∀ D1 : List Int, D1.length = d.length → D1.Perm d → (∀ k, g D1 k = rotF d s m t k) → ∃ e, (lt (fun (j19b199 : Bool) => (bif j19b199 then (opt (f_slices_symMergeCmpFunc_int__lent_F73 fu D1 (a : Int) (s : Int) (mid : Int) l) fun (r23 : (List Int)) => ((fun (j11x0 : (List Int)) => (lt (fun (j13b213 : Bool) => (bif j13b213 then (opt (f_slices_symMergeCmpFunc_int__lent_F73 fu j11x0 (mid : Int) (t : Int) (b : Int) l) fun (r17 : (List Int)) => (some r17)) else (some j11x0))) fun (kk14 : Bool → Option (List Int)) => (bif (decide ((mid : Int) < (t : Int))) then (kk14 (decide ((t : Int) < (b : Int)))) else (kk14 false)))) r23)) else ((fun (j11x0 : (List Int)) => (lt (fun (j13b213 : Bool) => (bif j13b213 then (opt (f_slices_symMergeCmpFunc_int__lent_F73 fu j11x0 (mid : Int) (t : Int) (b : Int) l) fun (r17 : (List Int)) => (some r17)) else (some j11x0))) fun (kk14 : Bool → Option (List Int)) => (bif (decide ((mid : Int) < (t : Int))) then (kk14 (decide ((t : Int) < (b : Int)))) else (kk14 false)))) D1))) fun (kk20 : Bool → Option (List Int)) => (bif (decide ((a : Int) < (s : Int))) then (kk20 (decide ((s : Int) < (mid : Int)))) else (kk20 false))) = some e ∧ Ch a b d e ∧ E.Srt a b e := by
            intro D1 hl hp hD
            have hch := rot_ch s2 s4 hl hp hD
            have hchm := hch.mono s1 s5
            have f1 : ∀ k, k < s → g D1 k = g d k := fun k hk => hch.out k (.inl hk)
            have f2 : ∀ k, s ≤ k → k < mid → g D1 k = g d (k - s + m) := fun k k1 k2 => by rw [hD]; unfold rotF; rw [if_pos (by omega)]
            have f3 : ∀ k, mid ≤ k → k < t → g D1 k = g d (k - (t - m)) := fun k k1 k2 => by rw [hD]; unfold rotF; rw [if_neg (by omega), if_pos (by omega)]
            have f4 : ∀ k, t ≤ k → g D1 k = g d k := fun k hk => hch.out k (.inr hk)
            have r1 : E.Srt a s D1 := fun i j i1 ij j1 => by rw [f1 i (by omega), f1 j j1]; exact h1 i j i1 ij (by omega)
            have r2 : E.Srt s mid D1 := fun i j i1 ij j1 => by rw [f2 i i1 (by omega), f2 j (by omega) j1]; exact h2 _ _ (by omega) (by omega) (by omega)
            have r3 : Idx a s mid D1 := fun i j i1 i2 j1 j2 => by rw [f1 i i2, f2 j j1 j2]; exact h3 _ _ i1 (by omega) (by omega) (by omega)
            have r4 : E.Srt mid t D1 := fun i j i1 ij j1 => by rw [f3 i i1 (by omega), f3 j (by omega) j1]; exact h1 _ _ (by omega) (by omega) (by omega)
            have r5 : E.Srt t b D1 := fun i j i1 ij j1 => by rw [f4 i i1, f4 j (by omega)]; exact h2 i j (by omega) ij j1
            have r6 : Idx mid t b D1 := fun i j i1 i2 j1 j2 => by rw [f3 i i1 i2, f4 j j1]; exact h3 _ _ (by omega) (by omega) (by omega) j2
            have cr : Cross E a mid b D1 := fun i j i1 i2 j1 j2 => by
              by_cases ki : i < s
              · rw [f1 i ki]
                by_cases kj : j < t
                · rw [f3 j j1 kj]; exact h1 _ _ i1 (by omega) (by omega)
                · rw [f4 j (by omega)]; exact x1 i j i1 ki (by omega) j2
              · rw [f2 i (by omega) i2]
                by_cases kj : j < t
                · rw [f3 j j1 kj]; exact x2 _ _ (by omega) (by omega) (by omega) (by omega)
                · rw [f4 j (by omega)]; exact h2 _ _ (by omega) (by omega) j2
            -- behind the first half
            have behind : ∀ D2, Ch a mid D1 D2 → E.Srt a mid D2 → ∃ e, ((fun (j11x0 : (List Int)) => (lt (fun (j13b213 : Bool) => (bif j13b213 then (opt (f_slices_symMergeCmpFunc_int__lent_F73 fu j11x0 (mid : Int) (t : Int) (b : Int) l) fun (r17 : (List Int)) => (some r17)) else (some j11x0))) fun (kk14 : Bool → Option (List Int)) => (bif (decide ((mid : Int) < (t : Int))) then (kk14 (decide ((t : Int) < (b : Int)))) else (kk14 false)))) D2) = some e ∧ Ch a b d e ∧ E.Srt a b e := by
              intro D2 d1 d2
              have o : ∀ k, mid ≤ k → g D2 k = g D1 k := fun k hk => d1.out k (.inr hk)
              obtain ⟨e, he, e1, e2⟩ := third D2 (Ch.refl _ _ _) (d1.len.trans hl) (d1.val (hch.val hv)) (fun i j i1 ij j1 => by rw [o i i1, o j (by omega)]; exact r4 i j i1 ij j1) (fun i j i1 ij j1 => by rw [o i (by omega), o j (by omega)]; exact r5 i j i1 ij j1) (fun i j i1 i2 j1 j2 => by rw [o i i1, o j (by omega)]; exact r6 i j i1 i2 j1 j2)
              refine ⟨e, he, hchm.trans ((d1.mono (Nat.le_refl _) (by omega)).trans (e1.mono (by omega) (Nat.le_refl _))), srt_cross E (fun i j i1 ij j1 => ?_) e2 (cross_ch E d1 e1 (by omega) cr)⟩
              rw [e1.out i (.inl (by omega)), e1.out j (.inl j1)]
              exact d2 i j i1 ij j1
            rw [lt_of]
            by_cases k1 : a < s ∧ s < mid
            · rw [cond_tt (dlt (by omega)), decide_eq_true (show (s : Int) < (mid : Int) by omega)]
              dsimp only
              rw [cond_tt rfl]
              obtain ⟨e, he, e1, e2⟩ := sm_ok E N fu D1 a s mid (by omega) (by omega) (by omega) k1.1 k1.2 (by omega) (hch.val hv) r1 r2 r3
              rw [he, opt_of]
              exact behind e e1 e2
            · have hs : E.Srt a mid D1 := fun i j i1 ij j1 => by
                by_cases k2 : a < s
                · exact r1 i j i1 ij (by omega)
                · exact r2 i j (by omega) ij j1
              have := behind D1 (Ch.refl _ _ _) hs
              by_cases k2 : a < s
              · rw [cond_tt (dlt (by omega)), decide_eq_false (show ¬ (s : Int) < (mid : Int) by omega)]
                dsimp only
                rw [cond_ff rfl]
                exact this
              · rw [cond_ff (dge (by omega))]
                dsimp only
                rw [cond_ff rfl]
                exact this
          by_cases k1 : s < m ∧ m < t
          · rw [cond_tt (dlt (by omega)), decide_eq_true (show (m : Int) < (t : Int) by omega)]
            dsimp only
            rw [cond_tt rfl]
            obtain ⟨D1, hD, e1, e2, e3⟩ := rot_ok d k1.1 k1.2 (by omega) hn l fu (by omega)
            rw [hD, opt_of]
            exact second D1 e1 e2 e3
          · have hid : ∀ k, g d k = rotF d s m t k := fun k => by
              unfold rotF
              repeat' split
              all_goals first | (exfalso; omega) | (congr 1 <;> omega)
            have := second d rfl (.refl _) hid
            by_cases k2 : s < m
            · rw [cond_tt (dlt (by omega)), decide_eq_false (show ¬ (m : Int) < (t : Int) by omega)]
              dsimp only
              rw [cond_ff rfl]
              exact this
            · rw [cond_ff (dge (by omega))]
              dsimp only
              rw [cond_ff rfl]
              exact this
        by_cases c3 : mid < m
        · rw [cond_tt (decide_eq_true (show (m : Int) > (mid : Int) by omega)), wsub (a := mid + m) (b := b) (by omega) (by omega)]
          dsimp only
          rw [lt_of]
          obtain ⟨s, he, s1, s2, s3, s4⟩ := sym_search E d (lo0 := mid + m - b) (hi0 := mid) hmid hn ham hmb hb hv h1 h2 h3 (by omega) (fun c c1 c2 => ⟨by omega, by omega, by omega, by omega⟩) _ fu (by omega) (by omega)
          rw [he]
          refine fin s (by omega) (by omega) s2 (by omega) (by omega) (fun p q p1 p2 q1 q2 => ?_) (fun p q p1 p2 q1 q2 => ?_)
          · by_cases e : s = mid + m - b
            · omega
            · have := s3 (s - 1) (by omega) (by omega)
              rw [show mid + m - 1 - (s - 1) = mid + m - s by omega] at this
              have t1 : E.cc (g d p) (g d (mid + m - s)) < 0 := by
                by_cases ep : p = s - 1
                · rw [ep]; exact this
                · exact E.trans (h1 p (s - 1) p1 (by omega) (by omega)) this
              by_cases eq : q = mid + m - s
              · rw [eq]; exact t1
              · exact E.trans t1 (h2 _ _ (by omega) (by omega) q2)
          · by_cases e : s = mid
            · omega
            · have := s4 s (Nat.le_refl _) (by omega)
              have t1 : E.cc (g d q) (g d s) < 0 := by
                by_cases eq : q = mid + m - 1 - s
                · rw [eq]; exact this
                · exact E.trans (h2 q _ q1 (by omega) (by omega)) this
              by_cases ep : p = s
              · rw [ep]; exact t1
              · exact E.trans t1 (h1 _ _ (by omega) (by omega) p2)
        · rw [cond_ff (decide_eq_false (show ¬ (m : Int) > (mid : Int) by omega))]
          dsimp only
          rw [lt_of]
          obtain ⟨s, he, s1, s2, s3, s4⟩ := sym_search E d (lo0 := a) (hi0 := m) hmid hn ham hmb hb hv h1 h2 h3 (by omega) (fun c c1 c2 => ⟨by omega, by omega, by omega, by omega⟩) _ fu (by omega) (by omega)
          rw [he]
          refine fin s (by omega) (by omega) (by omega) (by omega) (by omega) (fun p q p1 p2 q1 q2 => ?_) (fun p q p1 p2 q1 q2 => ?_)
          · have := s3 (s - 1) (by omega) (by omega)
            rw [show mid + m - 1 - (s - 1) = mid + m - s by omega] at this
            have t1 : E.cc (g d p) (g d (mid + m - s)) < 0 := by
              by_cases ep : p = s - 1
              · rw [ep]; exact this
              · exact E.trans (h1 p (s - 1) p1 (by omega) (by omega)) this
            by_cases eq : q = mid + m - s
            · rw [eq]; exact t1
            · exact E.trans t1 (h2 _ _ (by omega) (by omega) q2)
          · have := s4 s (Nat.le_refl _) (by omega)
            have t1 : E.cc (g d q) (g d s) < 0 := by
              by_cases eq : q = mid + m - 1 - s
              · rw [eq]; exact this
              · exact E.trans (h2 q _ q1 (by omega) (by omega)) this
            by_cases ep : p = s
            · rw [ep]; exact t1
            · exact E.trans t1 (h1 _ _ (by omega) (by omega) p2)
end Go.Proofs.Ythdifoidlpiikaa.WsS
namespace Go.Proofs.Ythdifoidlpiikaa.WsS
open Go.RowKit Ythdifoidlpiikaa.En Ythdifoidlpiikaa Go.Proofs.Ythdifoidlpiikaa.TotO
set_option linter.unusedVariables false
set_option linter.unusedSimpArgs false
variable {l : List Wa}
def Mid (E : Env l) (n s t a : Nat) (d : List Int) : Prop := ∀ i j, i < j → j < n → (j < a → (i / t = j / t → E.cc (g d i) (g d j) < 0) ∧ (i / t ≠ j / t → g d i < g d j)) ∧ (a ≤ i → (i / s = j / s → E.cc (g d i) (g d j) < 0) ∧ (i / s ≠ j / s → g d i < g d j)) ∧ (i < a → a ≤ j → g d i < g d j)
theorem div_eq_iff' {i s q : Nat} (hs : 0 < s) : i / s = q ↔ q * s ≤ i ∧ i < q * s + s := by
  rw [Nat.div_eq_iff hs]
  constructor
  · rintro ⟨h1, h2⟩; exact ⟨h1, by omega⟩
  · rintro ⟨h1, h2⟩; exact ⟨h1, by omega⟩
theorem same_block {a q s i j : Nat} (hs : 0 < s) (ha : a = q * s) (hi : a ≤ i) (hj : a ≤ j) (hi' : i < a + s) (hj' : j < a + s) : i / s = j / s := by
  rw [(div_eq_iff' hs).2 (show q * s ≤ i ∧ i < q * s + s by omega), (div_eq_iff' hs).2 (show q * s ≤ j ∧ j < q * s + s by omega)]
theorem other_block {a q s i j : Nat} (hs : 0 < s) (ha : a = q * s) (hi : i < a) (hj : a ≤ j) : i / s ≠ j / s := by
  have h1 : i / s < q := (Nat.div_lt_iff_lt_mul hs).2 (by omega)
  have h2 : q ≤ j / s := (Nat.le_div_iff_mul_le hs).2 (by omega)
  omega
theorem mid_step (E : Env l) {n s t c a a' q : Nat} {d e : List Int} (hs : 0 < s) (hc : 0 < c) (ht : t = c * s) (ha : a = q * t) (h1 : a ≤ a') (h2 : a' ≤ a + t) (h3 : a' ≤ n) (h4 : a' = a + t ∨ a' = n) (hm : Mid E n s t a d) (hch : Ch a a' d e) (hsr : E.Srt a a' e) : Mid E n s t a' e := by
  have htp : 0 < t := by rw [ht]; exact Nat.mul_pos hc hs
  have has : a = (q * c) * s := by rw [ha, ht, Nat.mul_assoc]
  have has' : a + t = (q * c + c) * s := by rw [Nat.add_mul, ← has, ← ht]
  intro i j hij hj
  refine ⟨fun hja => ?_, fun hai => ?_, fun hia haj => ?_⟩
  · by_cases c1 : j < a
    · rw [hch.out i (.inl (by omega)), hch.out j (.inl c1)]
      exact (hm i j hij hj).1 c1
    · by_cases c2 : i < a
      · have hne := other_block htp ha c2 (by omega : a ≤ j)
        refine ⟨fun h => absurd h hne, fun _ => ?_⟩
        obtain ⟨j', j1, j2, je⟩ := hch.ins j (by omega) hja
        rw [hch.out i (.inl c2), je]
        exact (hm i j' (by omega) (by omega)).2.2 c2 j1
      · have hsame := same_block htp ha (by omega : a ≤ i) (by omega : a ≤ j) (by omega) (by omega)
        exact ⟨fun _ => hsr i j (by omega) hij hja, fun h => absurd hsame h⟩
  · rw [hch.out i (.inr hai), hch.out j (.inr (by omega))]
    exact (hm i j hij hj).2.1 (by omega)
  · rw [hch.out j (.inr haj)]
    by_cases c2 : i < a
    · rw [hch.out i (.inl c2)]
      exact (hm i j hij hj).2.2 c2 (by omega)
    · obtain ⟨i', i1, i2, ie⟩ := hch.ins i (by omega) hia
      rw [ie]
      have : a' = a + t := by omega
      exact ((hm i' j (by omega) hj).2.1 i1).2 (other_block hs has' (by omega) (by omega))
theorem mid_next (E : Env l) {n s t : Nat} {d : List Int} (u : Nat) (h : Mid E n s t n d) : Mid E n t u 0 d := fun i j hij hj =>
  ⟨fun h => absurd h (Nat.not_lt_zero _), fun _ => (h i j hij hj).1 hj, fun h => absurd h (Nat.not_lt_zero _)⟩
theorem mid_srt (E : Env l) {n s t : Nat} {d : List Int} (hs : 0 < s) (hn : n ≤ s) (h : Mid E n s t 0 d) : E.Srt 0 n d := fun i j _ hij hj =>
  ((h i j hij hj).2.1 (Nat.zero_le _)).1 (by rw [Nat.div_eq_of_lt (by omega), Nat.div_eq_of_lt (by omega)])
theorem first_go (E : Env l) (d : List Int) (hn : d.length ≤ 1000) (kk : List Int → Int → Option (List Int)) (fu : Nat) (hfu : 2000 ≤ fu) : ∀ (fuel q : Nat) (cur : List Int), q * 20 ≤ d.length → d.length - q * 20 < fuel → cur.length = d.length → cur.Perm d → (∀ x ∈ d, E.V x) → Mid E d.length 1 20 (q * 20) cur →
    ∃ (e : List Int) (q' : Nat), f_slices_stableCmpFunc_int__lent_F73_L25 (d.length : Int) l kk fu fuel cur ((q * 20 : Nat) : Int) ((q * 20 + 20 : Nat) : Int) = kk e ((q' * 20 : Nat) : Int) ∧ q' * 20 ≤ d.length ∧ d.length < q' * 20 + 20 ∧ e.length = d.length ∧ e.Perm d ∧ Mid E d.length 1 20 (q' * 20) e
  | 0, _, _, _, h, _, _, _, _ => absurd h (Nat.not_lt_zero _)
  | fuel + 1, q, cur, h1, h2, hl, hp, hv, hm => by
    rw [f_slices_stableCmpFunc_int__lent_F73_L25]
    have hcv : ∀ x ∈ cur, E.V x := fun x hx => hv x (hp.mem_iff.1 hx)
    by_cases hc : q * 20 + 20 ≤ d.length
    · rw [cond_tt (decide_eq_true (by omega))]
      obtain ⟨e, he, e1, e2⟩ := ins_ok E cur (a := q * 20) (b := q * 20 + 20) (by omega) (by omega) (by omega) hcv (fun p r p1 pr r1 => ((hm p r pr (by omega)).2.1 p1).2 (by rw [Nat.div_one, Nat.div_one]; omega)) fu hfu
      rw [he, opt_of, show IntKind.i64.wrap (((q * 20 + 20 : Nat) : Int) + 20) = ((q * 20 + 20 + 20 : Nat) : Int) from wnat (a := q * 20 + 20) (b := 20) (by omega)]
      have e3 : q * 20 + 20 = (q + 1) * 20 := by omega
      have hm' := mid_step E (c := 20) (q := q) (by omega) (by omega) rfl rfl (by omega) (Nat.le_refl _) hc (.inl rfl) hm e1 e2
      rw [e3] at hm' ⊢
      exact first_go E d hn kk fu hfu fuel (q + 1) e (by omega) (by omega) (e1.len.trans hl) (e1.perm.trans hp) hv hm'
    · rw [cond_ff (decide_eq_false (by omega))]
      exact ⟨cur, q, rfl, h1, by omega, hl, hp, hm⟩
theorem merge_go (E : Env l) (d : List Int) (hn : d.length ≤ 1000) {s : Nat} (hs : 0 < s) (hsn : s ≤ 1000) (kk : List Int → Int → Option (List Int)) (fu : Nat) (hfu : 5000 ≤ fu) : ∀ (fuel q : Nat) (cur : List Int), q * (2 * s) ≤ d.length → d.length - q * (2 * s) < fuel → cur.length = d.length → cur.Perm d → (∀ x ∈ d, E.V x) → Mid E d.length s (2 * s) (q * (2 * s)) cur →
    ∃ (e : List Int) (q' : Nat), f_slices_stableCmpFunc_int__lent_F73_L19 (d.length : Int) l (s : Int) kk fu fuel cur ((q * (2 * s) : Nat) : Int) ((q * (2 * s) + 2 * s : Nat) : Int) = kk e ((q' * (2 * s) : Nat) : Int) ∧ q' * (2 * s) ≤ d.length ∧ d.length < q' * (2 * s) + 2 * s ∧ e.length = d.length ∧ e.Perm d ∧ Mid E d.length s (2 * s) (q' * (2 * s)) e
  | 0, _, _, _, h, _, _, _, _ => absurd h (Nat.not_lt_zero _)
  | fuel + 1, q, cur, h1, h2, hl, hp, hv, hm => by
    rw [f_slices_stableCmpFunc_int__lent_F73_L19]
    have hcv : ∀ x ∈ cur, E.V x := fun x hx => hv x (hp.mem_iff.1 hx)
    obtain ⟨a, ha⟩ : ∃ a, a = q * (2 * s) := ⟨_, rfl⟩
    have has : a = (q * 2) * s := by rw [ha, Nat.mul_assoc]
    have has' : a + s = (q * 2 + 1) * s := by rw [Nat.add_mul, ← has, Nat.one_mul]
    rw [← ha] at h1 h2 hm ⊢
    by_cases hc : a + 2 * s ≤ d.length
    · rw [cond_tt (decide_eq_true (by omega)), wnat (by omega)]
      obtain ⟨e, he, e1, e2⟩ := sm_ok E (2 * s) fu cur a (a + s) (a + 2 * s) (by omega) (by omega) (by omega) (by omega) (by omega) (by omega) hcv
        (fun i j i1 ij j1 => ((hm i j ij (by omega)).2.1 i1).1 (same_block hs has i1 (by omega) (by omega) j1))
        (fun i j i1 ij j1 => ((hm i j ij (by omega)).2.1 (by omega)).1 (same_block hs has' i1 (by omega) (by omega) (by omega)))
        (fun i j i1 i2 j1 j2 => ((hm i j (by omega) (by omega)).2.1 i1).2 (other_block hs has' i2 j1))
      have w1 : IntKind.i64.wrap ((2 : Int) * (s : Int)) = ((2 * s : Nat) : Int) := by rw [w64 (by omega) (by omega)]; omega
      rw [he, opt_of, w1, wnat (by omega)]
      have hm' := mid_step E (c := 2) (q := q) hs (by omega) rfl ha (by omega) (Nat.le_refl _) hc (.inl rfl) hm e1 e2
      have e3 : a + 2 * s = (q + 1) * (2 * s) := by rw [Nat.add_mul, ← ha, Nat.one_mul]
      rw [e3] at hm' ⊢
      exact merge_go E d hn hs hsn kk fu hfu fuel (q + 1) e (by omega) (by omega) (e1.len.trans hl) (e1.perm.trans hp) hv hm'
    · rw [cond_ff (decide_eq_false (by omega))]
      exact ⟨cur, q, by rw [ha], by omega, by omega, hl, hp, by rw [← ha]; exact hm⟩
theorem rounds_go (E : Env l) (d : List Int) (hn : d.length ≤ 1000) (fu : Nat) (hfu : 5000 ≤ fu) (hv : ∀ x ∈ d, E.V x) : ∀ (fuel s : Nat) (cur : List Int), 0 < s → s ≤ 2000 → d.length - s < fuel → cur.length = d.length → cur.Perm d → Mid E d.length s (2 * s) 0 cur →
    ∃ e, f_slices_stableCmpFunc_int__lent_F73_L7 (d.length : Int) l fu fuel cur (s : Int) = some e ∧ e.length = d.length ∧ e.Perm d ∧ E.Srt 0 d.length e
  | 0, _, _, _, _, h, _, _, _ => absurd h (Nat.not_lt_zero _)
  | fuel + 1, s, cur, hs, hs2, hf, hl, hp, hm => by
    rw [f_slices_stableCmpFunc_int__lent_F73_L7, lt_of]
    by_cases hsn : s < d.length
    · have w1 : IntKind.i64.wrap ((2 : Int) * (s : Int)) = ((2 * s : Nat) : Int) := by rw [w64 (by omega) (by omega)]; omega
      have w2 : IntKind.i64.wrap ((s : Int) * 2) = ((2 * s : Nat) : Int) := by rw [w64 (by omega) (by omega)]; omega
      rw [cond_tt (dlt (by omega)), lt_of, w1]
      obtain ⟨e, q, he, q1, q2, e1, e2, e3⟩ := merge_go E d hn hs (by omega) (fun (j10x0 : List Int) (j10i7 : Int) => (lt (fun (j12x0 : (List Int)) => ((fun (l5x0 : (List Int)) (l5i6 : Int) => (f_slices_stableCmpFunc_int__lent_F73_L7 (d.length : Int) l fu fuel l5x0 l5i6)) j12x0 (IntKind.i64.wrap ((s : Int) * (2 : Int))))) fun (kk13 : (List Int) → Option (List Int)) => (bif (decide ((IntKind.i64.wrap (j10i7 + (s : Int))) < (d.length : Int))) then (opt (f_slices_symMergeCmpFunc_int__lent_F73 fu j10x0 j10i7 (IntKind.i64.wrap (j10i7 + (s : Int))) (d.length : Int) l) fun (r16 : (List Int)) => (kk13 r16)) else (kk13 j10x0)))) fu hfu fu 0 cur (by omega) (by omega) hl hp hv (by rw [Nat.zero_mul]; exact hm)
      rw [Nat.zero_mul, Nat.zero_add] at he
      rw [show (0 : Int) = ((0 : Nat) : Int) from rfl, he]
      dsimp only
      obtain ⟨a, ha⟩ : ∃ a, a = q * (2 * s) := ⟨_, rfl⟩
      have has : a = (q * 2) * s := by rw [ha, Nat.mul_assoc]
      have has' : a + s = (q * 2 + 1) * s := by rw [Nat.add_mul, ← has, Nat.one_mul]
      rw [← ha] at q1 q2 e3 ⊢
      rw [lt_of, wnat (by omega), w2]
      have hev : ∀ x ∈ e, E.V x := fun x hx => hv x (e2.mem_iff.1 hx)
      have next : ∀ f : List Int, Ch a d.length e f → E.Srt a d.length f → ∃ e, f_slices_stableCmpFunc_int__lent_F73_L7 (d.length : Int) l fu fuel f ((2 * s : Nat) : Int) = some e ∧ e.length = d.length ∧ e.Perm d ∧ E.Srt 0 d.length e := fun f f1 f2 => by
        have hm' := mid_step E (c := 2) (q := q) hs (by omega) rfl ha q1 (by omega) (Nat.le_refl _) (.inr rfl) e3 f1 f2
        exact rounds_go E d hn fu hfu hv fuel (2 * s) f (by omega) (by omega) (by omega) (f1.len.trans e1) (f1.perm.trans e2) (mid_next E (2 * (2 * s)) hm')
      by_cases hc : a + s < d.length
      · rw [cond_tt (dlt (by omega))]
        obtain ⟨f, hf', f1, f2⟩ := sm_ok E (2 * s) fu e a (a + s) d.length (by omega) (by omega) (by omega) (by omega) hc (by omega) hev
          (fun i j i1 ij j1 => ((e3 i j ij (by omega)).2.1 i1).1 (same_block hs has i1 (by omega) (by omega) j1))
          (fun i j i1 ij j1 => ((e3 i j ij (by omega)).2.1 (by omega)).1 (same_block hs has' i1 (by omega) (by omega) (by omega)))
          (fun i j i1 i2 j1 j2 => ((e3 i j (by omega) (by omega)).2.1 i1).2 (other_block hs has' i2 j1))
        rw [hf', opt_of]
        exact next f f1 f2
      · rw [cond_ff (dge (by omega))]
        exact next e (Ch.refl _ _ _) (fun i j i1 ij j1 => ((e3 i j ij j1).2.1 i1).1 (same_block hs has i1 (by omega) (by omega) (by omega)))
    · rw [cond_ff (dge (by omega))]
      exact ⟨cur, rfl, hl, hp, mid_srt E hs (by omega) hm⟩
theorem stable_ok (E : Env l) (d : List Int) (hn : d.length ≤ 1000) (hv : ∀ x ∈ d, E.V x) (hinc : ∀ i j, i < j → j < d.length → g d i < g d j) (fu : Nat) (hfu : 5000 ≤ fu) :
    ∃ e, f_slices_SortStableFunc___int_int__lent_F73 fu d l = some e ∧ e.length = d.length ∧ e.Perm d ∧ E.Srt 0 d.length e := by
  unfold f_slices_SortStableFunc___int_int__lent_F73 f_slices_stableCmpFunc_int__lent_F73
  rw [lt_of]
  obtain ⟨e, q, he, q1, q2, e1, e2, e3⟩ := first_go E d hn (fun (j1x0 : List Int) (j1i7 : Int) => (opt (f_slices_insertionSortCmpFunc_int__lent_F73 fu j1x0 j1i7 (d.length : Int) l) fun (r4 : (List Int)) => (f_slices_stableCmpFunc_int__lent_F73_L7 (d.length : Int) l fu fu r4 (20 : Int)))) fu (by omega) fu 0 d (by omega) (by omega) rfl (.refl _) hv (fun i j hij hj => ⟨fun h => by omega, fun _ => ⟨fun h => by rw [Nat.div_one, Nat.div_one] at h; omega, fun _ => hinc i j hij hj⟩, fun h => by omega⟩)
  rw [Nat.zero_mul, Nat.zero_add] at he
  rw [show ((0 : Nat) : Int) = 0 from rfl, show ((20 : Nat) : Int) = 20 from rfl] at he
  rw [he]
  have hev : ∀ x ∈ e, E.V x := fun x hx => hv x (e2.mem_iff.1 hx)
  have next : ∀ f : List Int, Ch (q * 20) d.length e f → E.Srt (q * 20) d.length f → ∃ e, (opt (f_slices_stableCmpFunc_int__lent_F73_L7 (d.length : Int) l fu fu f (20 : Int)) fun r2 => some r2) = some e ∧ e.length = d.length ∧ e.Perm d ∧ E.Srt 0 d.length e := fun f f1 f2 => by
    have hm' := mid_step E (c := 20) (q := q) (by omega) (by omega) rfl rfl q1 (by omega) (Nat.le_refl _) (.inr rfl) e3 f1 f2
    obtain ⟨h, hh, h1, h2, h3⟩ := rounds_go E d hn fu hfu hv fu 20 f (by omega) (by omega) (by omega) (f1.len.trans e1) (f1.perm.trans e2) (mid_next E (2 * 20) hm')
    rw [show ((20 : Nat) : Int) = 20 from rfl] at hh
    rw [hh, opt_of]
    exact ⟨h, rfl, h1, h2, h3⟩
  by_cases hc : q * 20 < d.length
  · obtain ⟨f, hf, f1, f2⟩ := ins_ok E e (a := q * 20) (b := d.length) (by omega) hc (by omega) hev (fun p r p1 pr r1 => ((e3 p r pr (by omega)).2.1 p1).2 (by rw [Nat.div_one, Nat.div_one]; omega)) fu (by omega)
    rw [hf, opt_of]
    exact next f f1 f2
  · rw [ins_none e (by omega) (by omega) fu (by omega), opt_of]
    exact next e (Ch.refl _ _ _) (fun i j i1 ij j1 => by omega)
end Go.Proofs.Ythdifoidlpiikaa.WsS
namespace Go.Proofs.Ythdifoidlpiikaa.Flt
open Ieee Go.Proofs.Ythdifoidlpiikaa.TotO
set_option linter.unusedVariables false
set_option linter.unusedSimpArgs false
theorem read_nan_none (w z : Nat) (h : double.order w z ≠ none) : (double.read w).isNaN = false ∧ (double.read z).isNaN = false := by
  unfold Format.order at h
  cases h1 : double.read w <;> cases h2 : double.read z <;> simp_all [Datum.order, Datum.isNaN]
theorem read_place (w : Nat) : ∀ s m p, double.read w = .number s m p → -1074 ≤ p := by
  intro s m p h
  unfold Format.read at h
  have hl : double.leastPlace = -1074 := by decide
  simp only [hl] at h
  split at h
  · injection h with _ _ h; omega
  · split at h
    · injection h with _ _ h; omega
    · split at h <;> cases h
def cls : Datum → Int
  | .infinity true => -1
  | .infinity false => 1
  | _ => 0
def key : Datum → Int
  | .number s m p => signed s m (p + 1074).toNat
  | _ => 0
theorem signed_mul (s : Bool) (m a b : Nat) : signed s m (a + b) = signed s m a * 2 ^ b := by
  unfold signed
  have : m <<< (a + b) = (m <<< a) * 2 ^ b := by rw [Nat.shiftLeft_eq, Nat.shiftLeft_eq, Nat.pow_add, Nat.mul_assoc]
  rw [this]
  split
  · rw [Int.natCast_mul, Int.neg_mul]; simp
  · rw [Int.natCast_mul]; simp
theorem cmp_mul (x y : Int) (b : Nat) : compare (x * 2 ^ b) (y * 2 ^ b) = compare x y := by
  have hp : (0 : Int) < 2 ^ b := Int.pow_pos (by decide)
  rcases Int.lt_trichotomy x y with h | h | h
  · rw [Int.compare_eq_lt.2 h, Int.compare_eq_lt.2 (Int.mul_lt_mul_of_pos_right h hp)]
  · subst h; simp
  · rw [Int.compare_eq_gt.2 h, Int.compare_eq_gt.2 (Int.mul_lt_mul_of_pos_right h hp)]
def ordI (a b : Int) (x y : Int) : Ordering := if a < b then .lt else if b < a then .gt else compare x y
theorem order_key (d e : Datum) (hd : d.isNaN = false) (he : e.isNaN = false) (pd : ∀ s m p, d = .number s m p → -1074 ≤ p) (pe : ∀ s m p, e = .number s m p → -1074 ≤ p) : d.order e = some (ordI (cls d) (cls e) (key d) (key e)) := by
  cases d with
  | nan => simp [Datum.isNaN] at hd
  | infinity s =>
    cases e with
    | nan => simp [Datum.isNaN] at he
    | infinity t => cases s <;> cases t <;> decide
    | number t n j => cases s <;> simp [Datum.order, ordI, cls]
  | number s m i =>
    cases e with
    | nan => simp [Datum.isNaN] at he
    | infinity t => cases t <;> simp [Datum.order, ordI, cls]
    | number t n j =>
      have h1 := pd s m i rfl
      have h2 := pe t n j rfl
      have e1 : (i + 1074).toNat = (i - min i j).toNat + (min i j + 1074).toNat := by omega
      have e2 : (j + 1074).toNat = (j - min i j).toNat + (min i j + 1074).toNat := by omega
      simp only [Datum.order, ordI, cls, key, Int.lt_irrefl, if_false]
      rw [e1, e2, signed_mul, signed_mul, cmp_mul]
theorem word_lt (rung : Nat) (h : rung < 2 ^ 63) (s : Bool) : (double.word s rung) % double.signWeight = rung := by
  have hs : double.signWeight = 2 ^ 63 := by decide
  unfold Format.word
  rw [hs]
  split
  · rw [Nat.add_mod_left, Nat.mod_eq_of_lt h]
  · exact Nat.mod_eq_of_lt h
theorem cut_le (neg : Bool) (n drop : Nat) : n / (1 <<< min drop (n.log2 + 2)) ≤ Toward.even.cut neg n drop ∧ Toward.even.cut neg n drop ≤ n / (1 <<< min drop (n.log2 + 2)) + 1 := by
  unfold Toward.cut
  dsimp only
  constructor
  · exact Nat.le_add_right _ _
  · exact Nat.add_le_add_left (Bool.toNat_le _) _
theorem nearest_num (neg : Bool) (mag : Nat) (h0 : mag ≠ 0) (h1 : mag ≤ 2 ^ 63) : ∃ s m p, double.read (double.nearest neg mag 0) = .number s m p ∧ m ≠ 0 := by
  have hl : double.leastPlace = -1074 := by decide
  have hf : double.fractionBits = 52 := by decide
  have hb : double.binade = 2 ^ 52 := by decide
  have hi : double.infRung = 2047 * 2 ^ 52 := by decide
  have g1 : mag.log2 ≤ 63 := by
    have := (Nat.log2_lt h0 (k := 64)).2 (by omega); omega
  have g2 : 2 ^ mag.log2 ≤ mag := Nat.log2_self_le h0
  have g3 : mag < 2 ^ (mag.log2 + 1) := Nat.lt_log2_self
  obtain ⟨L, hL⟩ : ∃ L, L = mag.log2 := ⟨_, rfl⟩
  rw [← hL] at g1 g2 g3
  have key : ∃ q kept : Nat, double.nearest neg mag 0 = double.word neg (q * 2 ^ 52 + kept) ∧ 1022 ≤ q ∧ q ≤ 1085 ∧ 2 ^ 52 ≤ kept ∧ kept ≤ 2 ^ 53 := by
    unfold Format.nearest
    rw [if_neg h0, hl, hf, hb, hi, ← hL]
    have hlast : max ((0 : Int) + (L : Int) - ((52 : Nat) : Int)) (-1074) = (L : Int) - 52 := by omega
    dsimp only
    rw [hlast]
    obtain ⟨q, hq⟩ : ∃ q, q = ((L : Int) - 52 - -1074).toNat := ⟨_, rfl⟩
    rw [← hq]
    have hq1 : q = L + 1022 := by omega
    have hcut := cut_le neg (mag <<< (0 - ((L : Int) - 52)).toNat) ((L : Int) - 52 - 0).toNat
    obtain ⟨kept, hk⟩ : ∃ k, k = Toward.even.cut neg (mag <<< (0 - ((L : Int) - 52)).toNat) ((L : Int) - 52 - 0).toNat := ⟨_, rfl⟩
    rw [← hk] at hcut ⊢
    have hkk : 2 ^ 52 ≤ kept ∧ kept ≤ 2 ^ 53 := by
      by_cases hc : L ≤ 52
      · have e1 : (0 - ((L : Int) - 52)).toNat = 52 - L := by omega
        have e2 : ((L : Int) - 52 - 0).toNat = 0 := by omega
        rw [e1, e2] at hcut
        simp only [Nat.zero_min, Nat.shiftLeft_zero, Nat.div_one] at hcut
        have e3 : mag <<< (52 - L) = mag * 2 ^ (52 - L) := Nat.shiftLeft_eq ..
        rw [e3] at hcut
        have l1 : 2 ^ L * 2 ^ (52 - L) ≤ mag * 2 ^ (52 - L) := Nat.mul_le_mul_right _ g2
        have l2 : (mag + 1) * 2 ^ (52 - L) ≤ 2 ^ (L + 1) * 2 ^ (52 - L) := Nat.mul_le_mul_right _ g3
        rw [← Nat.pow_add, show L + (52 - L) = 52 by omega] at l1
        rw [← Nat.pow_add, show L + 1 + (52 - L) = 53 by omega, Nat.add_mul, Nat.one_mul] at l2
        have l3 : 1 ≤ 2 ^ (52 - L) := Nat.one_le_two_pow
        omega
      · have e1 : (0 - ((L : Int) - 52)).toNat = 0 := by omega
        have e2 : ((L : Int) - 52 - 0).toNat = L - 52 := by omega
        rw [e1, e2, Nat.shiftLeft_zero, ← hL, Nat.min_eq_left (by omega), Nat.shiftLeft_eq, Nat.one_mul] at hcut
        have l1 : 2 ^ 52 ≤ mag / 2 ^ (L - 52) := (Nat.le_div_iff_mul_le (Nat.two_pow_pos _)).2 (by rw [← Nat.pow_add, show 52 + (L - 52) = L by omega]; exact g2)
        have l2 : mag / 2 ^ (L - 52) < 2 ^ 53 := (Nat.div_lt_iff_lt_mul (Nat.two_pow_pos _)).2 (by rw [← Nat.pow_add, show 53 + (L - 52) = L + 1 by omega]; exact g3)
        omega
    refine ⟨q, kept, ?_, by omega, by omega, hkk.1, hkk.2⟩
    rw [Nat.min_eq_left (by omega)]
  obtain ⟨q, kept, hn, q1, q2, k1, k2⟩ := key
  have hr : q * 2 ^ 52 + kept < 2 ^ 63 := by omega
  have hm := word_lt (q * 2 ^ 52 + kept) hr neg
  rw [hn]
  unfold Format.read
  dsimp only
  rw [hm, hb, hi, if_neg (by omega), if_pos (by omega)]
  exact ⟨_, _, _, rfl, by omega⟩
theorem zero_num (neg : Bool) : ∃ s m p, double.read (double.nearest neg 0 0) = .number s m p := by
  cases neg
  · exact ⟨false, 0, -1074, by decide⟩
  · exact ⟨true, 0, -1074, by decide⟩
theorem div_some (a b : Int) (ha : a.natAbs ≤ 2 ^ 63) (hb : b.natAbs ≤ 2 ^ 63) (h0 : b ≠ 0) : ∃ r, FloatKind.f64.format.div (FloatKind.f64.nearest a) (FloatKind.f64.nearest b) = some r := by
  have h1 : ∃ s m p, double.read (double.nearest (decide (a < 0)) a.natAbs 0) = .number s m p := by
    by_cases h : a.natAbs = 0
    · rw [h]; exact zero_num _
    · obtain ⟨s, m, p, e, _⟩ := nearest_num (decide (a < 0)) a.natAbs h ha
      exact ⟨s, m, p, e⟩
  obtain ⟨s, m, p, e1⟩ := h1
  obtain ⟨t, n, j, e2, hn⟩ := nearest_num (decide (b < 0)) b.natAbs (by omega) hb
  show ∃ r, ((double.read (double.nearest (decide (a < 0)) a.natAbs 0)).quotient (double.fractionBits + 2) (double.read (double.nearest (decide (b < 0)) b.natAbs 0))).map double.write = some r
  rw [e1, e2]
  unfold Datum.quotient
  dsimp only
  rw [if_neg hn]
  exact ⟨_, rfl⟩
end Go.Proofs.Ythdifoidlpiikaa.Flt
namespace Go.Proofs.Ythdifoidlpiikaa.PWasteSays
open Go.RowKit Ythdifoidlpiikaa.En Ythdifoidlpiikaa Go.Proofs.Ythdifoidlpiikaa.TotO Go.Proofs.Ythdifoidlpiikaa.WsS
set_option linter.unusedVariables false
set_option linter.unusedSimpArgs false
def sh (w : Wa) : Int := (f_waste_Share 0 w).getD 0
theorem share_ok (w : Wa) (hw : okS_api_Waste w) (fu : Nat) : f_waste_Share fu w = some (sh w) := by
  have h1 := wfi64 hw.1
  have h2 := wfi64 hw.2
  unfold sh f_waste_Share
  by_cases h : w.Size = 0
  · rw [cond_tt (by simpa using h)]; rfl
  · rw [cond_ff (by simpa using h)]
    obtain ⟨r, hr⟩ := Flt.div_some w.Dead w.Size (by omega) (by omega) h
    simp only [Int.toNat_natCast, hr, Option.map_some, opt_of, Option.getD_some]
theorem share_ref (w : Wa) (hw : okS_api_Waste w) (fu : Nat) : f_lumref_Share fu w = some (sh w) := share_ok w hw fu
abbrev gtF (a b : Int) : Bool := FloatKind.f64.format.order a.toNat b.toNat == some .gt
def rd (w : Wa) : Ieee.Datum := Ieee.double.read (sh w).toNat
theorem order_nan {w w' : Wa} (h : (rd w).isNaN = false) (h' : (rd w').isNaN = false) : FloatKind.f64.format.order (sh w).toNat (sh w').toNat = some (Flt.ordI (Flt.cls (rd w)) (Flt.cls (rd w')) (Flt.key (rd w)) (Flt.key (rd w'))) :=
  Flt.order_key (rd w) (rd w') h h' (Flt.read_place _) (Flt.read_place _)
theorem gt_nan {w : Wa} {o : Int} (h : gtF (sh w) o = true) : (rd w).isNaN = false := by
  have : Ieee.double.order (sh w).toNat o.toNat ≠ none := fun e => by
    have h : (Ieee.double.order (sh w).toNat o.toNat == some .gt) = true := h
    rw [e] at h; cases h
  exact (Flt.read_nan_none _ _ this).1
def wat (l : List Wa) (x : Int) : Wa := (at? l x).getD (S_api_Waste.mk 0 0)
def c0 (l : List Wa) (x y : Int) : Int := if cI (-(Flt.cls (rd (wat l x)))) (-(Flt.cls (rd (wat l y)))) ≠ 0 then cI (-(Flt.cls (rd (wat l x)))) (-(Flt.cls (rd (wat l y)))) else cI (-(Flt.key (rd (wat l x)))) (-(Flt.key (rd (wat l y))))
theorem c0_tot (l : List Wa) : Tot (c0 l) := (Tot.int fun x => -(Flt.cls (rd (wat l x)))).chain (Tot.int fun x => -(Flt.key (rd (wat l x))))
def Val (l : List Wa) (x : Int) : Prop := ∃ w, at? l x = some w ∧ okS_api_Waste w ∧ (rd w).isNaN = false
theorem ord_c0 (l : List Wa) (x y : Int) : c0 l x y = match Flt.ordI (Flt.cls (rd (wat l y))) (Flt.cls (rd (wat l x))) (Flt.key (rd (wat l y))) (Flt.key (rd (wat l x))) with | .lt => -1 | .gt => 1 | .eq => 0 := by
  unfold c0 Flt.ordI
  generalize Flt.cls (rd (wat l x)) = a
  generalize Flt.cls (rd (wat l y)) = b
  generalize Flt.key (rd (wat l x)) = p
  generalize Flt.key (rd (wat l y)) = q
  by_cases h1 : b < a
  · rw [if_pos h1]
    have : cI (-a) (-b) = -1 := by unfold cI; rw [if_pos (by omega)]
    rw [this]; rfl
  · rw [if_neg h1]
    by_cases h2 : a < b
    · rw [if_pos h2]
      have : cI (-a) (-b) = 1 := by unfold cI; rw [if_neg (by omega), if_pos (by omega)]
      rw [this]; rfl
    · rw [if_neg h2]
      have : cI (-a) (-b) = 0 := by unfold cI; rw [if_neg (by omega), if_neg (by omega)]
      rw [if_neg (by simpa using this)]
      rcases Int.lt_trichotomy q p with h | h | h
      · rw [Int.compare_eq_lt.2 h]; unfold cI; rw [if_pos (by omega)]
      · subst h; unfold cI; simp
      · rw [Int.compare_eq_gt.2 h]; unfold cI; rw [if_neg (by omega), if_pos (by omega)]
theorem self_eq (w : Wa) (h : (rd w).isNaN = false) : (FloatKind.f64.format.order (sh w).toNat (sh w).toNat != some .eq) = false := by
  rw [order_nan h h]
  unfold Flt.ordI
  rw [if_neg (Int.lt_irrefl _), if_neg (Int.lt_irrefl _)]
  simp
theorem cmp_ok (l : List Wa) (fu : Nat) (x y : Int) (hx : Val l x) (hy : Val l y) : f_waste_Choose_1 fu x y l = some (c0 l x y) := by
  obtain ⟨w, h1, h2, h3⟩ := hx
  obtain ⟨v, g1, g2, g3⟩ := hy
  have e1 : wat l x = w := by unfold wat; rw [h1]; rfl
  have e2 : wat l y = v := by unfold wat; rw [g1]; rfl
  unfold f_waste_Choose_1 f_cmp_Compare_float64_ f_cmp_isNaN_float64_
  rw [g1, opt_of, share_ok v g2, opt_of, h1, opt_of, share_ok w h2, opt_of]
  simp only [opt_of]
  rw [self_eq v g3, self_eq w h3, cond_ff rfl, cond_ff rfl, order_nan g3 h3, ord_c0, e1, e2]
  cases Flt.ordI (Flt.cls (rd v)) (Flt.cls (rd w)) (Flt.key (rd v)) (Flt.key (rd w)) <;> rfl
def env (l : List Wa) : Env l := ⟨c0 l, Val l, c0_tot l, cmp_ok l⟩
theorem gt_c0 (l : List Wa) {x y : Int} (hx : Val l x) (hy : Val l y) : gtF (sh (wat l x)) (sh (wat l y)) = decide (c0 l x y < 0) := by
  obtain ⟨w, h1, h2, h3⟩ := hx
  obtain ⟨v, g1, g2, g3⟩ := hy
  have e1 : wat l x = w := by unfold wat; rw [h1]; rfl
  have e2 : wat l y = v := by unfold wat; rw [g1]; rfl
  unfold gtF
  rw [ord_c0, e1, e2, order_nan h3 g3]
  unfold Flt.ordI
  generalize Flt.cls (rd w) = a
  generalize Flt.cls (rd v) = b
  generalize Flt.key (rd w) = p
  generalize Flt.key (rd v) = q
  rcases Int.lt_trichotomy a b with h | h | h
  · rw [if_pos h, if_neg (by omega), if_pos h]; rfl
  · subst h
    rw [if_neg (by omega), if_neg (by omega), if_neg (by omega), if_neg (by omega)]
    rcases Int.lt_trichotomy p q with h | h | h
    · rw [Int.compare_eq_lt.2 h, Int.compare_eq_gt.2 h]; rfl
    · subst h; simp
    · rw [Int.compare_eq_gt.2 h, Int.compare_eq_lt.2 h]; rfl
  · rw [if_neg (by omega), if_pos h, if_pos h]; rfl
def badW (w : Wa) : Prop := w.Size < 0 ∨ 1099511627776 < w.Size ∨ w.Dead < 0 ∨ w.Size < w.Dead
instance (w : Wa) : Decidable (badW w) := inferInstanceAs (Decidable (_ ∨ _))
def errs (l : List Wa) : Int := if l.length > 100 then 2 else if l.any (fun w => decide (badW w)) = true then 1 else 0
theorem chk_go (l : List Wa) (hl : l.length ≤ 100) : ∀ (fuel k : Nat), k ≤ l.length → l.length - k < fuel → f_waste_Check_L6 l (fun _ => some 0) fuel (k : Int) = some (if (l.drop k).any (fun w => decide (badW w)) = true then 1 else 0)
  | 0, _, _, h => absurd h (Nat.not_lt_zero _)
  | fuel + 1, k, hk, hf => by
    rw [f_waste_Check_L6]
    by_cases hlt : k < l.length
    · rw [cond_tt (dlt (by omega)), at_lt hlt, opt_of, lt_of, wsucc (by omega), chk_go l hl fuel (k + 1) (by omega) (by omega), List.drop_eq_getElem_cons hlt, List.any_cons]
      have key : ∀ b : Bool, b = decide (badW l[k]) → (fun j12b33 : Bool => bif j12b33 then some (1 : Int) else some (if (l.drop (k + 1)).any (fun w => decide (badW w)) = true then 1 else 0)) b = some (if (decide (badW l[k]) || (l.drop (k + 1)).any (fun w => decide (badW w))) = true then 1 else 0) := fun b hb => by
        rw [← hb]
        cases b
        · rfl
        · rfl
      by_cases c1 : l[k].Size < 0
      · rw [cond_tt (decide_eq_true c1)]; exact key true (decide_eq_true (.inl c1)).symm
      · rw [cond_ff (decide_eq_false c1)]
        by_cases c2 : l[k].Size > 1099511627776
        · rw [cond_tt (decide_eq_true c2)]; exact key true (decide_eq_true (.inr (.inl c2))).symm
        · rw [cond_ff (decide_eq_false c2)]
          by_cases c3 : l[k].Dead < 0
          · rw [cond_tt (decide_eq_true c3)]; exact key true (decide_eq_true (.inr (.inr (.inl c3)))).symm
          · rw [cond_ff (decide_eq_false c3)]
            refine key (decide (l[k].Dead > l[k].Size)) ?_
            by_cases c4 : l[k].Dead > l[k].Size
            · rw [decide_eq_true c4, decide_eq_true (.inr (.inr (.inr c4)))]
            · rw [decide_eq_false c4, decide_eq_false]
              rintro (h | h | h | h)
              · exact c1 h
              · exact c2 h
              · exact c3 h
              · exact c4 h
    · rw [cond_ff (dge (by omega)), List.drop_of_length_le (by omega)]; rfl
theorem chk_ok (l : List Wa) (fu : Nat) (hfu : 1000 ≤ fu) : f_waste_Check fu l = some (errs l) := by
  unfold f_waste_Check errs
  by_cases h : l.length > 100
  · rw [cond_tt (decide_eq_true (by omega)), if_pos h]
  · rw [cond_ff (decide_eq_false (by omega)), if_neg h, lt_of]
    have := chk_go l (by omega) fu 0 (by omega) (by omega)
    rw [List.drop_zero] at this
    exact this
theorem same_chk (l : List Wa) : ∀ (fuel : Nat) (k : Int) (kk : Unit → Option Int), f_lumref_Wastes_L6 l kk fuel k = f_waste_Check_L6 l kk fuel k
  | 0, _, _ => rfl
  | fuel + 1, k, kk => by rw [f_lumref_Wastes_L6, f_waste_Check_L6]; simp only [same_chk l fuel]
theorem ref_chk (l : List Wa) (fu : Nat) (hfu : 1000 ≤ fu) : f_lumref_Wastes fu l = some (errs l) := by
  rw [← chk_ok l fu hfu]
  unfold f_lumref_Wastes f_waste_Check
  simp only [same_chk]
theorem errs_zero {l : List Wa} (h : errs l = 0) : l.length ≤ 100 ∧ ∀ w ∈ l, ¬ badW w := by
  unfold errs at h
  split at h
  · cases h
  · split at h
    · cases h
    · rename_i h1 h2
      exact ⟨by omega, fun w hw hb => h2 (List.any_eq_true.2 ⟨w, hw, decide_eq_true hb⟩)⟩
def cand (l : List Wa) (o : Int) (i : Nat) : Bool := match l[i]? with
  | some w => decide (w.Size > 0) && gtF (sh w) o
  | none => false
def cands (l : List Wa) (o : Int) (i d : Nat) : List Int := ((List.range' i d).filter (cand l o)).map fun k : Nat => (k : Int)
theorem cands_mem (l : List Wa) (o : Int) (i d : Nat) (x : Int) : x ∈ cands l o i d ↔ ∃ k : Nat, x = k ∧ i ≤ k ∧ k < i + d ∧ cand l o k = true := by
  unfold cands
  simp only [List.mem_map, List.mem_filter, List.mem_range'_1]
  constructor
  · rintro ⟨k, ⟨h1, h2⟩, rfl⟩; exact ⟨k, rfl, h1.1, h1.2, h2⟩
  · rintro ⟨k, rfl, h1, h2, h3⟩; exact ⟨k, ⟨⟨h1, h2⟩, h3⟩, rfl⟩
theorem cands_inc (l : List Wa) (o : Int) (i d : Nat) : (cands l o i d).Pairwise (· < ·) := by
  unfold cands
  refine List.Pairwise.map _ (fun a b h => ?_) (List.Pairwise.filter _ (List.pairwise_lt_range' (s := i) (n := d)))
  omega
theorem cand_val {l : List Wa} {o : Int} {i : Nat} (hok : ∀ w ∈ l, okS_api_Waste w) (h : cand l o i = true) : Val l (i : Int) ∧ i < l.length := by
  unfold cand at h
  split at h
  · rename_i w hw
    simp only [Bool.and_eq_true] at h
    have hlt := (List.getElem?_eq_some_iff.1 hw).1
    exact ⟨⟨w, at_of hw, hok w (List.mem_of_getElem? hw), gt_nan h.2⟩, hlt⟩
  · cases h
theorem pick_go (l : List Wa) (o : Int) (hl : l.length ≤ 100) (hok : ∀ w ∈ l, okS_api_Waste w) (kk : List Int → Option (List Int × Int)) (fu : Nat) : ∀ (fuel d k : Nat) (out : List Int), k + d = l.length → d < fuel → out.length ≤ k →
    f_waste_Choose_L11 l o kk fu fuel out (k : Int) = kk (out ++ cands l o k d)
  | 0, _, _, _, _, h, _ => absurd h (Nat.not_lt_zero _)
  | fuel + 1, 0, k, out, hk, hf, ho => by
    rw [f_waste_Choose_L11, cond_ff (dge (by omega))]; simp [cands]
  | fuel + 1, d + 1, k, out, hk, hf, ho => by
    have hlt : k < l.length := by omega
    have ih := pick_go l o hl hok kk fu fuel d (k + 1)
    rw [f_waste_Choose_L11, cond_tt (dlt (by omega)), lt_of, at_lt hlt, opt_of, lt_of]
    have e1 : cands l o k (d + 1) = if cand l o k = true then (k : Int) :: cands l o (k + 1) d else cands l o (k + 1) d := by
      unfold cands
      rw [List.range'_succ, List.filter_cons]
      split <;> simp
    have hc : cand l o k = (decide (l[k].Size > 0) && gtF (sh l[k]) o) := by unfold cand; rw [List.getElem?_eq_getElem hlt]
    have fin : ∀ b : Bool, b = cand l o k → (bif b then req (((out.length + ([(k : Int)]).length) * 8 : Nat) ≤ 140737488355328 ∧ out.length + ([(k : Int)]).length ≤ 9223372036854775807) (f_waste_Choose_L11 l o kk fu fuel (out ++ [(k : Int)]) (IntKind.i64.wrap ((k : Int) + 1))) else f_waste_Choose_L11 l o kk fu fuel out (IntKind.i64.wrap ((k : Int) + 1))) = kk (out ++ cands l o k (d + 1)) := fun b hb => by
      subst hb
      rw [wsucc (by omega), e1]
      by_cases h : cand l o k = true
      · rw [cond_tt h, if_pos h, req_pos (by simp; omega), ih (out ++ [(k : Int)]) (by omega) (by omega) (by simp; omega), List.append_assoc]; rfl
      · rw [cond_ff (by simpa using h), if_neg h, ih out (by omega) (by omega) (by omega)]
    by_cases h0 : l[k].Size > 0
    · rw [cond_tt (decide_eq_true h0), share_ok _ (hok _ (List.getElem_mem hlt)), opt_of]
      exact fin _ (by rw [hc, decide_eq_true h0]; rfl)
    · rw [cond_ff (decide_eq_false h0)]
      exact fin false (by rw [hc, decide_eq_false h0]; rfl)
theorem has_go (l : List Int) (x : Int) (hl : l.length ≤ 9223372036854775807) (kk : Unit → Option Bool) : ∀ (d k j : Nat), l.length - j = d → d < k → j ≤ l.length → f_lumref_has_L5 l x kk k (j : Int) = if x ∈ l.drop j then some true else kk ()
  | _, 0, _, _, hk, _ => absurd hk (Nat.not_lt_zero _)
  | d, k + 1, j, hd, hk, hj => by
    rw [f_lumref_has_L5]
    by_cases h : j < l.length
    · rw [cond_tt (dlt (by omega)), at_lt h, opt_of, List.drop_eq_getElem_cons h]
      by_cases he : l[j] = x
      · rw [cond_tt (by rw [he]; exact beq_self_eq_true _), if_pos (by rw [he]; exact List.mem_cons_self)]
      · rw [cond_ff (by rw [beq_eq_false_iff_ne]; exact he), wsucc (by omega), has_go l x hl kk (d - 1) k (j + 1) (by omega) (by omega) (by omega)]
        by_cases hm : x ∈ l.drop (j + 1)
        · rw [if_pos hm, if_pos (List.mem_cons_of_mem _ hm)]
        · rw [if_neg hm, if_neg (fun h' => (List.mem_cons.1 h').elim (fun e => he e.symm) hm)]
    · rw [cond_ff (dge (by omega)), List.drop_of_length_le (by omega), if_neg (by simp)]
theorem has_ok (l : List Int) (x : Int) (hl : l.length ≤ 9223372036854775807) (fu : Nat) (hf : l.length < fu) : f_lumref_has fu l x = some (decide (x ∈ l)) := by
  unfold f_lumref_has
  rw [lt_of]
  have := has_go l x hl (fun _ => some false) l.length fu 0 rfl hf (Nat.zero_le _)
  rw [List.drop_zero] at this
  refine this.trans ?_
  by_cases h : x ∈ l
  · rw [if_pos h, decide_eq_true h]
  · rw [if_neg h, decide_eq_false h]
def Best (l : List Wa) (o : Int) (out : List Int) (i : Nat) (b : Int) : Prop :=
  (b = -1 ∧ ∀ j < i, cand l o j = true → (j : Int) ∈ out) ∨ ∃ j : Nat, b = j ∧ j < i ∧ cand l o j = true ∧ (j : Int) ∉ out ∧ ∀ k < i, cand l o k = true → (k : Int) ∉ out → k ≠ j → (env l).cc (j : Int) (k : Int) < 0
theorem wat_lt {l : List Wa} {k : Nat} (h : k < l.length) : wat l (k : Int) = l[k] := by unfold wat; rw [at_lt h]; rfl
theorem best_go (l : List Wa) (o : Int) (hl : l.length ≤ 100) (hok : ∀ w ∈ l, okS_api_Waste w) (hgood : ∀ w ∈ l, ¬ badW w) (out : List Int) (ho : out.length ≤ 1000) (kk : Int → Option (List Int × Int)) (fu : Nat) (hfu : 2000 ≤ fu) : ∀ (fuel k : Nat) (b : Int), k ≤ l.length → l.length - k < fuel → Best l o out k b →
    ∃ r, f_lumref_Choose_L16 l o out kk fu fuel b (k : Int) = kk r ∧ Best l o out l.length r
  | 0, _, _, _, h, _ => absurd h (Nat.not_lt_zero _)
  | fuel + 1, k, b, hk, hf, hb => by
    rw [f_lumref_Choose_L16]
    by_cases hlt : k < l.length
    · rw [cond_tt (dlt (by omega)), lt_of, at_lt hlt, opt_of, lt_of]
      have hw := hok _ (List.getElem_mem hlt)
      have hg := hgood _ (List.getElem_mem hlt)
      have hc : cand l o k = (decide (l[k].Size > 0) && gtF (sh l[k]) o) := by unfold cand; rw [List.getElem?_eq_getElem hlt]
      have skip : (cand l o k = true → (k : Int) ∈ out) → ∃ r, f_lumref_Choose_L16 l o out kk fu fuel b (IntKind.i64.wrap ((k : Int) + 1)) = kk r ∧ Best l o out l.length r := fun h => by
        rw [wsucc (by omega)]
        refine best_go l o hl hok hgood out ho kk fu hfu fuel (k + 1) b (by omega) (by omega) ?_
        rcases hb with ⟨h1, h2⟩ | ⟨j, h1, h2, h3, h4, h5⟩
        · refine .inl ⟨h1, fun j hj hcj => ?_⟩
          by_cases e : j = k
          · subst e; exact h hcj
          · exact h2 j (by omega) hcj
        · refine .inr ⟨j, h1, by omega, h3, h4, fun q hq hcq hnq hne => ?_⟩
          by_cases e : q = k
          · subst e; exact absurd (h hcq) hnq
          · exact h5 q (by omega) hcq hnq hne
      by_cases s0 : l[k].Size = 0
      · rw [cond_tt (by simpa using s0)]
        dsimp only
        rw [cond_tt rfl]
        exact skip (fun h => by rw [hc, decide_eq_false (show ¬ l[k].Size > 0 by omega)] at h; cases h)
      · have spos : l[k].Size > 0 := by unfold badW at hg; omega
        rw [cond_ff (by simpa using s0), has_ok out _ (by omega) fu (by omega), opt_of]
        by_cases hin : (k : Int) ∈ out
        · rw [decide_eq_true hin, cond_tt rfl]
          dsimp only
          rw [cond_tt rfl]
          exact skip (fun _ => hin)
        · rw [decide_eq_false hin, cond_ff rfl, share_ref _ hw, opt_of]
          dsimp only
          by_cases hgt : gtF (sh l[k]) o = true
          · have hck : cand l o k = true := by rw [hc, decide_eq_true spos, hgt]; rfl
            rw [show (FloatKind.f64.format.order (sh l[k]).toNat o.toNat == some .gt) = true from hgt, cond_ff (show (!true) = false from rfl), lt_of]
            obtain ⟨hvk, _⟩ := cand_val hok hck
            have take : (∀ q < k, cand l o q = true → (q : Int) ∉ out → (env l).cc (k : Int) (q : Int) < 0) → ∃ r, f_lumref_Choose_L16 l o out kk fu fuel (k : Int) (IntKind.i64.wrap ((k : Int) + 1)) = kk r ∧ Best l o out l.length r := fun h => by
              rw [wsucc (by omega)]
              refine best_go l o hl hok hgood out ho kk fu hfu fuel (k + 1) _ (by omega) (by omega) (.inr ⟨k, rfl, by omega, hck, hin, fun q hq hcq hnq hne => h q (by omega) hcq hnq⟩)
            rcases hb with ⟨h1, h2⟩ | ⟨j, h1, h2, h3, h4, h5⟩
            · subst h1
              rw [cond_tt (by decide)]
              dsimp only
              rw [cond_tt rfl]
              exact take (fun q hq hcq hnq => absurd (h2 q hq hcq) hnq)
            · subst h1
              obtain ⟨hvj, hjl⟩ := cand_val hok h3
              have hwj := hok _ (List.getElem_mem hjl)
              rw [cond_ff (decide_eq_false (show ¬ (j : Int) < 0 by omega)), opt_of, at_lt hjl, opt_of, share_ref _ hwj, opt_of]
              dsimp only
              have hgc := gt_c0 l hvk hvj
              rw [wat_lt hlt, wat_lt hjl] at hgc
              rw [show (FloatKind.f64.format.order (sh l[k]).toNat (sh l[j]).toNat == some .gt) = decide (c0 l (k : Int) (j : Int) < 0) from hgc]
              by_cases hlt0 : c0 l (k : Int) (j : Int) < 0
              · rw [decide_eq_true hlt0, cond_tt rfl]
                have hcc := ((env l).less (show (j : Int) < (k : Int) by omega)).1 hlt0
                exact take (fun q hq hcq hnq => by
                  by_cases e : q = j
                  · subst e; exact hcc
                  · exact (env l).trans hcc (h5 q hq hcq hnq e))
              · rw [decide_eq_false hlt0, cond_ff rfl, wsucc (by omega)]
                refine best_go l o hl hok hgood out ho kk fu hfu fuel (k + 1) _ (by omega) (by omega) (.inr ⟨j, rfl, by omega, h3, h4, fun q hq hcq hnq hne => ?_⟩)
                by_cases e : q = k
                · subst e
                  rcases (env l).tri (x := (j : Int)) (y := (q : Int)) (by omega) with h | h
                  · exact h
                  · exact absurd (((env l).less (show (j : Int) < (q : Int) by omega)).2 h) hlt0
                · exact h5 q (by omega) hcq hnq hne
          · have hgt : gtF (sh l[k]) o = false := by simpa using hgt
            rw [show (FloatKind.f64.format.order (sh l[k]).toNat o.toNat == some .gt) = false from hgt, cond_tt (show (!false) = true from rfl)]
            exact skip (fun h => by rw [hc, hgt, Bool.and_false] at h; cases h)
    · have : k = l.length := by omega
      subst this
      rw [cond_ff (dge (by omega))]
      exact ⟨b, rfl, hb⟩
theorem ref_go (l : List Wa) (o : Int) (hl : l.length ≤ 100) (hok : ∀ w ∈ l, okS_api_Waste w) (hgood : ∀ w ∈ l, ¬ badW w) (S : List Int) (hS : S.Perm (cands l o 0 l.length)) (hsr : (env l).Srt 0 S.length S) (hSl : S.length ≤ 100) (fu : Nat) (hfu : 2000 ≤ fu) : ∀ (fuel k : Nat), k ≤ S.length → S.length - k < fuel →
    f_lumref_Choose_L6 l o fu fuel (S.take k) = some (S, 0)
  | 0, _, _, h => absurd h (Nat.not_lt_zero _)
  | fuel + 1, k, hk, hf => by
    have hmem : ∀ x, x ∈ S ↔ ∃ j : Nat, x = j ∧ j < l.length ∧ cand l o j = true := fun x => by
      rw [hS.mem_iff, cands_mem]
      constructor
      · rintro ⟨j, e, _, h2, h3⟩; exact ⟨j, e, by omega, h3⟩
      · rintro ⟨j, e, h2, h3⟩; exact ⟨j, e, Nat.zero_le _, by omega, h3⟩
    have gS : ∀ j (h : j < S.length), g S j = S[j] := fun j h => by simp [g, h]
    rw [f_lumref_Choose_L6, lt_of, lt_of]
    obtain ⟨r, hr, hb⟩ := best_go l o hl hok hgood (S.take k) (by simp; omega) (fun (j8i8 : Int) => (bif (decide (j8i8 < (0 : Int))) then (some (S.take k, (0 : Int))) else (req ((((S.take k).length + ([j8i8]).length) * 8 : Nat) ≤ 140737488355328 ∧ (S.take k).length + ([j8i8]).length ≤ 9223372036854775807) ((fun (l4x7 : (List Int)) => (f_lumref_Choose_L6 l o fu fuel l4x7)) (S.take k ++ ([j8i8])))))) fu hfu fu 0 (-1) (by omega) (by omega) (.inl ⟨rfl, fun j hj => by omega⟩)
    rw [show ((0 : Nat) : Int) = 0 from rfl] at hr
    rw [hr]
    dsimp only
    have later : ∀ q (hq : q < S.length), k ≤ q → S[q] ∉ S.take k := fun q hq hkq hin => by
      obtain ⟨p, hp, e⟩ := List.getElem_of_mem hin
      rw [List.getElem_take] at e
      have hp' : p < k := by simp at hp; omega
      have := hsr p q (Nat.zero_le _) (by omega) hq
      rw [gS p (by omega), gS q hq, e, (env l).cct.refl] at this
      omega
    rcases hb with ⟨h1, h2⟩ | ⟨j, h1, h2, h3, h4, h5⟩
    · have hkS : k = S.length := by
        by_cases h : k < S.length
        · obtain ⟨j, e, j1, j2⟩ := (hmem S[k]).1 (List.getElem_mem h)
          exact absurd (by rw [e]; exact h2 j j1 j2) (later k h (Nat.le_refl _))
        · omega
      rw [cond_tt (by rw [h1]; decide), hkS, List.take_length]
    · subst h1
      have hjS : (j : Int) ∈ S := (hmem _).2 ⟨j, rfl, h2, h3⟩
      obtain ⟨q, hq, eq⟩ := List.getElem_of_mem hjS
      have hkq : k ≤ q := by
        by_cases h : k ≤ q
        · exact h
        · exact absurd (by rw [← eq]; exact List.mem_take_iff_getElem.2 ⟨q, by omega, rfl⟩) h4
      have hqk : q = k := by
        by_cases h : q = k
        · exact h
        · have hkl : k < S.length := by omega
          obtain ⟨p, e, p1, p2⟩ := (hmem S[k]).1 (List.getElem_mem hkl)
          have a1 := hsr k q (Nat.zero_le _) (by omega) hq
          rw [gS k hkl, gS q hq, e, eq] at a1
          have hne : p ≠ j := fun e' => by
            subst e'
            rw [(env l).cct.refl] at a1; omega
          exact absurd a1 ((env l).asym (h5 p p1 p2 (by rw [← e]; exact later k hkl (Nat.le_refl _)) hne))
      subst hqk
      rw [cond_ff (decide_eq_false (show ¬ (j : Int) < 0 by omega)), req_pos (by simp; omega), ← eq, ← List.take_succ_eq_append_getElem hq]
      exact ref_go l o hl hok hgood S hS hsr hSl fu hfu fuel (q + 1) (by omega) (by omega)
theorem choose_ok (l : List Wa) (o : Int) (hok : ∀ w ∈ l, okS_api_Waste w) (fu : Nat) (hfu : 6000 ≤ fu) : ∃ r, f_waste_Choose fu l o = some r ∧ f_lumref_Choose fu l o = some r ∧ r.1.length ≤ 100 := by
  unfold f_waste_Choose f_lumref_Choose
  rw [chk_ok l fu (by omega), ref_chk l fu (by omega), opt_of, opt_of]
  by_cases h0 : errs l = 0
  · obtain ⟨hl, hgood⟩ := errs_zero h0
    rw [cond_ff (by simpa using h0), cond_ff (by simpa using h0), lt_of, show (0 : Int) = ((0 : Nat) : Int) from rfl, pick_go l o hl hok _ fu fu l.length 0 [] (by omega) (by omega) (by simp), List.nil_append]
    have hlen : (cands l o 0 l.length).length ≤ 100 := by
      unfold cands
      rw [List.length_map]
      have := List.length_filter_le (cand l o) (List.range' 0 l.length)
      rw [List.length_range'] at this; omega
    have hinc := cands_inc l o 0 l.length
    obtain ⟨S, hS, s1, s2, s3⟩ := stable_ok (env l) (cands l o 0 l.length) (by omega) (fun x hx => by
      obtain ⟨j, rfl, _, _, hj⟩ := (cands_mem l o 0 l.length x).1 hx
      exact (cand_val hok hj).1) (fun i j hij hj => by
      have := List.pairwise_iff_getElem.1 hinc i j (by omega) hj hij
      simpa [g, hj, show i < (cands l o 0 l.length).length by omega] using this) fu (by omega)
    rw [hS, opt_of]
    refine ⟨_, rfl, ?_, by dsimp only; omega⟩
    have := ref_go l o hl hok hgood S s2 (by rw [s1]; exact s3) (by omega) fu (by omega) fu 0 (by omega) (by omega)
    rw [List.take_zero] at this
    exact this
  · rw [cond_tt (by simpa using h0), cond_tt (by simpa using h0)]
    exact ⟨_, rfl, rfl, by simp⟩
theorem tot_go (l : List Wa) (hl : l.length ≤ 100) (ws : List Int) (hws : ws.length ≤ 9223372036854775807) (hwf : ∀ x ∈ ws, (Lit.int .i64 x).wf = true) (fu : Nat) (hfu : ws.length < fu) : ∀ (fuel k : Nat) (m : List (Int × Bool)) (s d : Int), k ≤ ws.length → ws.length - k < fuel → (Lit.int .i64 s).wf = true → (Lit.int .i64 d).wf = true → (∀ u, (gget m u).getD false = decide (u ∈ ws.take k)) →
    ∃ r : Wa × Int, f_waste_Total_L11 l ws (fun a b => some (S_api_Waste.mk a b, 0)) fuel m s d (k : Int) = some r ∧ f_lumref_Total_L10 l ws (fun a b => some (S_api_Waste.mk a b, 0)) fu fuel s d (k : Int) = some r ∧ (Lit.int .i64 r.1.Size).wf = true ∧ (Lit.int .i64 r.1.Dead).wf = true
  | 0, _, _, _, _, _, h, _, _, _ => absurd h (Nat.not_lt_zero _)
  | fuel + 1, k, m, s, d, hk, hf, hs, hd, hm => by
    have hz : (Lit.int .i64 (0 : Int)).wf = true := by decide
    rw [f_waste_Total_L11, f_lumref_Total_L10]
    by_cases hlt : k < ws.length
    · have hw := hwf _ (List.getElem_mem hlt)
      rw [cond_tt (dlt (by omega)), cond_tt (dlt (by omega)), at_lt hlt, opt_of, opt_of, lt_of, lt_of]
      have bad : ∃ r : Wa × Int, some (S_api_Waste.mk (0 : Int) (0 : Int), (1 : Int)) = some r ∧ some (S_api_Waste.mk (0 : Int) (0 : Int), (1 : Int)) = some r ∧ (Lit.int .i64 r.1.Size).wf = true ∧ (Lit.int .i64 r.1.Dead).wf = true := ⟨_, rfl, rfl, hz, hz⟩
      by_cases c1 : ws[k] < 0
      · rw [cond_tt (decide_eq_true c1), cond_tt (decide_eq_true c1)]
        dsimp only
        rw [cond_tt rfl, cond_tt rfl]
        exact bad
      · rw [cond_ff (decide_eq_false c1), cond_ff (decide_eq_false c1)]
        dsimp only
        by_cases c2 : ws[k] ≥ (l.length : Int)
        · rw [decide_eq_true c2, cond_tt rfl, cond_tt rfl]
          exact bad
        · rw [decide_eq_false c2, cond_ff rfl, cond_ff rfl, req_pos hw, hm, req_pos (c := 0 ≤ (k : Int) ∧ (k : Int) ≤ (ws.length : Int)) (by omega), Int.toNat_natCast, has_ok _ _ (by simp; omega) fu (by simp; omega), opt_of]
          by_cases hin : ws[k] ∈ ws.take k
          · rw [decide_eq_true hin, cond_tt rfl, cond_tt rfl]
            exact ⟨_, rfl, rfl, hz, hz⟩
          · rw [decide_eq_false hin, cond_ff rfl, cond_ff rfl, at_int (by omega) (by omega), opt_of, opt_of, opt_of, opt_of, wsucc (by omega)]
            rw [req_pos hw]
            refine tot_go l hl ws hws hwf fu hfu fuel (k + 1) _ _ _ (by omega) (by omega) (wf_wrap _ _) (wf_wrap _ _) (fun u => ?_)
            rw [gget_gset, List.take_succ_eq_append_getElem hlt]
            by_cases e : ws[k] = u
            · rw [if_pos e, decide_eq_true (by simp [e])]; rfl
            · rw [if_neg e, hm u]
              congr 1
              simp only [List.mem_append, List.mem_singleton, eq_iff_iff]
              exact ⟨.inl, fun h => h.resolve_right (fun h => e h.symm)⟩
    · rw [cond_ff (dge (by omega)), cond_ff (dge (by omega))]
      exact ⟨_, rfl, rfl, hs, hd⟩
theorem total_ok (l : List Wa) (ws : List Int) (hws : ws.length ≤ 9223372036854775807) (hwf : ∀ x ∈ ws, (Lit.int .i64 x).wf = true) (fu : Nat) (hfu : ws.length + 2000 ≤ fu) : ∃ r : Wa × Int, f_waste_Total fu l ws = some r ∧ f_lumref_Total fu l ws = some r ∧ (Lit.int .i64 r.1.Size).wf = true ∧ (Lit.int .i64 r.1.Dead).wf = true := by
  have hz : (Lit.int .i64 (0 : Int)).wf = true := by decide
  unfold f_waste_Total f_lumref_Total
  rw [chk_ok l fu (by omega), ref_chk l fu (by omega), opt_of, opt_of]
  by_cases h0 : errs l = 0
  · rw [cond_ff (by simpa using h0), cond_ff (by simpa using h0), lt_of, lt_of]
    exact tot_go l (errs_zero h0).1 ws hws hwf fu (by omega) fu 0 [] 0 0 (by omega) (by omega) hz hz (fun u => by simp [gget])
  · rw [cond_tt (by simpa using h0), cond_tt (by simpa using h0)]
    exact ⟨_, rfl, rfl, hz, hz⟩
theorem eq_go (a : List Int) (ha : a.length ≤ 10000) (kk : Unit → Option Bool) : ∀ (d j fu : Nat), a.length - j = d → j ≤ a.length → d < fu → f_slices_Equal___int_int__L6 a a kk fu (j : Int) = kk ()
  | _, _, 0, _, _, hf => absurd hf (Nat.not_lt_zero _)
  | 0, j, fu + 1, hd, hj, _ => by rw [f_slices_Equal___int_int__L6, cond_ff (dge (by omega))]
  | d + 1, j, fu + 1, hd, hj, hf => by
    have hlt : j < a.length := by omega
    rw [f_slices_Equal___int_int__L6, cond_tt (dlt (by omega)), at_lt hlt, opt_of, opt_of, bne_self_eq_false, cond_ff rfl, wsucc (by omega)]
    exact eq_go a ha kk d (j + 1) fu (by omega) (by omega) (by omega)
theorem eq_ok (a : List Int) (ha : a.length ≤ 10000) (fu : Nat) (hf : a.length < fu) : f_slices_Equal___int_int_ fu a a = some true := by
  unfold f_slices_Equal___int_int_
  rw [bne_self_eq_false, cond_ff rfl, lt_of]
  exact eq_go a ha _ a.length 0 fu (by omega) (by omega) (by omega)
def fuel (l : List Wa) (w : Wa) (o : Int) (ws : List Int) : Nat := ws.length + 10000
theorem says (l : List Wa) (w : Wa) (o : Int) (ws : List Int) (ok0 : okL (fun y => okS_api_Waste y) l) (ok1 : okS_api_Waste w) {P : Prop} (_ : P) (ok3 : okL (fun x => (Lit.int .i64 x).wf = true) ws) : f_lumlaw_WasteSays (fuel l w o ws) l w o ws = some true := by
  unfold f_lumlaw_WasteSays fuel
  obtain ⟨r, r1, r2, r3⟩ := choose_ok l o ok0.2 (ws.length + 10000) (by omega)
  obtain ⟨t, t1, t2, t3, t4⟩ := total_ok l ws ok3.1 ok3.2 (ws.length + 10000) (by omega)
  rw [r1, r2, opt_of, opt_of, t1, t2, opt_of, opt_of, share_ok w ok1, share_ref w ok1, opt_of, opt_of, lt_of, chk_ok l _ (by omega), ref_chk l _ (by omega), opt_of, opt_of, beq_self_eq_true, cond_tt rfl, eq_ok _ (by omega) _ (by omega), opt_of, cond_tt rfl, beq_self_eq_true, cond_tt rfl, req_pos t3, req_pos t4, req_pos t3, req_pos t4, beq_self_eq_true, cond_tt rfl, beq_self_eq_true, cond_tt rfl, beq_self_eq_true]
end Go.Proofs.Ythdifoidlpiikaa.PWasteSays
