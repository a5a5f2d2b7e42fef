/- What WalkPlants leans on, part 5. No condition. -/
import Derived.Test.YtiioclkiapbjnaaGreatDoorQWalkPlantsd
import Derived.Test.YtiioclkiapbjnaaGreatDoorChecked
namespace Go.Proofs.YtiioclkiapbjnaaGreatDoor
open Go.RowKit YtiioclkiapbjnaaGreatDoor.En
set_option linter.unusedVariables false
set_option linter.unusedSimpArgs false
open Go.Value (int bool)
set_option maxRecDepth 100000 in
set_option maxHeartbeats 2000000 in
set_option maxHeartbeats 2000000 in
theorem f_walk_Plant_ok (fu : Nat) (a0 : S_api_Way) (v1_0 : Value) (a1 : (List S_api_Item)) {r : ((List S_api_Blob) × A8u8 × Int)} (h : f_walk_Plant fu a0 a1 = some r) : FnOk Tryz.prog 4 [(ag [(int .i64 a0.Fixed), (int .i64 a0.Cut.Min), (int .i64 a0.Cut.Max), (int .i64 a0.Cut.Bits)]), v1_0] [(fDat (tyList tyS_api_Item) [v1_0] a1), uMax, uTabs] [] (fun (i : Value) => { val := (Value.tuple #[i, (ag (cA8u8 r.2.1)), (int .i64 r.2.2)]), own := [(oRow i 37 tyS_api_Blob r.1)] }) := by
 unfold f_walk_Plant at h
 refine fn_enter Tryz.func4 rfl Tryz.ntmps4 rfl (fun w0 Z0 => ?_)
 refine aw_sr ?_
 refine al_box (vs := [(iq a0.Fixed), (iq a0.Cut.Min), (iq a0.Cut.Max), (iq a0.Cut.Bits)]) rfl (cv_rfl rfl) rfl (fun g1 => ?_)
 refine as_ ?_
 refine al_alloc (zs := (cA8u8 zA8u8)) (zeroOf_to to29) rfl rfl (fun g2 => ?_)
 refine an_ ?_
 refine aw_seq ?_
 refine aw_sr ?_
 refine al_val (ov_load (i := 1) (v := (ag [(iq a0.Fixed), (iq a0.Cut.Min), (iq a0.Cut.Max), (iq a0.Cut.Bits)])) rfl rfl Tryz.underlying25 sz25 rfl rfl rfl rfl) ?_
 obtain ⟨r4, hc3, h⟩ := opt_some h
 refine al_call (vs := [(ag [(iq a0.Fixed), (iq a0.Cut.Min), (iq a0.Cut.Max), (iq a0.Cut.Bits)])]) (f_walk_WayOK_ok fu a0 hc3) [] [] [0, 1] pre_nil rfl (by simp) (by decide) (.inl rfl) rfl Tryz.func8 rfl rfl rfl (fun _ => ?_)
 refine an_ ?_
 refine sm_ ?_
 refine im_ ?_
 refine aw_cond rfl (fun hb5 => ?_) (fun hb5 => ?_)
 replace h := bif_t hb5 h
 refine aw_sr ?_
 refine al_val (ov_build (cells := ((cA8u8 zA8u8) : List Value).toArray) (cs := (cA8u8 zA8u8)) rfl (fun w a hm hs => by simp only [List.map_toArray, List.map_cons, List.map_nil, List.toList_toArray]; kernel_rfl)) ?_
 refine mv_ ?_
 refine as_ ?_
 refine al_store (i := 0) (vs := (cA8u8 zA8u8)) (cs' := (cA8u8 zA8u8)) rfl rfl rfl sz29 (cv_rfl rfl) rfl (co_all (oneA8u8 zA8u8)) (Nat.le_of_ble_eq_true rfl) rfl rfl ?_
 refine an_ ?_
 refine aw_ret ?_
 refine aq_then_ret ?_
 refine aq_nilR 37 tyS_api_Blob ?_
 cases h
 exact fn_ret nS [0] [] rfl rfl rfl rfl (resC rfl (resT rfl (resB (i := 1) rfl rfl Tryz.underlying29 sz29 rfl rfl rfl (resT rfl (resN)))) rfl) rfl rfl rfl (by decide)
 replace h := bif_f hb5 h
 refine aw_skip ?_
 refine aq_then ?_
 refine aw_seq ?_
 refine sm_ ?_
 obtain ⟨r7, hc6, h⟩ := opt_some h
 refine al_call (vs := [v1_0]) (f_walk_Check_ok fu v1_0 a1 hc6) [] [] [0, 1] (pre_fz 0 rfl (pre_fz 1 rfl (pre_fz 2 rfl pre_nil))) rfl (by simp) (by decide) (.inl rfl) rfl Tryz.func6 rfl rfl rfl (fun _ => ?_)
 refine an_ ?_
 refine sm_ ?_
 refine im_ ?_
 refine aw_cond rfl (fun hb8 => ?_) (fun hb8 => ?_)
 replace h := bif_t hb8 h
 refine aw_sr ?_
 refine al_val (ov_build (cells := ((cA8u8 zA8u8) : List Value).toArray) (cs := (cA8u8 zA8u8)) rfl (fun w a hm hs => by simp only [List.map_toArray, List.map_cons, List.map_nil, List.toList_toArray]; kernel_rfl)) ?_
 refine mv_ ?_
 refine as_ ?_
 refine al_store (i := 0) (vs := (cA8u8 zA8u8)) (cs' := (cA8u8 zA8u8)) rfl rfl rfl sz29 (cv_rfl rfl) rfl (co_all (oneA8u8 zA8u8)) (Nat.le_of_ble_eq_true rfl) rfl rfl ?_
 refine an_ ?_
 refine aw_ret ?_
 refine aq_then_ret ?_
 refine aq_nilR 37 tyS_api_Blob ?_
 cases h
 exact fn_ret nS [0] [] rfl rfl rfl rfl (resC rfl (resT rfl (resB (i := 1) rfl rfl Tryz.underlying29 sz29 rfl rfl rfl (resT rfl (resN)))) rfl) rfl rfl rfl (by decide)
 replace h := bif_f hb8 h
 refine aw_skip ?_
 refine aq_tr ?_
 refine al_val (ov_load (i := 1) (v := (ag [(iq a0.Fixed), (iq a0.Cut.Min), (iq a0.Cut.Max), (iq a0.Cut.Bits)])) rfl rfl Tryz.underlying25 sz25 rfl rfl rfl rfl) ?_
 refine al_makeMapR 9 str 45 tyS_api_Item rfl (fun g9 => ?_)
 refine al_makeMapK (ν := S_api_Blob) 29 (fun x : A8u8 => ag (cA8u8 x)) (fun x : S_api_Blob => ag [(iq x.Kind), (str x.Bytes)]) rfl (fun g10 => ?_)
 refine al_val (ov_build (cells := ([(iq a0.Fixed), (iq a0.Cut.Min), (iq a0.Cut.Max), (iq a0.Cut.Bits), (Value.map (some g9)), nS, (Value.map (some g10)), (iq (0 : Int))] : List Value).toArray) (cs := [(iq a0.Fixed), (iq a0.Cut.Min), (iq a0.Cut.Max), (iq a0.Cut.Bits), (Value.map (some g9)), nS, (Value.map (some g10)), (iq (0 : Int))]) rfl (fun w a hm hs => by simp only [List.map_toArray, List.map_cons, List.map_nil, List.toList_toArray, hs.ev (x := .tmp 25) rfl, hs.ev (x := .tmp 26) rfl, hs.ev (x := .tmp 27) rfl]; kernel_rfl)) ?_
 refine al_box (vs := [(iq a0.Fixed), (iq a0.Cut.Min), (iq a0.Cut.Max), (iq a0.Cut.Bits), (Value.map (some g9)), nS, (Value.map (some g10)), (iq (0 : Int))]) rfl (cv_rfl rfl) rfl (fun g11 => ?_)
 refine an_ ?_
 obtain ⟨kk13, hkk13, h⟩ := lt_some h
 refine aw_seq_join (ι := (List ((List UInt8) × Option (List S_api_Item))) × (List Value)) (fun i => (mm25 w0 Z0 a0 a1 g10 g11 g2 g9 i.2 i.1 v1_0)) (fun i => (tab [(5, (pq g2)), (9, (pq g11))])) (fun i => kk13 i.1 = some r) ?_ ?_
 rintro ⟨j12xm9_4, j12um9_4⟩ h
 have h : kk13 j12xm9_4 = some r := h
 rw [hkk13] at h
 dsimp only at h
 clear hkk13
 refine aw_show (m := (mm25 w0 Z0 a0 a1 g10 g11 g2 g9 j12um9_4 j12xm9_4 v1_0)) (S := _) ?_
 refine sm_ ?_
 refine al_reo [1, 0, 2, 3] (by decide) ?_
 obtain ⟨lm14, hc15, h⟩ := opt_some h
 refine al_freezeR hc15 rfl rfl ?_
 refine al_nilR 37 tyS_api_Blob ?_
 obtain ⟨r17, hc16, h⟩ := opt_some h
 refine al_call (vs := [(pq g11), (str ([] : List UInt8))]) (f___walk_planter__directory_ok fu g11 g9 nS g10 (D_walk_planter.mk a0 lm14 ([] : List S_api_Blob) ([] : List (A8u8 × S_api_Blob)) (0 : Int)) ([] : List UInt8) hc16) [] [4, 1, 0, 3] [2] (pre_fz 1 rfl (pre_fz 2 rfl pre_nil)) rfl (by simp) (by decide) (.inl rfl) rfl Tryz.func12 rfl rfl rfl (fun v18 => ?_)
 refine al_alloc (zs := (cA8u8 zA8u8)) (zeroOf_to to29) rfl rfl (fun g19 => ?_)
 refine al_store (i := 0) (vs := (cA8u8 r17.1)) (cs' := (cA8u8 r17.1)) rfl rfl rfl sz29 (cv_rfl rfl) rfl (co_all (oneA8u8 r17.1)) (Nat.le_of_ble_eq_true rfl) rfl rfl ?_
 refine al_nt ?_
 refine aw_seq ?_
 refine sm_ ?_
 refine al_val (ov_nilCheck rfl rfl) ?_
 refine al_val (ov_fieldA (p := 7) rfl Tryz.underlying43 rfl sz30 rfl rfl rfl) ?_
 refine al_val (ov_load (i := 1) (v := (iq r17.2.e)) rfl rfl Tryz.underlying30 sz30 rfl rfl rfl rfl) ?_
 refine im_ ?_
 refine aw_cond rfl (fun hb20 => ?_) (fun hb20 => ?_)
 replace h := bif_t hb20 h
 refine aw_seq ?_
 refine aw_region_open [(sp_ 0 62 (ag (cA8u8 zA8u8))), (sp_ 1 63 (pq g11)), (sp_ 2 64 (pq g11)), (sp_ 3 65 (ptr g11 7)), (sp_ 4 66 (iq r17.2.e))] (tab [(5, (pq g2)), (9, (pq g11))]) mixed (fun a hs => hs.tab _ (allT_mem ⟨rfl, rfl, trivial⟩)) ?_
 refine ta_show (m := (mm26 w0 Z0 a1 g10 g11 g19 g2 g9 r17 v18 v1_0)) (S := _) ?_
 refine ta_step 5 _ [0, 1, 2, 3, 4] [62, 63, 64, 65, 66] [] [] [] [(sp_ 0 62 (ag (cA8u8 zA8u8))), (sp_ 1 63 (pq g11)), (sp_ 2 64 (pq g11)), (sp_ 3 65 (ptr g11 7)), (sp_ 4 66 (iq r17.2.e))] rfl rfl rfl (by kernel_rfl) rfl rfl rfl ⟨⟨_, rfl, [], rfl, by
  intro X_ Y_ F_ K_ hK_
  refine sh_ (mm26 w0 Z0 a1 g10 g11 g19 g2 g9 r17 v18 v1_0) X_ Y_ ?_
  refine al_val (ov_build (cells := ((cA8u8 zA8u8) : List Value).toArray) (cs := (cA8u8 zA8u8)) rfl (fun w a hm hs => by simp only [List.map_toArray, List.map_cons, List.map_nil, List.toList_toArray]; kernel_rfl)) ?_
  refine al_nil ?_
  exact fr_fin hK_ ()⟩, ⟨_, rfl, [], rfl, by
  intro X_ Y_ F_ K_ hK_
  refine sh_ (mm26 w0 Z0 a1 g10 g11 g19 g2 g9 r17 v18 v1_0) X_ Y_ ?_
  refine mv_ ?_
  refine al_nil ?_
  exact fr_fin hK_ ()⟩, ⟨_, rfl, [1], rfl, by
  intro _
  intro X_ Y_ F_ K_ hK_
  refine sh_ (mm26 w0 Z0 a1 g10 g11 g19 g2 g9 r17 v18 v1_0) X_ Y_ ?_
  refine al_val (ov_nilCheck rfl rfl) ?_
  refine al_nil ?_
  exact fr_fin hK_ ()⟩, ⟨_, rfl, [2], rfl, by
  intro _
  intro X_ Y_ F_ K_ hK_
  refine sh_ (mm26 w0 Z0 a1 g10 g11 g19 g2 g9 r17 v18 v1_0) X_ Y_ ?_
  refine al_val (ov_fieldA (p := 7) rfl Tryz.underlying43 rfl sz30 rfl rfl rfl) ?_
  refine al_nil ?_
  exact fr_fin hK_ ()⟩, ⟨_, rfl, [3], rfl, by
  intro _
  intro X_ Y_ F_ K_ hK_
  refine sh_ (mm26 w0 Z0 a1 g10 g11 g19 g2 g9 r17 v18 v1_0) X_ Y_ ?_
  refine al_val (ov_load (i := 1) (v := (iq r17.2.e)) rfl rfl Tryz.underlying30 sz30 rfl rfl rfl rfl) ?_
  refine al_nil ?_
  exact fr_fin hK_ ()⟩, trivial⟩ ?_
 intro X_ Y_ F_ K_ hK_
 refine sh_ (mm26 w0 Z0 a1 g10 g11 g19 g2 g9 r17 v18 v1_0) X_ Y_ ?_
 refine as_ ?_
 refine al_nil ?_
 refine aq_show (m := Mem.plus (mm26 w0 Z0 a1 g10 g11 g19 g2 g9 r17 v18 v1_0) X_ Y_) ?_
 refine aq_next hK_ [0, 1, 2, 3, 4, 5] [0, 1, 2] [(4, nS), (5, (pq g2)), (9, (pq g11))] [62, 63, 64, 65, 66] [] rfl rfl (by decide) rfl ⟨rfl, rfl, rfl, trivial⟩ ⟨rfl, rfl, rfl, rfl, rfl, trivial⟩ ?_
 clear hK_ K_ F_ X_ Y_
 refine ta_show (m := (mm26 w0 Z0 a1 g10 g11 g19 g2 g9 r17 v18 v1_0)) (S := _) ?_
 refine ta_step 6 _ [0, 1, 2, 3, 4] [62, 63, 64, 65, 66] [0] [] [(sp_ 0 62 (ag (cA8u8 zA8u8)))] [(sp_ 1 63 (pq g11)), (sp_ 2 64 (pq g11)), (sp_ 3 65 (ptr g11 7)), (sp_ 4 66 (iq r17.2.e))] rfl rfl rfl (by kernel_rfl) rfl rfl rfl ⟨⟨_, rfl, [], rfl, by
  intro X_ Y_ F_ K_ hK_
  refine sh_ (mm26 w0 Z0 a1 g10 g11 g19 g2 g9 r17 v18 v1_0) X_ Y_ ?_
  refine al_val (ov_build (cells := ((cA8u8 zA8u8) : List Value).toArray) (cs := (cA8u8 zA8u8)) rfl (fun w a hm hs => by simp only [List.map_toArray, List.map_cons, List.map_nil, List.toList_toArray]; kernel_rfl)) ?_
  refine al_nil ?_
  exact fr_fin hK_ ()⟩, ⟨_, rfl, [], rfl, by
  intro X_ Y_ F_ K_ hK_
  refine sh_ (mm26 w0 Z0 a1 g10 g11 g19 g2 g9 r17 v18 v1_0) X_ Y_ ?_
  refine mv_ ?_
  refine al_nil ?_
  exact fr_fin hK_ ()⟩, ⟨_, rfl, [1], rfl, by
  intro _
  intro X_ Y_ F_ K_ hK_
  refine sh_ (mm26 w0 Z0 a1 g10 g11 g19 g2 g9 r17 v18 v1_0) X_ Y_ ?_
  refine al_val (ov_nilCheck rfl rfl) ?_
  refine al_nil ?_
  exact fr_fin hK_ ()⟩, ⟨_, rfl, [2], rfl, by
  intro _
  intro X_ Y_ F_ K_ hK_
  refine sh_ (mm26 w0 Z0 a1 g10 g11 g19 g2 g9 r17 v18 v1_0) X_ Y_ ?_
  refine al_val (ov_fieldA (p := 7) rfl Tryz.underlying43 rfl sz30 rfl rfl rfl) ?_
  refine al_nil ?_
  exact fr_fin hK_ ()⟩, ⟨_, rfl, [3], rfl, by
  intro _
  intro X_ Y_ F_ K_ hK_
  refine sh_ (mm26 w0 Z0 a1 g10 g11 g19 g2 g9 r17 v18 v1_0) X_ Y_ ?_
  refine al_val (ov_load (i := 1) (v := (iq r17.2.e)) rfl rfl Tryz.underlying30 sz30 rfl rfl rfl rfl) ?_
  refine al_nil ?_
  exact fr_fin hK_ ()⟩, trivial⟩ ?_
 intro _
 intro X_ Y_ F_ K_ hK_
 refine sh_ (mm26 w0 Z0 a1 g10 g11 g19 g2 g9 r17 v18 v1_0) X_ Y_ ?_
 refine al_store (i := 5) (vs := (cA8u8 zA8u8)) (cs' := (cA8u8 zA8u8)) rfl rfl rfl sz29 (cv_rfl rfl) rfl (co_all (oneA8u8 zA8u8)) (Nat.le_of_ble_eq_true rfl) rfl rfl ?_
 refine al_nil ?_
 refine aq_show (m := Mem.plus (mm26 w0 Z0 a1 g10 g11 g19 g2 g9 r17 v18 v1_0) X_ Y_) ?_
 refine aq_next hK_ [0, 1, 2, 3, 4, 5] [0, 1, 2] [(4, nS), (5, (pq g2)), (9, (pq g11))] [63, 64, 65, 66] [] rfl rfl (by decide) rfl ⟨rfl, rfl, rfl, trivial⟩ ⟨rfl, rfl, rfl, rfl, trivial⟩ ?_
 clear hK_ K_ F_ X_ Y_
 refine ta_show (m := (mm26 w0 Z0 a1 g10 g11 g19 g2 g9 r17 v18 v1_0)) (S := _) ?_
 refine ta_step 7 _ [1, 2, 3, 4] [63, 64, 65, 66] [1, 2, 3, 4] [] [(sp_ 1 63 (pq g11)), (sp_ 2 64 (pq g11)), (sp_ 3 65 (ptr g11 7)), (sp_ 4 66 (iq r17.2.e))] [] rfl rfl rfl (by kernel_rfl) rfl rfl rfl ⟨⟨_, rfl, [], rfl, by
  intro X_ Y_ F_ K_ hK_
  refine sh_ (mm26 w0 Z0 a1 g10 g11 g19 g2 g9 r17 v18 v1_0) X_ Y_ ?_
  refine mv_ ?_
  refine al_nil ?_
  exact fr_fin hK_ ()⟩, ⟨_, rfl, [0], rfl, by
  intro _
  intro X_ Y_ F_ K_ hK_
  refine sh_ (mm26 w0 Z0 a1 g10 g11 g19 g2 g9 r17 v18 v1_0) X_ Y_ ?_
  refine al_val (ov_nilCheck rfl rfl) ?_
  refine al_nil ?_
  exact fr_fin hK_ ()⟩, ⟨_, rfl, [1], rfl, by
  intro _
  intro X_ Y_ F_ K_ hK_
  refine sh_ (mm26 w0 Z0 a1 g10 g11 g19 g2 g9 r17 v18 v1_0) X_ Y_ ?_
  refine al_val (ov_fieldA (p := 7) rfl Tryz.underlying43 rfl sz30 rfl rfl rfl) ?_
  refine al_nil ?_
  exact fr_fin hK_ ()⟩, ⟨_, rfl, [2], rfl, by
  intro _
  intro X_ Y_ F_ K_ hK_
  refine sh_ (mm26 w0 Z0 a1 g10 g11 g19 g2 g9 r17 v18 v1_0) X_ Y_ ?_
  refine al_val (ov_load (i := 1) (v := (iq r17.2.e)) rfl rfl Tryz.underlying30 sz30 rfl rfl rfl rfl) ?_
  refine al_nil ?_
  exact fr_fin hK_ ()⟩, trivial⟩ ?_
 intro _
 intro _
 intro _
 intro _
 intro X_ Y_ F_ K_ hK_
 refine sh_ (mm26 w0 Z0 a1 g10 g11 g19 g2 g9 r17 v18 v1_0) X_ Y_ ?_
 refine as_ ?_
 refine al_nil ?_
 refine aq_show (m := Mem.plus (mm26 w0 Z0 a1 g10 g11 g19 g2 g9 r17 v18 v1_0) X_ Y_) ?_
 refine aq_next hK_ [0, 1, 2, 3, 4, 5] [0, 1, 2] [(4, nS), (5, (pq g2)), (6, (iq r17.2.e))] [] [] rfl rfl (by decide) rfl ⟨rfl, rfl, rfl, trivial⟩ trivial ?_
 clear hK_ K_ F_ X_ Y_
 refine ta_show (m := (mm26 w0 Z0 a1 g10 g11 g19 g2 g9 r17 v18 v1_0)) (S := _) ?_
 refine ta_end [] [] rfl rfl (by kernel_rfl) rfl trivial ?_
 refine aq_show (m := (mm26 w0 Z0 a1 g10 g11 g19 g2 g9 r17 v18 v1_0)) (S := (tab [(4, nS), (5, (pq g2)), (6, (iq r17.2.e))])) ?_
 refine aq_then ?_
 refine aw_ret ?_
 refine aq_then_ret ?_
 refine aq_nilR 37 tyS_api_Blob ?_
 cases h
 exact fn_ret nS [0] [] rfl rfl rfl rfl (resC rfl (resT rfl (resB (i := 6) rfl rfl Tryz.underlying29 sz29 rfl rfl rfl (resT rfl (resN)))) rfl) rfl rfl rfl (by decide)
 replace h := bif_f hb20 h
 refine aw_skip ?_
 refine aq_then ?_
 refine aw_seq ?_
 refine aw_region_open [(sp_ 0 67 (pq g11)), (sp_ 1 68 (pq g11)), (sp_ 2 69 (ptr g11 5)), (sp_ 3 70 v18), (sp_ 4 71 (ag (cA8u8 r17.1)))] (tab [(5, (pq g2)), (9, (pq g11)), (12, (pq g19))]) mixed (fun a hs => hs.tab _ (allT_mem ⟨rfl, rfl, rfl, trivial⟩)) ?_
 refine ta_show (m := (mm26 w0 Z0 a1 g10 g11 g19 g2 g9 r17 v18 v1_0)) (S := _) ?_
 refine ta_step 5 _ [0, 1, 2, 3, 4] [67, 68, 69, 70, 71] [0, 1, 2, 3] [] [(sp_ 0 67 (pq g11)), (sp_ 1 68 (pq g11)), (sp_ 2 69 (ptr g11 5)), (sp_ 3 70 v18)] [(sp_ 4 71 (ag (cA8u8 r17.1)))] rfl rfl rfl (by kernel_rfl) rfl rfl rfl ⟨⟨_, rfl, [], rfl, by
  intro X_ Y_ F_ K_ hK_
  refine sh_ (mm26 w0 Z0 a1 g10 g11 g19 g2 g9 r17 v18 v1_0) X_ Y_ ?_
  refine mv_ ?_
  refine al_nil ?_
  exact fr_fin hK_ ()⟩, ⟨_, rfl, [0], rfl, by
  intro _
  intro X_ Y_ F_ K_ hK_
  refine sh_ (mm26 w0 Z0 a1 g10 g11 g19 g2 g9 r17 v18 v1_0) X_ Y_ ?_
  refine al_val (ov_nilCheck rfl rfl) ?_
  refine al_nil ?_
  exact fr_fin hK_ ()⟩, ⟨_, rfl, [1], rfl, by
  intro _
  intro X_ Y_ F_ K_ hK_
  refine sh_ (mm26 w0 Z0 a1 g10 g11 g19 g2 g9 r17 v18 v1_0) X_ Y_ ?_
  refine al_val (ov_fieldA (p := 5) rfl Tryz.underlying43 rfl sz27 rfl rfl rfl) ?_
  refine al_nil ?_
  exact fr_fin hK_ ()⟩, ⟨_, rfl, [2], rfl, by
  intro _
  intro X_ Y_ F_ K_ hK_
  refine sh_ (mm26 w0 Z0 a1 g10 g11 g19 g2 g9 r17 v18 v1_0) X_ Y_ ?_
  refine al_val (ov_load (i := 1) (v := v18) rfl rfl Tryz.underlying27 sz27 rfl rfl rfl rfl) ?_
  refine al_nil ?_
  exact fr_fin hK_ ()⟩, ⟨_, rfl, [], rfl, by
  intro X_ Y_ F_ K_ hK_
  refine sh_ (mm26 w0 Z0 a1 g10 g11 g19 g2 g9 r17 v18 v1_0) X_ Y_ ?_
  refine al_val (ov_load (i := 0) (v := (ag (cA8u8 r17.1))) rfl rfl Tryz.underlying29 sz29 rfl rfl rfl rfl) ?_
  refine al_nil ?_
  exact fr_fin hK_ ()⟩, trivial⟩ ?_
 intro _
 intro _
 intro _
 intro _
 intro X_ Y_ F_ K_ hK_
 refine sh_ (mm26 w0 Z0 a1 g10 g11 g19 g2 g9 r17 v18 v1_0) X_ Y_ ?_
 refine as_ ?_
 refine al_nil ?_
 refine aq_show (m := Mem.plus (mm26 w0 Z0 a1 g10 g11 g19 g2 g9 r17 v18 v1_0) X_ Y_) ?_
 refine aq_next hK_ [0, 1, 2, 3, 4, 5] [0, 1, 2] [(4, v18), (5, (pq g2)), (12, (pq g19))] [71] [] rfl rfl (by decide) rfl ⟨rfl, rfl, rfl, trivial⟩ ⟨rfl, trivial⟩ ?_
 clear hK_ K_ F_ X_ Y_
 refine ta_show (m := (mm26 w0 Z0 a1 g10 g11 g19 g2 g9 r17 v18 v1_0)) (S := _) ?_
 refine ta_step 6 _ [4] [71] [4] [] [(sp_ 4 71 (ag (cA8u8 r17.1)))] [] rfl rfl rfl (by kernel_rfl) rfl rfl rfl ⟨⟨_, rfl, [], rfl, by
  intro X_ Y_ F_ K_ hK_
  refine sh_ (mm26 w0 Z0 a1 g10 g11 g19 g2 g9 r17 v18 v1_0) X_ Y_ ?_
  refine al_val (ov_load (i := 0) (v := (ag (cA8u8 r17.1))) rfl rfl Tryz.underlying29 sz29 rfl rfl rfl rfl) ?_
  refine al_nil ?_
  exact fr_fin hK_ ()⟩, trivial⟩ ?_
 intro _
 intro X_ Y_ F_ K_ hK_
 refine sh_ (mm26 w0 Z0 a1 g10 g11 g19 g2 g9 r17 v18 v1_0) X_ Y_ ?_
 refine al_store (i := 5) (vs := (cA8u8 r17.1)) (cs' := (cA8u8 r17.1)) rfl rfl rfl sz29 (cv_rfl rfl) rfl (co_all (oneA8u8 r17.1)) (Nat.le_of_ble_eq_true rfl) rfl rfl ?_
 refine al_nil ?_
 refine aq_show (m := Mem.plus (mm27 w0 Z0 a1 g10 g11 g19 g2 g9 r17 v18 v1_0) X_ Y_) ?_
 refine aq_next hK_ [0, 1, 2, 3, 4, 5] [0, 1, 2] [(4, v18), (5, (pq g2))] [] [] rfl rfl (by decide) rfl ⟨rfl, rfl, trivial⟩ trivial ?_
 clear hK_ K_ F_ X_ Y_
 refine ta_show (m := (mm27 w0 Z0 a1 g10 g11 g19 g2 g9 r17 v18 v1_0)) (S := _) ?_
 refine ta_step 7 _ [] [] [] [] [] [] rfl rfl rfl (by kernel_rfl) rfl rfl rfl trivial ?_
 intro X_ Y_ F_ K_ hK_
 refine sh_ (mm27 w0 Z0 a1 g10 g11 g19 g2 g9 r17 v18 v1_0) X_ Y_ ?_
 refine as_ ?_
 refine al_nil ?_
 refine aq_show (m := Mem.plus (mm27 w0 Z0 a1 g10 g11 g19 g2 g9 r17 v18 v1_0) X_ Y_) ?_
 refine aq_next hK_ [0, 1, 2, 3, 4, 5] [0, 1, 2] [(4, v18), (5, (pq g2)), (6, (iq (0 : Int)))] [] [] rfl rfl (by decide) rfl ⟨rfl, rfl, rfl, trivial⟩ trivial ?_
 clear hK_ K_ F_ X_ Y_
 refine ta_show (m := (mm27 w0 Z0 a1 g10 g11 g19 g2 g9 r17 v18 v1_0)) (S := _) ?_
 refine ta_end [] [] rfl rfl (by kernel_rfl) rfl trivial ?_
 refine aq_show (m := (mm27 w0 Z0 a1 g10 g11 g19 g2 g9 r17 v18 v1_0)) (S := (tab [(4, v18), (5, (pq g2)), (6, (iq (0 : Int)))])) ?_
 refine aq_then ?_
 refine aw_ret ?_
 cases h
 exact fn_ret v18 [3] [] rfl rfl rfl rfl (resC rfl (resT rfl (resB (i := 5) rfl rfl Tryz.underlying29 sz29 rfl rfl rfl (resT rfl (resN)))) rfl) rfl rfl rfl (by decide)
 clear hkk13
 refine sm_ ?_
 refine al_val (ov_lenD 0 rfl rfl Tryz.underlying26 rfl) ?_
 refine mv_ ?_
 refine al_nt ?_
 refine aw_block ?_
 refine aw_state (aw_loop (ι := (List ((List UInt8) × Option (List S_api_Item))) × (List Value) × Int) (fun i => (mm28 w0 Z0 a0 a1 g10 g11 g2 g9 i.2.1 i.1 v1_0)) (fun i => (tab [(5, (pq g2)), (9, (pq g11)), (30, v1_0), (31, (iq (a1.length : Int))), (32, (iq i.2.2))])) (fun q i => f_walk_Plant_L23 a1 kk13 fu q i.1 i.2.2 = some r) ?_ fu (([] : List ((List UInt8) × Option (List S_api_Item))), ([] : List Value), (0 : Int)) h) (nm_ [3, 2, 1, 0] [0, 1, 2] (by decide) ⟨rfl, rfl, rfl, rfl, rfl, trivial⟩)
 clear h
 rintro k22 ⟨l21xm9_4, l21um9_4, l21i32⟩ h
 have h : f_walk_Plant_L23 a1 kk13 fu k22 l21xm9_4 l21i32 = some r := h
 obtain _ | k22 := k22
 rw [f_walk_Plant_L23] at h; cases h
 rw [f_walk_Plant_L23] at h
 refine aw_show (m := (mm28 w0 Z0 a0 a1 g10 g11 g2 g9 l21um9_4 l21xm9_4 v1_0)) (S := _) ?_
 refine aw_sr ?_
 refine im_ ?_
 refine aw_seq ?_
 refine aw_cond rfl (fun hb24 => ?_) (fun hb24 => ?_)
 replace h := bif_t hb24 h
 refine aw_skip ?_
 refine aq_then ?_
 refine aw_seq ?_
 refine aw_block ?_
 refine aw_sr ?_
 obtain ⟨u25, hu26, h⟩ := opt_some h
 refine al_idxD 0 hu26 rfl rfl rfl Tryz.underlying26 sz45 rfl (fun p27 => ?_)
 refine al_val (ov_loadP (ds := [(str u25.Path), (iq u25.Kind), (iq u25.Mode), (iq u25.Time), (str u25.Bytes)]) 0 rfl encS_api_Item rfl Tryz.underlying45 sz45 rfl rfl rfl) ?_
 refine al_alloc (zs := [(str ([] : List UInt8)), (iq (0 : Int)), (iq (0 : Int)), (iq (0 : Int)), (str ([] : List UInt8))]) (zeroOf_to to45) rfl rfl (fun g28 => ?_)
 refine al_store (i := 0) (vs := [(str u25.Path), (iq u25.Kind), (iq u25.Mode), (iq u25.Time), (str u25.Bytes)]) (cs' := [(str u25.Path), (iq u25.Kind), (iq u25.Mode), (iq u25.Time), (str u25.Bytes)]) rfl rfl rfl sz45 (cv_rfl rfl) rfl (co_val rfl (co_val rfl (co_val rfl (co_val rfl (co_val rfl co_nil))))) (Nat.le_of_ble_eq_true rfl) rfl rfl ?_
 refine al_nt ?_
 refine aw_region_open [(sp_ 0 36 (pq g11)), (sp_ 1 37 (pq g11)), (sp_ 2 38 (ptr g11 4)), (sp_ 3 39 (Value.map (some g9))), (sp_ 4 40 (pq g28)), (sp_ 5 41 (str u25.Path)), (sp_ 7 43 (pq g11)), (sp_ 8 44 (pq g11)), (sp_ 9 45 (ptr g11 4)), (sp_ 10 46 (Value.map (some g9))), (sp_ 11 47 (pq g28)), (sp_ 12 48 (str u25.Path)), (sp_ 15 51 (ag [(str u25.Path), (iq u25.Kind), (iq u25.Mode), (iq u25.Time), (str u25.Bytes)])), ⟨16, 52, Value, fun (i : Value) => { val := i, own := [(oRow i 45 tyS_api_Item [u25])] }⟩] (tab [(5, (pq g2)), (9, (pq g11)), (11, (pq g28)), (30, v1_0), (31, (iq (a1.length : Int))), (32, (iq l21i32))]) mixed (fun a hs => hs.tab _ (allT_mem ⟨rfl, rfl, rfl, rfl, rfl, rfl, trivial⟩)) ?_
 refine ta_show (m := (mm29 w0 Z0 a0 a1 g10 g11 g2 g28 g9 l21um9_4 l21xm9_4 p27 u25 v1_0)) (S := _) ?_
 refine ta_step 6 _ [0, 1, 2, 3, 4, 5, 7, 8, 9, 10, 11, 12, 15, 16] [36, 37, 38, 39, 40, 41, 43, 44, 45, 46, 47, 48, 51, 52] [4, 5] [] [(sp_ 4 40 (pq g28)), (sp_ 5 41 (str u25.Path))] [(sp_ 0 36 (pq g11)), (sp_ 1 37 (pq g11)), (sp_ 2 38 (ptr g11 4)), (sp_ 3 39 (Value.map (some g9))), (sp_ 7 43 (pq g11)), (sp_ 8 44 (pq g11)), (sp_ 9 45 (ptr g11 4)), (sp_ 10 46 (Value.map (some g9))), (sp_ 11 47 (pq g28)), (sp_ 12 48 (str u25.Path)), (sp_ 15 51 (ag [(str u25.Path), (iq u25.Kind), (iq u25.Mode), (iq u25.Time), (str u25.Bytes)])), ⟨16, 52, Value, fun (i : Value) => { val := i, own := [(oRow i 45 tyS_api_Item [u25])] }⟩] rfl rfl rfl (by kernel_rfl) rfl rfl rfl ⟨⟨_, rfl, [], rfl, by
  intro X_ Y_ F_ K_ hK_
  refine sh_ (mm29 w0 Z0 a0 a1 g10 g11 g2 g28 g9 l21um9_4 l21xm9_4 p27 u25 v1_0) X_ Y_ ?_
  refine mv_ ?_
  refine al_nil ?_
  exact fr_fin hK_ ()⟩, ⟨_, rfl, [0], rfl, by
  intro _
  intro X_ Y_ F_ K_ hK_
  refine sh_ (mm29 w0 Z0 a0 a1 g10 g11 g2 g28 g9 l21um9_4 l21xm9_4 p27 u25 v1_0) X_ Y_ ?_
  refine al_val (ov_nilCheck rfl rfl) ?_
  refine al_nil ?_
  exact fr_fin hK_ ()⟩, ⟨_, rfl, [1], rfl, by
  intro _
  intro X_ Y_ F_ K_ hK_
  refine sh_ (mm29 w0 Z0 a0 a1 g10 g11 g2 g28 g9 l21um9_4 l21xm9_4 p27 u25 v1_0) X_ Y_ ?_
  refine al_val (ov_fieldA (p := 4) rfl Tryz.underlying43 rfl sz40 rfl rfl rfl) ?_
  refine al_nil ?_
  exact fr_fin hK_ ()⟩, ⟨_, rfl, [2], rfl, by
  intro _
  intro X_ Y_ F_ K_ hK_
  refine sh_ (mm29 w0 Z0 a0 a1 g10 g11 g2 g28 g9 l21um9_4 l21xm9_4 p27 u25 v1_0) X_ Y_ ?_
  refine al_val (ov_load (i := 4) (v := (Value.map (some g9))) rfl rfl Tryz.underlying40 sz40 rfl rfl rfl rfl) ?_
  refine al_nil ?_
  exact fr_fin hK_ ()⟩, ⟨_, rfl, [], rfl, by
  intro X_ Y_ F_ K_ hK_
  refine sh_ (mm29 w0 Z0 a0 a1 g10 g11 g2 g28 g9 l21um9_4 l21xm9_4 p27 u25 v1_0) X_ Y_ ?_
  refine al_val (ov_fieldA (p := 0) rfl Tryz.underlying45 rfl sz9 rfl rfl rfl) ?_
  refine al_nil ?_
  exact fr_fin hK_ ()⟩, ⟨_, rfl, [4], rfl, by
  intro _
  intro X_ Y_ F_ K_ hK_
  refine sh_ (mm29 w0 Z0 a0 a1 g10 g11 g2 g28 g9 l21um9_4 l21xm9_4 p27 u25 v1_0) X_ Y_ ?_
  refine al_val (ov_load (i := 0) (v := (str u25.Path)) rfl rfl Tryz.underlying9 sz9 rfl rfl rfl rfl) ?_
  refine al_nil ?_
  exact fr_fin hK_ ()⟩, ⟨_, rfl, [], rfl, by
  intro X_ Y_ F_ K_ hK_
  refine sh_ (mm29 w0 Z0 a0 a1 g10 g11 g2 g28 g9 l21um9_4 l21xm9_4 p27 u25 v1_0) X_ Y_ ?_
  refine mv_ ?_
  refine al_nil ?_
  exact fr_fin hK_ ()⟩, ⟨_, rfl, [6], rfl, by
  intro _
  intro X_ Y_ F_ K_ hK_
  refine sh_ (mm29 w0 Z0 a0 a1 g10 g11 g2 g28 g9 l21um9_4 l21xm9_4 p27 u25 v1_0) X_ Y_ ?_
  refine al_val (ov_nilCheck rfl rfl) ?_
  refine al_nil ?_
  exact fr_fin hK_ ()⟩, ⟨_, rfl, [7], rfl, by
  intro _
  intro X_ Y_ F_ K_ hK_
  refine sh_ (mm29 w0 Z0 a0 a1 g10 g11 g2 g28 g9 l21um9_4 l21xm9_4 p27 u25 v1_0) X_ Y_ ?_
  refine al_val (ov_fieldA (p := 4) rfl Tryz.underlying43 rfl sz40 rfl rfl rfl) ?_
  refine al_nil ?_
  exact fr_fin hK_ ()⟩, ⟨_, rfl, [8], rfl, by
  intro _
  intro X_ Y_ F_ K_ hK_
  refine sh_ (mm29 w0 Z0 a0 a1 g10 g11 g2 g28 g9 l21um9_4 l21xm9_4 p27 u25 v1_0) X_ Y_ ?_
  refine al_val (ov_load (i := 4) (v := (Value.map (some g9))) rfl rfl Tryz.underlying40 sz40 rfl rfl rfl rfl) ?_
  refine al_nil ?_
  exact fr_fin hK_ ()⟩, ⟨_, rfl, [], rfl, by
  intro X_ Y_ F_ K_ hK_
  refine sh_ (mm29 w0 Z0 a0 a1 g10 g11 g2 g28 g9 l21um9_4 l21xm9_4 p27 u25 v1_0) X_ Y_ ?_
  refine al_val (ov_fieldA (p := 0) rfl Tryz.underlying45 rfl sz9 rfl rfl rfl) ?_
  refine al_nil ?_
  exact fr_fin hK_ ()⟩, ⟨_, rfl, [10], rfl, by
  intro _
  intro X_ Y_ F_ K_ hK_
  refine sh_ (mm29 w0 Z0 a0 a1 g10 g11 g2 g28 g9 l21um9_4 l21xm9_4 p27 u25 v1_0) X_ Y_ ?_
  refine al_val (ov_load (i := 0) (v := (str u25.Path)) rfl rfl Tryz.underlying9 sz9 rfl rfl rfl rfl) ?_
  refine al_nil ?_
  exact fr_fin hK_ ()⟩, ⟨_, rfl, [], rfl, by
  intro X_ Y_ F_ K_ hK_
  refine sh_ (mm29 w0 Z0 a0 a1 g10 g11 g2 g28 g9 l21um9_4 l21xm9_4 p27 u25 v1_0) X_ Y_ ?_
  refine al_val (ov_load (i := 0) (v := (ag [(str u25.Path), (iq u25.Kind), (iq u25.Mode), (iq u25.Time), (str u25.Bytes)])) rfl rfl Tryz.underlying45 sz45 rfl rfl rfl rfl) ?_
  refine al_nil ?_
  exact fr_fin hK_ ()⟩, ⟨_, rfl, [12], rfl, by
  intro _
  intro X_ Y_ F_ K_ hK_
  refine sh_ (mm29 w0 Z0 a0 a1 g10 g11 g2 g28 g9 l21um9_4 l21xm9_4 p27 u25 v1_0) X_ Y_ ?_
  refine al_buildSlice (τ := tyS_api_Item) (e := 45) (k := 1) (sz := 0) (by_ := 0) (z := undef) (cs := [(str u25.Path), (iq u25.Kind), (iq u25.Mode), (iq u25.Time), (str u25.Bytes)]) (xs := [u25]) rfl (by decide) (fun w a hm hs => ⟨([(str u25.Path), (iq u25.Kind), (iq u25.Mode), (iq u25.Time), (str u25.Bytes)]).toArray, rfl, by simp only [List.map_toArray, List.map_cons, List.map_nil, hs.ev (x := .tmp 51) rfl]; exact run_bs [(ag [(str u25.Path), (iq u25.Kind), (iq u25.Mode), (iq u25.Time), (str u25.Bytes)])] [(str u25.Path), (iq u25.Kind), (iq u25.Mode), (iq u25.Time), (str u25.Bytes)] Tryz.underlying26 to45 rfl rfl (bs_cons (l := [(str u25.Path), (iq u25.Kind), (iq u25.Mode), (iq u25.Time), (str u25.Bytes)]) (cs := []) (cv_rfl rfl) rfl bs_nil) hm⟩) (fun hm => ⟨_, _, rfl, (fun _ => mkS_api_Item rfl) hm, rfl⟩) rfl (fun v29 => ?_)
  refine al_nil ?_
  exact fr_fin hK_ v29⟩, trivial⟩ ?_
 intro _
 intro _
 intro X_ Y_ F_ K_ hK_
 refine sh_ (mm29 w0 Z0 a0 a1 g10 g11 g2 g28 g9 l21um9_4 l21xm9_4 p27 u25 v1_0) X_ Y_ ?_
 obtain ⟨r31, hc30, h⟩ := opt_some h
 refine al_callX (vs := [(str u25.Path)]) (f_walk_Parent_ok fu u25.Path hc30) [] [] [0, 1, 2, 3, 4] pre_nil rfl (by simp) (by decide) rfl (.inl rfl) rfl Tryz.func11 rfl rfl rfl (fun _ => ?_)
 refine al_nil ?_
 refine aq_show (m := Mem.plus (mm29 w0 Z0 a0 a1 g10 g11 g2 g28 g9 l21um9_4 l21xm9_4 p27 u25 v1_0) X_ Y_) ?_
 refine aq_next hK_ [0, 1, 2, 3, 4] [0, 1, 2, 3] [(5, (pq g2)), (9, (pq g11)), (11, (pq g28)), (30, v1_0), (31, (iq (a1.length : Int))), (32, (iq l21i32)), (42, (str r31))] [36, 37, 38, 39, 43, 44, 45, 46, 47, 48, 51, 52] [] rfl rfl (by decide) rfl ⟨rfl, rfl, rfl, rfl, rfl, rfl, rfl, trivial⟩ ⟨rfl, rfl, rfl, rfl, rfl, rfl, rfl, rfl, rfl, rfl, rfl, rfl, trivial⟩ ?_
 clear hK_ K_ F_ X_ Y_
 refine ta_show (m := (mm29 w0 Z0 a0 a1 g10 g11 g2 g28 g9 l21um9_4 l21xm9_4 p27 u25 v1_0)) (S := _) ?_
 refine ta_step 13 _ [0, 1, 2, 3, 7, 8, 9, 10, 11, 12, 15, 16] [36, 37, 38, 39, 43, 44, 45, 46, 47, 48, 51, 52] [11, 12] [] [(sp_ 11 47 (pq g28)), (sp_ 12 48 (str u25.Path))] [(sp_ 0 36 (pq g11)), (sp_ 1 37 (pq g11)), (sp_ 2 38 (ptr g11 4)), (sp_ 3 39 (Value.map (some g9))), (sp_ 7 43 (pq g11)), (sp_ 8 44 (pq g11)), (sp_ 9 45 (ptr g11 4)), (sp_ 10 46 (Value.map (some g9))), (sp_ 15 51 (ag [(str u25.Path), (iq u25.Kind), (iq u25.Mode), (iq u25.Time), (str u25.Bytes)])), ⟨16, 52, Value, fun (i : Value) => { val := i, own := [(oRow i 45 tyS_api_Item [u25])] }⟩] rfl rfl rfl (by kernel_rfl) rfl rfl rfl ⟨⟨_, rfl, [], rfl, by
  intro X_ Y_ F_ K_ hK_
  refine sh_ (mm29 w0 Z0 a0 a1 g10 g11 g2 g28 g9 l21um9_4 l21xm9_4 p27 u25 v1_0) X_ Y_ ?_
  refine mv_ ?_
  refine al_nil ?_
  exact fr_fin hK_ ()⟩, ⟨_, rfl, [0], rfl, by
  intro _
  intro X_ Y_ F_ K_ hK_
  refine sh_ (mm29 w0 Z0 a0 a1 g10 g11 g2 g28 g9 l21um9_4 l21xm9_4 p27 u25 v1_0) X_ Y_ ?_
  refine al_val (ov_nilCheck rfl rfl) ?_
  refine al_nil ?_
  exact fr_fin hK_ ()⟩, ⟨_, rfl, [1], rfl, by
  intro _
  intro X_ Y_ F_ K_ hK_
  refine sh_ (mm29 w0 Z0 a0 a1 g10 g11 g2 g28 g9 l21um9_4 l21xm9_4 p27 u25 v1_0) X_ Y_ ?_
  refine al_val (ov_fieldA (p := 4) rfl Tryz.underlying43 rfl sz40 rfl rfl rfl) ?_
  refine al_nil ?_
  exact fr_fin hK_ ()⟩, ⟨_, rfl, [2], rfl, by
  intro _
  intro X_ Y_ F_ K_ hK_
  refine sh_ (mm29 w0 Z0 a0 a1 g10 g11 g2 g28 g9 l21um9_4 l21xm9_4 p27 u25 v1_0) X_ Y_ ?_
  refine al_val (ov_load (i := 4) (v := (Value.map (some g9))) rfl rfl Tryz.underlying40 sz40 rfl rfl rfl rfl) ?_
  refine al_nil ?_
  exact fr_fin hK_ ()⟩, ⟨_, rfl, [], rfl, by
  intro X_ Y_ F_ K_ hK_
  refine sh_ (mm29 w0 Z0 a0 a1 g10 g11 g2 g28 g9 l21um9_4 l21xm9_4 p27 u25 v1_0) X_ Y_ ?_
  refine mv_ ?_
  refine al_nil ?_
  exact fr_fin hK_ ()⟩, ⟨_, rfl, [4], rfl, by
  intro _
  intro X_ Y_ F_ K_ hK_
  refine sh_ (mm29 w0 Z0 a0 a1 g10 g11 g2 g28 g9 l21um9_4 l21xm9_4 p27 u25 v1_0) X_ Y_ ?_
  refine al_val (ov_nilCheck rfl rfl) ?_
  refine al_nil ?_
  exact fr_fin hK_ ()⟩, ⟨_, rfl, [5], rfl, by
  intro _
  intro X_ Y_ F_ K_ hK_
  refine sh_ (mm29 w0 Z0 a0 a1 g10 g11 g2 g28 g9 l21um9_4 l21xm9_4 p27 u25 v1_0) X_ Y_ ?_
  refine al_val (ov_fieldA (p := 4) rfl Tryz.underlying43 rfl sz40 rfl rfl rfl) ?_
  refine al_nil ?_
  exact fr_fin hK_ ()⟩, ⟨_, rfl, [6], rfl, by
  intro _
  intro X_ Y_ F_ K_ hK_
  refine sh_ (mm29 w0 Z0 a0 a1 g10 g11 g2 g28 g9 l21um9_4 l21xm9_4 p27 u25 v1_0) X_ Y_ ?_
  refine al_val (ov_load (i := 4) (v := (Value.map (some g9))) rfl rfl Tryz.underlying40 sz40 rfl rfl rfl rfl) ?_
  refine al_nil ?_
  exact fr_fin hK_ ()⟩, ⟨_, rfl, [], rfl, by
  intro X_ Y_ F_ K_ hK_
  refine sh_ (mm29 w0 Z0 a0 a1 g10 g11 g2 g28 g9 l21um9_4 l21xm9_4 p27 u25 v1_0) X_ Y_ ?_
  refine al_val (ov_fieldA (p := 0) rfl Tryz.underlying45 rfl sz9 rfl rfl rfl) ?_
  refine al_nil ?_
  exact fr_fin hK_ ()⟩, ⟨_, rfl, [8], rfl, by
  intro _
  intro X_ Y_ F_ K_ hK_
  refine sh_ (mm29 w0 Z0 a0 a1 g10 g11 g2 g28 g9 l21um9_4 l21xm9_4 p27 u25 v1_0) X_ Y_ ?_
  refine al_val (ov_load (i := 0) (v := (str u25.Path)) rfl rfl Tryz.underlying9 sz9 rfl rfl rfl rfl) ?_
  refine al_nil ?_
  exact fr_fin hK_ ()⟩, ⟨_, rfl, [], rfl, by
  intro X_ Y_ F_ K_ hK_
  refine sh_ (mm29 w0 Z0 a0 a1 g10 g11 g2 g28 g9 l21um9_4 l21xm9_4 p27 u25 v1_0) X_ Y_ ?_
  refine al_val (ov_load (i := 0) (v := (ag [(str u25.Path), (iq u25.Kind), (iq u25.Mode), (iq u25.Time), (str u25.Bytes)])) rfl rfl Tryz.underlying45 sz45 rfl rfl rfl rfl) ?_
  refine al_nil ?_
  exact fr_fin hK_ ()⟩, ⟨_, rfl, [10], rfl, by
  intro _
  intro X_ Y_ F_ K_ hK_
  refine sh_ (mm29 w0 Z0 a0 a1 g10 g11 g2 g28 g9 l21um9_4 l21xm9_4 p27 u25 v1_0) X_ Y_ ?_
  refine al_buildSlice (τ := tyS_api_Item) (e := 45) (k := 1) (sz := 0) (by_ := 0) (z := undef) (cs := [(str u25.Path), (iq u25.Kind), (iq u25.Mode), (iq u25.Time), (str u25.Bytes)]) (xs := [u25]) rfl (by decide) (fun w a hm hs => ⟨([(str u25.Path), (iq u25.Kind), (iq u25.Mode), (iq u25.Time), (str u25.Bytes)]).toArray, rfl, by simp only [List.map_toArray, List.map_cons, List.map_nil, hs.ev (x := .tmp 51) rfl]; exact run_bs [(ag [(str u25.Path), (iq u25.Kind), (iq u25.Mode), (iq u25.Time), (str u25.Bytes)])] [(str u25.Path), (iq u25.Kind), (iq u25.Mode), (iq u25.Time), (str u25.Bytes)] Tryz.underlying26 to45 rfl rfl (bs_cons (l := [(str u25.Path), (iq u25.Kind), (iq u25.Mode), (iq u25.Time), (str u25.Bytes)]) (cs := []) (cv_rfl rfl) rfl bs_nil) hm⟩) (fun hm => ⟨_, _, rfl, (fun _ => mkS_api_Item rfl) hm, rfl⟩) rfl (fun v29 => ?_)
  refine al_nil ?_
  exact fr_fin hK_ v29⟩, trivial⟩ ?_
 intro _
 intro _
 intro X_ Y_ F_ K_ hK_
 refine sh_ (mm29 w0 Z0 a0 a1 g10 g11 g2 g28 g9 l21um9_4 l21xm9_4 p27 u25 v1_0) X_ Y_ ?_
 obtain ⟨r33, hc32, h⟩ := opt_some h
 refine al_callX (vs := [(str u25.Path)]) (f_walk_Parent_ok fu u25.Path hc32) [] [] [0, 1, 2, 3, 4] pre_nil rfl (by simp) (by decide) rfl (.inl rfl) rfl Tryz.func11 rfl rfl rfl (fun _ => ?_)
 refine al_nil ?_
 refine aq_show (m := Mem.plus (mm29 w0 Z0 a0 a1 g10 g11 g2 g28 g9 l21um9_4 l21xm9_4 p27 u25 v1_0) X_ Y_) ?_
 refine aq_next hK_ [0, 1, 2, 3, 4] [0, 1, 2, 3] [(5, (pq g2)), (9, (pq g11)), (11, (pq g28)), (30, v1_0), (31, (iq (a1.length : Int))), (32, (iq l21i32)), (42, (str r31)), (49, (str r33))] [36, 37, 38, 39, 43, 44, 45, 46, 51, 52] [] rfl rfl (by decide) rfl ⟨rfl, rfl, rfl, rfl, rfl, rfl, rfl, rfl, trivial⟩ ⟨rfl, rfl, rfl, rfl, rfl, rfl, rfl, rfl, rfl, rfl, trivial⟩ ?_
 clear hK_ K_ F_ X_ Y_
 refine ta_show (m := (mm29 w0 Z0 a0 a1 g10 g11 g2 g28 g9 l21um9_4 l21xm9_4 p27 u25 v1_0)) (S := _) ?_
 refine ta_step 14 _ [0, 1, 2, 3, 7, 8, 9, 10, 15, 16] [36, 37, 38, 39, 43, 44, 45, 46, 51, 52] [7, 8, 9, 10] [] [(sp_ 7 43 (pq g11)), (sp_ 8 44 (pq g11)), (sp_ 9 45 (ptr g11 4)), (sp_ 10 46 (Value.map (some g9)))] [(sp_ 0 36 (pq g11)), (sp_ 1 37 (pq g11)), (sp_ 2 38 (ptr g11 4)), (sp_ 3 39 (Value.map (some g9))), (sp_ 15 51 (ag [(str u25.Path), (iq u25.Kind), (iq u25.Mode), (iq u25.Time), (str u25.Bytes)])), ⟨16, 52, Value, fun (i : Value) => { val := i, own := [(oRow i 45 tyS_api_Item [u25])] }⟩] rfl rfl rfl (by kernel_rfl) rfl rfl rfl ⟨⟨_, rfl, [], rfl, by
  intro X_ Y_ F_ K_ hK_
  refine sh_ (mm29 w0 Z0 a0 a1 g10 g11 g2 g28 g9 l21um9_4 l21xm9_4 p27 u25 v1_0) X_ Y_ ?_
  refine mv_ ?_
  refine al_nil ?_
  exact fr_fin hK_ ()⟩, ⟨_, rfl, [0], rfl, by
  intro _
  intro X_ Y_ F_ K_ hK_
  refine sh_ (mm29 w0 Z0 a0 a1 g10 g11 g2 g28 g9 l21um9_4 l21xm9_4 p27 u25 v1_0) X_ Y_ ?_
  refine al_val (ov_nilCheck rfl rfl) ?_
  refine al_nil ?_
  exact fr_fin hK_ ()⟩, ⟨_, rfl, [1], rfl, by
  intro _
  intro X_ Y_ F_ K_ hK_
  refine sh_ (mm29 w0 Z0 a0 a1 g10 g11 g2 g28 g9 l21um9_4 l21xm9_4 p27 u25 v1_0) X_ Y_ ?_
  refine al_val (ov_fieldA (p := 4) rfl Tryz.underlying43 rfl sz40 rfl rfl rfl) ?_
  refine al_nil ?_
  exact fr_fin hK_ ()⟩, ⟨_, rfl, [2], rfl, by
  intro _
  intro X_ Y_ F_ K_ hK_
  refine sh_ (mm29 w0 Z0 a0 a1 g10 g11 g2 g28 g9 l21um9_4 l21xm9_4 p27 u25 v1_0) X_ Y_ ?_
  refine al_val (ov_load (i := 4) (v := (Value.map (some g9))) rfl rfl Tryz.underlying40 sz40 rfl rfl rfl rfl) ?_
  refine al_nil ?_
  exact fr_fin hK_ ()⟩, ⟨_, rfl, [], rfl, by
  intro X_ Y_ F_ K_ hK_
  refine sh_ (mm29 w0 Z0 a0 a1 g10 g11 g2 g28 g9 l21um9_4 l21xm9_4 p27 u25 v1_0) X_ Y_ ?_
  refine mv_ ?_
  refine al_nil ?_
  exact fr_fin hK_ ()⟩, ⟨_, rfl, [4], rfl, by
  intro _
  intro X_ Y_ F_ K_ hK_
  refine sh_ (mm29 w0 Z0 a0 a1 g10 g11 g2 g28 g9 l21um9_4 l21xm9_4 p27 u25 v1_0) X_ Y_ ?_
  refine al_val (ov_nilCheck rfl rfl) ?_
  refine al_nil ?_
  exact fr_fin hK_ ()⟩, ⟨_, rfl, [5], rfl, by
  intro _
  intro X_ Y_ F_ K_ hK_
  refine sh_ (mm29 w0 Z0 a0 a1 g10 g11 g2 g28 g9 l21um9_4 l21xm9_4 p27 u25 v1_0) X_ Y_ ?_
  refine al_val (ov_fieldA (p := 4) rfl Tryz.underlying43 rfl sz40 rfl rfl rfl) ?_
  refine al_nil ?_
  exact fr_fin hK_ ()⟩, ⟨_, rfl, [6], rfl, by
  intro _
  intro X_ Y_ F_ K_ hK_
  refine sh_ (mm29 w0 Z0 a0 a1 g10 g11 g2 g28 g9 l21um9_4 l21xm9_4 p27 u25 v1_0) X_ Y_ ?_
  refine al_val (ov_load (i := 4) (v := (Value.map (some g9))) rfl rfl Tryz.underlying40 sz40 rfl rfl rfl rfl) ?_
  refine al_nil ?_
  exact fr_fin hK_ ()⟩, ⟨_, rfl, [], rfl, by
  intro X_ Y_ F_ K_ hK_
  refine sh_ (mm29 w0 Z0 a0 a1 g10 g11 g2 g28 g9 l21um9_4 l21xm9_4 p27 u25 v1_0) X_ Y_ ?_
  refine al_val (ov_load (i := 0) (v := (ag [(str u25.Path), (iq u25.Kind), (iq u25.Mode), (iq u25.Time), (str u25.Bytes)])) rfl rfl Tryz.underlying45 sz45 rfl rfl rfl rfl) ?_
  refine al_nil ?_
  exact fr_fin hK_ ()⟩, ⟨_, rfl, [8], rfl, by
  intro _
  intro X_ Y_ F_ K_ hK_
  refine sh_ (mm29 w0 Z0 a0 a1 g10 g11 g2 g28 g9 l21um9_4 l21xm9_4 p27 u25 v1_0) X_ Y_ ?_
  refine al_buildSlice (τ := tyS_api_Item) (e := 45) (k := 1) (sz := 0) (by_ := 0) (z := undef) (cs := [(str u25.Path), (iq u25.Kind), (iq u25.Mode), (iq u25.Time), (str u25.Bytes)]) (xs := [u25]) rfl (by decide) (fun w a hm hs => ⟨([(str u25.Path), (iq u25.Kind), (iq u25.Mode), (iq u25.Time), (str u25.Bytes)]).toArray, rfl, by simp only [List.map_toArray, List.map_cons, List.map_nil, hs.ev (x := .tmp 51) rfl]; exact run_bs [(ag [(str u25.Path), (iq u25.Kind), (iq u25.Mode), (iq u25.Time), (str u25.Bytes)])] [(str u25.Path), (iq u25.Kind), (iq u25.Mode), (iq u25.Time), (str u25.Bytes)] Tryz.underlying26 to45 rfl rfl (bs_cons (l := [(str u25.Path), (iq u25.Kind), (iq u25.Mode), (iq u25.Time), (str u25.Bytes)]) (cs := []) (cv_rfl rfl) rfl bs_nil) hm⟩) (fun hm => ⟨_, _, rfl, (fun _ => mkS_api_Item rfl) hm, rfl⟩) rfl (fun v29 => ?_)
  refine al_nil ?_
  exact fr_fin hK_ v29⟩, trivial⟩ ?_
 intro _
 intro _
 intro _
 intro _
 intro X_ Y_ F_ K_ hK_
 refine sh_ (mm29 w0 Z0 a0 a1 g10 g11 g2 g28 g9 l21um9_4 l21xm9_4 p27 u25 v1_0) X_ Y_ ?_
 obtain ⟨hc34, h⟩ := req_some h
 refine al_reoX [2, 0, 1, 3, 4] (by decide) rfl ?_
 refine sh_ (memOf w0 Z0 [] [(oMapR Tryz.prog 9 g9 str 45 tyS_api_Item l21um9_4 l21xm9_4), (oBox g28 45 [(str u25.Path), (iq u25.Kind), (iq u25.Mode), (iq u25.Time), (str u25.Bytes)]), (oBox g2 29 (cA8u8 zA8u8)), (oMapK Tryz.prog 29 g10 (fun x : A8u8 => ag (cA8u8 x)) (fun x : S_api_Blob => ag [(iq x.Kind), (str x.Bytes)]) ([] : List (A8u8 × S_api_Blob))), (oBox g11 43 [(iq a0.Fixed), (iq a0.Cut.Min), (iq a0.Cut.Max), (iq a0.Cut.Bits), (Value.map (some g9)), nS, (Value.map (some g10)), (iq (0 : Int))])] [(fPtr tyS_api_Item p27 u25), (fDat (tyList tyS_api_Item) [v1_0] a1), uMax, uTabs]) X_ Y_ ?_
 obtain ⟨xs35, hx36, h⟩ := opt_some h
 refine al_lookTake (ek := str) (k := r33) kd9 str_inj (key_str Tryz.underlying9 hc34) hx36 rfl rfl rfl Tryz.underlying40 (zeroOf_to to26) rfl (fun v37 => ?_)
 refine sh_ (mm30 w0 Z0 a0 a1 g10 g11 g2 g28 g9 l21um9_4 l21xm9_4 p27 r33 u25 v1_0 v37 xs35) X_ Y_ ?_
 refine al_nil ?_
 refine aq_show (m := Mem.plus (mm30 w0 Z0 a0 a1 g10 g11 g2 g28 g9 l21um9_4 l21xm9_4 p27 r33 u25 v1_0 v37 xs35) X_ Y_) ?_
 refine aq_next hK_ [0, 1, 2, 3, 4, 5] [0, 1, 2, 3] [(5, (pq g2)), (9, (pq g11)), (11, (pq g28)), (30, v1_0), (31, (iq (a1.length : Int))), (32, (iq l21i32)), (42, (str r31)), (50, v37)] [36, 37, 38, 39, 51, 52] [] rfl rfl (by decide) rfl ⟨rfl, rfl, rfl, rfl, rfl, rfl, rfl, rfl, trivial⟩ ⟨rfl, rfl, rfl, rfl, rfl, rfl, trivial⟩ ?_
 clear hK_ K_ F_ X_ Y_
 refine ta_show (m := (mm30 w0 Z0 a0 a1 g10 g11 g2 g28 g9 l21um9_4 l21xm9_4 p27 r33 u25 v1_0 v37 xs35)) (S := _) ?_
 refine ta_step 17 _ [0, 1, 2, 3, 15, 16] [36, 37, 38, 39, 51, 52] [15, 16] [] [(sp_ 15 51 (ag [(str u25.Path), (iq u25.Kind), (iq u25.Mode), (iq u25.Time), (str u25.Bytes)])), ⟨16, 52, Value, fun (i : Value) => { val := i, own := [(oRow i 45 tyS_api_Item [u25])] }⟩] [(sp_ 0 36 (pq g11)), (sp_ 1 37 (pq g11)), (sp_ 2 38 (ptr g11 4)), (sp_ 3 39 (Value.map (some g9)))] rfl rfl rfl (by kernel_rfl) rfl rfl rfl ⟨⟨_, rfl, [], rfl, by
  intro X_ Y_ F_ K_ hK_
  refine sh_ (mm30 w0 Z0 a0 a1 g10 g11 g2 g28 g9 l21um9_4 l21xm9_4 p27 r33 u25 v1_0 v37 xs35) X_ Y_ ?_
  refine mv_ ?_
  refine al_nil ?_
  exact fr_fin hK_ ()⟩, ⟨_, rfl, [0], rfl, by
  intro _
  intro X_ Y_ F_ K_ hK_
  refine sh_ (mm30 w0 Z0 a0 a1 g10 g11 g2 g28 g9 l21um9_4 l21xm9_4 p27 r33 u25 v1_0 v37 xs35) X_ Y_ ?_
  refine al_val (ov_nilCheck rfl rfl) ?_
  refine al_nil ?_
  exact fr_fin hK_ ()⟩, ⟨_, rfl, [1], rfl, by
  intro _
  intro X_ Y_ F_ K_ hK_
  refine sh_ (mm30 w0 Z0 a0 a1 g10 g11 g2 g28 g9 l21um9_4 l21xm9_4 p27 r33 u25 v1_0 v37 xs35) X_ Y_ ?_
  refine al_val (ov_fieldA (p := 4) rfl Tryz.underlying43 rfl sz40 rfl rfl rfl) ?_
  refine al_nil ?_
  exact fr_fin hK_ ()⟩, ⟨_, rfl, [2], rfl, by
  intro _
  intro X_ Y_ F_ K_ hK_
  refine sh_ (mm30 w0 Z0 a0 a1 g10 g11 g2 g28 g9 l21um9_4 l21xm9_4 p27 r33 u25 v1_0 v37 xs35) X_ Y_ ?_
  refine al_val (ov_load (i := 5) (v := (Value.map (some g9))) rfl rfl Tryz.underlying40 sz40 rfl rfl rfl rfl) ?_
  refine al_nil ?_
  exact fr_fin hK_ ()⟩, ⟨_, rfl, [], rfl, by
  intro X_ Y_ F_ K_ hK_
  refine sh_ (mm30 w0 Z0 a0 a1 g10 g11 g2 g28 g9 l21um9_4 l21xm9_4 p27 r33 u25 v1_0 v37 xs35) X_ Y_ ?_
  refine al_val (ov_load (i := 2) (v := (ag [(str u25.Path), (iq u25.Kind), (iq u25.Mode), (iq u25.Time), (str u25.Bytes)])) rfl rfl Tryz.underlying45 sz45 rfl rfl rfl rfl) ?_
  refine al_nil ?_
  exact fr_fin hK_ ()⟩, ⟨_, rfl, [4], rfl, by
  intro _
  intro X_ Y_ F_ K_ hK_
  refine sh_ (mm30 w0 Z0 a0 a1 g10 g11 g2 g28 g9 l21um9_4 l21xm9_4 p27 r33 u25 v1_0 v37 xs35) X_ Y_ ?_
  refine al_buildSlice (τ := tyS_api_Item) (e := 45) (k := 1) (sz := 0) (by_ := 0) (z := undef) (cs := [(str u25.Path), (iq u25.Kind), (iq u25.Mode), (iq u25.Time), (str u25.Bytes)]) (xs := [u25]) rfl (by decide) (fun w a hm hs => ⟨([(str u25.Path), (iq u25.Kind), (iq u25.Mode), (iq u25.Time), (str u25.Bytes)]).toArray, rfl, by simp only [List.map_toArray, List.map_cons, List.map_nil, hs.ev (x := .tmp 51) rfl]; exact run_bs [(ag [(str u25.Path), (iq u25.Kind), (iq u25.Mode), (iq u25.Time), (str u25.Bytes)])] [(str u25.Path), (iq u25.Kind), (iq u25.Mode), (iq u25.Time), (str u25.Bytes)] Tryz.underlying26 to45 rfl rfl (bs_cons (l := [(str u25.Path), (iq u25.Kind), (iq u25.Mode), (iq u25.Time), (str u25.Bytes)]) (cs := []) (cv_rfl rfl) rfl bs_nil) hm⟩) (fun hm => ⟨_, _, rfl, (fun _ => mkS_api_Item rfl) hm, rfl⟩) rfl (fun v29 => ?_)
  refine al_nil ?_
  exact fr_fin hK_ v29⟩, trivial⟩ ?_
 intro _
 intro v29
 intro X_ Y_ F_ K_ hK_
 refine sh_ (memOf w0 Z0 [] [(oRow v29 45 tyS_api_Item [u25]), (oRow v37 45 tyS_api_Item xs35), (oMapR Tryz.prog 9 g9 str 45 tyS_api_Item l21um9_4 (hold l21xm9_4 r33)), (oBox g28 45 [(str u25.Path), (iq u25.Kind), (iq u25.Mode), (iq u25.Time), (str u25.Bytes)]), (oBox g2 29 (cA8u8 zA8u8)), (oMapK Tryz.prog 29 g10 (fun x : A8u8 => ag (cA8u8 x)) (fun x : S_api_Blob => ag [(iq x.Kind), (str x.Bytes)]) ([] : List (A8u8 × S_api_Blob))), (oBox g11 43 [(iq a0.Fixed), (iq a0.Cut.Min), (iq a0.Cut.Max), (iq a0.Cut.Bits), (Value.map (some g9)), nS, (Value.map (some g10)), (iq (0 : Int))])] [(fPtr tyS_api_Item p27 u25), (fDat (tyList tyS_api_Item) [v1_0] a1), uMax, uTabs]) X_ Y_ ?_
 obtain ⟨hc38, h⟩ := req_some h
 refine al_append 1 hc38.1 hc38.2 rfl (src_own (i := 1) 0 rfl) rfl rfl Tryz.underlying26 to45 rfl rfl rfl (fun v39 => ?_)
 refine al_nil ?_
 refine aq_show (m := Mem.plus (mm31 w0 Z0 a0 a1 g10 g11 g2 g28 g9 l21um9_4 l21xm9_4 p27 r33 u25 v1_0 v29 v39 xs35) X_ Y_) ?_
 refine aq_next hK_ [0, 1, 2, 3, 4, 5, 6] [0, 1, 2, 3] [(5, (pq g2)), (9, (pq g11)), (30, v1_0), (31, (iq (a1.length : Int))), (32, (iq l21i32)), (42, (str r31)), (53, v39)] [36, 37, 38, 39] [] rfl rfl (by decide) rfl ⟨rfl, rfl, rfl, rfl, rfl, rfl, rfl, trivial⟩ ⟨rfl, rfl, rfl, rfl, trivial⟩ ?_
 clear hK_ K_ F_ X_ Y_
 refine ta_show (m := (mm31 w0 Z0 a0 a1 g10 g11 g2 g28 g9 l21um9_4 l21xm9_4 p27 r33 u25 v1_0 v29 v39 xs35)) (S := _) ?_
 refine ta_step 18 _ [0, 1, 2, 3] [36, 37, 38, 39] [0, 1, 2, 3] [] [(sp_ 0 36 (pq g11)), (sp_ 1 37 (pq g11)), (sp_ 2 38 (ptr g11 4)), (sp_ 3 39 (Value.map (some g9)))] [] rfl rfl rfl (by kernel_rfl) rfl rfl rfl ⟨⟨_, rfl, [], rfl, by
  intro X_ Y_ F_ K_ hK_
  refine sh_ (mm31 w0 Z0 a0 a1 g10 g11 g2 g28 g9 l21um9_4 l21xm9_4 p27 r33 u25 v1_0 v29 v39 xs35) X_ Y_ ?_
  refine mv_ ?_
  refine al_nil ?_
  exact fr_fin hK_ ()⟩, ⟨_, rfl, [0], rfl, by
  intro _
  intro X_ Y_ F_ K_ hK_
  refine sh_ (mm31 w0 Z0 a0 a1 g10 g11 g2 g28 g9 l21um9_4 l21xm9_4 p27 r33 u25 v1_0 v29 v39 xs35) X_ Y_ ?_
  refine al_val (ov_nilCheck rfl rfl) ?_
  refine al_nil ?_
  exact fr_fin hK_ ()⟩, ⟨_, rfl, [1], rfl, by
  intro _
  intro X_ Y_ F_ K_ hK_
  refine sh_ (mm31 w0 Z0 a0 a1 g10 g11 g2 g28 g9 l21um9_4 l21xm9_4 p27 r33 u25 v1_0 v29 v39 xs35) X_ Y_ ?_
  refine al_val (ov_fieldA (p := 4) rfl Tryz.underlying43 rfl sz40 rfl rfl rfl) ?_
  refine al_nil ?_
  exact fr_fin hK_ ()⟩, ⟨_, rfl, [2], rfl, by
  intro _
  intro X_ Y_ F_ K_ hK_
  refine sh_ (mm31 w0 Z0 a0 a1 g10 g11 g2 g28 g9 l21um9_4 l21xm9_4 p27 r33 u25 v1_0 v29 v39 xs35) X_ Y_ ?_
  refine al_val (ov_load (i := 6) (v := (Value.map (some g9))) rfl rfl Tryz.underlying40 sz40 rfl rfl rfl rfl) ?_
  refine al_nil ?_
  exact fr_fin hK_ ()⟩, trivial⟩ ?_
 intro _
 intro _
 intro _
 intro _
 intro X_ Y_ F_ K_ hK_
 refine sh_ (mm31 w0 Z0 a0 a1 g10 g11 g2 g28 g9 l21um9_4 l21xm9_4 p27 r33 u25 v1_0 v29 v39 xs35) X_ Y_ ?_
 obtain ⟨hc40, h⟩ := req_some h
 refine al_reoX [1, 2, 0, 3, 4, 5, 6] (by decide) rfl ?_
 refine sh_ (memOf w0 Z0 [] [(oRow v39 45 tyS_api_Item (xs35 ++ ([u25]))), (oMapR Tryz.prog 9 g9 str 45 tyS_api_Item l21um9_4 (hold l21xm9_4 r33)), (oRow v29 45 tyS_api_Item [u25]), (oBox g28 45 [(str u25.Path), (iq u25.Kind), (iq u25.Mode), (iq u25.Time), (str u25.Bytes)]), (oBox g2 29 (cA8u8 zA8u8)), (oMapK Tryz.prog 29 g10 (fun x : A8u8 => ag (cA8u8 x)) (fun x : S_api_Blob => ag [(iq x.Kind), (str x.Bytes)]) ([] : List (A8u8 × S_api_Blob))), (oBox g11 43 [(iq a0.Fixed), (iq a0.Cut.Min), (iq a0.Cut.Max), (iq a0.Cut.Bits), (Value.map (some g9)), nS, (Value.map (some g10)), (iq (0 : Int))])] [(fPtr tyS_api_Item p27 u25), (fDat (tyList tyS_api_Item) [v1_0] a1), uMax, uTabs]) X_ Y_ ?_
 refine al_mapPutR (ek := str) (k := r31) kd9 str_inj (key_str Tryz.underlying9 hc40) rfl rfl rfl rfl Tryz.underlying40 rfl (fun us41 => ?_)
 refine sh_ (mm32 w0 Z0 a0 a1 g10 g11 g2 g28 g9 l21xm9_4 p27 r31 r33 u25 us41 v1_0 v29 xs35) X_ Y_ ?_
 refine al_nil ?_
 refine aq_show (m := Mem.plus (mm32 w0 Z0 a0 a1 g10 g11 g2 g28 g9 l21xm9_4 p27 r31 r33 u25 us41 v1_0 v29 xs35) X_ Y_) ?_
 refine aq_next hK_ [0, 1, 2, 3, 4, 5] [0, 1, 2, 3] [(5, (pq g2)), (9, (pq g11)), (30, v1_0), (31, (iq (a1.length : Int))), (32, (iq l21i32))] [] [] rfl rfl (by decide) rfl ⟨rfl, rfl, rfl, rfl, rfl, trivial⟩ trivial ?_
 clear hK_ K_ F_ X_ Y_
 refine ta_show (m := (mm32 w0 Z0 a0 a1 g10 g11 g2 g28 g9 l21xm9_4 p27 r31 r33 u25 us41 v1_0 v29 xs35)) (S := _) ?_
 refine ta_end [] [] rfl rfl (by kernel_rfl) rfl trivial ?_
 refine aq_show (m := (mm32 w0 Z0 a0 a1 g10 g11 g2 g28 g9 l21xm9_4 p27 r31 r33 u25 us41 v1_0 v29 xs35)) (S := (tab [(5, (pq g2)), (9, (pq g11)), (30, v1_0), (31, (iq (a1.length : Int))), (32, (iq l21i32))])) ?_
 refine aq_block ?_
 refine aq_then ?_
 refine aw_region ?_
 refine in_ ?_
 refine mv_ ?_
 refine al_nil ?_
 exact aq_again k22 ((gset (hold l21xm9_4 r33) r31 (some (xs35 ++ ([u25])))), us41, (wq (l21i32 + (1 : Int)))) (Nat.lt_succ_self _) h (nm_ [3, 0, 4, 5] [1, 2, 3] (by decide) ⟨rfl, rfl, rfl, rfl, rfl, trivial⟩)
 replace h := bif_f hb24 h
 refine aw_exit ?_
 refine aq_then_exit ?_
 refine aq_then_exit ?_
 refine aq_block_exit ?_
 exact aq_join (l21xm9_4, l21um9_4) h (nm_ [0, 1, 2, 3] [0, 1, 2] (by decide) ⟨rfl, rfl, trivial⟩)
def f_lumref_CutOK (fu : Nat) (a0 : S_api_Cut) : Option Int := (lt (fun (j2b27 : Bool) => (bif j2b27 then (some (0 : Int)) else (some (1 : Int)))) fun (kk3 : Bool → Option Int) => (bif (decide ((16 : Int) ≤ a0.Min)) then (bif (decide (a0.Min ≤ a0.Max)) then (bif (decide (a0.Max ≤ (1024 : Int))) then (bif (decide ((1 : Int) ≤ a0.Bits)) then (kk3 (decide (a0.Bits ≤ (12 : Int)))) else (kk3 false)) else (kk3 false)) else (kk3 false)) else (kk3 false)))
set_option maxHeartbeats 2000000 in
set_option maxRecDepth 100000 in
theorem f_lumref_CutOK_ok (fu : Nat) (a0 : S_api_Cut) {r : Int} (h : f_lumref_CutOK fu a0 = some r) : FnOk Tryz.prog 21 [(ag [(int .i64 a0.Min), (int .i64 a0.Max), (int .i64 a0.Bits)])] [] [] (fun (i : Unit) => { val := (int .i64 r) }) := by
 unfold f_lumref_CutOK at h
 refine fn_enter Tryz.func21 rfl Tryz.ntmps21 rfl (fun w0 Z0 => ?_)
 refine aw_sr ?_
 refine al_box (vs := [(iq a0.Min), (iq a0.Max), (iq a0.Bits)]) rfl (cv_rfl rfl) rfl (fun g1 => ?_)
 refine an_ ?_
 refine aw_seq ?_
 obtain ⟨kk3, hkk3, h⟩ := lt_some h
 refine aw_seq_join (ι := Bool) (fun i => (memOf w0 Z0 [] [] [])) (fun i => (tab [(27, (bool i))])) (fun i => kk3 i = some r) ?_ ?_
 rintro j2b27 h
 have h : kk3 j2b27 = some r := h
 rw [hkk3] at h
 dsimp only at h
 clear hkk3
 refine aw_show (m := (memOf w0 Z0 [] [] [])) (S := _) ?_
 refine aw_cond rfl (fun hb4 => ?_) (fun hb4 => ?_)
 replace h := bif_t hb4 h
 refine aw_sr ?_
 refine an_ ?_
 refine aw_ret ?_
 refine aq_then_ret ?_
 cases h
 exact fr1_
 replace h := bif_f hb4 h
 refine aw_skip ?_
 refine aq_tr ?_
 refine an_ ?_
 refine aw_ret ?_
 cases h
 exact fr1_
 clear hkk3
 refine aw_region ?_
 refine al_val (ov_fieldA (p := 0) rfl Tryz.underlying23 rfl sz3 rfl rfl rfl) ?_
 refine al_val (ov_load (i := 0) (v := (iq a0.Min)) rfl rfl Tryz.underlying3 sz3 rfl rfl rfl rfl) ?_
 refine in_ ?_
 refine mv_ ?_
 refine al_caseB 6 rfl (fun hb5 => ?_) (fun hb5 => ?_)
 replace h := bif_t hb5 h
 refine al_val (ov_fieldA (p := 0) rfl Tryz.underlying23 rfl sz3 rfl rfl rfl) ?_
 refine al_val (ov_load (i := 0) (v := (iq a0.Min)) rfl rfl Tryz.underlying3 sz3 rfl rfl rfl rfl) ?_
 refine al_val (ov_fieldA (p := 1) rfl Tryz.underlying23 rfl sz3 rfl rfl rfl) ?_
 refine al_val (ov_load (i := 0) (v := (iq a0.Max)) rfl rfl Tryz.underlying3 sz3 rfl rfl rfl rfl) ?_
 refine in_ ?_
 refine al_val (ov_pick_t rfl rfl rfl) ?_
 refine mv_ ?_
 refine al_caseB 13 rfl (fun hb6 => ?_) (fun hb6 => ?_)
 replace h := bif_t hb6 h
 refine al_val (ov_fieldA (p := 1) rfl Tryz.underlying23 rfl sz3 rfl rfl rfl) ?_
 refine al_val (ov_load (i := 0) (v := (iq a0.Max)) rfl rfl Tryz.underlying3 sz3 rfl rfl rfl rfl) ?_
 refine in_ ?_
 refine al_val (ov_pick_t rfl rfl rfl) ?_
 refine mv_ ?_
 refine al_caseB 18 rfl (fun hb7 => ?_) (fun hb7 => ?_)
 replace h := bif_t hb7 h
 refine al_val (ov_fieldA (p := 2) rfl Tryz.underlying23 rfl sz3 rfl rfl rfl) ?_
 refine al_val (ov_load (i := 0) (v := (iq a0.Bits)) rfl rfl Tryz.underlying3 sz3 rfl rfl rfl rfl) ?_
 refine in_ ?_
 refine al_val (ov_pick_t rfl rfl rfl) ?_
 refine mv_ ?_
 refine al_caseB 23 rfl (fun hb8 => ?_) (fun hb8 => ?_)
 replace h := bif_t hb8 h
 refine al_val (ov_fieldA (p := 2) rfl Tryz.underlying23 rfl sz3 rfl rfl rfl) ?_
 refine al_val (ov_load (i := 0) (v := (iq a0.Bits)) rfl rfl Tryz.underlying3 sz3 rfl rfl rfl rfl) ?_
 refine in_ ?_
 refine al_val (ov_pick_t rfl rfl rfl) ?_
 refine al_nil ?_
 exact aq_join (decide (a0.Bits ≤ (12 : Int))) h (nm_ [] [] (by decide) ⟨rfl, trivial⟩)
 replace h := bif_f hb8 h
 iterate 3 refine al_skip ?_
 refine al_val (ov_pick_f rfl rfl rfl) ?_
 refine al_nil ?_
 exact aq_join false h (nm_ [] [] (by decide) ⟨rfl, trivial⟩)
 replace h := bif_f hb7 h
 iterate 3 refine al_skip ?_
 refine al_val (ov_pick_f rfl rfl rfl) ?_
 refine mv_ ?_
 iterate 3 refine al_skip ?_
 refine al_val (ov_pick_f rfl rfl rfl) ?_
 refine al_nil ?_
 exact aq_join false h (nm_ [] [] (by decide) ⟨rfl, trivial⟩)
 replace h := bif_f hb6 h
 iterate 3 refine al_skip ?_
 refine al_val (ov_pick_f rfl rfl rfl) ?_
 refine mv_ ?_
 iterate 3 refine al_skip ?_
 refine al_val (ov_pick_f rfl rfl rfl) ?_
 refine mv_ ?_
 iterate 3 refine al_skip ?_
 refine al_val (ov_pick_f rfl rfl rfl) ?_
 refine al_nil ?_
 exact aq_join false h (nm_ [] [] (by decide) ⟨rfl, trivial⟩)
 replace h := bif_f hb5 h
 iterate 5 refine al_skip ?_
 refine al_val (ov_pick_f rfl rfl rfl) ?_
 refine mv_ ?_
 iterate 3 refine al_skip ?_
 refine al_val (ov_pick_f rfl rfl rfl) ?_
 refine mv_ ?_
 iterate 3 refine al_skip ?_
 refine al_val (ov_pick_f rfl rfl rfl) ?_
 refine mv_ ?_
 iterate 3 refine al_skip ?_
 refine al_val (ov_pick_f rfl rfl rfl) ?_
 refine al_nil ?_
 exact aq_join false h (nm_ [] [] (by decide) ⟨rfl, trivial⟩)
def f_lumref_Way (fu : Nat) (a0 : S_api_Way) : Option Int := (bif (a0.Fixed == (0 : Int)) then (opt (f_lumref_CutOK fu a0.Cut) fun (r4 : Int) => (some r4)) else (lt (fun (j5b16 : Bool) => (bif j5b16 then (some (1 : Int)) else (some (0 : Int)))) fun (kk6 : Bool → Option Int) => (bif (decide (a0.Fixed < (16 : Int))) then (kk6 true) else (kk6 (decide (a0.Fixed > (1024 : Int)))))))
set_option maxHeartbeats 2000000 in
set_option maxRecDepth 100000 in
theorem f_lumref_Way_ok (fu : Nat) (a0 : S_api_Way) {r : Int} (h : f_lumref_Way fu a0 = some r) : FnOk Tryz.prog 9 [(ag [(int .i64 a0.Fixed), (int .i64 a0.Cut.Min), (int .i64 a0.Cut.Max), (int .i64 a0.Cut.Bits)])] [] [] (fun (i : Unit) => { val := (int .i64 r) }) := by
 unfold f_lumref_Way at h
 refine fn_enter Tryz.func9 rfl Tryz.ntmps9 rfl (fun w0 Z0 => ?_)
 refine aw_sr ?_
 refine al_box (vs := [(iq a0.Fixed), (iq a0.Cut.Min), (iq a0.Cut.Max), (iq a0.Cut.Bits)]) rfl (cv_rfl rfl) rfl (fun g1 => ?_)
 refine an_ ?_
 refine aw_seq ?_
 refine aw_sr ?_
 refine al_val (ov_fieldA (p := 0) rfl Tryz.underlying25 rfl sz3 rfl rfl rfl) ?_
 refine al_val (ov_load (i := 0) (v := (iq a0.Fixed)) rfl rfl Tryz.underlying3 sz3 rfl rfl rfl rfl) ?_
 refine im_ ?_
 refine aw_cond rfl (fun hb2 => ?_) (fun hb2 => ?_)
 replace h := bif_t hb2 h
 refine aw_sr ?_
 refine al_val (ov_fieldA (p := 1) rfl Tryz.underlying25 rfl sz23 rfl rfl rfl) ?_
 refine al_val (ov_load (i := 0) (v := (ag [(iq a0.Cut.Min), (iq a0.Cut.Max), (iq a0.Cut.Bits)])) rfl rfl Tryz.underlying23 sz23 rfl rfl rfl rfl) ?_
 obtain ⟨r4, hc3, h⟩ := opt_some h
 refine al_call (vs := [(ag [(iq a0.Cut.Min), (iq a0.Cut.Max), (iq a0.Cut.Bits)])]) (f_lumref_CutOK_ok fu a0.Cut hc3) [] [] [0] pre_nil rfl (by simp) (by decide) (.inl rfl) rfl Tryz.func21 rfl rfl rfl (fun _ => ?_)
 refine an_ ?_
 refine aw_ret ?_
 refine aq_then_ret ?_
 cases h
 exact fr1_
 replace h := bif_f hb2 h
 refine aw_skip ?_
 refine aq_then ?_
 refine aw_seq ?_
 obtain ⟨kk6, hkk6, h⟩ := lt_some h
 refine aw_seq_join (ι := Bool) (fun i => (memOf w0 Z0 [] [] [])) (fun i => (tab [(16, (bool i))])) (fun i => kk6 i = some r) ?_ ?_
 rintro j5b16 h
 have h : kk6 j5b16 = some r := h
 rw [hkk6] at h
 dsimp only at h
 clear hkk6
 refine aw_show (m := (memOf w0 Z0 [] [] [])) (S := _) ?_
 refine aw_cond rfl (fun hb7 => ?_) (fun hb7 => ?_)
 replace h := bif_t hb7 h
 refine aw_sr ?_
 refine an_ ?_
 refine aw_ret ?_
 refine aq_then_ret ?_
 cases h
 exact fr1_
 replace h := bif_f hb7 h
 refine aw_skip ?_
 refine aq_tr ?_
 refine an_ ?_
 refine aw_ret ?_
 cases h
 exact fr1_
 clear hkk6
 refine aw_region ?_
 refine al_val (ov_fieldA (p := 0) rfl Tryz.underlying25 rfl sz3 rfl rfl rfl) ?_
 refine al_val (ov_load (i := 0) (v := (iq a0.Fixed)) rfl rfl Tryz.underlying3 sz3 rfl rfl rfl rfl) ?_
 refine in_ ?_
 refine mv_ ?_
 refine al_caseB 12 rfl (fun hb8 => ?_) (fun hb8 => ?_)
 replace h := bif_t hb8 h
 iterate 3 refine al_skip ?_
 refine al_val (ov_pick_t rfl rfl rfl) ?_
 refine al_nil ?_
 exact aq_join true h (nm_ [] [] (by decide) ⟨rfl, trivial⟩)
 replace h := bif_f hb8 h
 refine al_val (ov_fieldA (p := 0) rfl Tryz.underlying25 rfl sz3 rfl rfl rfl) ?_
 refine al_val (ov_load (i := 0) (v := (iq a0.Fixed)) rfl rfl Tryz.underlying3 sz3 rfl rfl rfl rfl) ?_
 refine in_ ?_
 refine al_val (ov_pick_f rfl rfl rfl) ?_
 refine al_nil ?_
 exact aq_join (decide (a0.Fixed > (1024 : Int))) h (nm_ [] [] (by decide) ⟨rfl, trivial⟩)
def f_lumref_cutAt : Nat → (List UInt8) → Option (List (List UInt8))
  | 0, _ => none
  | fu + 1, a0 => (opt (f_strings_IndexByte fu a0 (47 : Int)) fun (r2 : Int) => (bif (decide (r2 < (0 : Int))) then (some [a0]) else (req (0 ≤ r2 ∧ r2 ≤ (a0.length : Int)) (req (0 ≤ (IntKind.i64.wrap (r2 + (1 : Int))) ∧ (IntKind.i64.wrap (r2 + (1 : Int))) ≤ (a0.length : Int)) (opt (f_lumref_cutAt fu (a0.drop ((IntKind.i64.wrap (r2 + (1 : Int)))).toNat)) fun (r9 : (List (List UInt8))) => (req (((([(a0.take (r2).toNat)]).length + r9.length) * 16 : Nat) ≤ 140737488355328 ∧ ([(a0.take (r2).toNat)]).length + r9.length ≤ 9223372036854775807) (some (([(a0.take (r2).toNat)]) ++ r9))))))))
set_option maxHeartbeats 2000000 in
set_option maxRecDepth 100000 in
theorem f_lumref_cutAt_ok (fu : Nat) (a0 : (List UInt8)) {r : (List (List UInt8))} (h : f_lumref_cutAt fu a0 = some r) : FnOk Tryz.prog 34 [(str a0)] [] [] (fun (i : Value) => { val := i, own := [(oRow i 9 tyStr r)] }) := by
 cases fu with
 | zero => rw [f_lumref_cutAt] at h; cases h
 | succ fu =>
  rw [f_lumref_cutAt] at h
  refine fn_enter Tryz.func34 rfl Tryz.ntmps34 rfl (fun w0 Z0 => ?_)
  refine aw_sr ?_
  refine an_ ?_
  refine sm_ ?_
  obtain ⟨r2, hc1, h⟩ := opt_some h
  refine al_call (vs := [(str a0), (i8 (47 : Int))]) (f_strings_IndexByte_ok fu a0 (47 : Int) hc1) [] [] [] pre_nil rfl (by simp) (by decide) (.inl rfl) rfl Tryz.func57 rfl rfl rfl (fun _ => ?_)
  refine an_ ?_
  refine aw_seq ?_
  refine sm_ ?_
  refine im_ ?_
  refine aw_cond rfl (fun hb3 => ?_) (fun hb3 => ?_)
  replace h := bif_t hb3 h
  refine sm_ ?_
  refine al_buildSlice (τ := tyStr) (e := 9) (k := 1) (sz := 0) (by_ := 0) (z := undef) (cs := [(str a0)]) (xs := [a0]) rfl (by decide) (fun w a hm hs => ⟨([(str a0)]).toArray, rfl, by simp only [List.map_toArray, List.map_cons, List.map_nil, hs.ev (x := .tmp 8) rfl]; exact run_bs [(str a0)] [(str a0)] Tryz.underlying54 to9 rfl rfl (bs_cons (l := [(str a0)]) (cs := []) (cv_rfl rfl) rfl bs_nil) hm⟩) (fun hm => ⟨_, _, rfl, (fun _ => rfl) hm, rfl⟩) rfl (fun v4 => ?_)
  refine an_ ?_
  refine aw_ret ?_
  refine aq_then_ret ?_
  cases h
  exact fn_ret v4 [0] [] rfl rfl rfl rfl (res1 rfl rfl) rfl rfl rfl (by decide)
  replace h := bif_f hb3 h
  refine aw_skip ?_
  refine aq_then ?_
  refine aw_seq ?_
  obtain ⟨hc5, h⟩ := req_some h
  obtain ⟨hc7, h⟩ := req_some h
  refine aw_region_open [(sp_ 0 10 (str a0)), (sp_ 1 11 (iq r2)), (sp_ 2 12 (str (a0.take (r2).toNat))), ⟨3, 13, Value, fun (i : Value) => { val := i, own := [(oRow i 9 tyStr [(a0.take (r2).toNat)])] }⟩, (sp_ 4 14 (str a0)), (sp_ 5 15 (iq r2)), (sp_ 6 16 (iq (wq (r2 + (1 : Int))))), (sp_ 7 17 (str (a0.drop ((wq (r2 + (1 : Int)))).toNat)))] (tab [(0, (str a0)), (2, nS), (3, (iq r2))]) mixed (fun a hs => hs.tab _ (allT_mem ⟨rfl, rfl, rfl, trivial⟩)) ?_
  refine ta_show (m := (memOf w0 Z0 [] [] [])) (S := _) ?_
  refine ta_step 8 _ [0, 1, 2, 3, 4, 5, 6, 7] [10, 11, 12, 13, 14, 15, 16, 17] [4, 5, 6, 7] [] [(sp_ 4 14 (str a0)), (sp_ 5 15 (iq r2)), (sp_ 6 16 (iq (wq (r2 + (1 : Int))))), (sp_ 7 17 (str (a0.drop ((wq (r2 + (1 : Int)))).toNat)))] [(sp_ 0 10 (str a0)), (sp_ 1 11 (iq r2)), (sp_ 2 12 (str (a0.take (r2).toNat))), ⟨3, 13, Value, fun (i : Value) => { val := i, own := [(oRow i 9 tyStr [(a0.take (r2).toNat)])] }⟩] rfl rfl rfl (by kernel_rfl) rfl rfl rfl ⟨⟨_, rfl, [], rfl, by
   intro X_ Y_ F_ K_ hK_
   refine sh_ (memOf w0 Z0 [] [] []) X_ Y_ ?_
   refine mv_ ?_
   refine al_nil ?_
   exact fr_fin hK_ ()⟩, ⟨_, rfl, [], rfl, by
   intro X_ Y_ F_ K_ hK_
   refine sh_ (memOf w0 Z0 [] [] []) X_ Y_ ?_
   refine mv_ ?_
   refine al_nil ?_
   exact fr_fin hK_ ()⟩, ⟨_, rfl, [0, 1], rfl, by
   intro _
   intro _
   intro X_ Y_ F_ K_ hK_
   refine sh_ (memOf w0 Z0 [] [] []) X_ Y_ ?_
   refine al_val (ov_strTo hc5.1 hc5.2 Tryz.underlying9 rfl rfl rfl) ?_
   refine al_nil ?_
   exact fr_fin hK_ ()⟩, ⟨_, rfl, [2], rfl, by
   intro _
   intro X_ Y_ F_ K_ hK_
   refine sh_ (memOf w0 Z0 [] [] []) X_ Y_ ?_
   refine al_buildSlice (τ := tyStr) (e := 9) (k := 1) (sz := 0) (by_ := 0) (z := undef) (cs := [(str (a0.take (r2).toNat))]) (xs := [(a0.take (r2).toNat)]) rfl (by decide) (fun w a hm hs => ⟨([(str (a0.take (r2).toNat))]).toArray, rfl, by simp only [List.map_toArray, List.map_cons, List.map_nil, hs.ev (x := .tmp 12) rfl]; exact run_bs [(str (a0.take (r2).toNat))] [(str (a0.take (r2).toNat))] Tryz.underlying54 to9 rfl rfl (bs_cons (l := [(str (a0.take (r2).toNat))]) (cs := []) (cv_rfl rfl) rfl bs_nil) hm⟩) (fun hm => ⟨_, _, rfl, (fun _ => rfl) hm, rfl⟩) rfl (fun v6 => ?_)
   refine al_nil ?_
   exact fr_fin hK_ v6⟩, ⟨_, rfl, [], rfl, by
   intro X_ Y_ F_ K_ hK_
   refine sh_ (memOf w0 Z0 [] [] []) X_ Y_ ?_
   refine mv_ ?_
   refine al_nil ?_
   exact fr_fin hK_ ()⟩, ⟨_, rfl, [], rfl, by
   intro X_ Y_ F_ K_ hK_
   refine sh_ (memOf w0 Z0 [] [] []) X_ Y_ ?_
   refine mv_ ?_
   refine al_nil ?_
   exact fr_fin hK_ ()⟩, ⟨_, rfl, [5], rfl, by
   intro _
   intro X_ Y_ F_ K_ hK_
   refine sh_ (memOf w0 Z0 [] [] []) X_ Y_ ?_
   refine in_ ?_
   refine al_nil ?_
   exact fr_fin hK_ ()⟩, ⟨_, rfl, [4, 6], rfl, by
   intro _
   intro _
   intro X_ Y_ F_ K_ hK_
   refine sh_ (memOf w0 Z0 [] [] []) X_ Y_ ?_
   refine al_val (ov_strFrom hc7.1 hc7.2 Tryz.underlying9 rfl rfl rfl) ?_
   refine al_nil ?_
   exact fr_fin hK_ ()⟩, trivial⟩ ?_
  intro _
  intro _
  intro _
  intro _
  intro X_ Y_ F_ K_ hK_
  refine sh_ (memOf w0 Z0 [] [] []) X_ Y_ ?_
  obtain ⟨r9, hc8, h⟩ := opt_some h
  refine al_callX (vs := [(str (a0.drop ((wq (r2 + (1 : Int)))).toNat))]) (f_lumref_cutAt_ok fu (a0.drop ((wq (r2 + (1 : Int)))).toNat) hc8) [] [] [] pre_nil rfl (by simp) (by decide) rfl (.inl rfl) rfl Tryz.func34 rfl rfl rfl (fun v10 => ?_)
  refine al_nil ?_
  refine aq_show (m := Mem.plus (memOf w0 Z0 [] [(oRow v10 9 tyStr r9)] []) X_ Y_) ?_
  refine aq_next hK_ [0] [] [(0, (str a0)), (2, nS), (3, (iq r2)), (18, v10)] [10, 11, 12, 13] [] rfl rfl (by decide) rfl ⟨rfl, rfl, rfl, rfl, trivial⟩ ⟨rfl, rfl, rfl, rfl, trivial⟩ ?_
  clear hK_ K_ F_ X_ Y_
  refine ta_show (m := (memOf w0 Z0 [] [(oRow v10 9 tyStr r9)] [])) (S := _) ?_
  refine ta_step 9 _ [0, 1, 2, 3] [10, 11, 12, 13] [0, 1, 2, 3] [] [(sp_ 0 10 (str a0)), (sp_ 1 11 (iq r2)), (sp_ 2 12 (str (a0.take (r2).toNat))), ⟨3, 13, Value, fun (i : Value) => { val := i, own := [(oRow i 9 tyStr [(a0.take (r2).toNat)])] }⟩] [] rfl rfl rfl (by kernel_rfl) rfl rfl rfl ⟨⟨_, rfl, [], rfl, by
   intro X_ Y_ F_ K_ hK_
   refine sh_ (memOf w0 Z0 [] [(oRow v10 9 tyStr r9)] []) X_ Y_ ?_
   refine mv_ ?_
   refine al_nil ?_
   exact fr_fin hK_ ()⟩, ⟨_, rfl, [], rfl, by
   intro X_ Y_ F_ K_ hK_
   refine sh_ (memOf w0 Z0 [] [(oRow v10 9 tyStr r9)] []) X_ Y_ ?_
   refine mv_ ?_
   refine al_nil ?_
   exact fr_fin hK_ ()⟩, ⟨_, rfl, [0, 1], rfl, by
   intro _
   intro _
   intro X_ Y_ F_ K_ hK_
   refine sh_ (memOf w0 Z0 [] [(oRow v10 9 tyStr r9)] []) X_ Y_ ?_
   refine al_val (ov_strTo hc5.1 hc5.2 Tryz.underlying9 rfl rfl rfl) ?_
   refine al_nil ?_
   exact fr_fin hK_ ()⟩, ⟨_, rfl, [2], rfl, by
   intro _
   intro X_ Y_ F_ K_ hK_
   refine sh_ (memOf w0 Z0 [] [(oRow v10 9 tyStr r9)] []) X_ Y_ ?_
   refine al_buildSlice (τ := tyStr) (e := 9) (k := 1) (sz := 0) (by_ := 0) (z := undef) (cs := [(str (a0.take (r2).toNat))]) (xs := [(a0.take (r2).toNat)]) rfl (by decide) (fun w a hm hs => ⟨([(str (a0.take (r2).toNat))]).toArray, rfl, by simp only [List.map_toArray, List.map_cons, List.map_nil, hs.ev (x := .tmp 12) rfl]; exact run_bs [(str (a0.take (r2).toNat))] [(str (a0.take (r2).toNat))] Tryz.underlying54 to9 rfl rfl (bs_cons (l := [(str (a0.take (r2).toNat))]) (cs := []) (cv_rfl rfl) rfl bs_nil) hm⟩) (fun hm => ⟨_, _, rfl, (fun _ => rfl) hm, rfl⟩) rfl (fun v6 => ?_)
   refine al_nil ?_
   exact fr_fin hK_ v6⟩, trivial⟩ ?_
  intro _
  intro _
  intro _
  intro v6
  intro X_ Y_ F_ K_ hK_
  refine sh_ (memOf w0 Z0 [] [(oRow v6 9 tyStr [(a0.take (r2).toNat)]), (oRow v10 9 tyStr r9)] []) X_ Y_ ?_
  obtain ⟨hc11, h⟩ := req_some h
  refine al_append 0 hc11.1 hc11.2 rfl (src_own (i := 0) 1 rfl) rfl rfl Tryz.underlying54 to9 rfl rfl rfl (fun v12 => ?_)
  refine al_nil ?_
  refine aq_show (m := Mem.plus (memOf w0 Z0 [] [(oRow v12 9 tyStr (([(a0.take (r2).toNat)]) ++ r9)), (oRow v10 9 tyStr r9)] []) X_ Y_) ?_
  refine aq_next hK_ [0, 1] [] [(2, nS), (19, v12)] [] [] rfl rfl (by decide) rfl ⟨rfl, rfl, trivial⟩ trivial ?_
  clear hK_ K_ F_ X_ Y_
  refine ta_show (m := (memOf w0 Z0 [] [(oRow v12 9 tyStr (([(a0.take (r2).toNat)]) ++ r9)), (oRow v10 9 tyStr r9)] [])) (S := _) ?_
  refine ta_step 10 _ [] [] [] [] [] [] rfl rfl rfl (by kernel_rfl) rfl rfl rfl trivial ?_
  intro X_ Y_ F_ K_ hK_
  refine sh_ (memOf w0 Z0 [] [(oRow v12 9 tyStr (([(a0.take (r2).toNat)]) ++ r9)), (oRow v10 9 tyStr r9)] []) X_ Y_ ?_
  refine as_ ?_
  refine al_nil ?_
  refine aq_show (m := Mem.plus (memOf w0 Z0 [] [(oRow v12 9 tyStr (([(a0.take (r2).toNat)]) ++ r9)), (oRow v10 9 tyStr r9)] []) X_ Y_) ?_
  refine aq_next hK_ [0, 1] [] [(2, v12)] [] [] rfl rfl (by decide) rfl ⟨rfl, trivial⟩ trivial ?_
  clear hK_ K_ F_ X_ Y_
  refine ta_show (m := (memOf w0 Z0 [] [(oRow v12 9 tyStr (([(a0.take (r2).toNat)]) ++ r9)), (oRow v10 9 tyStr r9)] [])) (S := _) ?_
  refine ta_end [] [] rfl rfl (by kernel_rfl) rfl trivial ?_
  refine aq_show (m := (memOf w0 Z0 [] [(oRow v12 9 tyStr (([(a0.take (r2).toNat)]) ++ r9)), (oRow v10 9 tyStr r9)] [])) (S := (tab [(2, v12)])) ?_
  refine aq_then ?_
  refine aw_ret ?_
  cases h
  exact fn_ret v12 [0] [] rfl rfl rfl rfl (res1 rfl rfl) rfl rfl rfl (by decide)
def f_lumref_char_L20 (a0 : (List UInt8)) (j4i5 : Int) (kk8 : (Int → Option (Int × Int))) : Nat → Int → Int → Option (Int × Int)
  | 0, _, _ => none
  | k19 + 1, l18i4, l18i53 => (bif (decide (l18i53 < ((cut a0 (1 : Int) j4i5).length : Int))) then (opt (at? (cut a0 (1 : Int) j4i5) l18i53) fun (u22 : UInt8) => (lt (fun (j25b62 : Bool) => (bif j25b62 then (some ((0 : Int), (0 : Int))) else (f_lumref_char_L20 a0 j4i5 kk8 k19 (IntKind.i64.wrap ((IntKind.i64.wrap ((IntKind.i64.wrap ((64 : Int) * l18i4)) + (IntKind.i64.wrap (u22.toNat : Int)))) - (128 : Int))) (IntKind.i64.wrap (l18i53 + (1 : Int)))))) fun (kk26 : Bool → Option (Int × Int)) => (bif (decide ((u22.toNat : Int) < (128 : Int))) then (kk26 true) else (kk26 (decide ((u22.toNat : Int) > (191 : Int))))))) else (kk8 l18i4))
def f_lumref_char (fu : Nat) (a0 : (List UInt8)) : Option (Int × Int) := (bif (a0 == ([] : List UInt8)) then (some ((0 : Int), (0 : Int))) else (req (0 ≤ (0 : Int) ∧ (0 : Int) < (a0.length : Int)) (bif (decide ((IntKind.i64.wrap (En.bAt a0 (0 : Int))) < (128 : Int))) then (some ((IntKind.i64.wrap (En.bAt a0 (0 : Int))), (1 : Int))) else (lt (fun (j4i4 : Int) (j4i5 : Int) (j4i6 : Int) => (bif (decide ((a0.length : Int) < j4i5)) then (some ((0 : Int), (0 : Int))) else (lt (fun (j7i4 : Int) => (lt (fun (j9b84 : Bool) => (bif j9b84 then (some ((0 : Int), (0 : Int))) else (some (j7i4, j4i5)))) fun (kk10 : Bool → Option (Int × Int)) => (bif (decide (j7i4 < j4i6)) then (kk10 true) else (bif (decide (j7i4 > (1114111 : Int))) then (kk10 true) else (bif (decide (j7i4 ≥ (55296 : Int))) then (kk10 (decide (j7i4 < (57344 : Int)))) else (kk10 false)))))) fun (kk8 : Int → Option (Int × Int)) => (req (0 ≤ (1 : Int) ∧ (1 : Int) ≤ j4i5 ∧ j4i5 ≤ (a0.length : Int)) (req ((cut a0 (1 : Int) j4i5).length ≤ 9223372036854775807) (f_lumref_char_L20 a0 j4i5 kk8 fu j4i4 (0 : Int))))))) fun (kk5 : Int → Int → Int → Option (Int × Int)) => (lt (fun (j29b17 : Bool) => (bif j29b17 then (kk5 (IntKind.i64.wrap ((IntKind.i64.wrap (En.bAt a0 (0 : Int))) - (192 : Int))) (2 : Int) (128 : Int)) else (lt (fun (j32b26 : Bool) => (bif j32b26 then (kk5 (IntKind.i64.wrap ((IntKind.i64.wrap (En.bAt a0 (0 : Int))) - (224 : Int))) (3 : Int) (2048 : Int)) else (lt (fun (j35b35 : Bool) => (bif j35b35 then (kk5 (IntKind.i64.wrap ((IntKind.i64.wrap (En.bAt a0 (0 : Int))) - (240 : Int))) (4 : Int) (65536 : Int)) else (some ((0 : Int), (0 : Int))))) fun (kk36 : Bool → Option (Int × Int)) => (bif (decide ((IntKind.i64.wrap (En.bAt a0 (0 : Int))) ≥ (240 : Int))) then (kk36 (decide ((IntKind.i64.wrap (En.bAt a0 (0 : Int))) < (245 : Int)))) else (kk36 false))))) fun (kk33 : Bool → Option (Int × Int)) => (bif (decide ((IntKind.i64.wrap (En.bAt a0 (0 : Int))) ≥ (224 : Int))) then (kk33 (decide ((IntKind.i64.wrap (En.bAt a0 (0 : Int))) < (240 : Int)))) else (kk33 false))))) fun (kk30 : Bool → Option (Int × Int)) => (bif (decide ((IntKind.i64.wrap (En.bAt a0 (0 : Int))) ≥ (194 : Int))) then (kk30 (decide ((IntKind.i64.wrap (En.bAt a0 (0 : Int))) < (224 : Int)))) else (kk30 false)))))))
set_option maxRecDepth 100000 in
set_option maxHeartbeats 2000000 in
set_option maxHeartbeats 2000000 in
theorem f_lumref_char_ok (fu : Nat) (a0 : (List UInt8)) {r : (Int × Int)} (h : f_lumref_char fu a0 = some r) : FnOk Tryz.prog 94 [(str a0)] [] [] (fun (i : Unit) => { val := (Value.tuple #[(int .i64 r.1), (int .i64 r.2)]) }) := by
 unfold f_lumref_char at h
 refine fn_enter Tryz.func94 rfl Tryz.ntmps94 rfl (fun w0 Z0 => ?_)
 refine aw_sr ?_
 refine as_ ?_
 refine an_ ?_
 refine aw_seq ?_
 refine sm_ ?_
 refine al_val (ov_strCmp rfl rfl rfl rfl) ?_
 refine al_nt ?_
 refine aw_cond rfl (fun hb1 => ?_) (fun hb1 => ?_)
 replace h := bif_t hb1 h
 refine aw_sr ?_
 refine as_ ?_
 refine an_ ?_
 refine aw_ret ?_
 refine aq_then_ret ?_
 cases h
 exact fr2_
 replace h := bif_f hb1 h
 refine aw_skip ?_
 refine aq_tr ?_
 refine mv_ ?_
 obtain ⟨hc2, h⟩ := req_some h
 refine al_val (ov_strIdx hc2.1 hc2.2 Tryz.underlying9 rfl rfl rfl) ?_
 refine al_val (ov_convInt (by rw [Tryz.underlying5]; rfl) Tryz.underlying3 rfl rfl) ?_
 refine an_ ?_
 refine aw_seq ?_
 refine sm_ ?_
 refine im_ ?_
 refine aw_cond rfl (fun hb3 => ?_) (fun hb3 => ?_)
 replace h := bif_t hb3 h
 refine sm_ ?_
 refine as_ ?_
 refine an_ ?_
 refine aw_ret ?_
 refine aq_then_ret ?_
 cases h
 exact fr2_
 replace h := bif_f hb3 h
 refine aw_skip ?_
 refine aq_tr ?_
 refine as_ ?_
 refine an_ ?_
 obtain ⟨kk5, hkk5, h⟩ := lt_some h
 refine aw_seq_join (ι := Int × Int × Int) (fun i => (memOf w0 Z0 [] [] [])) (fun i => (tab [(0, (str a0)), (4, (iq i.1)), (5, (iq i.2.1)), (6, (iq i.2.2))])) (fun i => kk5 i.1 i.2.1 i.2.2 = some r) ?_ ?_
 rintro ⟨j4i4, j4i5, j4i6⟩ h
 have h : kk5 j4i4 j4i5 j4i6 = some r := h
 rw [hkk5] at h
 dsimp only at h
 clear hkk5
 refine aw_show (m := (memOf w0 Z0 [] [] [])) (S := _) ?_
 refine aw_seq ?_
 refine sm_ ?_
 refine al_val (ov_strLen Tryz.underlying9 rfl rfl) ?_
 refine mv_ ?_
 refine im_ ?_
 refine aw_cond rfl (fun hb6 => ?_) (fun hb6 => ?_)
 replace h := bif_t hb6 h
 refine aw_sr ?_
 refine as_ ?_
 refine an_ ?_
 refine aw_ret ?_
 refine aq_then_ret ?_
 cases h
 exact fr2_
 replace h := bif_f hb6 h
 refine aw_skip ?_
 refine aq_then ?_
 obtain ⟨kk8, hkk8, h⟩ := lt_some h
 refine aw_seq_join (ι := Int) (fun i => (memOf w0 Z0 [] [] [])) (fun i => (tab [(4, (iq i)), (5, (iq j4i5)), (6, (iq j4i6))])) (fun i => kk8 i = some r) ?_ ?_
 rintro j7i4 h
 have h : kk8 j7i4 = some r := h
 rw [hkk8] at h
 dsimp only at h
 clear hkk8
 refine aw_show (m := (memOf w0 Z0 [] [] [])) (S := _) ?_
 refine aw_seq ?_
 obtain ⟨kk10, hkk10, h⟩ := lt_some h
 refine aw_seq_join (ι := Bool) (fun i => (memOf w0 Z0 [] [] [])) (fun i => (tab [(4, (iq j7i4)), (5, (iq j4i5)), (84, (bool i))])) (fun i => kk10 i = some r) ?_ ?_
 rintro j9b84 h
 have h : kk10 j9b84 = some r := h
 rw [hkk10] at h
 dsimp only at h
 clear hkk10
 refine aw_show (m := (memOf w0 Z0 [] [] [])) (S := _) ?_
 refine aw_cond rfl (fun hb11 => ?_) (fun hb11 => ?_)
 replace h := bif_t hb11 h
 refine aw_sr ?_
 refine as_ ?_
 refine an_ ?_
 refine aw_ret ?_
 refine aq_then_ret ?_
 cases h
 exact fr2_
 replace h := bif_f hb11 h
 refine aw_skip ?_
 refine aq_tr ?_
 refine mv_ ?_
 refine mv_ ?_
 refine as_ ?_
 refine an_ ?_
 refine aw_ret ?_
 cases h
 exact fr2_
 clear hkk10
 refine aw_region ?_
 refine mv_ ?_
 refine mv_ ?_
 refine in_ ?_
 refine mv_ ?_
 refine al_caseB 73 rfl (fun hb12 => ?_) (fun hb12 => ?_)
 replace h := bif_t hb12 h
 refine al_skip ?_
 refine al_skip ?_
 refine al_val (ov_pick_t rfl rfl rfl) ?_
 refine mv_ ?_
 iterate 6 refine al_skip ?_
 refine al_val (ov_pick_t rfl rfl rfl) ?_
 refine al_nil ?_
 exact aq_join true h (nm_ [] [] (by decide) ⟨rfl, rfl, rfl, trivial⟩)
 replace h := bif_f hb12 h
 refine mv_ ?_
 refine in_ ?_
 refine al_val (ov_pick_f rfl rfl rfl) ?_
 refine mv_ ?_
 refine al_caseB 77 rfl (fun hb13 => ?_) (fun hb13 => ?_)
 replace h := bif_t hb13 h
 iterate 6 refine al_skip ?_
 refine al_val (ov_pick_t rfl rfl rfl) ?_
 refine al_nil ?_
 exact aq_join true h (nm_ [] [] (by decide) ⟨rfl, rfl, rfl, trivial⟩)
 replace h := bif_f hb13 h
 refine mv_ ?_
 refine in_ ?_
 refine mv_ ?_
 refine al_caseB 80 rfl (fun hb14 => ?_) (fun hb14 => ?_)
 replace h := bif_t hb14 h
 refine mv_ ?_
 refine in_ ?_
 refine al_val (ov_pick_t rfl rfl rfl) ?_
 refine al_val (ov_pick_f rfl rfl rfl) ?_
 refine al_nil ?_
 exact aq_join (decide (j7i4 < (57344 : Int))) h (nm_ [] [] (by decide) ⟨rfl, rfl, rfl, trivial⟩)
 replace h := bif_f hb14 h
 refine al_skip ?_
 refine al_skip ?_
 refine al_val (ov_pick_f rfl rfl rfl) ?_
 refine al_val (ov_pick_f rfl rfl rfl) ?_
 refine al_nil ?_
 exact aq_join false h (nm_ [] [] (by decide) ⟨rfl, rfl, rfl, trivial⟩)
 clear hkk8
 refine sm_ ?_
 refine mv_ ?_
 obtain ⟨hc15, h⟩ := req_some h
 refine al_val (ov_strCut hc15.1 hc15.2.1 hc15.2.2 Tryz.underlying9 rfl rfl rfl rfl) ?_
 obtain ⟨hc16, h⟩ := req_some h
 refine al_bytes hc16 rfl Tryz.underlying9 Tryz.underlying84 Tryz.underlying5 rfl (fun s17 => ?_)
 refine al_val (ov_lenD 0 rfl rfl Tryz.underlying84 rfl) ?_
 refine mv_ ?_
 refine al_nt ?_
 refine aw_block ?_
 refine aw_state (aw_loop (ι := Int × Int) (fun i => (memOf w0 Z0 [] [] [(fDat (tyList tyU8) [s17] (cut a0 (1 : Int) j4i5))])) (fun i => (tab [(4, (iq i.1)), (5, (iq j4i5)), (6, (iq j4i6)), (51, s17), (52, (iq ((cut a0 (1 : Int) j4i5).length : Int))), (53, (iq i.2))])) (fun q i => f_lumref_char_L20 a0 j4i5 kk8 q i.1 i.2 = some r) ?_ fu (j4i4, (0 : Int)) h) (nm_ [] [0] (by decide) ⟨rfl, rfl, rfl, rfl, rfl, rfl, trivial⟩)
 clear h
 rintro k19 ⟨l18i4, l18i53⟩ h
 have h : f_lumref_char_L20 a0 j4i5 kk8 k19 l18i4 l18i53 = some r := h
 obtain _ | k19 := k19
 rw [f_lumref_char_L20] at h; cases h
 rw [f_lumref_char_L20] at h
 refine aw_show (m := (memOf w0 Z0 [] [] [(fDat (tyList tyU8) [s17] (cut a0 (1 : Int) j4i5))])) (S := _) ?_
 refine aw_sr ?_
 refine im_ ?_
 refine aw_seq ?_
 refine aw_cond rfl (fun hb21 => ?_) (fun hb21 => ?_)
 replace h := bif_t hb21 h
 refine aw_skip ?_
 refine aq_then ?_
 refine aw_seq ?_
 refine aw_block ?_
 refine aw_sr ?_
 obtain ⟨u22, hu23, h⟩ := opt_some h
 refine al_idxD 0 hu23 rfl rfl rfl Tryz.underlying84 sz5 rfl (fun p24 => ?_)
 refine al_val (ov_loadP (ds := [(i8 (u22.toNat : Int))]) 0 rfl (fun h => h) rfl Tryz.underlying5 sz5 rfl rfl rfl) ?_
 refine an_ ?_
 refine aw_seq ?_
 obtain ⟨kk26, hkk26, h⟩ := lt_some h
 refine aw_seq_join (ι := Bool) (fun i => (memOf w0 Z0 [] [] [(fDat (tyList tyU8) [s17] (cut a0 (1 : Int) j4i5)), (fPtr tyU8 p24 u22)])) (fun i => (tab [(4, (iq l18i4)), (5, (iq j4i5)), (6, (iq j4i6)), (8, (i8 (u22.toNat : Int))), (51, s17), (52, (iq ((cut a0 (1 : Int) j4i5).length : Int))), (53, (iq l18i53)), (62, (bool i))])) (fun i => kk26 i = some r) ?_ ?_
 rintro j25b62 h
 have h : kk26 j25b62 = some r := h
 rw [hkk26] at h
 dsimp only at h
 clear hkk26
 refine aw_show (m := (memOf w0 Z0 [] [] [(fDat (tyList tyU8) [s17] (cut a0 (1 : Int) j4i5)), (fPtr tyU8 p24 u22)])) (S := _) ?_
 refine aw_cond rfl (fun hb27 => ?_) (fun hb27 => ?_)
 replace h := bif_t hb27 h
 refine aw_sr ?_
 refine as_ ?_
 refine an_ ?_
 refine aw_ret ?_
 refine aq_then_ret ?_
 refine aq_block_ret ?_
 refine aq_then_ret ?_
 refine aq_then_ret ?_
 refine aq_block_ret ?_
 refine aq_then_ret ?_
 cases h
 exact fr2_
 replace h := bif_f hb27 h
 refine aw_skip ?_
 refine aq_then ?_
 refine aw_region ?_
 refine mv_ ?_
 refine in_ ?_
 refine mv_ ?_
 refine al_val (ov_convInt (by rw [Tryz.underlying5]; rfl) Tryz.underlying3 rfl rfl) ?_
 refine in_ ?_
 refine in_ ?_
 refine as_ ?_
 refine al_nil ?_
 refine aq_block ?_
 refine aq_then ?_
 refine aw_region ?_
 refine in_ ?_
 refine mv_ ?_
 refine al_nil ?_
 exact aq_again k19 ((wq ((wq ((wq ((64 : Int) * l18i4)) + (wq (u22.toNat : Int)))) - (128 : Int))), (wq (l18i53 + (1 : Int)))) (Nat.lt_succ_self _) h (nm_ [] [0] (by decide) ⟨rfl, rfl, rfl, rfl, rfl, rfl, trivial⟩)
 clear hkk26
 refine aw_region ?_
 refine mv_ ?_
 refine in_ ?_
 refine mv_ ?_
 refine al_caseB 59 rfl (fun hb28 => ?_) (fun hb28 => ?_)
 replace h := bif_t hb28 h
 refine al_skip ?_
 refine al_skip ?_
 refine al_val (ov_pick_t rfl rfl rfl) ?_
 refine al_nil ?_
 exact aq_join true h (nm_ [] [1, 0] (by decide) ⟨rfl, rfl, rfl, rfl, rfl, rfl, rfl, rfl, trivial⟩)
 replace h := bif_f hb28 h
 refine mv_ ?_
 refine in_ ?_
 refine al_val (ov_pick_f rfl rfl rfl) ?_
 refine al_nil ?_
 exact aq_join (decide ((u22.toNat : Int) > (191 : Int))) h (nm_ [] [1, 0] (by decide) ⟨rfl, rfl, rfl, rfl, rfl, rfl, rfl, rfl, trivial⟩)
 replace h := bif_f hb21 h
 refine aw_exit ?_
 refine aq_then_exit ?_
 refine aq_then_exit ?_
 refine aq_block_exit ?_
 exact aq_join l18i4 h (nm_ [] [] (by decide) ⟨rfl, rfl, rfl, trivial⟩)
 clear hkk5
 refine aw_block ?_
 obtain ⟨kk30, hkk30, h⟩ := lt_some h
 refine aw_seq_join (ι := Bool) (fun i => (memOf w0 Z0 [] [] [])) (fun i => (tab [(0, (str a0)), (4, (iq (wq (En.bAt a0 (0 : Int))))), (17, (bool i))])) (fun i => kk30 i = some r) ?_ ?_
 rintro j29b17 h
 have h : kk30 j29b17 = some r := h
 rw [hkk30] at h
 dsimp only at h
 clear hkk30
 refine aw_show (m := (memOf w0 Z0 [] [] [])) (S := _) ?_
 refine aw_cond rfl (fun hb31 => ?_) (fun hb31 => ?_)
 replace h := bif_t hb31 h
 refine aw_region ?_
 refine mv_ ?_
 refine in_ ?_
 refine as_ ?_
 refine as_ ?_
 refine as_ ?_
 refine al_nil ?_
 refine aq_block ?_
 exact aq_join ((wq ((wq (En.bAt a0 (0 : Int))) - (192 : Int))), (2 : Int), (128 : Int)) h (nm_ [] [] (by decide) ⟨rfl, rfl, rfl, rfl, trivial⟩)
 replace h := bif_f hb31 h
 obtain ⟨kk33, hkk33, h⟩ := lt_some h
 refine aw_seq_join (ι := Bool) (fun i => (memOf w0 Z0 [] [] [])) (fun i => (tab [(0, (str a0)), (4, (iq (wq (En.bAt a0 (0 : Int))))), (26, (bool i))])) (fun i => kk33 i = some r) ?_ ?_
 rintro j32b26 h
 have h : kk33 j32b26 = some r := h
 rw [hkk33] at h
 dsimp only at h
 clear hkk33
 refine aw_show (m := (memOf w0 Z0 [] [] [])) (S := _) ?_
 refine aw_cond rfl (fun hb34 => ?_) (fun hb34 => ?_)
 replace h := bif_t hb34 h
 refine aw_region ?_
 refine mv_ ?_
 refine in_ ?_
 refine as_ ?_
 refine as_ ?_
 refine as_ ?_
 refine al_nil ?_
 refine aq_block ?_
 exact aq_join ((wq ((wq (En.bAt a0 (0 : Int))) - (224 : Int))), (3 : Int), (2048 : Int)) h (nm_ [] [] (by decide) ⟨rfl, rfl, rfl, rfl, trivial⟩)
 replace h := bif_f hb34 h
 obtain ⟨kk36, hkk36, h⟩ := lt_some h
 refine aw_seq_join (ι := Bool) (fun i => (memOf w0 Z0 [] [] [])) (fun i => (tab [(0, (str a0)), (4, (iq (wq (En.bAt a0 (0 : Int))))), (35, (bool i))])) (fun i => kk36 i = some r) ?_ ?_
 rintro j35b35 h
 have h : kk36 j35b35 = some r := h
 rw [hkk36] at h
 dsimp only at h
 clear hkk36
 refine aw_show (m := (memOf w0 Z0 [] [] [])) (S := _) ?_
 refine aw_cond rfl (fun hb37 => ?_) (fun hb37 => ?_)
 replace h := bif_t hb37 h
 refine aw_region ?_
 refine mv_ ?_
 refine in_ ?_
 refine as_ ?_
 refine as_ ?_
 refine as_ ?_
 refine al_nil ?_
 refine aq_block ?_
 exact aq_join ((wq ((wq (En.bAt a0 (0 : Int))) - (240 : Int))), (4 : Int), (65536 : Int)) h (nm_ [] [] (by decide) ⟨rfl, rfl, rfl, rfl, trivial⟩)
 replace h := bif_f hb37 h
 refine aw_sr ?_
 refine as_ ?_
 refine an_ ?_
 refine aw_ret ?_
 refine aq_block_ret ?_
 refine aq_then_ret ?_
 cases h
 exact fr2_
 clear hkk36
 refine aw_region ?_
 refine mv_ ?_
 refine in_ ?_
 refine mv_ ?_
 refine al_caseB 38 rfl (fun hb38 => ?_) (fun hb38 => ?_)
 replace h := bif_t hb38 h
 refine mv_ ?_
 refine in_ ?_
 refine al_val (ov_pick_t rfl rfl rfl) ?_
 refine as_ ?_
 refine al_nil ?_
 exact aq_join (decide ((wq (En.bAt a0 (0 : Int))) < (245 : Int))) h (nm_ [] [] (by decide) ⟨rfl, rfl, rfl, trivial⟩)
 replace h := bif_f hb38 h
 refine al_skip ?_
 refine al_skip ?_
 refine al_val (ov_pick_f rfl rfl rfl) ?_
 refine as_ ?_
 refine al_nil ?_
 exact aq_join false h (nm_ [] [] (by decide) ⟨rfl, rfl, rfl, trivial⟩)
 clear hkk33
 refine aw_region ?_
 refine mv_ ?_
 refine in_ ?_
 refine mv_ ?_
 refine al_caseB 29 rfl (fun hb39 => ?_) (fun hb39 => ?_)
 replace h := bif_t hb39 h
 refine mv_ ?_
 refine in_ ?_
 refine al_val (ov_pick_t rfl rfl rfl) ?_
 refine as_ ?_
 refine al_nil ?_
 exact aq_join (decide ((wq (En.bAt a0 (0 : Int))) < (240 : Int))) h (nm_ [] [] (by decide) ⟨rfl, rfl, rfl, trivial⟩)
 replace h := bif_f hb39 h
 refine al_skip ?_
 refine al_skip ?_
 refine al_val (ov_pick_f rfl rfl rfl) ?_
 refine as_ ?_
 refine al_nil ?_
 exact aq_join false h (nm_ [] [] (by decide) ⟨rfl, rfl, rfl, trivial⟩)
 clear hkk30
 refine aw_region ?_
 refine mv_ ?_
 refine in_ ?_
 refine mv_ ?_
 refine al_caseB 20 rfl (fun hb40 => ?_) (fun hb40 => ?_)
 replace h := bif_t hb40 h
 refine mv_ ?_
 refine in_ ?_
 refine al_val (ov_pick_t rfl rfl rfl) ?_
 refine as_ ?_
 refine al_nil ?_
 exact aq_join (decide ((wq (En.bAt a0 (0 : Int))) < (224 : Int))) h (nm_ [] [] (by decide) ⟨rfl, rfl, rfl, trivial⟩)
 replace h := bif_f hb40 h
 refine al_skip ?_
 refine al_skip ?_
 refine al_val (ov_pick_f rfl rfl rfl) ?_
 refine as_ ?_
 refine al_nil ?_
 exact aq_join false h (nm_ [] [] (by decide) ⟨rfl, rfl, rfl, trivial⟩)
def f_lumref_Chars_L5 (kk2 : ((List Int) → Option ((List Int) × Bool))) (fu : Nat) : Nat → (List UInt8) → (List Int) → Option ((List Int) × Bool)
  | 0, _, _ => none
  | k4 + 1, l3s0, l3x4 => (bif (!(l3s0 == ([] : List UInt8))) then (opt (f_lumref_char fu l3s0) fun (r8 : (Int × Int)) => (bif (r8.2 == (0 : Int)) then (some (([] : List Int), false)) else (req (((l3x4.length + ([r8.1]).length) * 8 : Nat) ≤ 140737488355328 ∧ l3x4.length + ([r8.1]).length ≤ 9223372036854775807) (req (0 ≤ r8.2 ∧ r8.2 ≤ (l3s0.length : Int)) (f_lumref_Chars_L5 kk2 fu k4 (l3s0.drop (r8.2).toNat) (l3x4 ++ ([r8.1]))))))) else (kk2 l3x4))
def f_lumref_Chars (fu : Nat) (a0 : (List UInt8)) : Option ((List Int) × Bool) := (lt (fun (j1x4 : (List Int)) => (some (j1x4, true))) fun (kk2 : (List Int) → Option ((List Int) × Bool)) => (f_lumref_Chars_L5 kk2 fu fu a0 ([] : List Int)))
set_option maxHeartbeats 2000000 in
set_option maxRecDepth 100000 in
theorem f_lumref_Chars_ok (fu : Nat) (a0 : (List UInt8)) {r : ((List Int) × Bool)} (h : f_lumref_Chars fu a0 = some r) : FnOk Tryz.prog 78 [(str a0)] [] [] (fun (i : Value) => { val := (Value.tuple #[i, (bool r.2)]), own := [(oRow i 3 (tyInt .i64) r.1)] }) := by
 unfold f_lumref_Chars at h
 refine fn_enter Tryz.func78 rfl Tryz.ntmps78 rfl (fun w0 Z0 => ?_)
 refine aw_sr ?_
 refine as_ ?_
 refine an_ ?_
 refine aw_sr ?_
 refine an_ ?_
 obtain ⟨kk2, hkk2, h⟩ := lt_some h
 refine aw_seq_join (ι := Value × (List Int)) (fun i => (memOf w0 Z0 [] [(oRow i.1 3 tq i.2)] [])) (fun i => (tab [(4, i.1)])) (fun i => kk2 i.2 = some r) ?_ ?_
 rintro ⟨j1v4, j1x4⟩ h
 have h : kk2 j1x4 = some r := h
 rw [hkk2] at h
 dsimp only at h
 clear hkk2
 refine aw_show (m := (memOf w0 Z0 [] [(oRow j1v4 3 tq j1x4)] [])) (S := _) ?_
 refine sm_ ?_
 refine as_ ?_
 refine an_ ?_
 refine aw_ret ?_
 cases h
 exact fn_ret j1v4 [0] [] rfl rfl rfl rfl (res2 rfl rfl rfl) rfl rfl rfl (by decide)
 clear hkk2
 refine aw_block ?_
 refine aw_nilR 3 tq ?_
 refine aw_state (aw_loop (ι := (List UInt8) × Value × (List Int)) (fun i => (memOf w0 Z0 [] [(oRow i.2.1 3 tq i.2.2)] [])) (fun i => (tab [(0, (str i.1)), (4, i.2.1)])) (fun q i => f_lumref_Chars_L5 kk2 fu q i.1 i.2.2 = some r) ?_ fu (a0, nS, ([] : List Int)) h) (nm_ [0] [] (by decide) ⟨rfl, rfl, trivial⟩)
 clear h
 rintro k4 ⟨l3s0, l3v4, l3x4⟩ h
 have h : f_lumref_Chars_L5 kk2 fu k4 l3s0 l3x4 = some r := h
 obtain _ | k4 := k4
 rw [f_lumref_Chars_L5] at h; cases h
 rw [f_lumref_Chars_L5] at h
 refine aw_show (m := (memOf w0 Z0 [] [(oRow l3v4 3 tq l3x4)] [])) (S := _) ?_
 refine aw_seq ?_
 refine sm_ ?_
 refine al_val (ov_strCmp rfl rfl rfl rfl) ?_
 refine al_nt ?_
 refine aw_cond rfl (fun hb6 => ?_) (fun hb6 => ?_)
 replace h := bif_t hb6 h
 refine aw_skip ?_
 refine aq_then ?_
 refine aw_block ?_
 refine sm_ ?_
 obtain ⟨r8, hc7, h⟩ := opt_some h
 refine al_call (vs := [(str l3s0)]) (f_lumref_char_ok fu l3s0 hc7) [] [] [0] pre_nil rfl (by simp) (by decide) (.inl rfl) rfl Tryz.func94 rfl rfl rfl (fun _ => ?_)
 refine mv_ ?_
 refine al_ex rfl rfl rfl ?_
 refine al_ex rfl rfl rfl ?_
 refine as_ ?_
 refine an_ ?_
 refine aw_seq ?_
 refine sm_ ?_
 refine im_ ?_
 refine aw_cond rfl (fun hb9 => ?_) (fun hb9 => ?_)
 replace h := bif_t hb9 h
 refine aw_sr ?_
 refine as_ ?_
 refine an_ ?_
 refine aw_ret ?_
 refine aq_then_ret ?_
 refine aq_block_ret ?_
 refine aq_then_ret ?_
 refine aq_block_ret ?_
 refine aq_then_ret ?_
 refine aq_nilR 3 tq ?_
 cases h
 exact fn_ret nS [0] [] rfl rfl rfl rfl (res2 rfl rfl rfl) rfl rfl rfl (by decide)
 replace h := bif_f hb9 h
 refine aw_skip ?_
 refine aq_tr ?_
 refine mv_ ?_
 refine mv_ ?_
 refine al_buildSlice (τ := tq) (e := 3) (k := 1) (sz := 0) (by_ := 0) (z := undef) (cs := [(iq r8.1)]) (xs := [r8.1]) rfl (by decide) (fun w a hm hs => ⟨([(iq r8.1)]).toArray, rfl, by simp only [List.map_toArray, List.map_cons, List.map_nil, hs.ev (x := .tmp 17) rfl]; exact run_bs [(iq r8.1)] [(iq r8.1)] Tryz.underlying101 to3 rfl rfl (bs_cons (l := [(iq r8.1)]) (cs := []) (cv_rfl rfl) rfl bs_nil) hm⟩) (fun hm => ⟨_, _, rfl, (fun _ => rfl) hm, rfl⟩) rfl (fun v10 => ?_)
 obtain ⟨hc11, h⟩ := req_some h
 refine al_append 1 hc11.1 hc11.2 rfl (src_own (i := 1) 0 rfl) rfl rfl Tryz.underlying101 to3 rfl rfl rfl (fun v12 => ?_)
 refine an_ ?_
 refine aw_region ?_
 refine mv_ ?_
 refine mv_ ?_
 obtain ⟨hc13, h⟩ := req_some h
 refine al_val (ov_strFrom hc13.1 hc13.2 Tryz.underlying9 rfl rfl rfl) ?_
 refine as_ ?_
 refine al_nil ?_
 refine aq_block ?_
 exact aq_again k4 ((l3s0.drop (r8.2).toNat), v12, (l3x4 ++ ([r8.1]))) (Nat.lt_succ_self _) h (nm_ [1] [] (by decide) ⟨rfl, rfl, trivial⟩)
 replace h := bif_f hb6 h
 refine aw_exit ?_
 refine aq_then_exit ?_
 refine aq_then_exit ?_
 refine aq_block_exit ?_
 exact aq_join (l3v4, l3x4) h (nm_ [0] [] (by decide) ⟨rfl, trivial⟩)
def f_lumref_Name_L12 (r2 : ((List Int) × Bool)) (kk8 : (Unit → Option Int)) : Nat → Int → Option Int
  | 0, _ => none
  | k11 + 1, l10i29 => (bif (decide (l10i29 < (r2.1.length : Int))) then (opt (at? r2.1 l10i29) fun (u14 : Int) => (lt (fun (j18b42 : Bool) => (bif j18b42 then (some (8 : Int)) else (f_lumref_Name_L12 r2 kk8 k11 (IntKind.i64.wrap (l10i29 + (1 : Int)))))) fun (kk19 : Bool → Option Int) => (bif (u14 == (47 : Int)) then (kk19 true) else (bif (decide (u14 < (32 : Int))) then (kk19 true) else (kk19 (u14 == (127 : Int))))))) else (kk8 ()))
def f_lumref_Name (fu : Nat) (a0 : (List UInt8)) : Option Int := (opt (f_lumref_Chars fu a0) fun (r2 : ((List Int) × Bool)) => (lt (fun (j4b26 : Bool) => (bif j4b26 then (some (8 : Int)) else (lt (fun (_ : Unit) => (bif (decide ((r2.1.length : Int) > (24 : Int))) then (some (2 : Int)) else (some (0 : Int)))) fun (kk8 : Unit → Option Int) => (f_lumref_Name_L12 r2 kk8 fu (0 : Int))))) fun (kk5 : Bool → Option Int) => (bif (!r2.2) then (kk5 true) else (bif ((r2.1.length : Int) == (0 : Int)) then (kk5 true) else (bif (a0 == ([46] : List UInt8)) then (kk5 true) else (kk5 (a0 == ([46, 46] : List UInt8))))))))
set_option maxHeartbeats 2000000 in
set_option maxRecDepth 100000 in
theorem f_lumref_Name_ok (fu : Nat) (a0 : (List UInt8)) {r : Int} (h : f_lumref_Name fu a0 = some r) : FnOk Tryz.prog 58 [(str a0)] [] [] (fun (i : Unit) => { val := (int .i64 r) }) := by
 unfold f_lumref_Name at h
 refine fn_enter Tryz.func58 rfl Tryz.ntmps58 rfl (fun w0 Z0 => ?_)
 refine aw_sr ?_
 refine an_ ?_
 refine sm_ ?_
 obtain ⟨r2, hc1, h⟩ := opt_some h
 refine al_call (vs := [(str a0)]) (f_lumref_Chars_ok fu a0 hc1) [] [] [] pre_nil rfl (by simp) (by decide) (.inl rfl) rfl Tryz.func78 rfl rfl rfl (fun v3 => ?_)
 refine mv_ ?_
 refine al_ex rfl rfl rfl ?_
 refine al_ex rfl rfl rfl ?_
 refine as_ ?_
 refine an_ ?_
 refine aw_seq ?_
 obtain ⟨kk5, hkk5, h⟩ := lt_some h
 refine aw_seq_join (ι := Bool) (fun i => (memOf w0 Z0 [] [(oRow v3 3 tq r2.1)] [])) (fun i => (tab [(3, v3), (26, (bool i))])) (fun i => kk5 i = some r) ?_ ?_
 rintro j4b26 h
 have h : kk5 j4b26 = some r := h
 rw [hkk5] at h
 dsimp only at h
 clear hkk5
 refine aw_show (m := (memOf w0 Z0 [] [(oRow v3 3 tq r2.1)] [])) (S := _) ?_
 refine aw_cond rfl (fun hb6 => ?_) (fun hb6 => ?_)
 replace h := bif_t hb6 h
 refine aw_sr ?_
 refine an_ ?_
 refine aw_ret ?_
 refine aq_then_ret ?_
 cases h
 exact fr1_
 replace h := bif_f hb6 h
 refine aw_skip ?_
 refine aq_then ?_
 obtain ⟨kk8, hkk8, h⟩ := lt_some h
 refine aw_seq_join (ι := Unit) (fun i => (memOf w0 Z0 [] [(oRow v3 3 tq r2.1)] [])) (fun i => (tab [(3, v3)])) (fun i => kk8 () = some r) ?_ ?_
 rintro _ h
 have h : kk8 () = some r := h
 rw [hkk8] at h
 dsimp only at h
 clear hkk8
 refine aw_show (m := (memOf w0 Z0 [] [(oRow v3 3 tq r2.1)] [])) (S := _) ?_
 refine aw_seq ?_
 refine sm_ ?_
 refine al_val (ov_lenR 0 rfl rfl Tryz.underlying101 rfl) ?_
 refine im_ ?_
 refine aw_cond rfl (fun hb9 => ?_) (fun hb9 => ?_)
 replace h := bif_t hb9 h
 refine aw_sr ?_
 refine an_ ?_
 refine aw_ret ?_
 refine aq_then_ret ?_
 cases h
 exact fr1_
 replace h := bif_f hb9 h
 refine aw_skip ?_
 refine aq_tr ?_
 refine an_ ?_
 refine aw_ret ?_
 cases h
 exact fr1_
 clear hkk8
 refine sm_ ?_
 refine al_val (ov_lenR 0 rfl rfl Tryz.underlying101 rfl) ?_
 refine mv_ ?_
 refine al_nt ?_
 refine aw_block ?_
 refine aw_state (aw_loop (ι := Int) (fun i => (memOf w0 Z0 [] [(oRow v3 3 tq r2.1)] [])) (fun i => (tab [(3, v3), (27, v3), (28, (iq (r2.1.length : Int))), (29, (iq i))])) (fun q i => f_lumref_Name_L12 r2 kk8 q i = some r) ?_ fu (0 : Int) h) (nm_ [0] [] (by decide) ⟨rfl, rfl, rfl, rfl, trivial⟩)
 clear h
 rintro k11 l10i29 h
 have h : f_lumref_Name_L12 r2 kk8 k11 l10i29 = some r := h
 obtain _ | k11 := k11
 rw [f_lumref_Name_L12] at h; cases h
 rw [f_lumref_Name_L12] at h
 refine aw_show (m := (memOf w0 Z0 [] [(oRow v3 3 tq r2.1)] [])) (S := _) ?_
 refine aw_sr ?_
 refine im_ ?_
 refine aw_seq ?_
 refine aw_cond rfl (fun hb13 => ?_) (fun hb13 => ?_)
 replace h := bif_t hb13 h
 refine aw_skip ?_
 refine aq_then ?_
 refine aw_seq ?_
 refine aw_block ?_
 refine aw_sr ?_
 obtain ⟨u14, hu15, h⟩ := opt_some h
 refine al_idxR 0 (at_some hu15).1 (at_some hu15).2.1 rfl rfl rfl Tryz.underlying101 sz3 rfl (fun p16 hp17 => ?_)
 refine al_val (ov_loadR (ds := [(iq u14)]) 0 rfl hp17 (at_some hu15).2.2 (fun h => h) rfl Tryz.underlying3 sz3 rfl rfl rfl) ?_
 refine an_ ?_
 obtain ⟨kk19, hkk19, h⟩ := lt_some h
 refine aw_seq_join (ι := Bool) (fun i => (memOf w0 Z0 [] [(oRow v3 3 tq r2.1)] [])) (fun i => (tab [(3, v3), (27, v3), (28, (iq (r2.1.length : Int))), (29, (iq l10i29)), (42, (bool i))])) (fun i => kk19 i = some r) ?_ ?_
 rintro j18b42 h
 have h : kk19 j18b42 = some r := h
 rw [hkk19] at h
 dsimp only at h
 clear hkk19
 refine aw_show (m := (memOf w0 Z0 [] [(oRow v3 3 tq r2.1)] [])) (S := _) ?_
 refine aw_cond rfl (fun hb20 => ?_) (fun hb20 => ?_)
 replace h := bif_t hb20 h
 refine aw_sr ?_
 refine an_ ?_
 refine aw_ret ?_
 refine aq_block_ret ?_
 refine aq_then_ret ?_
 refine aq_then_ret ?_
 refine aq_block_ret ?_
 refine aq_then_ret ?_
 cases h
 exact fr1_
 replace h := bif_f hb20 h
 refine aw_skip ?_
 refine aq_block ?_
 refine aq_then ?_
 refine aw_region ?_
 refine in_ ?_
 refine mv_ ?_
 refine al_nil ?_
 exact aq_again k11 (wq (l10i29 + (1 : Int))) (Nat.lt_succ_self _) h (nm_ [0] [] (by decide) ⟨rfl, rfl, rfl, rfl, trivial⟩)
 clear hkk19
 refine aw_region ?_
 refine mv_ ?_
 refine in_ ?_
 refine mv_ ?_
 refine al_caseB 35 rfl (fun hb21 => ?_) (fun hb21 => ?_)
 replace h := bif_t hb21 h
 refine al_skip ?_
 refine al_skip ?_
 refine al_val (ov_pick_t rfl rfl rfl) ?_
 refine mv_ ?_
 refine al_skip ?_
 refine al_skip ?_
 refine al_val (ov_pick_t rfl rfl rfl) ?_
 refine al_nil ?_
 exact aq_join true h (nm_ [0] [] (by decide) ⟨rfl, rfl, rfl, rfl, rfl, trivial⟩)
 replace h := bif_f hb21 h
 refine mv_ ?_
 refine in_ ?_
 refine al_val (ov_pick_f rfl rfl rfl) ?_
 refine mv_ ?_
 refine al_caseB 39 rfl (fun hb22 => ?_) (fun hb22 => ?_)
 replace h := bif_t hb22 h
 refine al_skip ?_
 refine al_skip ?_
 refine al_val (ov_pick_t rfl rfl rfl) ?_
 refine al_nil ?_
 exact aq_join true h (nm_ [0] [] (by decide) ⟨rfl, rfl, rfl, rfl, rfl, trivial⟩)
 replace h := bif_f hb22 h
 refine mv_ ?_
 refine in_ ?_
 refine al_val (ov_pick_f rfl rfl rfl) ?_
 refine al_nil ?_
 exact aq_join (u14 == (127 : Int)) h (nm_ [0] [] (by decide) ⟨rfl, rfl, rfl, rfl, rfl, trivial⟩)
 replace h := bif_f hb13 h
 refine aw_exit ?_
 refine aq_then_exit ?_
 refine aq_then_exit ?_
 refine aq_block_exit ?_
 exact aq_join () h (nm_ [0] [] (by decide) ⟨rfl, trivial⟩)
 clear hkk5
 refine aw_region ?_
 refine mv_ ?_
 refine al_val (ov_not rfl rfl) ?_
 refine mv_ ?_
 refine al_caseB 14 rfl (fun hb23 => ?_) (fun hb23 => ?_)
 replace h := bif_t hb23 h
 iterate 3 refine al_skip ?_
 refine al_val (ov_pick_t rfl rfl rfl) ?_
 refine mv_ ?_
 refine al_skip ?_
 refine al_skip ?_
 refine al_val (ov_pick_t rfl rfl rfl) ?_
 refine mv_ ?_
 refine al_skip ?_
 refine al_skip ?_
 refine al_val (ov_pick_t rfl rfl rfl) ?_
 refine al_nil ?_
 exact aq_join true h (nm_ [0] [] (by decide) ⟨rfl, rfl, trivial⟩)
 replace h := bif_f hb23 h
 refine mv_ ?_
 refine al_val (ov_lenR 0 rfl rfl Tryz.underlying101 rfl) ?_
 refine in_ ?_
 refine al_val (ov_pick_f rfl rfl rfl) ?_
 refine mv_ ?_
 refine al_caseB 19 rfl (fun hb24 => ?_) (fun hb24 => ?_)
 replace h := bif_t hb24 h
 refine al_skip ?_
 refine al_skip ?_
 refine al_val (ov_pick_t rfl rfl rfl) ?_
 refine mv_ ?_
 refine al_skip ?_
 refine al_skip ?_
 refine al_val (ov_pick_t rfl rfl rfl) ?_
 refine al_nil ?_
 exact aq_join true h (nm_ [0] [] (by decide) ⟨rfl, rfl, trivial⟩)
 replace h := bif_f hb24 h
 refine mv_ ?_
 refine al_val (ov_strCmp rfl rfl rfl rfl) ?_
 refine al_val (ov_pick_f rfl rfl rfl) ?_
 refine mv_ ?_
 refine al_caseB 23 rfl (fun hb25 => ?_) (fun hb25 => ?_)
 replace h := bif_t hb25 h
 refine al_skip ?_
 refine al_skip ?_
 refine al_val (ov_pick_t rfl rfl rfl) ?_
 refine al_nil ?_
 exact aq_join true h (nm_ [0] [] (by decide) ⟨rfl, rfl, trivial⟩)
 replace h := bif_f hb25 h
 refine mv_ ?_
 refine al_val (ov_strCmp rfl rfl rfl rfl) ?_
 refine al_val (ov_pick_f rfl rfl rfl) ?_
 refine al_nil ?_
 exact aq_join (a0 == ([46, 46] : List UInt8)) h (nm_ [0] [] (by decide) ⟨rfl, rfl, trivial⟩)
def f_lumref_nameErr_L5 (a0 : (List (List UInt8))) (kk2 : (Unit → Option Int)) (fu : Nat) : Nat → Int → Option Int
  | 0, _ => none
  | k4 + 1, l3i8 => (bif (decide (l3i8 < (a0.length : Int))) then (opt (at? a0 l3i8) fun (u7 : (List UInt8)) => (bif (decide (l3i8 ≥ (8 : Int))) then (some (14 : Int)) else (opt (f_lumref_Name fu u7) fun (r12 : Int) => (bif (r12 != (0 : Int)) then (some r12) else (f_lumref_nameErr_L5 a0 kk2 fu k4 (IntKind.i64.wrap (l3i8 + (1 : Int)))))))) else (kk2 ()))
def f_lumref_nameErr (fu : Nat) (a0 : (List (List UInt8))) : Option Int := (lt (fun (_ : Unit) => (some (0 : Int))) fun (kk2 : Unit → Option Int) => (f_lumref_nameErr_L5 a0 kk2 fu fu (0 : Int)))
set_option maxHeartbeats 2000000 in
set_option maxRecDepth 100000 in
theorem f_lumref_nameErr_ok (fu : Nat) (v0_0 : Value) (a0 : (List (List UInt8))) {r : Int} (h : f_lumref_nameErr fu a0 = some r) : FnOk Tryz.prog 35 [v0_0] [(fDat (tyList tyStr) [v0_0] a0)] [] (fun (i : Unit) => { val := (int .i64 r) }) := by
 unfold f_lumref_nameErr at h
 refine fn_enter Tryz.func35 rfl Tryz.ntmps35 rfl (fun w0 Z0 => ?_)
 refine aw_sr ?_
 refine an_ ?_
 obtain ⟨kk2, hkk2, h⟩ := lt_some h
 refine aw_seq_join (ι := Unit) (fun i => (memOf w0 Z0 [] [] [(fDat (tyList tyStr) [v0_0] a0)])) (fun i => (tab [])) (fun i => kk2 () = some r) ?_ ?_
 rintro _ h
 have h : kk2 () = some r := h
 rw [hkk2] at h
 dsimp only at h
 clear hkk2
 refine aw_show (m := (memOf w0 Z0 [] [] [(fDat (tyList tyStr) [v0_0] a0)])) (S := _) ?_
 refine aw_sr ?_
 refine an_ ?_
 refine aw_ret ?_
 cases h
 exact fr1_
 clear hkk2
 refine sm_ ?_
 refine al_val (ov_lenD 0 rfl rfl Tryz.underlying54 rfl) ?_
 refine mv_ ?_
 refine al_nt ?_
 refine aw_block ?_
 refine aw_state (aw_loop (ι := Int) (fun i => (memOf w0 Z0 [] [] [(fDat (tyList tyStr) [v0_0] a0)])) (fun i => (tab [(6, v0_0), (7, (iq (a0.length : Int))), (8, (iq i))])) (fun q i => f_lumref_nameErr_L5 a0 kk2 fu q i = some r) ?_ fu (0 : Int) h) (nm_ [] [0] (by decide) ⟨rfl, rfl, rfl, trivial⟩)
 clear h
 rintro k4 l3i8 h
 have h : f_lumref_nameErr_L5 a0 kk2 fu k4 l3i8 = some r := h
 obtain _ | k4 := k4
 rw [f_lumref_nameErr_L5] at h; cases h
 rw [f_lumref_nameErr_L5] at h
 refine aw_show (m := (memOf w0 Z0 [] [] [(fDat (tyList tyStr) [v0_0] a0)])) (S := _) ?_
 refine aw_sr ?_
 refine im_ ?_
 refine aw_seq ?_
 refine aw_cond rfl (fun hb6 => ?_) (fun hb6 => ?_)
 replace h := bif_t hb6 h
 refine aw_skip ?_
 refine aq_then ?_
 refine aw_seq ?_
 refine aw_block ?_
 refine sm_ ?_
 obtain ⟨u7, hu8, h⟩ := opt_some h
 refine al_idxD 0 hu8 rfl rfl rfl Tryz.underlying54 sz9 rfl (fun p9 => ?_)
 refine al_val (ov_loadP (ds := [(str u7)]) 0 rfl (fun h => h) rfl Tryz.underlying9 sz9 rfl rfl rfl) ?_
 refine as_ ?_
 refine an_ ?_
 refine aw_seq ?_
 refine sm_ ?_
 refine im_ ?_
 refine aw_cond rfl (fun hb10 => ?_) (fun hb10 => ?_)
 replace h := bif_t hb10 h
 refine aw_sr ?_
 refine an_ ?_
 refine aw_ret ?_
 refine aq_then_ret ?_
 refine aq_block_ret ?_
 refine aq_then_ret ?_
 refine aq_then_ret ?_
 refine aq_block_ret ?_
 refine aq_then_ret ?_
 cases h
 exact fr1_
 replace h := bif_f hb10 h
 refine aw_skip ?_
 refine aq_tr ?_
 refine mv_ ?_
 obtain ⟨r12, hc11, h⟩ := opt_some h
 refine al_call (vs := [(str u7)]) (f_lumref_Name_ok fu u7 hc11) [] [] [] pre_nil rfl (by simp) (by decide) (.inl rfl) rfl Tryz.func58 rfl rfl rfl (fun _ => ?_)
 refine an_ ?_
 refine sm_ ?_
 refine im_ ?_
 refine aw_cond rfl (fun hb13 => ?_) (fun hb13 => ?_)
 replace h := bif_t hb13 h
 refine sm_ ?_
 refine an_ ?_
 refine aw_ret ?_
 refine aq_block_ret ?_
 refine aq_then_ret ?_
 refine aq_then_ret ?_
 refine aq_block_ret ?_
 refine aq_then_ret ?_
 cases h
 exact fr1_
 replace h := bif_f hb13 h
 refine aw_skip ?_
 refine aq_block ?_
 refine aq_then ?_
 refine aw_region ?_
 refine in_ ?_
 refine mv_ ?_
 refine al_nil ?_
 exact aq_again k4 (wq (l3i8 + (1 : Int))) (Nat.lt_succ_self _) h (nm_ [] [1] (by decide) ⟨rfl, rfl, rfl, trivial⟩)
 replace h := bif_f hb6 h
 refine aw_exit ?_
 refine aq_then_exit ?_
 refine aq_then_exit ?_
 refine aq_block_exit ?_
 exact aq_join () h (nm_ [] [0] (by decide) trivial)
def f_lumref_Split (fu : Nat) (a0 : (List UInt8)) : Option ((List (List UInt8)) × Int) := (lt (fun (j1b12 : Bool) => (bif j1b12 then (some (([] : List (List UInt8)), (8 : Int))) else (bif (a0 == ([47] : List UInt8)) then (some (([] : List (List UInt8)), (0 : Int))) else (req (0 ≤ (1 : Int) ∧ (1 : Int) ≤ (a0.length : Int)) (opt (f_lumref_cutAt fu (a0.drop ((1 : Int)).toNat)) fun (r7 : (List (List UInt8))) => (opt (f_lumref_nameErr fu r7) fun (r10 : Int) => (bif (r10 != (0 : Int)) then (some (([] : List (List UInt8)), r10)) else (some (r7, (0 : Int)))))))))) fun (kk2 : Bool → Option ((List (List UInt8)) × Int)) => (bif (a0 == ([] : List UInt8)) then (kk2 true) else (req (0 ≤ (0 : Int) ∧ (0 : Int) < (a0.length : Int)) (kk2 ((En.bAt a0 (0 : Int)) != (47 : Int))))))
set_option maxHeartbeats 2000000 in
set_option maxRecDepth 100000 in
theorem f_lumref_Split_ok (fu : Nat) (a0 : (List UInt8)) {r : ((List (List UInt8)) × Int)} (h : f_lumref_Split fu a0 = some r) : FnOk Tryz.prog 18 [(str a0)] [] [] (fun (i : Value) => { val := (Value.tuple #[i, (int .i64 r.2)]), own := [(oRow i 9 tyStr r.1)] }) := by
 unfold f_lumref_Split at h
 refine fn_enter Tryz.func18 rfl Tryz.ntmps18 rfl (fun w0 Z0 => ?_)
 refine aw_sr ?_
 refine as_ ?_
 refine an_ ?_
 refine aw_seq ?_
 obtain ⟨kk2, hkk2, h⟩ := lt_some h
 refine aw_seq_join (ι := Bool) (fun i => (memOf w0 Z0 [] [] [])) (fun i => (tab [(0, (str a0)), (12, (bool i))])) (fun i => kk2 i = some r) ?_ ?_
 rintro j1b12 h
 have h : kk2 j1b12 = some r := h
 rw [hkk2] at h
 dsimp only at h
 clear hkk2
 refine aw_show (m := (memOf w0 Z0 [] [] [])) (S := _) ?_
 refine aw_cond rfl (fun hb3 => ?_) (fun hb3 => ?_)
 replace h := bif_t hb3 h
 refine aw_sr ?_
 refine as_ ?_
 refine an_ ?_
 refine aw_ret ?_
 refine aq_then_ret ?_
 refine aq_nilR 9 tyStr ?_
 cases h
 exact fn_ret nS [0] [] rfl rfl rfl rfl (res2 rfl rfl rfl) rfl rfl rfl (by decide)
 replace h := bif_f hb3 h
 refine aw_skip ?_
 refine aq_then ?_
 refine aw_seq ?_
 refine sm_ ?_
 refine al_val (ov_strCmp rfl rfl rfl rfl) ?_
 refine al_nt ?_
 refine aw_cond rfl (fun hb4 => ?_) (fun hb4 => ?_)
 replace h := bif_t hb4 h
 refine aw_sr ?_
 refine as_ ?_
 refine an_ ?_
 refine aw_ret ?_
 refine aq_then_ret ?_
 refine aq_nilR 9 tyStr ?_
 cases h
 exact fn_ret nS [0] [] rfl rfl rfl rfl (res2 rfl rfl rfl) rfl rfl rfl (by decide)
 replace h := bif_f hb4 h
 refine aw_skip ?_
 refine aq_tr ?_
 refine mv_ ?_
 obtain ⟨hc5, h⟩ := req_some h
 refine al_val (ov_strFrom hc5.1 hc5.2 Tryz.underlying9 rfl rfl rfl) ?_
 obtain ⟨r7, hc6, h⟩ := opt_some h
 refine al_call (vs := [(str (a0.drop ((1 : Int)).toNat))]) (f_lumref_cutAt_ok fu (a0.drop ((1 : Int)).toNat) hc6) [] [] [] pre_nil rfl (by simp) (by decide) (.inl rfl) rfl Tryz.func34 rfl rfl rfl (fun v8 => ?_)
 refine an_ ?_
 refine aw_seq ?_
 refine sm_ ?_
 obtain ⟨r10, hc9, h⟩ := opt_some h
 refine al_call (vs := [v8]) (f_lumref_nameErr_ok fu v8 r7 hc9) [0] [] [0] (pre_own 0 rfl rfl pre_nil) rfl (by simp) (by decide) (.inr flat_res0) rfl Tryz.func35 rfl rfl rfl (fun _ => ?_)
 refine an_ ?_
 refine sm_ ?_
 refine im_ ?_
 refine aw_cond rfl (fun hb11 => ?_) (fun hb11 => ?_)
 replace h := bif_t hb11 h
 refine sm_ ?_
 refine as_ ?_
 refine an_ ?_
 refine aw_ret ?_
 refine aq_then_ret ?_
 refine aq_nilR 9 tyStr ?_
 cases h
 exact fn_ret nS [0] [] rfl rfl rfl rfl (res2 rfl rfl rfl) rfl rfl rfl (by decide)
 replace h := bif_f hb11 h
 refine aw_skip ?_
 refine aq_tr ?_
 refine mv_ ?_
 refine as_ ?_
 refine an_ ?_
 refine aw_ret ?_
 cases h
 exact fn_ret v8 [0] [] rfl rfl rfl rfl (res2 rfl rfl rfl) rfl rfl rfl (by decide)
 clear hkk2
 refine aw_region ?_
 refine mv_ ?_
 refine al_val (ov_strCmp rfl rfl rfl rfl) ?_
 refine mv_ ?_
 refine al_caseB 8 rfl (fun hb12 => ?_) (fun hb12 => ?_)
 replace h := bif_t hb12 h
 iterate 3 refine al_skip ?_
 refine al_val (ov_pick_t rfl rfl rfl) ?_
 refine al_nil ?_
 exact aq_join true h (nm_ [] [] (by decide) ⟨rfl, rfl, trivial⟩)
 replace h := bif_f hb12 h
 refine mv_ ?_
 obtain ⟨hc13, h⟩ := req_some h
 refine al_val (ov_strIdx hc13.1 hc13.2 Tryz.underlying9 rfl rfl rfl) ?_
 refine in_ ?_
 refine al_val (ov_pick_f rfl rfl rfl) ?_
 refine al_nil ?_
 exact aq_join ((En.bAt a0 (0 : Int)) != (47 : Int)) h (nm_ [] [] (by decide) ⟨rfl, rfl, trivial⟩)
def f_lumref_itemErr (fu : Nat) (a0 : S_api_Item) : Option Int := (opt (f_lumref_Split fu a0.Path) fun (r3 : ((List (List UInt8)) × Int)) => (bif (r3.2 != (0 : Int)) then (some r3.2) else (bif ((r3.1.length : Int) == (0 : Int)) then (some (8 : Int)) else (lt (fun (j7b19 : Bool) => (bif j7b19 then (some (5 : Int)) else (lt (fun (j10b33 : Bool) => (bif j10b33 then (some (1 : Int)) else (lt (fun (j13b42 : Bool) => (bif j13b42 then (some (2 : Int)) else (lt (fun (j16b73 : Bool) => (bif j16b73 then (some (4 : Int)) else (some (0 : Int)))) fun (kk17 : Bool → Option Int) => (bif (a0.Kind == (3 : Int)) then (kk17 (a0.Bytes == ([] : List UInt8))) else (kk17 false))))) fun (kk14 : Bool → Option Int) => (bif (a0.Kind == (1 : Int)) then (bif (decide ((a0.Bytes.length : Int) > (4096 : Int))) then (kk14 true) else (bif (a0.Kind == (2 : Int)) then (bif (!(a0.Bytes == ([] : List UInt8))) then (kk14 true) else (bif (a0.Kind == (3 : Int)) then (kk14 (decide ((a0.Bytes.length : Int) > (1024 : Int)))) else (kk14 false))) else (bif (a0.Kind == (3 : Int)) then (kk14 (decide ((a0.Bytes.length : Int) > (1024 : Int)))) else (kk14 false)))) else (bif (a0.Kind == (2 : Int)) then (bif (!(a0.Bytes == ([] : List UInt8))) then (kk14 true) else (bif (a0.Kind == (3 : Int)) then (kk14 (decide ((a0.Bytes.length : Int) > (1024 : Int)))) else (kk14 false))) else (bif (a0.Kind == (3 : Int)) then (kk14 (decide ((a0.Bytes.length : Int) > (1024 : Int)))) else (kk14 false))))))) fun (kk11 : Bool → Option Int) => (bif (decide (a0.Mode < (0 : Int))) then (kk11 true) else (kk11 (decide (a0.Mode > (511 : Int)))))))) fun (kk8 : Bool → Option Int) => (bif (a0.Kind != (1 : Int)) then (bif (a0.Kind != (2 : Int)) then (kk8 (a0.Kind != (3 : Int))) else (kk8 false)) else (kk8 false))))))
set_option maxRecDepth 100000 in
set_option maxHeartbeats 2000000 in
set_option maxHeartbeats 2000000 in
theorem f_lumref_itemErr_ok (fu : Nat) (a0 : S_api_Item) {r : Int} (h : f_lumref_itemErr fu a0 = some r) : FnOk Tryz.prog 16 [(ag [(str a0.Path), (int .i64 a0.Kind), (int .i64 a0.Mode), (int .i64 a0.Time), (str a0.Bytes)])] [] [] (fun (i : Unit) => { val := (int .i64 r) }) := by
 unfold f_lumref_itemErr at h
 refine fn_enter Tryz.func16 rfl Tryz.ntmps16 rfl (fun w0 Z0 => ?_)
 refine aw_sr ?_
 refine al_box (vs := [(str a0.Path), (iq a0.Kind), (iq a0.Mode), (iq a0.Time), (str a0.Bytes)]) rfl (cv_rfl rfl) rfl (fun g1 => ?_)
 refine an_ ?_
 refine aw_sr ?_
 refine al_val (ov_fieldA (p := 0) rfl Tryz.underlying45 rfl sz9 rfl rfl rfl) ?_
 refine al_val (ov_load (i := 0) (v := (str a0.Path)) rfl rfl Tryz.underlying9 sz9 rfl rfl rfl rfl) ?_
 obtain ⟨r3, hc2, h⟩ := opt_some h
 refine al_call (vs := [(str a0.Path)]) (f_lumref_Split_ok fu a0.Path hc2) [] [] [0] pre_nil rfl (by simp) (by decide) (.inl rfl) rfl Tryz.func18 rfl rfl rfl (fun v4 => ?_)
 refine mv_ ?_
 refine al_ex rfl rfl rfl ?_
 refine al_ex rfl rfl rfl ?_
 refine as_ ?_
 refine an_ ?_
 refine aw_seq ?_
 refine aw_block ?_
 refine sm_ ?_
 refine in_ ?_
 refine an_ ?_
 refine aw_cond rfl (fun hb5 => ?_) (fun hb5 => ?_)
 replace h := bif_t hb5 h
 refine sm_ ?_
 refine an_ ?_
 refine aw_ret ?_
 refine aq_block_ret ?_
 refine aq_then_ret ?_
 cases h
 exact fr1_
 replace h := bif_f hb5 h
 refine sm_ ?_
 refine al_val (ov_lenR 0 rfl rfl Tryz.underlying54 rfl) ?_
 refine in_ ?_
 refine an_ ?_
 refine aw_cond rfl (fun hb6 => ?_) (fun hb6 => ?_)
 replace h := bif_t hb6 h
 refine aw_sr ?_
 refine an_ ?_
 refine aw_ret ?_
 refine aq_block_ret ?_
 refine aq_then_ret ?_
 cases h
 exact fr1_
 replace h := bif_f hb6 h
 obtain ⟨kk8, hkk8, h⟩ := lt_some h
 refine aw_seq_join (ι := Bool) (fun i => (memOf w0 Z0 [] [(oBox g1 45 [(str a0.Path), (iq a0.Kind), (iq a0.Mode), (iq a0.Time), (str a0.Bytes)])] [])) (fun i => (tab [(1, (pq g1)), (19, (bool i))])) (fun i => kk8 i = some r) ?_ ?_
 rintro j7b19 h
 have h : kk8 j7b19 = some r := h
 rw [hkk8] at h
 dsimp only at h
 clear hkk8
 refine aw_show (m := (memOf w0 Z0 [] [(oBox g1 45 [(str a0.Path), (iq a0.Kind), (iq a0.Mode), (iq a0.Time), (str a0.Bytes)])] [])) (S := _) ?_
 refine aw_cond rfl (fun hb9 => ?_) (fun hb9 => ?_)
 replace h := bif_t hb9 h
 refine aw_sr ?_
 refine an_ ?_
 refine aw_ret ?_
 refine aq_block_ret ?_
 refine aq_then_ret ?_
 cases h
 exact fr1_
 replace h := bif_f hb9 h
 obtain ⟨kk11, hkk11, h⟩ := lt_some h
 refine aw_seq_join (ι := Bool) (fun i => (memOf w0 Z0 [] [(oBox g1 45 [(str a0.Path), (iq a0.Kind), (iq a0.Mode), (iq a0.Time), (str a0.Bytes)])] [])) (fun i => (tab [(1, (pq g1)), (33, (bool i))])) (fun i => kk11 i = some r) ?_ ?_
 rintro j10b33 h
 have h : kk11 j10b33 = some r := h
 rw [hkk11] at h
 dsimp only at h
 clear hkk11
 refine aw_show (m := (memOf w0 Z0 [] [(oBox g1 45 [(str a0.Path), (iq a0.Kind), (iq a0.Mode), (iq a0.Time), (str a0.Bytes)])] [])) (S := _) ?_
 refine aw_cond rfl (fun hb12 => ?_) (fun hb12 => ?_)
 replace h := bif_t hb12 h
 refine aw_sr ?_
 refine an_ ?_
 refine aw_ret ?_
 refine aq_block_ret ?_
 refine aq_then_ret ?_
 cases h
 exact fr1_
 replace h := bif_f hb12 h
 obtain ⟨kk14, hkk14, h⟩ := lt_some h
 refine aw_seq_join (ι := Bool) (fun i => (memOf w0 Z0 [] [(oBox g1 45 [(str a0.Path), (iq a0.Kind), (iq a0.Mode), (iq a0.Time), (str a0.Bytes)])] [])) (fun i => (tab [(1, (pq g1)), (42, (bool i))])) (fun i => kk14 i = some r) ?_ ?_
 rintro j13b42 h
 have h : kk14 j13b42 = some r := h
 rw [hkk14] at h
 dsimp only at h
 clear hkk14
 refine aw_show (m := (memOf w0 Z0 [] [(oBox g1 45 [(str a0.Path), (iq a0.Kind), (iq a0.Mode), (iq a0.Time), (str a0.Bytes)])] [])) (S := _) ?_
 refine aw_cond rfl (fun hb15 => ?_) (fun hb15 => ?_)
 replace h := bif_t hb15 h
 refine aw_sr ?_
 refine an_ ?_
 refine aw_ret ?_
 refine aq_block_ret ?_
 refine aq_then_ret ?_
 cases h
 exact fr1_
 replace h := bif_f hb15 h
 obtain ⟨kk17, hkk17, h⟩ := lt_some h
 refine aw_seq_join (ι := Bool) (fun i => (memOf w0 Z0 [] [] [])) (fun i => (tab [(73, (bool i))])) (fun i => kk17 i = some r) ?_ ?_
 rintro j16b73 h
 have h : kk17 j16b73 = some r := h
 rw [hkk17] at h
 dsimp only at h
 clear hkk17
 refine aw_show (m := (memOf w0 Z0 [] [] [])) (S := _) ?_
 refine aw_cond rfl (fun hb18 => ?_) (fun hb18 => ?_)
 replace h := bif_t hb18 h
 refine aw_sr ?_
 refine an_ ?_
 refine aw_ret ?_
 refine aq_block_ret ?_
 refine aq_then_ret ?_
 cases h
 exact fr1_
 replace h := bif_f hb18 h
 refine aw_skip ?_
 refine aq_block ?_
 refine aq_tr ?_
 refine an_ ?_
 refine aw_ret ?_
 cases h
 exact fr1_
 clear hkk17
 refine aw_region ?_
 refine al_val (ov_fieldA (p := 1) rfl Tryz.underlying45 rfl sz3 rfl rfl rfl) ?_
 refine al_val (ov_load (i := 0) (v := (iq a0.Kind)) rfl rfl Tryz.underlying3 sz3 rfl rfl rfl rfl) ?_
 refine in_ ?_
 refine mv_ ?_
 refine al_caseB 77 rfl (fun hb19 => ?_) (fun hb19 => ?_)
 replace h := bif_t hb19 h
 refine al_val (ov_fieldA (p := 4) rfl Tryz.underlying45 rfl sz9 rfl rfl rfl) ?_
 refine al_val (ov_load (i := 0) (v := (str a0.Bytes)) rfl rfl Tryz.underlying9 sz9 rfl rfl rfl rfl) ?_
 refine al_val (ov_strCmp rfl rfl rfl rfl) ?_
 refine al_val (ov_pick_t rfl rfl rfl) ?_
 refine as_ ?_
 refine al_nil ?_
 exact aq_join (a0.Bytes == ([] : List UInt8)) h (nm_ [] [] (by decide) ⟨rfl, trivial⟩)
 replace h := bif_f hb19 h
 iterate 3 refine al_skip ?_
 refine al_val (ov_pick_f rfl rfl rfl) ?_
 refine as_ ?_
 refine al_nil ?_
 exact aq_join false h (nm_ [] [] (by decide) ⟨rfl, trivial⟩)
 clear hkk14
 refine aw_region ?_
 refine al_val (ov_fieldA (p := 1) rfl Tryz.underlying45 rfl sz3 rfl rfl rfl) ?_
 refine al_val (ov_load (i := 0) (v := (iq a0.Kind)) rfl rfl Tryz.underlying3 sz3 rfl rfl rfl rfl) ?_
 refine in_ ?_
 refine mv_ ?_
 refine al_caseB 46 rfl (fun hb20 => ?_) (fun hb20 => ?_)
 replace h := bif_t hb20 h
 refine al_val (ov_fieldA (p := 4) rfl Tryz.underlying45 rfl sz9 rfl rfl rfl) ?_
 refine al_val (ov_load (i := 0) (v := (str a0.Bytes)) rfl rfl Tryz.underlying9 sz9 rfl rfl rfl rfl) ?_
 refine al_val (ov_strLen Tryz.underlying9 rfl rfl) ?_
 refine in_ ?_
 refine al_val (ov_pick_t rfl rfl rfl) ?_
 refine mv_ ?_
 refine al_caseB 52 rfl (fun hb21 => ?_) (fun hb21 => ?_)
 replace h := bif_t hb21 h
 iterate 8 refine al_skip ?_
 refine al_val (ov_pick_t rfl rfl rfl) ?_
 refine mv_ ?_
 iterate 9 refine al_skip ?_
 refine al_val (ov_pick_t rfl rfl rfl) ?_
 refine as_ ?_
 refine al_nil ?_
 exact aq_join true h (nm_ [0] [] (by decide) ⟨rfl, rfl, trivial⟩)
 replace h := bif_f hb21 h
 refine al_val (ov_fieldA (p := 1) rfl Tryz.underlying45 rfl sz3 rfl rfl rfl) ?_
 refine al_val (ov_load (i := 0) (v := (iq a0.Kind)) rfl rfl Tryz.underlying3 sz3 rfl rfl rfl rfl) ?_
 refine in_ ?_
 refine mv_ ?_
 refine al_caseB 56 rfl (fun hb22 => ?_) (fun hb22 => ?_)
 replace h := bif_t hb22 h
 refine al_val (ov_fieldA (p := 4) rfl Tryz.underlying45 rfl sz9 rfl rfl rfl) ?_
 refine al_val (ov_load (i := 0) (v := (str a0.Bytes)) rfl rfl Tryz.underlying9 sz9 rfl rfl rfl rfl) ?_
 refine al_val (ov_strCmp rfl rfl rfl rfl) ?_
 refine al_val (ov_pick_t rfl rfl rfl) ?_
 refine al_val (ov_pick_f rfl rfl rfl) ?_
 refine mv_ ?_
 refine al_caseB 62 rfl (fun hb23 => ?_) (fun hb23 => ?_)
 replace h := bif_t hb23 h
 iterate 9 refine al_skip ?_
 refine al_val (ov_pick_t rfl rfl rfl) ?_
 refine as_ ?_
 refine al_nil ?_
 exact aq_join true h (nm_ [0] [] (by decide) ⟨rfl, rfl, trivial⟩)
 replace h := bif_f hb23 h
 refine al_val (ov_fieldA (p := 1) rfl Tryz.underlying45 rfl sz3 rfl rfl rfl) ?_
 refine al_val (ov_load (i := 0) (v := (iq a0.Kind)) rfl rfl Tryz.underlying3 sz3 rfl rfl rfl rfl) ?_
 refine in_ ?_
 refine mv_ ?_
 refine al_caseB 66 rfl (fun hb24 => ?_) (fun hb24 => ?_)
 replace h := bif_t hb24 h
 refine al_val (ov_fieldA (p := 4) rfl Tryz.underlying45 rfl sz9 rfl rfl rfl) ?_
 refine al_val (ov_load (i := 0) (v := (str a0.Bytes)) rfl rfl Tryz.underlying9 sz9 rfl rfl rfl rfl) ?_
 refine al_val (ov_strLen Tryz.underlying9 rfl rfl) ?_
 refine in_ ?_
 refine al_val (ov_pick_t rfl rfl rfl) ?_
 refine al_val (ov_pick_f rfl rfl rfl) ?_
 refine as_ ?_
 refine al_nil ?_
 exact aq_join (decide ((a0.Bytes.length : Int) > (1024 : Int))) h (nm_ [0] [] (by decide) ⟨rfl, rfl, trivial⟩)
 replace h := bif_f hb24 h
 iterate 4 refine al_skip ?_
 refine al_val (ov_pick_f rfl rfl rfl) ?_
 refine al_val (ov_pick_f rfl rfl rfl) ?_
 refine as_ ?_
 refine al_nil ?_
 exact aq_join false h (nm_ [0] [] (by decide) ⟨rfl, rfl, trivial⟩)
 replace h := bif_f hb22 h
 iterate 3 refine al_skip ?_
 refine al_val (ov_pick_f rfl rfl rfl) ?_
 refine al_val (ov_pick_f rfl rfl rfl) ?_
 refine mv_ ?_
 refine al_val (ov_fieldA (p := 1) rfl Tryz.underlying45 rfl sz3 rfl rfl rfl) ?_
 refine al_val (ov_load (i := 0) (v := (iq a0.Kind)) rfl rfl Tryz.underlying3 sz3 rfl rfl rfl rfl) ?_
 refine in_ ?_
 refine mv_ ?_
 refine al_caseB 66 rfl (fun hb25 => ?_) (fun hb25 => ?_)
 replace h := bif_t hb25 h
 refine al_val (ov_fieldA (p := 4) rfl Tryz.underlying45 rfl sz9 rfl rfl rfl) ?_
 refine al_val (ov_load (i := 0) (v := (str a0.Bytes)) rfl rfl Tryz.underlying9 sz9 rfl rfl rfl rfl) ?_
 refine al_val (ov_strLen Tryz.underlying9 rfl rfl) ?_
 refine in_ ?_
 refine al_val (ov_pick_t rfl rfl rfl) ?_
 refine al_val (ov_pick_f rfl rfl rfl) ?_
 refine as_ ?_
 refine al_nil ?_
 exact aq_join (decide ((a0.Bytes.length : Int) > (1024 : Int))) h (nm_ [0] [] (by decide) ⟨rfl, rfl, trivial⟩)
 replace h := bif_f hb25 h
 iterate 4 refine al_skip ?_
 refine al_val (ov_pick_f rfl rfl rfl) ?_
 refine al_val (ov_pick_f rfl rfl rfl) ?_
 refine as_ ?_
 refine al_nil ?_
 exact aq_join false h (nm_ [0] [] (by decide) ⟨rfl, rfl, trivial⟩)
 replace h := bif_f hb20 h
 iterate 4 refine al_skip ?_
 refine al_val (ov_pick_f rfl rfl rfl) ?_
 refine mv_ ?_
 refine al_val (ov_fieldA (p := 1) rfl Tryz.underlying45 rfl sz3 rfl rfl rfl) ?_
 refine al_val (ov_load (i := 0) (v := (iq a0.Kind)) rfl rfl Tryz.underlying3 sz3 rfl rfl rfl rfl) ?_
 refine in_ ?_
 refine mv_ ?_
 refine al_caseB 56 rfl (fun hb26 => ?_) (fun hb26 => ?_)
 replace h := bif_t hb26 h
 refine al_val (ov_fieldA (p := 4) rfl Tryz.underlying45 rfl sz9 rfl rfl rfl) ?_
 refine al_val (ov_load (i := 0) (v := (str a0.Bytes)) rfl rfl Tryz.underlying9 sz9 rfl rfl rfl rfl) ?_
 refine al_val (ov_strCmp rfl rfl rfl rfl) ?_
 refine al_val (ov_pick_t rfl rfl rfl) ?_
 refine al_val (ov_pick_f rfl rfl rfl) ?_
 refine mv_ ?_
 refine al_caseB 62 rfl (fun hb27 => ?_) (fun hb27 => ?_)
 replace h := bif_t hb27 h
 iterate 9 refine al_skip ?_
 refine al_val (ov_pick_t rfl rfl rfl) ?_
 refine as_ ?_
 refine al_nil ?_
 exact aq_join true h (nm_ [0] [] (by decide) ⟨rfl, rfl, trivial⟩)
 replace h := bif_f hb27 h
 refine al_val (ov_fieldA (p := 1) rfl Tryz.underlying45 rfl sz3 rfl rfl rfl) ?_
 refine al_val (ov_load (i := 0) (v := (iq a0.Kind)) rfl rfl Tryz.underlying3 sz3 rfl rfl rfl rfl) ?_
 refine in_ ?_
 refine mv_ ?_
 refine al_caseB 66 rfl (fun hb28 => ?_) (fun hb28 => ?_)
 replace h := bif_t hb28 h
 refine al_val (ov_fieldA (p := 4) rfl Tryz.underlying45 rfl sz9 rfl rfl rfl) ?_
 refine al_val (ov_load (i := 0) (v := (str a0.Bytes)) rfl rfl Tryz.underlying9 sz9 rfl rfl rfl rfl) ?_
 refine al_val (ov_strLen Tryz.underlying9 rfl rfl) ?_
 refine in_ ?_
 refine al_val (ov_pick_t rfl rfl rfl) ?_
 refine al_val (ov_pick_f rfl rfl rfl) ?_
 refine as_ ?_
 refine al_nil ?_
 exact aq_join (decide ((a0.Bytes.length : Int) > (1024 : Int))) h (nm_ [0] [] (by decide) ⟨rfl, rfl, trivial⟩)
 replace h := bif_f hb28 h
 iterate 4 refine al_skip ?_
 refine al_val (ov_pick_f rfl rfl rfl) ?_
 refine al_val (ov_pick_f rfl rfl rfl) ?_
 refine as_ ?_
 refine al_nil ?_
 exact aq_join false h (nm_ [0] [] (by decide) ⟨rfl, rfl, trivial⟩)
 replace h := bif_f hb26 h
 iterate 3 refine al_skip ?_
 refine al_val (ov_pick_f rfl rfl rfl) ?_
 refine al_val (ov_pick_f rfl rfl rfl) ?_
 refine mv_ ?_
 refine al_val (ov_fieldA (p := 1) rfl Tryz.underlying45 rfl sz3 rfl rfl rfl) ?_
 refine al_val (ov_load (i := 0) (v := (iq a0.Kind)) rfl rfl Tryz.underlying3 sz3 rfl rfl rfl rfl) ?_
 refine in_ ?_
 refine mv_ ?_
 refine al_caseB 66 rfl (fun hb29 => ?_) (fun hb29 => ?_)
 replace h := bif_t hb29 h
 refine al_val (ov_fieldA (p := 4) rfl Tryz.underlying45 rfl sz9 rfl rfl rfl) ?_
 refine al_val (ov_load (i := 0) (v := (str a0.Bytes)) rfl rfl Tryz.underlying9 sz9 rfl rfl rfl rfl) ?_
 refine al_val (ov_strLen Tryz.underlying9 rfl rfl) ?_
 refine in_ ?_
 refine al_val (ov_pick_t rfl rfl rfl) ?_
 refine al_val (ov_pick_f rfl rfl rfl) ?_
 refine as_ ?_
 refine al_nil ?_
 exact aq_join (decide ((a0.Bytes.length : Int) > (1024 : Int))) h (nm_ [0] [] (by decide) ⟨rfl, rfl, trivial⟩)
 replace h := bif_f hb29 h
 iterate 4 refine al_skip ?_
 refine al_val (ov_pick_f rfl rfl rfl) ?_
 refine al_val (ov_pick_f rfl rfl rfl) ?_
 refine as_ ?_
 refine al_nil ?_
 exact aq_join false h (nm_ [0] [] (by decide) ⟨rfl, rfl, trivial⟩)
 clear hkk11
 refine aw_region ?_
 refine al_val (ov_fieldA (p := 2) rfl Tryz.underlying45 rfl sz3 rfl rfl rfl) ?_
 refine al_val (ov_load (i := 0) (v := (iq a0.Mode)) rfl rfl Tryz.underlying3 sz3 rfl rfl rfl rfl) ?_
 refine in_ ?_
 refine mv_ ?_
 refine al_caseB 37 rfl (fun hb30 => ?_) (fun hb30 => ?_)
 replace h := bif_t hb30 h
 iterate 3 refine al_skip ?_
 refine al_val (ov_pick_t rfl rfl rfl) ?_
 refine as_ ?_
 refine al_nil ?_
 exact aq_join true h (nm_ [0] [] (by decide) ⟨rfl, rfl, trivial⟩)
 replace h := bif_f hb30 h
 refine al_val (ov_fieldA (p := 2) rfl Tryz.underlying45 rfl sz3 rfl rfl rfl) ?_
 refine al_val (ov_load (i := 0) (v := (iq a0.Mode)) rfl rfl Tryz.underlying3 sz3 rfl rfl rfl rfl) ?_
 refine in_ ?_
 refine al_val (ov_pick_f rfl rfl rfl) ?_
 refine as_ ?_
 refine al_nil ?_
 exact aq_join (decide (a0.Mode > (511 : Int))) h (nm_ [0] [] (by decide) ⟨rfl, rfl, trivial⟩)
 clear hkk8
 refine aw_region ?_
 refine al_val (ov_fieldA (p := 1) rfl Tryz.underlying45 rfl sz3 rfl rfl rfl) ?_
 refine al_val (ov_load (i := 1) (v := (iq a0.Kind)) rfl rfl Tryz.underlying3 sz3 rfl rfl rfl rfl) ?_
 refine in_ ?_
 refine mv_ ?_
 refine al_caseB 23 rfl (fun hb31 => ?_) (fun hb31 => ?_)
 replace h := bif_t hb31 h
 refine al_val (ov_fieldA (p := 1) rfl Tryz.underlying45 rfl sz3 rfl rfl rfl) ?_
 refine al_val (ov_load (i := 1) (v := (iq a0.Kind)) rfl rfl Tryz.underlying3 sz3 rfl rfl rfl rfl) ?_
 refine in_ ?_
 refine al_val (ov_pick_t rfl rfl rfl) ?_
 refine mv_ ?_
 refine al_caseB 28 rfl (fun hb32 => ?_) (fun hb32 => ?_)
 replace h := bif_t hb32 h
 refine al_val (ov_fieldA (p := 1) rfl Tryz.underlying45 rfl sz3 rfl rfl rfl) ?_
 refine al_val (ov_load (i := 1) (v := (iq a0.Kind)) rfl rfl Tryz.underlying3 sz3 rfl rfl rfl rfl) ?_
 refine in_ ?_
 refine al_val (ov_pick_t rfl rfl rfl) ?_
 refine as_ ?_
 refine al_nil ?_
 exact aq_join (a0.Kind != (3 : Int)) h (nm_ [1] [] (by decide) ⟨rfl, rfl, trivial⟩)
 replace h := bif_f hb32 h
 iterate 3 refine al_skip ?_
 refine al_val (ov_pick_f rfl rfl rfl) ?_
 refine as_ ?_
 refine al_nil ?_
 exact aq_join false h (nm_ [1] [] (by decide) ⟨rfl, rfl, trivial⟩)
 replace h := bif_f hb31 h
 iterate 3 refine al_skip ?_
 refine al_val (ov_pick_f rfl rfl rfl) ?_
 refine mv_ ?_
 iterate 3 refine al_skip ?_
 refine al_val (ov_pick_f rfl rfl rfl) ?_
 refine as_ ?_
 refine al_nil ?_
 exact aq_join false h (nm_ [1] [] (by decide) ⟨rfl, rfl, trivial⟩)
def f_lumref_ahead : Nat → (List (List UInt8)) → (List (List UInt8)) → Option Bool
  | 0, _, _ => none
  | fu + 1, a0, a1 => (bif ((a1.length : Int) == (0 : Int)) then (some false) else (bif ((a0.length : Int) == (0 : Int)) then (some true) else (opt (at? a0 (0 : Int)) fun (u3 : (List UInt8)) => (opt (at? a1 (0 : Int)) fun (u6 : (List UInt8)) => (bif (!(u3 == u6)) then (opt (at? a0 (0 : Int)) fun (u10 : (List UInt8)) => (opt (at? a1 (0 : Int)) fun (u13 : (List UInt8)) => (some (Op.bytesLess u10 u13)))) else (req (0 ≤ (1 : Int) ∧ (1 : Int) ≤ (a0.length : Int)) (req (0 ≤ (1 : Int) ∧ (1 : Int) ≤ (a1.length : Int)) (opt (f_lumref_ahead fu (a0.drop ((1 : Int)).toNat) (a1.drop ((1 : Int)).toNat)) fun (r21 : Bool) => (some r21)))))))))
set_option maxHeartbeats 2000000 in
set_option maxRecDepth 100000 in
theorem f_lumref_ahead_ok (fu : Nat) (v0_0 : Value) (a0 : (List (List UInt8))) (v1_0 : Value) (a1 : (List (List UInt8))) {r : Bool} (h : f_lumref_ahead fu a0 a1 = some r) : FnOk Tryz.prog 33 [v0_0, v1_0] [(fDat (tyList tyStr) [v0_0] a0), (fDat (tyList tyStr) [v1_0] a1)] [] (fun (i : Unit) => { val := (bool r) }) := by
 cases fu with
 | zero => rw [f_lumref_ahead] at h; cases h
 | succ fu =>
  rw [f_lumref_ahead] at h
  refine fn_enter Tryz.func33 rfl Tryz.ntmps33 rfl (fun w0 Z0 => ?_)
  refine aw_sr ?_
  refine an_ ?_
  refine aw_seq ?_
  refine sm_ ?_
  refine al_val (ov_lenD 1 rfl rfl Tryz.underlying54 rfl) ?_
  refine im_ ?_
  refine aw_cond rfl (fun hb1 => ?_) (fun hb1 => ?_)
  replace h := bif_t hb1 h
  refine aw_sr ?_
  refine an_ ?_
  refine aw_ret ?_
  refine aq_then_ret ?_
  cases h
  exact fr1_
  replace h := bif_f hb1 h
  refine aw_skip ?_
  refine aq_then ?_
  refine aw_seq ?_
  refine sm_ ?_
  refine al_val (ov_lenD 0 rfl rfl Tryz.underlying54 rfl) ?_
  refine im_ ?_
  refine aw_cond rfl (fun hb2 => ?_) (fun hb2 => ?_)
  replace h := bif_t hb2 h
  refine aw_sr ?_
  refine an_ ?_
  refine aw_ret ?_
  refine aq_then_ret ?_
  cases h
  exact fr1_
  replace h := bif_f hb2 h
  refine aw_skip ?_
  refine aq_then ?_
  refine aw_seq ?_
  refine aw_seq ?_
  obtain ⟨u3, hu4, h⟩ := opt_some h
  obtain ⟨u6, hu7, h⟩ := opt_some h
  refine aw_region_draw 6 [(11, (fE v0_0)), (12, (fun p5 => (fPtr tyStr p5 u3))), (13, (fE (str u3))), (14, (fE v1_0)), (15, (fun p8 => (fPtr tyStr p8 u6))), (16, (fE (str u6)))] (tab [(0, v0_0), (1, v1_0)]) mixed (by kernel_rfl) rfl rfl rfl (fun a hs => hs.tab _ (allT_mem ⟨rfl, rfl, trivial⟩)) ⟨⟨rfl, ld_val (ov_move rfl rfl)⟩, ⟨rfl, ld_eq (j := 0) rfl rfl (ld_of (of_idxD 0 hu4 rfl rfl rfl Tryz.underlying54 sz9 rfl))⟩, ⟨rfl, ld_fact (j := 1) rfl rfl (fun p5 => ld_val (ov_loadP (ds := [(str u3)]) 0 rfl (fun h => h) rfl Tryz.underlying9 sz9 rfl rfl rfl))⟩, ⟨rfl, ld_val (ov_move rfl rfl)⟩, ⟨rfl, ld_eq (j := 3) rfl rfl (ld_of (of_idxD 1 hu7 rfl rfl rfl Tryz.underlying54 sz9 rfl))⟩, ⟨rfl, ld_fact (j := 4) rfl rfl (fun p8 => ld_val (ov_loadP (ds := [(str u6)]) 0 rfl (fun h => h) rfl Tryz.underlying9 sz9 rfl rfl rfl))⟩, trivial⟩ ?_
  refine tl_eq 2 rfl ?_
  refine tl_eq 5 rfl ?_
  refine tl_done ?_
  refine al_val (ov_strCmp rfl rfl rfl rfl) ?_
  refine al_nt ?_
  refine aw_cond rfl (fun hb9 => ?_) (fun hb9 => ?_)
  replace h := bif_t hb9 h
  refine aw_seq ?_
  obtain ⟨u10, hu11, h⟩ := opt_some h
  obtain ⟨u13, hu14, h⟩ := opt_some h
  refine aw_region_draw 7 [(18, (fE v0_0)), (19, (fun p12 => (fPtr tyStr p12 u10))), (20, (fE (str u10))), (21, (fE v1_0)), (22, (fun p15 => (fPtr tyStr p15 u13))), (23, (fE (str u13))), (24, (fE (bool (Op.bytesLess u10 u13))))] (tab [(0, v0_0), (1, v1_0)]) mixed (by kernel_rfl) rfl rfl rfl (fun a hs => hs.tab _ (allT_mem ⟨rfl, rfl, trivial⟩)) ⟨⟨rfl, ld_val (ov_move rfl rfl)⟩, ⟨rfl, ld_eq (j := 0) rfl rfl (ld_of (of_idxD 0 hu11 rfl rfl rfl Tryz.underlying54 sz9 rfl))⟩, ⟨rfl, ld_fact (j := 1) rfl rfl (fun p12 => ld_val (ov_loadP (ds := [(str u10)]) 0 rfl (fun h => h) rfl Tryz.underlying9 sz9 rfl rfl rfl))⟩, ⟨rfl, ld_val (ov_move rfl rfl)⟩, ⟨rfl, ld_eq (j := 3) rfl rfl (ld_of (of_idxD 1 hu14 rfl rfl rfl Tryz.underlying54 sz9 rfl))⟩, ⟨rfl, ld_fact (j := 4) rfl rfl (fun p15 => ld_val (ov_loadP (ds := [(str u13)]) 0 rfl (fun h => h) rfl Tryz.underlying9 sz9 rfl rfl rfl))⟩, ⟨rfl, ld_eq (j := 2) rfl rfl (ld_eq (j := 5) rfl rfl (ld_val (ov_strCmp rfl rfl rfl rfl)))⟩, trivial⟩ ?_
  refine tl_eq 6 rfl ?_
  refine tl_done ?_
  refine an_ ?_
  refine aw_ret ?_
  refine aq_then_ret ?_
  cases h
  exact fr1_
  replace h := bif_f hb9 h
  refine aw_skip ?_
  refine aq_then ?_
  refine aw_seq ?_
  obtain ⟨hc16, h⟩ := req_some h
  obtain ⟨hc18, h⟩ := req_some h
  obtain ⟨r21, hc20, h⟩ := opt_some h
  refine aw_region_draw 5 [(25, (fE v0_0)), (26, (fun s17 => (fDat (tyList tyStr) [s17] (a0.drop ((1 : Int)).toNat)))), (27, (fE v1_0)), (28, (fun s19 => (fDat (tyList tyStr) [s19] (a1.drop ((1 : Int)).toNat)))), (29, (fE (bool r21)))] (tab [(0, v0_0), (1, v1_0)]) mixed (by kernel_rfl) rfl rfl rfl (fun a hs => hs.tab _ (allT_mem ⟨rfl, rfl, trivial⟩)) ⟨⟨rfl, ld_val (ov_move rfl rfl)⟩, ⟨rfl, ld_eq (j := 0) rfl rfl (ld_of (of_sliceDF 0 hc16.1 hc16.2 rfl rfl rfl Tryz.underlying54 sz9 rfl))⟩, ⟨rfl, ld_val (ov_move rfl rfl)⟩, ⟨rfl, ld_eq (j := 2) rfl rfl (ld_of (of_sliceDF 1 hc18.1 hc18.2 rfl rfl rfl Tryz.underlying54 sz9 rfl))⟩, ⟨rfl, ld_fact (j := 1) rfl rfl (fun s17 => ld_fact (j := 3) rfl rfl (fun s19 => ld_callV (vs := [s17, s19]) (f_lumref_ahead_ok fu s17 (a0.drop ((1 : Int)).toNat) s19 (a1.drop ((1 : Int)).toNat) hc20) [] (pre_fz 1 rfl (pre_fz 0 rfl pre_nil)) rfl Tryz.func33 rfl rfl rfl))⟩, trivial⟩ ?_
  refine tl_eq 4 rfl ?_
  refine tl_done ?_
  refine an_ ?_
  refine aw_ret ?_
  cases h
  exact fr1_
def f_lumref_Less (fu : Nat) (a0 : (List UInt8)) (a1 : (List UInt8)) : Option (Bool × Int) := (opt (f_lumref_Split fu a0) fun (r2 : ((List (List UInt8)) × Int)) => (bif (r2.2 != (0 : Int)) then (some (false, r2.2)) else (opt (f_lumref_Split fu a1) fun (r6 : ((List (List UInt8)) × Int)) => (bif (r6.2 != (0 : Int)) then (some (false, r6.2)) else (opt (f_lumref_ahead fu r2.1 r6.1) fun (r10 : Bool) => (some (r10, (0 : Int))))))))
set_option maxHeartbeats 2000000 in
set_option maxRecDepth 100000 in
theorem f_lumref_Less_ok (fu : Nat) (a0 : (List UInt8)) (a1 : (List UInt8)) {r : (Bool × Int)} (h : f_lumref_Less fu a0 a1 = some r) : FnOk Tryz.prog 17 [(str a0), (str a1)] [] [] (fun (i : Unit) => { val := (Value.tuple #[(bool r.1), (int .i64 r.2)]) }) := by
 unfold f_lumref_Less at h
 refine fn_enter Tryz.func17 rfl Tryz.ntmps17 rfl (fun w0 Z0 => ?_)
 refine aw_sr ?_
 refine as_ ?_
 refine an_ ?_
 refine sm_ ?_
 obtain ⟨r2, hc1, h⟩ := opt_some h
 refine al_call (vs := [(str a0)]) (f_lumref_Split_ok fu a0 hc1) [] [] [] pre_nil rfl (by simp) (by decide) (.inl rfl) rfl Tryz.func18 rfl rfl rfl (fun v3 => ?_)
 refine mv_ ?_
 refine al_ex rfl rfl rfl ?_
 refine al_ex rfl rfl rfl ?_
 refine as_ ?_
 refine an_ ?_
 refine aw_seq ?_
 refine sm_ ?_
 refine im_ ?_
 refine aw_cond rfl (fun hb4 => ?_) (fun hb4 => ?_)
 replace h := bif_t hb4 h
 refine sm_ ?_
 refine as_ ?_
 refine an_ ?_
 refine aw_ret ?_
 refine aq_then_ret ?_
 cases h
 exact fr2_
 replace h := bif_f hb4 h
 refine aw_skip ?_
 refine aq_tr ?_
 refine mv_ ?_
 obtain ⟨r6, hc5, h⟩ := opt_some h
 refine al_call (vs := [(str a1)]) (f_lumref_Split_ok fu a1 hc5) [] [] [0] pre_nil rfl (by simp) (by decide) (.inl rfl) rfl Tryz.func18 rfl rfl rfl (fun v7 => ?_)
 refine mv_ ?_
 refine al_ex rfl rfl rfl ?_
 refine al_ex rfl rfl rfl ?_
 refine as_ ?_
 refine an_ ?_
 refine aw_seq ?_
 refine sm_ ?_
 refine im_ ?_
 refine aw_cond rfl (fun hb8 => ?_) (fun hb8 => ?_)
 replace h := bif_t hb8 h
 refine sm_ ?_
 refine as_ ?_
 refine an_ ?_
 refine aw_ret ?_
 refine aq_then_ret ?_
 cases h
 exact fr2_
 replace h := bif_f hb8 h
 refine aw_skip ?_
 refine aq_tr ?_
 refine mv_ ?_
 refine mv_ ?_
 obtain ⟨r10, hc9, h⟩ := opt_some h
 refine al_call (vs := [v3, v7]) (f_lumref_ahead_ok fu v3 r2.1 v7 r6.1 hc9) [0, 1] [] [0, 1] (pre_own 1 rfl rfl (pre_own 0 rfl rfl pre_nil)) rfl (by simp) (by decide) (.inr flat_res0) rfl Tryz.func33 rfl rfl rfl (fun _ => ?_)
 refine as_ ?_
 refine an_ ?_
 refine aw_ret ?_
 cases h
 exact fr2_
def f_lumref_Join_L9 (a0 : (List (List UInt8))) (kk6 : ((List UInt8) → Option ((List UInt8) × Int))) : Nat → (List UInt8) → Int → Option ((List UInt8) × Int)
  | 0, _, _ => none
  | k8 + 1, l7s5, l7i18 => (bif (decide (l7i18 < (a0.length : Int))) then (opt (at? a0 l7i18) fun (u11 : (List UInt8)) => (req (([47] : List UInt8).length + u11.length ≤ 9223372036854775807) (req (l7s5.length + (([47] : List UInt8) ++ u11).length ≤ 9223372036854775807) (f_lumref_Join_L9 a0 kk6 k8 (l7s5 ++ (([47] : List UInt8) ++ u11)) (IntKind.i64.wrap (l7i18 + (1 : Int))))))) else (kk6 l7s5))
def f_lumref_Join (fu : Nat) (a0 : (List (List UInt8))) : Option ((List UInt8) × Int) := (opt (f_lumref_nameErr fu a0) fun (r2 : Int) => (bif (r2 != (0 : Int)) then (some (([] : List UInt8), r2)) else (bif ((a0.length : Int) == (0 : Int)) then (some (([47] : List UInt8), (0 : Int))) else (lt (fun (j5s5 : (List UInt8)) => (some (j5s5, (0 : Int)))) fun (kk6 : (List UInt8) → Option ((List UInt8) × Int)) => (f_lumref_Join_L9 a0 kk6 fu ([] : List UInt8) (0 : Int))))))
set_option maxHeartbeats 2000000 in
set_option maxRecDepth 100000 in
theorem f_lumref_Join_ok (fu : Nat) (v0_0 : Value) (a0 : (List (List UInt8))) {r : ((List UInt8) × Int)} (h : f_lumref_Join fu a0 = some r) : FnOk Tryz.prog 19 [v0_0] [(fDat (tyList tyStr) [v0_0] a0)] [] (fun (i : Unit) => { val := (Value.tuple #[(str r.1), (int .i64 r.2)]) }) := by
 unfold f_lumref_Join at h
 refine fn_enter Tryz.func19 rfl Tryz.ntmps19 rfl (fun w0 Z0 => ?_)
 refine aw_sr ?_
 refine as_ ?_
 refine an_ ?_
 refine aw_seq ?_
 refine sm_ ?_
 obtain ⟨r2, hc1, h⟩ := opt_some h
 refine al_call (vs := [v0_0]) (f_lumref_nameErr_ok fu v0_0 a0 hc1) [] [] [] (pre_fz 0 rfl pre_nil) rfl (by simp) (by decide) (.inl rfl) rfl Tryz.func35 rfl rfl rfl (fun _ => ?_)
 refine an_ ?_
 refine sm_ ?_
 refine im_ ?_
 refine aw_cond rfl (fun hb3 => ?_) (fun hb3 => ?_)
 replace h := bif_t hb3 h
 refine sm_ ?_
 refine as_ ?_
 refine an_ ?_
 refine aw_ret ?_
 refine aq_then_ret ?_
 cases h
 exact fr2_
 replace h := bif_f hb3 h
 refine aw_skip ?_
 refine aq_then ?_
 refine aw_seq ?_
 refine sm_ ?_
 refine al_val (ov_lenD 0 rfl rfl Tryz.underlying54 rfl) ?_
 refine im_ ?_
 refine aw_cond rfl (fun hb4 => ?_) (fun hb4 => ?_)
 replace h := bif_t hb4 h
 refine aw_sr ?_
 refine as_ ?_
 refine an_ ?_
 refine aw_ret ?_
 refine aq_then_ret ?_
 cases h
 exact fr2_
 replace h := bif_f hb4 h
 refine aw_skip ?_
 refine aq_tr ?_
 refine an_ ?_
 obtain ⟨kk6, hkk6, h⟩ := lt_some h
 refine aw_seq_join (ι := (List UInt8)) (fun i => (memOf w0 Z0 [] [] [(fDat (tyList tyStr) [v0_0] a0)])) (fun i => (tab [(5, (str i))])) (fun i => kk6 i = some r) ?_ ?_
 rintro j5s5 h
 have h : kk6 j5s5 = some r := h
 rw [hkk6] at h
 dsimp only at h
 clear hkk6
 refine aw_show (m := (memOf w0 Z0 [] [] [(fDat (tyList tyStr) [v0_0] a0)])) (S := _) ?_
 refine sm_ ?_
 refine as_ ?_
 refine an_ ?_
 refine aw_ret ?_
 cases h
 exact fr2_
 clear hkk6
 refine sm_ ?_
 refine al_val (ov_lenD 0 rfl rfl Tryz.underlying54 rfl) ?_
 refine mv_ ?_
 refine al_nt ?_
 refine aw_block ?_
 refine aw_state (aw_loop (ι := (List UInt8) × Int) (fun i => (memOf w0 Z0 [] [] [(fDat (tyList tyStr) [v0_0] a0)])) (fun i => (tab [(5, (str i.1)), (16, v0_0), (17, (iq (a0.length : Int))), (18, (iq i.2))])) (fun q i => f_lumref_Join_L9 a0 kk6 q i.1 i.2 = some r) ?_ fu (([] : List UInt8), (0 : Int)) h) (nm_ [] [0] (by decide) ⟨rfl, rfl, rfl, rfl, trivial⟩)
 clear h
 rintro k8 ⟨l7s5, l7i18⟩ h
 have h : f_lumref_Join_L9 a0 kk6 k8 l7s5 l7i18 = some r := h
 obtain _ | k8 := k8
 rw [f_lumref_Join_L9] at h; cases h
 rw [f_lumref_Join_L9] at h
 refine aw_show (m := (memOf w0 Z0 [] [] [(fDat (tyList tyStr) [v0_0] a0)])) (S := _) ?_
 refine aw_sr ?_
 refine im_ ?_
 refine aw_seq ?_
 refine aw_cond rfl (fun hb10 => ?_) (fun hb10 => ?_)
 replace h := bif_t hb10 h
 refine aw_skip ?_
 refine aq_then ?_
 refine aw_seq ?_
 refine aw_block ?_
 refine aw_sr ?_
 obtain ⟨u11, hu12, h⟩ := opt_some h
 refine al_idxD 0 hu12 rfl rfl rfl Tryz.underlying54 sz9 rfl (fun p13 => ?_)
 refine al_val (ov_loadP (ds := [(str u11)]) 0 rfl (fun h => h) rfl Tryz.underlying9 sz9 rfl rfl rfl) ?_
 refine an_ ?_
 refine aw_region ?_
 refine mv_ ?_
 refine mv_ ?_
 obtain ⟨hc14, h⟩ := req_some h
 refine al_val (ov_strAdd hc14 rfl rfl rfl) ?_
 obtain ⟨hc15, h⟩ := req_some h
 refine al_val (ov_strAdd hc15 rfl rfl rfl) ?_
 refine as_ ?_
 refine al_nil ?_
 refine aq_block ?_
 refine aq_then ?_
 refine aw_region ?_
 refine in_ ?_
 refine mv_ ?_
 refine al_nil ?_
 exact aq_again k8 ((l7s5 ++ (([47] : List UInt8) ++ u11)), (wq (l7i18 + (1 : Int)))) (Nat.lt_succ_self _) h (nm_ [] [1] (by decide) ⟨rfl, rfl, rfl, rfl, trivial⟩)
 replace h := bif_f hb10 h
 refine aw_exit ?_
 refine aq_then_exit ?_
 refine aq_then_exit ?_
 refine aq_block_exit ?_
 exact aq_join l7s5 h (nm_ [] [0] (by decide) ⟨rfl, trivial⟩)
def f_lumref_World_L34 (a0 : (List S_api_Item)) (l4i20 : Int) (r26 : ((List UInt8) × Int)) (kk28 : (Bool → Option Int)) : Nat → Bool → Int → Option Int
  | 0, _, _ => none
  | k33 + 1, l32b12, l32i67 => (bif (decide (l32i67 < ((a0.take (l4i20).toNat).length : Int))) then (lt (fun (j36b12 : Bool) => (f_lumref_World_L34 a0 l4i20 r26 kk28 k33 j36b12 (IntKind.i64.wrap (l32i67 + (1 : Int))))) fun (kk37 : Bool → Option Int) => (opt (at? (a0.take (l4i20).toNat) l32i67) fun (u38 : S_api_Item) => (bif l32b12 then (kk37 true) else (bif (u38.Path == r26.1) then (kk37 (u38.Kind == (2 : Int))) else (kk37 false))))) else (kk28 l32b12))
def f_lumref_World_L6 (a0 : (List S_api_Item)) (kk3 : (Unit → Option Int)) (fu : Nat) : Nat → Int → Option Int
  | 0, _ => none
  | k5 + 1, l4i20 => (lt (fun (l4i20 : Int) => (f_lumref_World_L6 a0 kk3 fu k5 l4i20)) fun (kk7 : Int → Option Int) => (bif (decide (l4i20 < (a0.length : Int))) then (lt (fun (_ : Unit) => (kk7 (IntKind.i64.wrap (l4i20 + (1 : Int))))) fun (kk10 : Unit → Option Int) => (opt (at? a0 l4i20) fun (u11 : S_api_Item) => (opt (f_lumref_itemErr fu u11) fun (r16 : Int) => (bif (r16 != (0 : Int)) then (some r16) else (lt (fun (_ : Unit) => (opt (f_lumref_Split fu u11.Path) fun (r21 : ((List (List UInt8)) × Int)) => (req (0 ≤ (IntKind.i64.wrap ((r21.1.length : Int) - (1 : Int))) ∧ (IntKind.i64.wrap ((r21.1.length : Int) - (1 : Int))) ≤ (r21.1.length : Int)) (opt (f_lumref_Join fu (r21.1.take ((IntKind.i64.wrap ((r21.1.length : Int) - (1 : Int)))).toNat)) fun (r26 : ((List UInt8) × Int)) => (lt (fun (j27b12 : Bool) => (bif (!j27b12) then (some (9 : Int)) else (kk10 ()))) fun (kk28 : Bool → Option Int) => (req (0 ≤ l4i20 ∧ l4i20 ≤ (a0.length : Int)) (f_lumref_World_L34 a0 l4i20 r26 kk28 fu (r26.1 == ([47] : List UInt8)) (0 : Int)))))))) fun (kk19 : Unit → Option Int) => (bif (decide (l4i20 > (0 : Int))) then (opt (at? a0 (IntKind.i64.wrap (l4i20 - (1 : Int)))) fun (u45 : S_api_Item) => (opt (f_lumref_Less fu u45.Path u11.Path) fun (r50 : (Bool × Int)) => (bif (!r50.1) then (some (4 : Int)) else (kk19 ())))) else (kk19 ()))))))) else (kk3 ())))
def f_lumref_World (fu : Nat) (a0 : (List S_api_Item)) : Option Int := (bif (decide ((a0.length : Int) > (100 : Int))) then (some (2 : Int)) else (lt (fun (_ : Unit) => (some (0 : Int))) fun (kk3 : Unit → Option Int) => (f_lumref_World_L6 a0 kk3 fu fu (0 : Int))))
set_option maxRecDepth 100000 in
set_option maxHeartbeats 2000000 in
set_option maxHeartbeats 2000000 in
theorem f_lumref_World_ok (fu : Nat) (v0_0 : Value) (a0 : (List S_api_Item)) {r : Int} (h : f_lumref_World fu a0 = some r) : FnOk Tryz.prog 7 [v0_0] [(fDat (tyList tyS_api_Item) [v0_0] a0)] [] (fun (i : Unit) => { val := (int .i64 r) }) := by
 unfold f_lumref_World at h
 refine fn_enter Tryz.func7 rfl Tryz.ntmps7 rfl (fun w0 Z0 => ?_)
 refine aw_sr ?_
 refine an_ ?_
 refine aw_seq ?_
 refine sm_ ?_
 refine al_val (ov_lenD 0 rfl rfl Tryz.underlying26 rfl) ?_
 refine im_ ?_
 refine aw_cond rfl (fun hb1 => ?_) (fun hb1 => ?_)
 replace h := bif_t hb1 h
 refine aw_sr ?_
 refine an_ ?_
 refine aw_ret ?_
 refine aq_then_ret ?_
 cases h
 exact fr1_
 replace h := bif_f hb1 h
 refine aw_skip ?_
 refine aq_then ?_
 obtain ⟨kk3, hkk3, h⟩ := lt_some h
 refine aw_seq_join (ι := Unit) (fun i => (memOf w0 Z0 [] [] [(fDat (tyList tyS_api_Item) [v0_0] a0)])) (fun i => (tab [])) (fun i => kk3 () = some r) ?_ ?_
 rintro _ h
 have h : kk3 () = some r := h
 rw [hkk3] at h
 dsimp only at h
 clear hkk3
 refine aw_show (m := (memOf w0 Z0 [] [] [(fDat (tyList tyS_api_Item) [v0_0] a0)])) (S := _) ?_
 refine aw_sr ?_
 refine an_ ?_
 refine aw_ret ?_
 cases h
 exact fr1_
 clear hkk3
 refine sm_ ?_
 refine al_val (ov_lenD 0 rfl rfl Tryz.underlying26 rfl) ?_
 refine mv_ ?_
 refine al_nt ?_
 refine aw_block ?_
 refine aw_state (aw_loop (ι := Int) (fun i => (memOf w0 Z0 [] [] [(fDat (tyList tyS_api_Item) [v0_0] a0)])) (fun i => (tab [(0, v0_0), (18, v0_0), (19, (iq (a0.length : Int))), (20, (iq i))])) (fun q i => f_lumref_World_L6 a0 kk3 fu q i = some r) ?_ fu (0 : Int) h) (nm_ [] [0] (by decide) ⟨rfl, rfl, rfl, rfl, trivial⟩)
 clear h
 rintro k5 l4i20 h
 have h : f_lumref_World_L6 a0 kk3 fu k5 l4i20 = some r := h
 obtain _ | k5 := k5
 rw [f_lumref_World_L6] at h; cases h
 rw [f_lumref_World_L6] at h
 refine aw_show (m := (memOf w0 Z0 [] [] [(fDat (tyList tyS_api_Item) [v0_0] a0)])) (S := _) ?_
 obtain ⟨kk7, hkk7, h⟩ := lt_some h
 refine aw_body_join (ι := Int) (fun i => (memOf w0 Z0 [] [] [(fDat (tyList tyS_api_Item) [v0_0] a0)])) (fun i => (tab [(0, v0_0), (18, v0_0), (19, (iq (a0.length : Int))), (20, (iq i))])) (fun i => kk7 i = some r) (fun i h => aq_again k5 i (Nat.lt_succ_self _) (by rw [hkk7] at h; exact h) (fun w a hm hs => ⟨hm, hs⟩)) ?_
 clear hkk7
 refine aw_sr ?_
 refine im_ ?_
 refine aw_seq ?_
 refine aw_cond rfl (fun hb8 => ?_) (fun hb8 => ?_)
 replace h := bif_t hb8 h
 refine aw_skip ?_
 refine aq_then ?_
 obtain ⟨kk10, hkk10, h⟩ := lt_some h
 refine aw_seq_join (ι := Unit) (fun i => (memOf w0 Z0 [] [] [(fDat (tyList tyS_api_Item) [v0_0] a0)])) (fun i => (tab [(0, v0_0), (18, v0_0), (19, (iq (a0.length : Int))), (20, (iq l4i20))])) (fun i => kk10 () = some r) ?_ ?_
 rintro _ h
 have h : kk10 () = some r := h
 rw [hkk10] at h
 dsimp only at h
 clear hkk10
 refine aw_show (m := (memOf w0 Z0 [] [] [(fDat (tyList tyS_api_Item) [v0_0] a0)])) (S := _) ?_
 refine aw_region ?_
 refine in_ ?_
 refine mv_ ?_
 refine al_nil ?_
 exact aq_join (wq (l4i20 + (1 : Int))) h (nm_ [] [0] (by decide) ⟨rfl, rfl, rfl, rfl, trivial⟩)
 clear hkk10
 refine aw_block ?_
 refine sm_ ?_
 obtain ⟨u11, hu12, h⟩ := opt_some h
 refine al_idxD 0 hu12 rfl rfl rfl Tryz.underlying26 sz45 rfl (fun p13 => ?_)
 refine al_val (ov_loadP (ds := [(str u11.Path), (iq u11.Kind), (iq u11.Mode), (iq u11.Time), (str u11.Bytes)]) 0 rfl encS_api_Item rfl Tryz.underlying45 sz45 rfl rfl rfl) ?_
 refine al_alloc (zs := [(str ([] : List UInt8)), (iq (0 : Int)), (iq (0 : Int)), (iq (0 : Int)), (str ([] : List UInt8))]) (zeroOf_to to45) rfl rfl (fun g14 => ?_)
 refine as_ ?_
 refine al_store (i := 0) (vs := [(str u11.Path), (iq u11.Kind), (iq u11.Mode), (iq u11.Time), (str u11.Bytes)]) (cs' := [(str u11.Path), (iq u11.Kind), (iq u11.Mode), (iq u11.Time), (str u11.Bytes)]) rfl rfl rfl sz45 (cv_rfl rfl) rfl (co_val rfl (co_val rfl (co_val rfl (co_val rfl (co_val rfl co_nil))))) (Nat.le_of_ble_eq_true rfl) rfl rfl ?_
 refine al_nt ?_
 refine aw_seq ?_
 refine aw_sr ?_
 refine al_val (ov_load (i := 0) (v := (ag [(str u11.Path), (iq u11.Kind), (iq u11.Mode), (iq u11.Time), (str u11.Bytes)])) rfl rfl Tryz.underlying45 sz45 rfl rfl rfl rfl) ?_
 obtain ⟨r16, hc15, h⟩ := opt_some h
 refine al_call (vs := [(ag [(str u11.Path), (iq u11.Kind), (iq u11.Mode), (iq u11.Time), (str u11.Bytes)])]) (f_lumref_itemErr_ok fu u11 hc15) [] [] [0] pre_nil rfl (by simp) (by decide) (.inl rfl) rfl Tryz.func16 rfl rfl rfl (fun _ => ?_)
 refine an_ ?_
 refine sm_ ?_
 refine im_ ?_
 refine aw_cond rfl (fun hb17 => ?_) (fun hb17 => ?_)
 replace h := bif_t hb17 h
 refine sm_ ?_
 refine an_ ?_
 refine aw_ret ?_
 refine aq_then_ret ?_
 refine aq_block_ret ?_
 refine aq_then_ret ?_
 refine aq_then_ret ?_
 refine aq_block_ret ?_
 refine aq_then_ret ?_
 cases h
 exact fr1_
 replace h := bif_f hb17 h
 refine aw_skip ?_
 refine aq_then ?_
 obtain ⟨kk19, hkk19, h⟩ := lt_some h
 refine aw_seq_join (ι := Unit) (fun i => (memOf w0 Z0 [] [(oBox g14 45 [(str u11.Path), (iq u11.Kind), (iq u11.Mode), (iq u11.Time), (str u11.Bytes)])] [(fDat (tyList tyS_api_Item) [v0_0] a0), (fPtr tyS_api_Item p13 u11)])) (fun i => (tab [(0, v0_0), (3, (iq l4i20)), (4, (pq g14)), (18, v0_0), (19, (iq (a0.length : Int))), (20, (iq l4i20))])) (fun i => kk19 () = some r) ?_ ?_
 rintro _ h
 have h : kk19 () = some r := h
 rw [hkk19] at h
 dsimp only at h
 clear hkk19
 refine aw_show (m := (memOf w0 Z0 [] [(oBox g14 45 [(str u11.Path), (iq u11.Kind), (iq u11.Mode), (iq u11.Time), (str u11.Bytes)])] [(fDat (tyList tyS_api_Item) [v0_0] a0), (fPtr tyS_api_Item p13 u11)])) (S := _) ?_
 refine aw_sr ?_
 refine al_val (ov_fieldA (p := 0) rfl Tryz.underlying45 rfl sz9 rfl rfl rfl) ?_
 refine al_val (ov_load (i := 0) (v := (str u11.Path)) rfl rfl Tryz.underlying9 sz9 rfl rfl rfl rfl) ?_
 obtain ⟨r21, hc20, h⟩ := opt_some h
 refine al_call (vs := [(str u11.Path)]) (f_lumref_Split_ok fu u11.Path hc20) [] [] [0] pre_nil rfl (by simp) (by decide) (.inl rfl) rfl Tryz.func18 rfl rfl rfl (fun v22 => ?_)
 refine mv_ ?_
 refine al_ex rfl rfl rfl ?_
 refine al_ex rfl rfl rfl ?_
 refine as_ ?_
 refine an_ ?_
 refine sm_ ?_
 refine mv_ ?_
 refine al_val (ov_lenR 0 rfl rfl Tryz.underlying54 rfl) ?_
 refine in_ ?_
 obtain ⟨hc23, h⟩ := req_some h
 refine al_cutR 0 hc23.1 hc23.2 rfl rfl rfl Tryz.underlying54 sz9 rfl (fun s24 => ?_)
 obtain ⟨r26, hc25, h⟩ := opt_some h
 refine al_call (vs := [s24]) (f_lumref_Join_ok fu s24 (r21.1.take ((wq ((r21.1.length : Int) - (1 : Int)))).toNat) hc25) [0] [] [0, 1] (pre_own 0 rfl rfl pre_nil) rfl (by simp) (by decide) (.inr flat_res0) rfl Tryz.func19 rfl rfl rfl (fun _ => ?_)
 refine mv_ ?_
 refine al_ex rfl rfl rfl ?_
 refine al_ex rfl rfl rfl ?_
 refine as_ ?_
 refine an_ ?_
 refine sm_ ?_
 refine al_val (ov_strCmp rfl rfl rfl rfl) ?_
 refine an_ ?_
 obtain ⟨kk28, hkk28, h⟩ := lt_some h
 refine aw_seq_join (ι := Bool) (fun i => (memOf w0 Z0 [] [] [(fDat (tyList tyS_api_Item) [v0_0] a0), (fPtr tyS_api_Item p13 u11)])) (fun i => (tab [(0, v0_0), (12, (bool i)), (18, v0_0), (19, (iq (a0.length : Int))), (20, (iq l4i20))])) (fun i => kk28 i = some r) ?_ ?_
 rintro j27b12 h
 have h : kk28 j27b12 = some r := h
 rw [hkk28] at h
 dsimp only at h
 clear hkk28
 refine aw_show (m := (memOf w0 Z0 [] [] [(fDat (tyList tyS_api_Item) [v0_0] a0), (fPtr tyS_api_Item p13 u11)])) (S := _) ?_
 refine sm_ ?_
 refine al_val (ov_not rfl rfl) ?_
 refine al_nt ?_
 refine aw_cond rfl (fun hb29 => ?_) (fun hb29 => ?_)
 replace h := bif_t hb29 h
 refine aw_sr ?_
 refine an_ ?_
 refine aw_ret ?_
 refine aq_block_ret ?_
 refine aq_then_ret ?_
 refine aq_then_ret ?_
 refine aq_block_ret ?_
 refine aq_then_ret ?_
 cases h
 exact fr1_
 replace h := bif_f hb29 h
 refine aw_skip ?_
 refine aq_block ?_
 exact aq_join () h (nm_ [] [0] (by decide) ⟨rfl, rfl, rfl, rfl, trivial⟩)
 clear hkk28
 refine sm_ ?_
 refine mv_ ?_
 obtain ⟨hc30, h⟩ := req_some h
 refine al_sliceDT 0 hc30.1 hc30.2 rfl rfl rfl Tryz.underlying26 sz45 rfl (fun s31 => ?_)
 refine al_val (ov_lenD 0 rfl rfl Tryz.underlying26 rfl) ?_
 refine mv_ ?_
 refine al_nt ?_
 refine aw_block ?_
 refine aw_state (aw_loop (ι := Bool × Int) (fun i => (memOf w0 Z0 [] [] [(fDat (tyList tyS_api_Item) [v0_0] a0), (fDat (tyList tyS_api_Item) [s31] (a0.take (l4i20).toNat)), (fPtr tyS_api_Item p13 u11)])) (fun i => (tab [(0, v0_0), (10, (str r26.1)), (12, (bool i.1)), (18, v0_0), (19, (iq (a0.length : Int))), (20, (iq l4i20)), (65, s31), (66, (iq ((a0.take (l4i20).toNat).length : Int))), (67, (iq i.2))])) (fun q i => f_lumref_World_L34 a0 l4i20 r26 kk28 q i.1 i.2 = some r) ?_ fu ((r26.1 == ([47] : List UInt8)), (0 : Int)) h) (nm_ [] [1, 0, 2] (by decide) ⟨rfl, rfl, rfl, rfl, rfl, rfl, rfl, rfl, rfl, trivial⟩)
 clear h
 rintro k33 ⟨l32b12, l32i67⟩ h
 have h : f_lumref_World_L34 a0 l4i20 r26 kk28 k33 l32b12 l32i67 = some r := h
 obtain _ | k33 := k33
 rw [f_lumref_World_L34] at h; cases h
 rw [f_lumref_World_L34] at h
 refine aw_show (m := (memOf w0 Z0 [] [] [(fDat (tyList tyS_api_Item) [v0_0] a0), (fDat (tyList tyS_api_Item) [s31] (a0.take (l4i20).toNat)), (fPtr tyS_api_Item p13 u11)])) (S := _) ?_
 refine aw_sr ?_
 refine im_ ?_
 refine aw_seq ?_
 refine aw_cond rfl (fun hb35 => ?_) (fun hb35 => ?_)
 replace h := bif_t hb35 h
 refine aw_skip ?_
 refine aq_then ?_
 obtain ⟨kk37, hkk37, h⟩ := lt_some h
 refine aw_seq_join (ι := Bool) (fun i => (memOf w0 Z0 [] [] [(fDat (tyList tyS_api_Item) [v0_0] a0), (fDat (tyList tyS_api_Item) [s31] (a0.take (l4i20).toNat)), (fPtr tyS_api_Item p13 u11)])) (fun i => (tab [(0, v0_0), (10, (str r26.1)), (12, (bool i)), (18, v0_0), (19, (iq (a0.length : Int))), (20, (iq l4i20)), (65, s31), (66, (iq ((a0.take (l4i20).toNat).length : Int))), (67, (iq l32i67))])) (fun i => kk37 i = some r) ?_ ?_
 rintro j36b12 h
 have h : kk37 j36b12 = some r := h
 rw [hkk37] at h
 dsimp only at h
 clear hkk37
 refine aw_show (m := (memOf w0 Z0 [] [] [(fDat (tyList tyS_api_Item) [v0_0] a0), (fDat (tyList tyS_api_Item) [s31] (a0.take (l4i20).toNat)), (fPtr tyS_api_Item p13 u11)])) (S := _) ?_
 refine aw_region ?_
 refine in_ ?_
 refine mv_ ?_
 refine al_nil ?_
 exact aq_again k33 (j36b12, (wq (l32i67 + (1 : Int)))) (Nat.lt_succ_self _) h (nm_ [] [0, 1, 2] (by decide) ⟨rfl, rfl, rfl, rfl, rfl, rfl, rfl, rfl, rfl, trivial⟩)
 clear hkk37
 refine aw_block ?_
 refine aw_sr ?_
 obtain ⟨u38, hu39, h⟩ := opt_some h
 refine al_idxD 1 hu39 rfl rfl rfl Tryz.underlying26 sz45 rfl (fun p40 => ?_)
 refine al_val (ov_loadP (ds := [(str u38.Path), (iq u38.Kind), (iq u38.Mode), (iq u38.Time), (str u38.Bytes)]) 0 rfl encS_api_Item rfl Tryz.underlying45 sz45 rfl rfl rfl) ?_
 refine al_alloc (zs := [(str ([] : List UInt8)), (iq (0 : Int)), (iq (0 : Int)), (iq (0 : Int)), (str ([] : List UInt8))]) (zeroOf_to to45) rfl rfl (fun g41 => ?_)
 refine al_store (i := 0) (vs := [(str u38.Path), (iq u38.Kind), (iq u38.Mode), (iq u38.Time), (str u38.Bytes)]) (cs' := [(str u38.Path), (iq u38.Kind), (iq u38.Mode), (iq u38.Time), (str u38.Bytes)]) rfl rfl rfl sz45 (cv_rfl rfl) rfl (co_val rfl (co_val rfl (co_val rfl (co_val rfl (co_val rfl co_nil))))) (Nat.le_of_ble_eq_true rfl) rfl rfl ?_
 refine al_nt ?_
 refine aw_region ?_
 refine mv_ ?_
 refine mv_ ?_
 refine al_caseB 72 rfl (fun hb42 => ?_) (fun hb42 => ?_)
 replace h := bif_t hb42 h
 iterate 9 refine al_skip ?_
 refine al_val (ov_pick_t rfl rfl rfl) ?_
 refine as_ ?_
 refine al_nil ?_
 refine aq_block ?_
 exact aq_join true h (nm_ [] [1, 2, 3] (by decide) ⟨rfl, rfl, rfl, rfl, rfl, rfl, rfl, rfl, rfl, trivial⟩)
 replace h := bif_f hb42 h
 refine al_val (ov_fieldA (p := 0) rfl Tryz.underlying45 rfl sz9 rfl rfl rfl) ?_
 refine al_val (ov_load (i := 0) (v := (str u38.Path)) rfl rfl Tryz.underlying9 sz9 rfl rfl rfl rfl) ?_
 refine mv_ ?_
 refine al_val (ov_strCmp rfl rfl rfl rfl) ?_
 refine mv_ ?_
 refine al_caseB 77 rfl (fun hb43 => ?_) (fun hb43 => ?_)
 replace h := bif_t hb43 h
 refine al_val (ov_fieldA (p := 1) rfl Tryz.underlying45 rfl sz3 rfl rfl rfl) ?_
 refine al_val (ov_load (i := 0) (v := (iq u38.Kind)) rfl rfl Tryz.underlying3 sz3 rfl rfl rfl rfl) ?_
 refine in_ ?_
 refine al_val (ov_pick_t rfl rfl rfl) ?_
 refine al_val (ov_pick_f rfl rfl rfl) ?_
 refine as_ ?_
 refine al_nil ?_
 refine aq_block ?_
 exact aq_join (u38.Kind == (2 : Int)) h (nm_ [] [1, 2, 3] (by decide) ⟨rfl, rfl, rfl, rfl, rfl, rfl, rfl, rfl, rfl, trivial⟩)
 replace h := bif_f hb43 h
 iterate 3 refine al_skip ?_
 refine al_val (ov_pick_f rfl rfl rfl) ?_
 refine al_val (ov_pick_f rfl rfl rfl) ?_
 refine as_ ?_
 refine al_nil ?_
 refine aq_block ?_
 exact aq_join false h (nm_ [] [1, 2, 3] (by decide) ⟨rfl, rfl, rfl, rfl, rfl, rfl, rfl, rfl, rfl, trivial⟩)
 replace h := bif_f hb35 h
 refine aw_exit ?_
 refine aq_then_exit ?_
 refine aq_then_exit ?_
 refine aq_block_exit ?_
 exact aq_join l32b12 h (nm_ [] [0, 2] (by decide) ⟨rfl, rfl, rfl, rfl, rfl, trivial⟩)
 clear hkk19
 refine sm_ ?_
 refine im_ ?_
 refine aw_cond rfl (fun hb44 => ?_) (fun hb44 => ?_)
 replace h := bif_t hb44 h
 refine aw_seq ?_
 obtain ⟨u45, hu46, h⟩ := opt_some h
 obtain ⟨r50, hc49, h⟩ := opt_some h
 refine aw_region_draw 13 [(33, (fE v0_0)), (34, (fE (iq l4i20))), (35, (fE (iq (wq (l4i20 - (1 : Int)))))), (36, (fun p47 => (fPtr tyS_api_Item p47 u45))), (37, (fun p48 => (fPtr tyStr p48 u45.Path))), (38, (fE (str u45.Path))), (39, (fE (pq g14))), (40, (fE (str u11.Path))), (41, (fE (Value.tuple #[(bool r50.1), (iq r50.2)]))), (32, (fE (Value.tuple #[(bool r50.1), (iq r50.2)]))), (42, (fE (bool r50.1))), (43, (fE (iq r50.2))), (6, (fE (bool r50.1)))] (tab [(0, v0_0), (3, (iq l4i20)), (4, (pq g14)), (18, v0_0), (19, (iq (a0.length : Int))), (20, (iq l4i20))]) mixed (by kernel_rfl) rfl rfl rfl (fun a hs => hs.tab _ (allT_mem ⟨rfl, rfl, rfl, rfl, rfl, rfl, trivial⟩)) ⟨⟨rfl, ld_val (ov_move rfl rfl)⟩, ⟨rfl, ld_val (ov_move rfl rfl)⟩, ⟨rfl, ld_eq (j := 1) rfl rfl (ld_val (ov_int rfl rfl rfl rfl))⟩, ⟨rfl, ld_eq (j := 0) rfl rfl (ld_eq (j := 2) rfl rfl (ld_of (of_idxD 1 hu46 rfl rfl rfl Tryz.underlying26 sz45 rfl)))⟩, ⟨rfl, ld_fact (j := 3) rfl rfl (fun p47 => ld_of (of_fieldD (pr := fun (y : S_api_Item) => y.Path) 0 rfl subS_api_Item_0 rfl Tryz.underlying45 rfl sz9 rfl rfl))⟩, ⟨rfl, ld_fact (j := 4) rfl rfl (fun p48 => ld_val (ov_loadP (ds := [(str u45.Path)]) 0 rfl (fun h => h) rfl Tryz.underlying9 sz9 rfl rfl rfl))⟩, ⟨rfl, ld_val (ov_fieldA (p := 0) rfl Tryz.underlying45 rfl sz9 rfl rfl rfl)⟩, ⟨rfl, ld_eq (j := 6) rfl rfl (ld_val (ov_load (i := 0) (v := (str u11.Path)) rfl rfl Tryz.underlying9 sz9 rfl rfl rfl rfl))⟩, ⟨rfl, ld_eq (j := 5) rfl rfl (ld_eq (j := 7) rfl rfl (ld_callV (vs := [(str u45.Path), (str u11.Path)]) (f_lumref_Less_ok fu u45.Path u11.Path hc49) [] pre_nil rfl Tryz.func17 rfl rfl rfl))⟩, ⟨rfl, ld_eq (j := 8) rfl rfl (ld_val (ov_move rfl rfl))⟩, ⟨rfl, ld_eq (j := 9) rfl rfl (ld_val (ov_extract rfl rfl rfl))⟩, ⟨rfl, ld_eq (j := 9) rfl rfl (ld_val (ov_extract rfl rfl rfl))⟩, ⟨rfl, ld_eq (j := 10) rfl rfl (ld_val (ov_assign rfl rfl))⟩, trivial⟩ ?_
 refine tl_eq 11 rfl ?_
 refine tl_eq 12 rfl ?_
 refine tl_done ?_
 refine an_ ?_
 refine sm_ ?_
 refine al_val (ov_not rfl rfl) ?_
 refine al_nt ?_
 refine aw_cond rfl (fun hb51 => ?_) (fun hb51 => ?_)
 replace h := bif_t hb51 h
 refine aw_sr ?_
 refine an_ ?_
 refine aw_ret ?_
 refine aq_then_ret ?_
 refine aq_block_ret ?_
 refine aq_then_ret ?_
 refine aq_then_ret ?_
 refine aq_block_ret ?_
 refine aq_then_ret ?_
 cases h
 exact fr1_
 replace h := bif_f hb51 h
 refine aw_skip ?_
 exact aq_join () h (nm_ [0] [1, 0] (by decide) ⟨rfl, rfl, rfl, rfl, rfl, rfl, trivial⟩)
 replace h := bif_f hb44 h
 refine aw_skip ?_
 exact aq_join () h (nm_ [0] [1, 0] (by decide) ⟨rfl, rfl, rfl, rfl, rfl, rfl, trivial⟩)
 replace h := bif_f hb8 h
 refine aw_exit ?_
 refine aq_then_exit ?_
 refine aq_then_exit ?_
 refine aq_block_exit ?_
 exact aq_join () h (nm_ [] [0] (by decide) trivial)
def f_bytealg_hashStrRev_string__L7 (kk4 : (Int → Option (Int × Int))) : Nat → Int → Int → Int → Option (Int × Int)
  | 0, _, _, _ => none
  | k6 + 1, l5i6, l5i7, l5i8 => (bif (decide (l5i8 > (0 : Int))) then (lt (fun (j9i6 : Int) => (f_bytealg_hashStrRev_string__L7 kk4 k6 j9i6 (IntKind.u32.wrap (l5i7 * l5i7)) ((l5i8).fdiv (2 ^ min ((1 : Int)).toNat (IntKind.bits .i64))))) fun (kk10 : Int → Option (Int × Int)) => (bif ((bits .and .i64 l5i8 (1 : Int)) != (0 : Int)) then (kk10 (IntKind.u32.wrap (l5i6 * l5i7))) else (kk10 l5i6))) else (kk4 l5i6))
def f_bytealg_hashStrRev_string__L14 (a0 : (List UInt8)) (kk2 : (Int → Option (Int × Int))) : Nat → Int → Int → Option (Int × Int)
  | 0, _, _ => none
  | k13 + 1, l12i4, l12i5 => (bif (decide (l12i5 ≥ (0 : Int))) then (req (0 ≤ l12i5 ∧ l12i5 < (a0.length : Int)) (f_bytealg_hashStrRev_string__L14 a0 kk2 k13 (IntKind.u32.wrap ((IntKind.u32.wrap (l12i4 * (16777619 : Int))) + (IntKind.u32.wrap (En.bAt a0 l12i5)))) (IntKind.i64.wrap (l12i5 - (1 : Int))))) else (kk2 l12i4))
def f_bytealg_hashStrRev_string_ (fu : Nat) (a0 : (List UInt8)) : Option (Int × Int) := (lt (fun (j1i4 : Int) => (lt (fun (j3i6 : Int) => (some (j1i4, j3i6))) fun (kk4 : Int → Option (Int × Int)) => (f_bytealg_hashStrRev_string__L7 kk4 fu (1 : Int) (16777619 : Int) (a0.length : Int)))) fun (kk2 : Int → Option (Int × Int)) => (f_bytealg_hashStrRev_string__L14 a0 kk2 fu (0 : Int) (IntKind.i64.wrap ((a0.length : Int) - (1 : Int)))))
set_option maxHeartbeats 2000000 in
set_option maxRecDepth 100000 in
theorem f_bytealg_hashStrRev_string__ok (fu : Nat) (a0 : (List UInt8)) {r : (Int × Int)} (h : f_bytealg_hashStrRev_string_ fu a0 = some r) : FnOk Tryz.prog 67 [(str a0)] [] [] (fun (i : Unit) => { val := (Value.tuple #[(int .u32 r.1), (int .u32 r.2)]) }) := by
 unfold f_bytealg_hashStrRev_string_ at h
 refine fn_enter Tryz.func67 rfl Tryz.ntmps67 rfl (fun w0 Z0 => ?_)
 refine aw_sr ?_
 refine as_ ?_
 refine an_ ?_
 refine aw_sr ?_
 refine an_ ?_
 obtain ⟨kk2, hkk2, h⟩ := lt_some h
 refine aw_seq_join (ι := Int) (fun i => (memOf w0 Z0 [] [] [])) (fun i => (tab [(0, (str a0)), (4, (int .u32 i))])) (fun i => kk2 i = some r) ?_ ?_
 rintro j1i4 h
 have h : kk2 j1i4 = some r := h
 rw [hkk2] at h
 dsimp only at h
 clear hkk2
 refine aw_show (m := (memOf w0 Z0 [] [] [])) (S := _) ?_
 refine aw_sr ?_
 refine as_ ?_
 refine an_ ?_
 obtain ⟨kk4, hkk4, h⟩ := lt_some h
 refine aw_seq_join (ι := Int) (fun i => (memOf w0 Z0 [] [] [])) (fun i => (tab [(4, (int .u32 j1i4)), (6, (int .u32 i))])) (fun i => kk4 i = some r) ?_ ?_
 rintro j3i6 h
 have h : kk4 j3i6 = some r := h
 rw [hkk4] at h
 dsimp only at h
 clear hkk4
 refine aw_show (m := (memOf w0 Z0 [] [] [])) (S := _) ?_
 refine sm_ ?_
 refine mv_ ?_
 refine as_ ?_
 refine an_ ?_
 refine aw_ret ?_
 cases h
 exact fr2_
 clear hkk4
 refine sm_ ?_
 refine al_val (ov_strLen Tryz.underlying9 rfl rfl) ?_
 refine an_ ?_
 refine aw_block ?_
 refine aw_state (aw_loop (ι := Int × Int × Int) (fun i => (memOf w0 Z0 [] [] [])) (fun i => (tab [(4, (int .u32 j1i4)), (6, (int .u32 i.1)), (7, (int .u32 i.2.1)), (8, (iq i.2.2))])) (fun q i => f_bytealg_hashStrRev_string__L7 kk4 q i.1 i.2.1 i.2.2 = some r) ?_ fu ((1 : Int), (16777619 : Int), (a0.length : Int)) h) (nm_ [] [] (by decide) ⟨rfl, rfl, rfl, rfl, trivial⟩)
 clear h
 rintro k6 ⟨l5i6, l5i7, l5i8⟩ h
 have h : f_bytealg_hashStrRev_string__L7 kk4 k6 l5i6 l5i7 l5i8 = some r := h
 obtain _ | k6 := k6
 rw [f_bytealg_hashStrRev_string__L7] at h; cases h
 rw [f_bytealg_hashStrRev_string__L7] at h
 refine aw_show (m := (memOf w0 Z0 [] [] [])) (S := _) ?_
 refine aw_seq ?_
 refine sm_ ?_
 refine im_ ?_
 refine aw_cond rfl (fun hb8 => ?_) (fun hb8 => ?_)
 replace h := bif_t hb8 h
 refine aw_skip ?_
 refine aq_then ?_
 refine aw_seq ?_
 refine aw_block ?_
 obtain ⟨kk10, hkk10, h⟩ := lt_some h
 refine aw_seq_join (ι := Int) (fun i => (memOf w0 Z0 [] [] [])) (fun i => (tab [(4, (int .u32 j1i4)), (6, (int .u32 i)), (7, (int .u32 l5i7)), (8, (iq l5i8))])) (fun i => kk10 i = some r) ?_ ?_
 rintro j9i6 h
 have h : kk10 j9i6 = some r := h
 rw [hkk10] at h
 dsimp only at h
 clear hkk10
 refine aw_show (m := (memOf w0 Z0 [] [] [])) (S := _) ?_
 refine aw_region ?_
 refine mv_ ?_
 refine mv_ ?_
 refine in_ ?_
 refine as_ ?_
 refine al_nil ?_
 refine aq_block ?_
 refine aq_then ?_
 refine aw_region ?_
 refine mv_ ?_
 refine al_val (ov_shr (by decide) rfl rfl rfl) ?_
 refine as_ ?_
 refine al_nil ?_
 exact aq_again k6 (j9i6, (IntKind.u32.wrap (l5i7 * l5i7)), ((l5i8).fdiv (2 ^ min ((1 : Int)).toNat (IntKind.bits .i64)))) (Nat.lt_succ_self _) h (nm_ [] [] (by decide) ⟨rfl, rfl, rfl, rfl, trivial⟩)
 clear hkk10
 refine sm_ ?_
 refine in_ ?_
 refine im_ ?_
 refine aw_cond rfl (fun hb11 => ?_) (fun hb11 => ?_)
 replace h := bif_t hb11 h
 refine aw_region ?_
 refine mv_ ?_
 refine mv_ ?_
 refine in_ ?_
 refine as_ ?_
 refine al_nil ?_
 exact aq_join (IntKind.u32.wrap (l5i6 * l5i7)) h (nm_ [] [] (by decide) ⟨rfl, rfl, rfl, rfl, trivial⟩)
 replace h := bif_f hb11 h
 refine aw_skip ?_
 exact aq_join l5i6 h (nm_ [] [] (by decide) ⟨rfl, rfl, rfl, rfl, trivial⟩)
 replace h := bif_f hb8 h
 refine aw_exit ?_
 refine aq_then_exit ?_
 refine aq_then_exit ?_
 refine aq_block_exit ?_
 exact aq_join l5i6 h (nm_ [] [] (by decide) ⟨rfl, rfl, trivial⟩)
 clear hkk2
 refine sm_ ?_
 refine al_val (ov_strLen Tryz.underlying9 rfl rfl) ?_
 refine in_ ?_
 refine an_ ?_
 refine aw_block ?_
 refine aw_state (aw_loop (ι := Int × Int) (fun i => (memOf w0 Z0 [] [] [])) (fun i => (tab [(0, (str a0)), (4, (int .u32 i.1)), (5, (iq i.2))])) (fun q i => f_bytealg_hashStrRev_string__L14 a0 kk2 q i.1 i.2 = some r) ?_ fu ((0 : Int), (wq ((a0.length : Int) - (1 : Int)))) h) (nm_ [] [] (by decide) ⟨rfl, rfl, rfl, trivial⟩)
 clear h
 rintro k13 ⟨l12i4, l12i5⟩ h
 have h : f_bytealg_hashStrRev_string__L14 a0 kk2 k13 l12i4 l12i5 = some r := h
 obtain _ | k13 := k13
 rw [f_bytealg_hashStrRev_string__L14] at h; cases h
 rw [f_bytealg_hashStrRev_string__L14] at h
 refine aw_show (m := (memOf w0 Z0 [] [] [])) (S := _) ?_
 refine aw_seq ?_
 refine sm_ ?_
 refine im_ ?_
 refine aw_cond rfl (fun hb15 => ?_) (fun hb15 => ?_)
 replace h := bif_t hb15 h
 refine aw_skip ?_
 refine aq_then ?_
 refine aw_seq ?_
 refine aw_block ?_
 refine aw_region ?_
 refine mv_ ?_
 refine in_ ?_
 refine mv_ ?_
 refine mv_ ?_
 obtain ⟨hc16, h⟩ := req_some h
 refine al_val (ov_strIdx hc16.1 hc16.2 Tryz.underlying9 rfl rfl rfl) ?_
 refine al_val (ov_convInt (by rw [Tryz.underlying5]; rfl) Tryz.underlying93 rfl rfl) ?_
 refine in_ ?_
 refine as_ ?_
 refine al_nil ?_
 refine aq_block ?_
 refine aq_then ?_
 refine aw_region ?_
 refine mv_ ?_
 refine in_ ?_
 refine as_ ?_
 refine al_nil ?_
 exact aq_again k13 ((IntKind.u32.wrap ((IntKind.u32.wrap (l12i4 * (16777619 : Int))) + (IntKind.u32.wrap (En.bAt a0 l12i5)))), (wq (l12i5 - (1 : Int)))) (Nat.lt_succ_self _) h (nm_ [] [] (by decide) ⟨rfl, rfl, rfl, trivial⟩)
 replace h := bif_f hb15 h
 refine aw_exit ?_
 refine aq_then_exit ?_
 refine aq_then_exit ?_
 refine aq_block_exit ?_
 exact aq_join l12i4 h (nm_ [] [] (by decide) ⟨rfl, rfl, trivial⟩)
def f_bytealg_LastIndexRabinKarp_string__L12 (a0 : (List UInt8)) (a1 : (List UInt8)) (r2 : (Int × Int)) (kk9 : (Unit → Option Int)) : Nat → Int → Int → Option Int
  | 0, _, _ => none
  | k11 + 1, l10i9, l10i11 => (bif (decide (l10i11 ≥ (0 : Int))) then (req (0 ≤ l10i11 ∧ l10i11 < (a0.length : Int)) (req (0 ≤ (IntKind.i64.wrap (l10i11 + (a1.length : Int))) ∧ (IntKind.i64.wrap (l10i11 + (a1.length : Int))) < (a0.length : Int)) (lt (fun (j16b85 : Bool) => (bif j16b85 then (some l10i11) else (f_bytealg_LastIndexRabinKarp_string__L12 a0 a1 r2 kk9 k11 (IntKind.u32.wrap ((IntKind.u32.wrap ((IntKind.u32.wrap (l10i9 * (16777619 : Int))) + (IntKind.u32.wrap (En.bAt a0 l10i11)))) - (IntKind.u32.wrap (r2.2 * (IntKind.u32.wrap (En.bAt a0 (IntKind.i64.wrap (l10i11 + (a1.length : Int))))))))) (IntKind.i64.wrap (l10i11 - (1 : Int)))))) fun (kk17 : Bool → Option Int) => (bif ((IntKind.u32.wrap ((IntKind.u32.wrap ((IntKind.u32.wrap (l10i9 * (16777619 : Int))) + (IntKind.u32.wrap (En.bAt a0 l10i11)))) - (IntKind.u32.wrap (r2.2 * (IntKind.u32.wrap (En.bAt a0 (IntKind.i64.wrap (l10i11 + (a1.length : Int))))))))) == r2.1) then (req (0 ≤ l10i11 ∧ l10i11 ≤ (IntKind.i64.wrap (l10i11 + (a1.length : Int))) ∧ (IntKind.i64.wrap (l10i11 + (a1.length : Int))) ≤ (a0.length : Int)) (kk17 ((cut a0 l10i11 (IntKind.i64.wrap (l10i11 + (a1.length : Int)))) == a1))) else (kk17 false))))) else (kk9 ()))
def f_bytealg_LastIndexRabinKarp_string__L25 (a0 : (List UInt8)) (a1 : (List UInt8)) (kk4 : (Int → Option Int)) : Nat → Int → Int → Option Int
  | 0, _, _ => none
  | k24 + 1, l23i9, l23i10 => (bif (decide (l23i10 ≥ (IntKind.i64.wrap ((a0.length : Int) - (a1.length : Int))))) then (req (0 ≤ l23i10 ∧ l23i10 < (a0.length : Int)) (f_bytealg_LastIndexRabinKarp_string__L25 a0 a1 kk4 k24 (IntKind.u32.wrap ((IntKind.u32.wrap (l23i9 * (16777619 : Int))) + (IntKind.u32.wrap (En.bAt a0 l23i10)))) (IntKind.i64.wrap (l23i10 - (1 : Int))))) else (kk4 l23i9))
def f_bytealg_LastIndexRabinKarp_string_ (fu : Nat) (a0 : (List UInt8)) (a1 : (List UInt8)) : Option Int := (opt (f_bytealg_hashStrRev_string_ fu a1) fun (r2 : (Int × Int)) => (lt (fun (j3i9 : Int) => (lt (fun (j5b47 : Bool) => (bif j5b47 then (some (IntKind.i64.wrap ((a0.length : Int) - (a1.length : Int)))) else (lt (fun (_ : Unit) => (some (-1 : Int))) fun (kk9 : Unit → Option Int) => (f_bytealg_LastIndexRabinKarp_string__L12 a0 a1 r2 kk9 fu j3i9 (IntKind.i64.wrap ((IntKind.i64.wrap ((a0.length : Int) - (a1.length : Int))) - (1 : Int))))))) fun (kk6 : Bool → Option Int) => (bif (j3i9 == r2.1) then (req (0 ≤ (IntKind.i64.wrap ((a0.length : Int) - (a1.length : Int))) ∧ (IntKind.i64.wrap ((a0.length : Int) - (a1.length : Int))) ≤ (a0.length : Int)) (kk6 ((a0.drop ((IntKind.i64.wrap ((a0.length : Int) - (a1.length : Int)))).toNat) == a1))) else (kk6 false)))) fun (kk4 : Int → Option Int) => (f_bytealg_LastIndexRabinKarp_string__L25 a0 a1 kk4 fu (0 : Int) (IntKind.i64.wrap ((a0.length : Int) - (1 : Int))))))
set_option maxRecDepth 100000 in
set_option maxHeartbeats 2000000 in
set_option maxHeartbeats 2000000 in
theorem f_bytealg_LastIndexRabinKarp_string__ok (fu : Nat) (a0 : (List UInt8)) (a1 : (List UInt8)) {r : Int} (h : f_bytealg_LastIndexRabinKarp_string_ fu a0 a1 = some r) : FnOk Tryz.prog 45 [(str a0), (str a1)] [] [] (fun (i : Unit) => { val := (int .i64 r) }) := by
 unfold f_bytealg_LastIndexRabinKarp_string_ at h
 refine fn_enter Tryz.func45 rfl Tryz.ntmps45 rfl (fun w0 Z0 => ?_)
 refine aw_sr ?_
 refine an_ ?_
 refine sm_ ?_
 obtain ⟨r2, hc1, h⟩ := opt_some h
 refine al_call (vs := [(str a1)]) (f_bytealg_hashStrRev_string__ok fu a1 hc1) [] [] [] pre_nil rfl (by simp) (by decide) (.inl rfl) rfl Tryz.func67 rfl rfl rfl (fun _ => ?_)
 refine mv_ ?_
 refine al_ex rfl rfl rfl ?_
 refine al_ex rfl rfl rfl ?_
 refine as_ ?_
 refine an_ ?_
 refine sm_ ?_
 refine al_val (ov_strLen Tryz.underlying9 rfl rfl) ?_
 refine an_ ?_
 refine sm_ ?_
 refine al_val (ov_strLen Tryz.underlying9 rfl rfl) ?_
 refine mv_ ?_
 refine in_ ?_
 refine an_ ?_
 refine aw_sr ?_
 refine an_ ?_
 obtain ⟨kk4, hkk4, h⟩ := lt_some h
 refine aw_seq_join (ι := Int) (fun i => (memOf w0 Z0 [] [] [])) (fun i => (tab [(0, (str a0)), (1, (str a1)), (5, (int .u32 r2.1)), (6, (int .u32 r2.2)), (7, (iq (a1.length : Int))), (8, (iq (wq ((a0.length : Int) - (a1.length : Int))))), (9, (int .u32 i))])) (fun i => kk4 i = some r) ?_ ?_
 rintro j3i9 h
 have h : kk4 j3i9 = some r := h
 rw [hkk4] at h
 dsimp only at h
 clear hkk4
 refine aw_show (m := (memOf w0 Z0 [] [] [])) (S := _) ?_
 refine aw_seq ?_
 obtain ⟨kk6, hkk6, h⟩ := lt_some h
 refine aw_seq_join (ι := Bool) (fun i => (memOf w0 Z0 [] [] [])) (fun i => (tab [(0, (str a0)), (1, (str a1)), (5, (int .u32 r2.1)), (6, (int .u32 r2.2)), (7, (iq (a1.length : Int))), (8, (iq (wq ((a0.length : Int) - (a1.length : Int))))), (9, (int .u32 j3i9)), (47, (bool i))])) (fun i => kk6 i = some r) ?_ ?_
 rintro j5b47 h
 have h : kk6 j5b47 = some r := h
 rw [hkk6] at h
 dsimp only at h
 clear hkk6
 refine aw_show (m := (memOf w0 Z0 [] [] [])) (S := _) ?_
 refine aw_cond rfl (fun hb7 => ?_) (fun hb7 => ?_)
 replace h := bif_t hb7 h
 refine sm_ ?_
 refine an_ ?_
 refine aw_ret ?_
 refine aq_then_ret ?_
 cases h
 exact fr1_
 replace h := bif_f hb7 h
 refine aw_skip ?_
 refine aq_then ?_
 obtain ⟨kk9, hkk9, h⟩ := lt_some h
 refine aw_seq_join (ι := Unit) (fun i => (memOf w0 Z0 [] [] [])) (fun i => (tab [])) (fun i => kk9 () = some r) ?_ ?_
 rintro _ h
 have h : kk9 () = some r := h
 rw [hkk9] at h
 dsimp only at h
 clear hkk9
 refine aw_show (m := (memOf w0 Z0 [] [] [])) (S := _) ?_
 refine aw_sr ?_
 refine an_ ?_
 refine aw_ret ?_
 cases h
 exact fr1_
 clear hkk9
 refine sm_ ?_
 refine in_ ?_
 refine an_ ?_
 refine aw_block ?_
 refine aw_state (aw_loop (ι := Int × Int) (fun i => (memOf w0 Z0 [] [] [])) (fun i => (tab [(0, (str a0)), (1, (str a1)), (5, (int .u32 r2.1)), (6, (int .u32 r2.2)), (7, (iq (a1.length : Int))), (9, (int .u32 i.1)), (11, (iq i.2))])) (fun q i => f_bytealg_LastIndexRabinKarp_string__L12 a0 a1 r2 kk9 q i.1 i.2 = some r) ?_ fu (j3i9, (wq ((wq ((a0.length : Int) - (a1.length : Int))) - (1 : Int)))) h) (nm_ [] [] (by decide) ⟨rfl, rfl, rfl, rfl, rfl, rfl, rfl, trivial⟩)
 clear h
 rintro k11 ⟨l10i9, l10i11⟩ h
 have h : f_bytealg_LastIndexRabinKarp_string__L12 a0 a1 r2 kk9 k11 l10i9 l10i11 = some r := h
 obtain _ | k11 := k11
 rw [f_bytealg_LastIndexRabinKarp_string__L12] at h; cases h
 rw [f_bytealg_LastIndexRabinKarp_string__L12] at h
 refine aw_show (m := (memOf w0 Z0 [] [] [])) (S := _) ?_
 refine aw_seq ?_
 refine sm_ ?_
 refine im_ ?_
 refine aw_cond rfl (fun hb13 => ?_) (fun hb13 => ?_)
 replace h := bif_t hb13 h
 refine aw_skip ?_
 refine aq_then ?_
 refine aw_seq ?_
 refine aw_block ?_
 refine sm_ ?_
 refine in_ ?_
 refine an_ ?_
 refine sm_ ?_
 refine mv_ ?_
 refine mv_ ?_
 obtain ⟨hc14, h⟩ := req_some h
 refine al_val (ov_strIdx hc14.1 hc14.2 Tryz.underlying9 rfl rfl rfl) ?_
 refine al_val (ov_convInt (by rw [Tryz.underlying5]; rfl) Tryz.underlying93 rfl rfl) ?_
 refine in_ ?_
 refine an_ ?_
 refine sm_ ?_
 refine mv_ ?_
 refine mv_ ?_
 refine mv_ ?_
 refine mv_ ?_
 refine in_ ?_
 obtain ⟨hc15, h⟩ := req_some h
 refine al_val (ov_strIdx hc15.1 hc15.2 Tryz.underlying9 rfl rfl rfl) ?_
 refine al_val (ov_convInt (by rw [Tryz.underlying5]; rfl) Tryz.underlying93 rfl rfl) ?_
 refine in_ ?_
 refine in_ ?_
 refine an_ ?_
 obtain ⟨kk17, hkk17, h⟩ := lt_some h
 refine aw_seq_join (ι := Bool) (fun i => (memOf w0 Z0 [] [] [])) (fun i => (tab [(0, (str a0)), (1, (str a1)), (5, (int .u32 r2.1)), (6, (int .u32 r2.2)), (7, (iq (a1.length : Int))), (9, (int .u32 (IntKind.u32.wrap ((IntKind.u32.wrap ((IntKind.u32.wrap (l10i9 * (16777619 : Int))) + (IntKind.u32.wrap (En.bAt a0 l10i11)))) - (IntKind.u32.wrap (r2.2 * (IntKind.u32.wrap (En.bAt a0 (wq (l10i11 + (a1.length : Int))))))))))), (11, (iq l10i11)), (85, (bool i))])) (fun i => kk17 i = some r) ?_ ?_
 rintro j16b85 h
 have h : kk17 j16b85 = some r := h
 rw [hkk17] at h
 dsimp only at h
 clear hkk17
 refine aw_show (m := (memOf w0 Z0 [] [] [])) (S := _) ?_
 refine aw_cond rfl (fun hb18 => ?_) (fun hb18 => ?_)
 replace h := bif_t hb18 h
 refine sm_ ?_
 refine an_ ?_
 refine aw_ret ?_
 refine aq_block_ret ?_
 refine aq_then_ret ?_
 refine aq_then_ret ?_
 refine aq_block_ret ?_
 refine aq_then_ret ?_
 cases h
 exact fr1_
 replace h := bif_f hb18 h
 refine aw_skip ?_
 refine aq_block ?_
 refine aq_then ?_
 refine aw_region ?_
 refine mv_ ?_
 refine in_ ?_
 refine as_ ?_
 refine al_nil ?_
 exact aq_again k11 ((IntKind.u32.wrap ((IntKind.u32.wrap ((IntKind.u32.wrap (l10i9 * (16777619 : Int))) + (IntKind.u32.wrap (En.bAt a0 l10i11)))) - (IntKind.u32.wrap (r2.2 * (IntKind.u32.wrap (En.bAt a0 (wq (l10i11 + (a1.length : Int))))))))), (wq (l10i11 - (1 : Int)))) (Nat.lt_succ_self _) h (nm_ [] [] (by decide) ⟨rfl, rfl, rfl, rfl, rfl, rfl, rfl, trivial⟩)
 clear hkk17
 refine aw_region ?_
 refine mv_ ?_
 refine mv_ ?_
 refine in_ ?_
 refine mv_ ?_
 refine al_caseB 76 rfl (fun hb19 => ?_) (fun hb19 => ?_)
 replace h := bif_t hb19 h
 refine mv_ ?_
 refine mv_ ?_
 refine mv_ ?_
 refine mv_ ?_
 refine in_ ?_
 obtain ⟨hc20, h⟩ := req_some h
 refine al_val (ov_strCut hc20.1 hc20.2.1 hc20.2.2 Tryz.underlying9 rfl rfl rfl rfl) ?_
 refine mv_ ?_
 refine al_val (ov_strCmp rfl rfl rfl rfl) ?_
 refine al_val (ov_pick_t rfl rfl rfl) ?_
 refine al_nil ?_
 exact aq_join ((cut a0 l10i11 (wq (l10i11 + (a1.length : Int)))) == a1) h (nm_ [] [] (by decide) ⟨rfl, rfl, rfl, rfl, rfl, rfl, rfl, rfl, trivial⟩)
 replace h := bif_f hb19 h
 iterate 8 refine al_skip ?_
 refine al_val (ov_pick_f rfl rfl rfl) ?_
 refine al_nil ?_
 exact aq_join false h (nm_ [] [] (by decide) ⟨rfl, rfl, rfl, rfl, rfl, rfl, rfl, rfl, trivial⟩)
 replace h := bif_f hb13 h
 refine aw_exit ?_
 refine aq_then_exit ?_
 refine aq_then_exit ?_
 refine aq_block_exit ?_
 exact aq_join () h (nm_ [] [] (by decide) trivial)
 clear hkk6
 refine aw_region ?_
 refine mv_ ?_
 refine mv_ ?_
 refine in_ ?_
 refine mv_ ?_
 refine al_caseB 41 rfl (fun hb21 => ?_) (fun hb21 => ?_)
 replace h := bif_t hb21 h
 refine mv_ ?_
 refine mv_ ?_
 obtain ⟨hc22, h⟩ := req_some h
 refine al_val (ov_strFrom hc22.1 hc22.2 Tryz.underlying9 rfl rfl rfl) ?_
 refine mv_ ?_
 refine al_val (ov_strCmp rfl rfl rfl rfl) ?_
 refine al_val (ov_pick_t rfl rfl rfl) ?_
 refine al_nil ?_
 exact aq_join ((a0.drop ((wq ((a0.length : Int) - (a1.length : Int)))).toNat) == a1) h (nm_ [] [] (by decide) ⟨rfl, rfl, rfl, rfl, rfl, rfl, rfl, rfl, trivial⟩)
 replace h := bif_f hb21 h
 iterate 5 refine al_skip ?_
 refine al_val (ov_pick_f rfl rfl rfl) ?_
 refine al_nil ?_
 exact aq_join false h (nm_ [] [] (by decide) ⟨rfl, rfl, rfl, rfl, rfl, rfl, rfl, rfl, trivial⟩)
 clear hkk4
 refine sm_ ?_
 refine al_val (ov_strLen Tryz.underlying9 rfl rfl) ?_
 refine in_ ?_
 refine an_ ?_
 refine aw_block ?_
 refine aw_state (aw_loop (ι := Int × Int) (fun i => (memOf w0 Z0 [] [] [])) (fun i => (tab [(0, (str a0)), (1, (str a1)), (5, (int .u32 r2.1)), (6, (int .u32 r2.2)), (7, (iq (a1.length : Int))), (8, (iq (wq ((a0.length : Int) - (a1.length : Int))))), (9, (int .u32 i.1)), (10, (iq i.2))])) (fun q i => f_bytealg_LastIndexRabinKarp_string__L25 a0 a1 kk4 q i.1 i.2 = some r) ?_ fu ((0 : Int), (wq ((a0.length : Int) - (1 : Int)))) h) (nm_ [] [] (by decide) ⟨rfl, rfl, rfl, rfl, rfl, rfl, rfl, rfl, trivial⟩)
 clear h
 rintro k24 ⟨l23i9, l23i10⟩ h
 have h : f_bytealg_LastIndexRabinKarp_string__L25 a0 a1 kk4 k24 l23i9 l23i10 = some r := h
 obtain _ | k24 := k24
 rw [f_bytealg_LastIndexRabinKarp_string__L25] at h; cases h
 rw [f_bytealg_LastIndexRabinKarp_string__L25] at h
 refine aw_show (m := (memOf w0 Z0 [] [] [])) (S := _) ?_
 refine aw_seq ?_
 refine sm_ ?_
 refine mv_ ?_
 refine im_ ?_
 refine aw_cond rfl (fun hb26 => ?_) (fun hb26 => ?_)
 replace h := bif_t hb26 h
 refine aw_skip ?_
 refine aq_then ?_
 refine aw_seq ?_
 refine aw_block ?_
 refine aw_region ?_
 refine mv_ ?_
 refine in_ ?_
 refine mv_ ?_
 refine mv_ ?_
 obtain ⟨hc27, h⟩ := req_some h
 refine al_val (ov_strIdx hc27.1 hc27.2 Tryz.underlying9 rfl rfl rfl) ?_
 refine al_val (ov_convInt (by rw [Tryz.underlying5]; rfl) Tryz.underlying93 rfl rfl) ?_
 refine in_ ?_
 refine as_ ?_
 refine al_nil ?_
 refine aq_block ?_
 refine aq_then ?_
 refine aw_region ?_
 refine mv_ ?_
 refine in_ ?_
 refine as_ ?_
 refine al_nil ?_
 exact aq_again k24 ((IntKind.u32.wrap ((IntKind.u32.wrap (l23i9 * (16777619 : Int))) + (IntKind.u32.wrap (En.bAt a0 l23i10)))), (wq (l23i10 - (1 : Int)))) (Nat.lt_succ_self _) h (nm_ [] [] (by decide) ⟨rfl, rfl, rfl, rfl, rfl, rfl, rfl, rfl, trivial⟩)
 replace h := bif_f hb26 h
 refine aw_exit ?_
 refine aq_then_exit ?_
 refine aq_then_exit ?_
 refine aq_block_exit ?_
 exact aq_join l23i9 h (nm_ [] [] (by decide) ⟨rfl, rfl, rfl, rfl, rfl, rfl, rfl, trivial⟩)
def f_strings_LastIndex (fu : Nat) (a0 : (List UInt8)) (a1 : (List UInt8)) : Option Int := (bif ((a1.length : Int) == (0 : Int)) then (some (a0.length : Int)) else (bif ((a1.length : Int) == (1 : Int)) then (req (0 ≤ (0 : Int) ∧ (0 : Int) < (a1.length : Int)) (opt (f_bytealg_LastIndexByteString fu a0 (En.bAt a1 (0 : Int))) fun (r5 : Int) => (some r5))) else (bif ((a1.length : Int) == (a0.length : Int)) then (bif (a1 == a0) then (some (0 : Int)) else (some (-1 : Int))) else (bif (decide ((a1.length : Int) > (a0.length : Int))) then (some (-1 : Int)) else (opt (f_bytealg_LastIndexRabinKarp_string_ fu a0 a1) fun (r10 : Int) => (some r10))))))
set_option maxHeartbeats 2000000 in
set_option maxRecDepth 100000 in
theorem f_strings_LastIndex_ok (fu : Nat) (a0 : (List UInt8)) (a1 : (List UInt8)) {r : Int} (h : f_strings_LastIndex fu a0 a1 = some r) : FnOk Tryz.prog 26 [(str a0), (str a1)] [] [] (fun (i : Unit) => { val := (int .i64 r) }) := by
 unfold f_strings_LastIndex at h
 refine fn_enter Tryz.func26 rfl Tryz.ntmps26 rfl (fun w0 Z0 => ?_)
 refine aw_sr ?_
 refine an_ ?_
 refine sm_ ?_
 refine al_val (ov_strLen Tryz.underlying9 rfl rfl) ?_
 refine an_ ?_
 refine aw_seq ?_
 refine aw_block ?_
 refine sm_ ?_
 refine in_ ?_
 refine an_ ?_
 refine aw_cond rfl (fun hb1 => ?_) (fun hb1 => ?_)
 replace h := bif_t hb1 h
 refine sm_ ?_
 refine al_val (ov_strLen Tryz.underlying9 rfl rfl) ?_
 refine an_ ?_
 refine aw_ret ?_
 refine aq_block_ret ?_
 refine aq_then_ret ?_
 cases h
 exact fr1_
 replace h := bif_f hb1 h
 refine sm_ ?_
 refine in_ ?_
 refine an_ ?_
 refine aw_cond rfl (fun hb2 => ?_) (fun hb2 => ?_)
 replace h := bif_t hb2 h
 refine sm_ ?_
 refine mv_ ?_
 obtain ⟨hc3, h⟩ := req_some h
 refine al_val (ov_strIdx hc3.1 hc3.2 Tryz.underlying9 rfl rfl rfl) ?_
 obtain ⟨r5, hc4, h⟩ := opt_some h
 refine al_call (vs := [(str a0), (i8 (En.bAt a1 (0 : Int)))]) (f_bytealg_LastIndexByteString_ok fu a0 (En.bAt a1 (0 : Int)) hc4) [] [] [] pre_nil rfl (by simp) (by decide) (.inl rfl) rfl Tryz.func36 rfl rfl rfl (fun _ => ?_)
 refine an_ ?_
 refine aw_ret ?_
 refine aq_block_ret ?_
 refine aq_then_ret ?_
 cases h
 exact fr1_
 replace h := bif_f hb2 h
 refine sm_ ?_
 refine mv_ ?_
 refine al_val (ov_strLen Tryz.underlying9 rfl rfl) ?_
 refine in_ ?_
 refine an_ ?_
 refine aw_cond rfl (fun hb6 => ?_) (fun hb6 => ?_)
 replace h := bif_t hb6 h
 refine aw_seq ?_
 refine sm_ ?_
 refine mv_ ?_
 refine al_val (ov_strCmp rfl rfl rfl rfl) ?_
 refine al_nt ?_
 refine aw_cond rfl (fun hb7 => ?_) (fun hb7 => ?_)
 replace h := bif_t hb7 h
 refine aw_sr ?_
 refine an_ ?_
 refine aw_ret ?_
 refine aq_then_ret ?_
 refine aq_block_ret ?_
 refine aq_then_ret ?_
 cases h
 exact fr1_
 replace h := bif_f hb7 h
 refine aw_skip ?_
 refine aq_tr ?_
 refine an_ ?_
 refine aw_ret ?_
 refine aq_block_ret ?_
 refine aq_then_ret ?_
 cases h
 exact fr1_
 replace h := bif_f hb6 h
 refine sm_ ?_
 refine mv_ ?_
 refine al_val (ov_strLen Tryz.underlying9 rfl rfl) ?_
 refine in_ ?_
 refine an_ ?_
 refine aw_cond rfl (fun hb8 => ?_) (fun hb8 => ?_)
 replace h := bif_t hb8 h
 refine aw_sr ?_
 refine an_ ?_
 refine aw_ret ?_
 refine aq_block_ret ?_
 refine aq_then_ret ?_
 cases h
 exact fr1_
 replace h := bif_f hb8 h
 refine aw_skip ?_
 refine aq_block ?_
 refine aq_tr ?_
 refine mv_ ?_
 refine mv_ ?_
 obtain ⟨r10, hc9, h⟩ := opt_some h
 refine al_call (vs := [(str a0), (str a1)]) (f_bytealg_LastIndexRabinKarp_string__ok fu a0 a1 hc9) [] [] [] pre_nil rfl (by simp) (by decide) (.inl rfl) rfl Tryz.func45 rfl rfl rfl (fun _ => ?_)
 refine an_ ?_
 refine aw_ret ?_
 cases h
 exact fr1_
def f_lumref_rest_L5 (kk2 : (Int → Option Int)) : Nat → Int → Int → Option Int
  | 0, _, _ => none
  | k4 + 1, l3i0, l3i3 => (bif (decide (l3i3 ≥ (31 : Int))) then (lt (fun (j7i0 : Int) => (f_lumref_rest_L5 kk2 k4 j7i0 (IntKind.i64.wrap (l3i3 - (1 : Int))))) fun (kk8 : Int → Option Int) => (req (0 ≤ l3i3) (bif ((bits .and .u64 ((l3i0).fdiv (2 ^ min (l3i3).toNat (IntKind.bits .u64))) (1 : Int)) == (1 : Int)) then (req (0 ≤ (IntKind.i64.wrap (l3i3 - (31 : Int)))) (kk8 (bits .xor .u64 l3i0 (IntKind.u64.wrap ((2147483657 : Int) * 2 ^ min ((IntKind.i64.wrap (l3i3 - (31 : Int)))).toNat (IntKind.bits .u64)))))) else (kk8 l3i0)))) else (kk2 l3i0))
def f_lumref_rest (fu : Nat) (a0 : Int) : Option Int := (lt (fun (j1i0 : Int) => (some (IntKind.u32.wrap j1i0))) fun (kk2 : Int → Option Int) => (f_lumref_rest_L5 kk2 fu a0 (63 : Int)))
set_option maxHeartbeats 2000000 in
set_option maxRecDepth 100000 in
theorem f_lumref_rest_ok (fu : Nat) (a0 : Int) {r : Int} (h : f_lumref_rest fu a0 = some r) : FnOk Tryz.prog 121 [(int .u64 a0)] [] [] (fun (i : Unit) => { val := (int .u32 r) }) := by
 unfold f_lumref_rest at h
 refine fn_enter Tryz.func121 rfl Tryz.ntmps121 rfl (fun w0 Z0 => ?_)
 refine aw_sr ?_
 refine an_ ?_
 obtain ⟨kk2, hkk2, h⟩ := lt_some h
 refine aw_seq_join (ι := Int) (fun i => (memOf w0 Z0 [] [] [])) (fun i => (tab [(0, (uq i))])) (fun i => kk2 i = some r) ?_ ?_
 rintro j1i0 h
 have h : kk2 j1i0 = some r := h
 rw [hkk2] at h
 dsimp only at h
 clear hkk2
 refine aw_show (m := (memOf w0 Z0 [] [] [])) (S := _) ?_
 refine sm_ ?_
 refine al_val (ov_convInt (by rw [Tryz.underlying81]; rfl) Tryz.underlying93 rfl rfl) ?_
 refine an_ ?_
 refine aw_ret ?_
 cases h
 exact fr1_
 clear hkk2
 refine aw_sr ?_
 refine an_ ?_
 refine aw_block ?_
 refine aw_state (aw_loop (ι := Int × Int) (fun i => (memOf w0 Z0 [] [] [])) (fun i => (tab [(0, (uq i.1)), (3, (iq i.2))])) (fun q i => f_lumref_rest_L5 kk2 q i.1 i.2 = some r) ?_ fu (a0, (63 : Int)) h) (nm_ [] [] (by decide) ⟨rfl, rfl, trivial⟩)
 clear h
 rintro k4 ⟨l3i0, l3i3⟩ h
 have h : f_lumref_rest_L5 kk2 k4 l3i0 l3i3 = some r := h
 obtain _ | k4 := k4
 rw [f_lumref_rest_L5] at h; cases h
 rw [f_lumref_rest_L5] at h
 refine aw_show (m := (memOf w0 Z0 [] [] [])) (S := _) ?_
 refine aw_seq ?_
 refine sm_ ?_
 refine im_ ?_
 refine aw_cond rfl (fun hb6 => ?_) (fun hb6 => ?_)
 replace h := bif_t hb6 h
 refine aw_skip ?_
 refine aq_then ?_
 obtain ⟨kk8, hkk8, h⟩ := lt_some h
 refine aw_seq_join (ι := Int) (fun i => (memOf w0 Z0 [] [] [])) (fun i => (tab [(0, (uq i)), (3, (iq l3i3))])) (fun i => kk8 i = some r) ?_ ?_
 rintro j7i0 h
 have h : kk8 j7i0 = some r := h
 rw [hkk8] at h
 dsimp only at h
 clear hkk8
 refine aw_show (m := (memOf w0 Z0 [] [] [])) (S := _) ?_
 refine aw_region ?_
 refine mv_ ?_
 refine in_ ?_
 refine as_ ?_
 refine al_nil ?_
 exact aq_again k4 (j7i0, (wq (l3i3 - (1 : Int)))) (Nat.lt_succ_self _) h (nm_ [] [] (by decide) ⟨rfl, rfl, trivial⟩)
 clear hkk8
 refine aw_block ?_
 refine sm_ ?_
 refine mv_ ?_
 obtain ⟨hc9, h⟩ := req_some h
 refine al_val (ov_shr hc9 rfl rfl rfl) ?_
 refine in_ ?_
 refine im_ ?_
 refine aw_cond rfl (fun hb10 => ?_) (fun hb10 => ?_)
 replace h := bif_t hb10 h
 refine aw_region ?_
 refine mv_ ?_
 refine mv_ ?_
 refine in_ ?_
 obtain ⟨hc11, h⟩ := req_some h
 refine al_val (ov_shl hc11 rfl rfl rfl) ?_
 refine in_ ?_
 refine as_ ?_
 refine al_nil ?_
 refine aq_block ?_
 exact aq_join (bits .xor .u64 l3i0 (wu ((2147483657 : Int) * 2 ^ min ((wq (l3i3 - (31 : Int)))).toNat (IntKind.bits .u64)))) h (nm_ [] [] (by decide) ⟨rfl, rfl, trivial⟩)
 replace h := bif_f hb10 h
 refine aw_skip ?_
 refine aq_block ?_
 exact aq_join l3i0 h (nm_ [] [] (by decide) ⟨rfl, rfl, trivial⟩)
 replace h := bif_f hb6 h
 refine aw_exit ?_
 refine aq_then_exit ?_
 refine aq_then_exit ?_
 refine aq_block_exit ?_
 exact aq_join l3i0 h (nm_ [] [] (by decide) ⟨rfl, trivial⟩)
def f_lumref_Of_L9 (j1s0 : (List UInt8)) (kk4 : (Int → Option Int)) (fu : Nat) : Nat → Int → Int → Option Int
  | 0, _, _ => none
  | k8 + 1, l7i3, l7i17 => (bif (decide (l7i17 < (j1s0.length : Int))) then (opt (at? j1s0 l7i17) fun (u11 : UInt8) => (opt (f_lumref_rest fu (bits .xor .u64 (IntKind.u64.wrap ((IntKind.u64.wrap l7i3) * 2 ^ min ((8 : Int)).toNat (IntKind.bits .u64))) (IntKind.u64.wrap (u11.toNat : Int)))) fun (r15 : Int) => (f_lumref_Of_L9 j1s0 kk4 fu k8 r15 (IntKind.i64.wrap (l7i17 + (1 : Int)))))) else (kk4 l7i3))
def f_lumref_Of (fu : Nat) (a0 : (List UInt8)) : Option Int := (lt (fun (j1s0 : (List UInt8)) => (lt (fun (j3i3 : Int) => (some j3i3)) fun (kk4 : Int → Option Int) => (req (j1s0.length ≤ 9223372036854775807) (f_lumref_Of_L9 j1s0 kk4 fu fu (0 : Int) (0 : Int))))) fun (kk2 : (List UInt8) → Option Int) => (bif (decide ((a0.length : Int) > (16 : Int))) then (req (0 ≤ (IntKind.i64.wrap ((a0.length : Int) - (16 : Int))) ∧ (IntKind.i64.wrap ((a0.length : Int) - (16 : Int))) ≤ (a0.length : Int)) (kk2 (a0.drop ((IntKind.i64.wrap ((a0.length : Int) - (16 : Int)))).toNat))) else (kk2 a0)))
set_option maxHeartbeats 2000000 in
set_option maxRecDepth 100000 in
theorem f_lumref_Of_ok (fu : Nat) (a0 : (List UInt8)) {r : Int} (h : f_lumref_Of fu a0 = some r) : FnOk Tryz.prog 106 [(str a0)] [] [] (fun (i : Unit) => { val := (int .u32 r) }) := by
 unfold f_lumref_Of at h
 refine fn_enter Tryz.func106 rfl Tryz.ntmps106 rfl (fun w0 Z0 => ?_)
 refine aw_sr ?_
 refine an_ ?_
 obtain ⟨kk2, hkk2, h⟩ := lt_some h
 refine aw_seq_join (ι := (List UInt8)) (fun i => (memOf w0 Z0 [] [] [])) (fun i => (tab [(0, (str i))])) (fun i => kk2 i = some r) ?_ ?_
 rintro j1s0 h
 have h : kk2 j1s0 = some r := h
 rw [hkk2] at h
 dsimp only at h
 clear hkk2
 refine aw_show (m := (memOf w0 Z0 [] [] [])) (S := _) ?_
 refine aw_sr ?_
 refine an_ ?_
 obtain ⟨kk4, hkk4, h⟩ := lt_some h
 refine aw_seq_join (ι := Int) (fun i => (memOf w0 Z0 [] [] [])) (fun i => (tab [(3, (int .u32 i))])) (fun i => kk4 i = some r) ?_ ?_
 rintro j3i3 h
 have h : kk4 j3i3 = some r := h
 rw [hkk4] at h
 dsimp only at h
 clear hkk4
 refine aw_show (m := (memOf w0 Z0 [] [] [])) (S := _) ?_
 refine sm_ ?_
 refine an_ ?_
 refine aw_ret ?_
 cases h
 exact fr1_
 clear hkk4
 refine sm_ ?_
 obtain ⟨hc5, h⟩ := req_some h
 refine al_bytes hc5 rfl Tryz.underlying9 Tryz.underlying84 Tryz.underlying5 rfl (fun s6 => ?_)
 refine al_val (ov_lenD 0 rfl rfl Tryz.underlying84 rfl) ?_
 refine mv_ ?_
 refine al_nt ?_
 refine aw_block ?_
 refine aw_state (aw_loop (ι := Int × Int) (fun i => (memOf w0 Z0 [] [] [(fDat (tyList tyU8) [s6] j1s0)])) (fun i => (tab [(3, (int .u32 i.1)), (15, s6), (16, (iq (j1s0.length : Int))), (17, (iq i.2))])) (fun q i => f_lumref_Of_L9 j1s0 kk4 fu q i.1 i.2 = some r) ?_ fu ((0 : Int), (0 : Int)) h) (nm_ [] [0] (by decide) ⟨rfl, rfl, rfl, rfl, trivial⟩)
 clear h
 rintro k8 ⟨l7i3, l7i17⟩ h
 have h : f_lumref_Of_L9 j1s0 kk4 fu k8 l7i3 l7i17 = some r := h
 obtain _ | k8 := k8
 rw [f_lumref_Of_L9] at h; cases h
 rw [f_lumref_Of_L9] at h
 refine aw_show (m := (memOf w0 Z0 [] [] [(fDat (tyList tyU8) [s6] j1s0)])) (S := _) ?_
 refine aw_sr ?_
 refine im_ ?_
 refine aw_seq ?_
 refine aw_cond rfl (fun hb10 => ?_) (fun hb10 => ?_)
 replace h := bif_t hb10 h
 refine aw_skip ?_
 refine aq_then ?_
 refine aw_seq ?_
 refine aw_block ?_
 refine aw_sr ?_
 obtain ⟨u11, hu12, h⟩ := opt_some h
 refine al_idxD 0 hu12 rfl rfl rfl Tryz.underlying84 sz5 rfl (fun p13 => ?_)
 refine al_val (ov_loadP (ds := [(i8 (u11.toNat : Int))]) 0 rfl (fun h => h) rfl Tryz.underlying5 sz5 rfl rfl rfl) ?_
 refine an_ ?_
 refine aw_region ?_
 refine mv_ ?_
 refine al_val (ov_convInt (by rw [Tryz.underlying93]; rfl) Tryz.underlying81 rfl rfl) ?_
 refine al_val (ov_shl (by decide) rfl rfl rfl) ?_
 refine mv_ ?_
 refine al_val (ov_convInt (by rw [Tryz.underlying5]; rfl) Tryz.underlying81 rfl rfl) ?_
 refine in_ ?_
 obtain ⟨r15, hc14, h⟩ := opt_some h
 refine al_call (vs := [(uq (bits .xor .u64 (wu ((wu l7i3) * 2 ^ min ((8 : Int)).toNat (IntKind.bits .u64))) (wu (u11.toNat : Int))))]) (f_lumref_rest_ok fu (bits .xor .u64 (wu ((wu l7i3) * 2 ^ min ((8 : Int)).toNat (IntKind.bits .u64))) (wu (u11.toNat : Int))) hc14) [] [] [] pre_nil rfl (by simp) (by decide) (.inl rfl) rfl Tryz.func121 rfl rfl rfl (fun _ => ?_)
 refine as_ ?_
 refine al_nil ?_
 refine aq_block ?_
 refine aq_then ?_
 refine aw_region ?_
 refine in_ ?_
 refine mv_ ?_
 refine al_nil ?_
 exact aq_again k8 (r15, (wq (l7i17 + (1 : Int)))) (Nat.lt_succ_self _) h (nm_ [] [1] (by decide) ⟨rfl, rfl, rfl, rfl, trivial⟩)
 replace h := bif_f hb10 h
 refine aw_exit ?_
 refine aq_then_exit ?_
 refine aq_then_exit ?_
 refine aq_block_exit ?_
 exact aq_join l7i3 h (nm_ [] [] (by decide) ⟨rfl, trivial⟩)
 clear hkk2
 refine sm_ ?_
 refine al_val (ov_strLen Tryz.underlying9 rfl rfl) ?_
 refine im_ ?_
 refine aw_cond rfl (fun hb16 => ?_) (fun hb16 => ?_)
 replace h := bif_t hb16 h
 refine aw_region ?_
 refine mv_ ?_
 refine mv_ ?_
 refine al_val (ov_strLen Tryz.underlying9 rfl rfl) ?_
 refine in_ ?_
 obtain ⟨hc17, h⟩ := req_some h
 refine al_val (ov_strFrom hc17.1 hc17.2 Tryz.underlying9 rfl rfl rfl) ?_
 refine as_ ?_
 refine al_nil ?_
 exact aq_join (a0.drop ((wq ((a0.length : Int) - (16 : Int)))).toNat) h (nm_ [] [] (by decide) ⟨rfl, trivial⟩)
 replace h := bif_f hb16 h
 refine aw_skip ?_
 exact aq_join a0 h (nm_ [] [] (by decide) ⟨rfl, trivial⟩)
def f_lumref_ends (fu : Nat) (a0 : S_api_Cut) (a1 : (List UInt8)) : Option Bool := (lt (fun (j2b4 : Bool) => (some j2b4)) fun (kk3 : Bool → Option Bool) => (bif ((a1.length : Int) == a0.Max) then (kk3 true) else (bif (decide ((a1.length : Int) ≥ a0.Min)) then (opt (f_lumref_Of fu a1) fun (r7 : Int) => (req (0 ≤ a0.Bits) (req ((IntKind.u32.wrap ((1 : Int) * 2 ^ min (a0.Bits).toNat (IntKind.bits .u32))) ≠ 0) (kk3 (((r7).tmod (IntKind.u32.wrap ((1 : Int) * 2 ^ min (a0.Bits).toNat (IntKind.bits .u32)))) == (0 : Int)))))) else (kk3 false))))
set_option maxHeartbeats 2000000 in
set_option maxRecDepth 100000 in
theorem f_lumref_ends_ok (fu : Nat) (a0 : S_api_Cut) (a1 : (List UInt8)) {r : Bool} (h : f_lumref_ends fu a0 a1 = some r) : FnOk Tryz.prog 86 [(ag [(int .i64 a0.Min), (int .i64 a0.Max), (int .i64 a0.Bits)]), (str a1)] [] [] (fun (i : Unit) => { val := (bool r) }) := by
 unfold f_lumref_ends at h
 refine fn_enter Tryz.func86 rfl Tryz.ntmps86 rfl (fun w0 Z0 => ?_)
 refine aw_sr ?_
 refine al_box (vs := [(iq a0.Min), (iq a0.Max), (iq a0.Bits)]) rfl (cv_rfl rfl) rfl (fun g1 => ?_)
 refine an_ ?_
 obtain ⟨kk3, hkk3, h⟩ := lt_some h
 refine aw_seq_join (ι := Bool) (fun i => (memOf w0 Z0 [] [] [])) (fun i => (tab [(4, (bool i))])) (fun i => kk3 i = some r) ?_ ?_
 rintro j2b4 h
 have h : kk3 j2b4 = some r := h
 rw [hkk3] at h
 dsimp only at h
 clear hkk3
 refine aw_show (m := (memOf w0 Z0 [] [] [])) (S := _) ?_
 refine aw_ret ?_
 cases h
 exact fr1_
 clear hkk3
 rcases Bool.eq_false_or_eq_true ((a1.length : Int) == a0.Max) with hb4 | hb4
 replace h := bif_t hb4 h
 refine aw_region_draw 21 [(5, (fE (str a1))), (6, (fE (iq (a1.length : Int)))), (7, (fE (ptr g1 1))), (8, (fE (iq a0.Max))), (9, (fE (bool true))), (10, (fE (bool true))), (11, (fE undef)), (12, (fE undef)), (13, (fE undef)), (14, (fE undef)), (15, (fE undef)), (16, (fE undef)), (17, (fE undef)), (18, (fE undef)), (19, (fE undef)), (20, (fE undef)), (21, (fE undef)), (22, (fE undef)), (23, (fE undef)), (24, (fE undef)), (25, (fE (bool true)))] (tab [(1, (str a1)), (2, (pq g1)), (4, (bool false))]) mixed (by kernel_rfl) rfl rfl rfl (fun a hs => hs.tab _ (allT_mem ⟨rfl, rfl, rfl, trivial⟩)) ⟨⟨rfl, ld_val (ov_move rfl rfl)⟩, ⟨rfl, ld_eq (j := 0) rfl rfl (ld_val (ov_strLen Tryz.underlying9 rfl rfl))⟩, ⟨rfl, ld_val (ov_fieldA (p := 1) rfl Tryz.underlying23 rfl sz3 rfl rfl rfl)⟩, ⟨rfl, ld_eq (j := 2) rfl rfl (ld_val (ov_load (i := 0) (v := (iq a0.Max)) rfl rfl Tryz.underlying3 sz3 rfl rfl rfl rfl))⟩, ⟨rfl, ld_eq (j := 1) rfl rfl (ld_eq (j := 3) rfl rfl (ld_val (ov_cast (by first | rw [hb4] | rfl) (ov_int rfl rfl rfl rfl))))⟩, ⟨rfl, ld_eq (j := 4) rfl rfl (ld_val (ov_cast (by first | rw [hb4] | rfl) (ov_move rfl rfl)))⟩, ⟨rfl, ld_eq (j := 5) rfl rfl (ld_skip)⟩, ⟨rfl, ld_eq (j := 5) rfl rfl (ld_skip)⟩, ⟨rfl, ld_eq (j := 5) rfl rfl (ld_skip)⟩, ⟨rfl, ld_eq (j := 5) rfl rfl (ld_skip)⟩, ⟨rfl, ld_eq (j := 5) rfl rfl (ld_skip)⟩, ⟨rfl, ld_eq (j := 5) rfl rfl (ld_skip)⟩, ⟨rfl, ld_eq (j := 11) rfl rfl (ld_skip)⟩, ⟨rfl, ld_eq (j := 11) rfl rfl (ld_skip)⟩, ⟨rfl, ld_eq (j := 11) rfl rfl (ld_skip)⟩, ⟨rfl, ld_eq (j := 11) rfl rfl (ld_skip)⟩, ⟨rfl, ld_eq (j := 11) rfl rfl (ld_skip)⟩, ⟨rfl, ld_eq (j := 11) rfl rfl (ld_skip)⟩, ⟨rfl, ld_eq (j := 11) rfl rfl (ld_skip)⟩, ⟨rfl, ld_eq (j := 5) rfl rfl (ld_skip)⟩, ⟨rfl, ld_eq (j := 5) rfl rfl (ld_eq (j := 19) rfl rfl (ld_val (ov_pick_t rfl rfl rfl)))⟩, trivial⟩ ?_
 refine tl_eq 20 rfl ?_
 refine tl_done ?_
 refine as_ ?_
 refine al_nil ?_
 exact aq_join true h (nm_ [] [] (by decide) ⟨rfl, trivial⟩)
 replace h := bif_f hb4 h
 rcases Bool.eq_false_or_eq_true (decide ((a1.length : Int) ≥ a0.Min)) with hb5 | hb5
 replace h := bif_t hb5 h
 obtain ⟨r7, hc6, h⟩ := opt_some h
 obtain ⟨hc8, h⟩ := req_some h
 obtain ⟨hc9, h⟩ := req_some h
 refine aw_region_draw 21 [(5, (fE (str a1))), (6, (fE (iq (a1.length : Int)))), (7, (fE (ptr g1 1))), (8, (fE (iq a0.Max))), (9, (fE (bool false))), (10, (fE (bool false))), (11, (fE (str a1))), (12, (fE (iq (a1.length : Int)))), (13, (fE (pq g1))), (14, (fE (iq a0.Min))), (15, (fE (bool true))), (16, (fE (bool true))), (17, (fE (str a1))), (18, (fE (int .u32 r7))), (19, (fE (ptr g1 2))), (20, (fE (iq a0.Bits))), (21, (fE (int .u32 (IntKind.u32.wrap ((1 : Int) * 2 ^ min (a0.Bits).toNat (IntKind.bits .u32)))))), (22, (fE (int .u32 ((r7).tmod (IntKind.u32.wrap ((1 : Int) * 2 ^ min (a0.Bits).toNat (IntKind.bits .u32))))))), (23, (fE (bool (((r7).tmod (IntKind.u32.wrap ((1 : Int) * 2 ^ min (a0.Bits).toNat (IntKind.bits .u32)))) == (0 : Int))))), (24, (fE (bool (((r7).tmod (IntKind.u32.wrap ((1 : Int) * 2 ^ min (a0.Bits).toNat (IntKind.bits .u32)))) == (0 : Int))))), (25, (fE (bool (((r7).tmod (IntKind.u32.wrap ((1 : Int) * 2 ^ min (a0.Bits).toNat (IntKind.bits .u32)))) == (0 : Int)))))] (tab [(1, (str a1)), (2, (pq g1)), (4, (bool false))]) mixed (by kernel_rfl) rfl rfl rfl (fun a hs => hs.tab _ (allT_mem ⟨rfl, rfl, rfl, trivial⟩)) ⟨⟨rfl, ld_val (ov_move rfl rfl)⟩, ⟨rfl, ld_eq (j := 0) rfl rfl (ld_val (ov_strLen Tryz.underlying9 rfl rfl))⟩, ⟨rfl, ld_val (ov_fieldA (p := 1) rfl Tryz.underlying23 rfl sz3 rfl rfl rfl)⟩, ⟨rfl, ld_eq (j := 2) rfl rfl (ld_val (ov_load (i := 0) (v := (iq a0.Max)) rfl rfl Tryz.underlying3 sz3 rfl rfl rfl rfl))⟩, ⟨rfl, ld_eq (j := 1) rfl rfl (ld_eq (j := 3) rfl rfl (ld_val (ov_cast (by first | rw [hb4] | rfl) (ov_int rfl rfl rfl rfl))))⟩, ⟨rfl, ld_eq (j := 4) rfl rfl (ld_val (ov_cast (by first | rw [hb4] | rfl) (ov_move rfl rfl)))⟩, ⟨rfl, ld_eq (j := 5) rfl rfl (ld_val (ov_move rfl rfl))⟩, ⟨rfl, ld_eq (j := 5) rfl rfl (ld_eq (j := 6) rfl rfl (ld_val (ov_strLen Tryz.underlying9 rfl rfl)))⟩, ⟨rfl, ld_eq (j := 5) rfl rfl (ld_val (ov_fieldA (p := 0) rfl Tryz.underlying23 rfl sz3 rfl rfl rfl))⟩, ⟨rfl, ld_eq (j := 5) rfl rfl (ld_eq (j := 8) rfl rfl (ld_val (ov_load (i := 0) (v := (iq a0.Min)) rfl rfl Tryz.underlying3 sz3 rfl rfl rfl rfl)))⟩, ⟨rfl, ld_eq (j := 5) rfl rfl (ld_eq (j := 7) rfl rfl (ld_eq (j := 9) rfl rfl (ld_val (ov_cast (by first | rw [hb5] | rfl) (ov_int rfl rfl rfl rfl)))))⟩, ⟨rfl, ld_eq (j := 5) rfl rfl (ld_eq (j := 10) rfl rfl (ld_val (ov_cast (by first | rw [hb5] | rfl) (ov_move rfl rfl))))⟩, ⟨rfl, ld_eq (j := 11) rfl rfl (ld_val (ov_move rfl rfl))⟩, ⟨rfl, ld_eq (j := 11) rfl rfl (ld_eq (j := 12) rfl rfl (ld_callV (vs := [(str a1)]) (f_lumref_Of_ok fu a1 hc6) [] pre_nil rfl Tryz.func106 rfl rfl rfl))⟩, ⟨rfl, ld_eq (j := 11) rfl rfl (ld_val (ov_fieldA (p := 2) rfl Tryz.underlying23 rfl sz3 rfl rfl rfl))⟩, ⟨rfl, ld_eq (j := 11) rfl rfl (ld_eq (j := 14) rfl rfl (ld_val (ov_load (i := 0) (v := (iq a0.Bits)) rfl rfl Tryz.underlying3 sz3 rfl rfl rfl rfl)))⟩, ⟨rfl, ld_eq (j := 11) rfl rfl (ld_eq (j := 15) rfl rfl (ld_val (ov_shl hc8 rfl rfl rfl)))⟩, ⟨rfl, ld_eq (j := 11) rfl rfl (ld_eq (j := 13) rfl rfl (ld_eq (j := 16) rfl rfl (ld_val (ov_rem hc9 rfl rfl rfl))))⟩, ⟨rfl, ld_eq (j := 11) rfl rfl (ld_eq (j := 17) rfl rfl (ld_val (ov_int rfl rfl rfl rfl)))⟩, ⟨rfl, ld_eq (j := 5) rfl rfl (ld_eq (j := 11) rfl rfl (ld_eq (j := 18) rfl rfl (ld_val (ov_pick_t rfl rfl rfl))))⟩, ⟨rfl, ld_eq (j := 5) rfl rfl (ld_eq (j := 19) rfl rfl (ld_val (ov_pick_f rfl rfl rfl)))⟩, trivial⟩ ?_
 refine tl_eq 20 rfl ?_
 refine tl_done ?_
 refine as_ ?_
 refine al_nil ?_
 exact aq_join (((r7).tmod (IntKind.u32.wrap ((1 : Int) * 2 ^ min (a0.Bits).toNat (IntKind.bits .u32)))) == (0 : Int)) h (nm_ [] [] (by decide) ⟨rfl, trivial⟩)
 replace h := bif_f hb5 h
 refine aw_region_draw 21 [(5, (fE (str a1))), (6, (fE (iq (a1.length : Int)))), (7, (fE (ptr g1 1))), (8, (fE (iq a0.Max))), (9, (fE (bool false))), (10, (fE (bool false))), (11, (fE (str a1))), (12, (fE (iq (a1.length : Int)))), (13, (fE (pq g1))), (14, (fE (iq a0.Min))), (15, (fE (bool false))), (16, (fE (bool false))), (17, (fE undef)), (18, (fE undef)), (19, (fE undef)), (20, (fE undef)), (21, (fE undef)), (22, (fE undef)), (23, (fE undef)), (24, (fE (bool false))), (25, (fE (bool false)))] (tab [(1, (str a1)), (2, (pq g1)), (4, (bool false))]) mixed (by kernel_rfl) rfl rfl rfl (fun a hs => hs.tab _ (allT_mem ⟨rfl, rfl, rfl, trivial⟩)) ⟨⟨rfl, ld_val (ov_move rfl rfl)⟩, ⟨rfl, ld_eq (j := 0) rfl rfl (ld_val (ov_strLen Tryz.underlying9 rfl rfl))⟩, ⟨rfl, ld_val (ov_fieldA (p := 1) rfl Tryz.underlying23 rfl sz3 rfl rfl rfl)⟩, ⟨rfl, ld_eq (j := 2) rfl rfl (ld_val (ov_load (i := 0) (v := (iq a0.Max)) rfl rfl Tryz.underlying3 sz3 rfl rfl rfl rfl))⟩, ⟨rfl, ld_eq (j := 1) rfl rfl (ld_eq (j := 3) rfl rfl (ld_val (ov_cast (by first | rw [hb4] | rfl) (ov_int rfl rfl rfl rfl))))⟩, ⟨rfl, ld_eq (j := 4) rfl rfl (ld_val (ov_cast (by first | rw [hb4] | rfl) (ov_move rfl rfl)))⟩, ⟨rfl, ld_eq (j := 5) rfl rfl (ld_val (ov_move rfl rfl))⟩, ⟨rfl, ld_eq (j := 5) rfl rfl (ld_eq (j := 6) rfl rfl (ld_val (ov_strLen Tryz.underlying9 rfl rfl)))⟩, ⟨rfl, ld_eq (j := 5) rfl rfl (ld_val (ov_fieldA (p := 0) rfl Tryz.underlying23 rfl sz3 rfl rfl rfl))⟩, ⟨rfl, ld_eq (j := 5) rfl rfl (ld_eq (j := 8) rfl rfl (ld_val (ov_load (i := 0) (v := (iq a0.Min)) rfl rfl Tryz.underlying3 sz3 rfl rfl rfl rfl)))⟩, ⟨rfl, ld_eq (j := 5) rfl rfl (ld_eq (j := 7) rfl rfl (ld_eq (j := 9) rfl rfl (ld_val (ov_cast (by first | rw [hb5] | rfl) (ov_int rfl rfl rfl rfl)))))⟩, ⟨rfl, ld_eq (j := 5) rfl rfl (ld_eq (j := 10) rfl rfl (ld_val (ov_cast (by first | rw [hb5] | rfl) (ov_move rfl rfl))))⟩, ⟨rfl, ld_eq (j := 11) rfl rfl (ld_skip)⟩, ⟨rfl, ld_eq (j := 11) rfl rfl (ld_skip)⟩, ⟨rfl, ld_eq (j := 11) rfl rfl (ld_skip)⟩, ⟨rfl, ld_eq (j := 11) rfl rfl (ld_skip)⟩, ⟨rfl, ld_eq (j := 11) rfl rfl (ld_skip)⟩, ⟨rfl, ld_eq (j := 11) rfl rfl (ld_skip)⟩, ⟨rfl, ld_eq (j := 11) rfl rfl (ld_skip)⟩, ⟨rfl, ld_eq (j := 5) rfl rfl (ld_eq (j := 11) rfl rfl (ld_eq (j := 18) rfl rfl (ld_val (ov_pick_f rfl rfl rfl))))⟩, ⟨rfl, ld_eq (j := 5) rfl rfl (ld_eq (j := 19) rfl rfl (ld_val (ov_pick_f rfl rfl rfl)))⟩, trivial⟩ ?_
 refine tl_eq 20 rfl ?_
 refine tl_done ?_
 refine as_ ?_
 refine al_nil ?_
 exact aq_join false h (nm_ [] [] (by decide) ⟨rfl, trivial⟩)
def f_lumref_Pieces_L7 (a0 : S_api_Cut) (a1 : (List UInt8)) (kk3 : ((List (List UInt8)) → Int → Option ((List (List UInt8)) × (List UInt8)))) (fu : Nat) : Nat → (List (List UInt8)) → Int → Int → Option ((List (List UInt8)) × (List UInt8))
  | 0, _, _, _ => none
  | k6 + 1, l5x6, l5i7, l5i11 => (bif (decide (l5i11 < (a1.length : Int))) then (lt (fun (j9x6 : (List (List UInt8))) (j9i7 : Int) => (f_lumref_Pieces_L7 a0 a1 kk3 fu k6 j9x6 j9i7 (IntKind.i64.wrap (l5i11 + (1 : Int))))) fun (kk10 : (List (List UInt8)) → Int → Option ((List (List UInt8)) × (List UInt8))) => (req (0 ≤ l5i7 ∧ l5i7 ≤ (IntKind.i64.wrap (l5i11 + (1 : Int))) ∧ (IntKind.i64.wrap (l5i11 + (1 : Int))) ≤ (a1.length : Int)) (opt (f_lumref_ends fu a0 (cut a1 l5i7 (IntKind.i64.wrap (l5i11 + (1 : Int))))) fun (r13 : Bool) => (bif r13 then (req (0 ≤ l5i7 ∧ l5i7 ≤ (IntKind.i64.wrap (l5i11 + (1 : Int))) ∧ (IntKind.i64.wrap (l5i11 + (1 : Int))) ≤ (a1.length : Int)) (req (((l5x6.length + ([(cut a1 l5i7 (IntKind.i64.wrap (l5i11 + (1 : Int))))]).length) * 16 : Nat) ≤ 140737488355328 ∧ l5x6.length + ([(cut a1 l5i7 (IntKind.i64.wrap (l5i11 + (1 : Int))))]).length ≤ 9223372036854775807) (kk10 (l5x6 ++ ([(cut a1 l5i7 (IntKind.i64.wrap (l5i11 + (1 : Int))))])) (IntKind.i64.wrap (l5i11 + (1 : Int)))))) else (kk10 l5x6 l5i7))))) else (kk3 l5x6 l5i7))
def f_lumref_Pieces (fu : Nat) (a0 : S_api_Cut) (a1 : (List UInt8)) : Option ((List (List UInt8)) × (List UInt8)) := (lt (fun (j2x6 : (List (List UInt8))) (j2i7 : Int) => (req (0 ≤ j2i7 ∧ j2i7 ≤ (a1.length : Int)) (some (j2x6, (a1.drop (j2i7).toNat))))) fun (kk3 : (List (List UInt8)) → Int → Option ((List (List UInt8)) × (List UInt8))) => (f_lumref_Pieces_L7 a0 a1 kk3 fu fu ([] : List (List UInt8)) (0 : Int) (0 : Int)))
end Go.Proofs.YtiioclkiapbjnaaGreatDoor
