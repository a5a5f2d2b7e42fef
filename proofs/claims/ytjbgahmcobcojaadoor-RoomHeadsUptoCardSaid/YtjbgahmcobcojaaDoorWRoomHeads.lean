/- Walks by program. No condition. -/
import Derived.Test.YtjbgahmcobcojaaDoorEn21
import Derived.Test.YtjbgahmcobcojaaDoorChecked
import Derived.Test.YtjbgahmcobcojaaDoorEnU
import Derived.Test.YtjbgahmcobcojaaDoorShTrim
import Derived.Test.YtjbgahmcobcojaaDoorShBEApp
import Derived.Test.YtjbgahmcobcojaaDoorEnM
import Derived.Test.YtjbgahmcobcojaaDoorShBEPut
import Derived.Test.YtjbgahmcobcojaaDoorShRepeat
import Derived.Test.YtjbgahmcobcojaaDoorEnB
import Derived.Test.YtjbgahmcobcojaaDoorWRoomHeads_b
namespace Go.Proofs.YtjbgahmcobcojaaDoor
open Go.RowKit YtjbgahmcobcojaaDoor.En
set_option linter.unusedVariables false
set_option linter.unusedSimpArgs false
set_option maxRecDepth 100000 in
theorem f_lumref_HeadRead_ok (fu : Nat) (a0 : (List UInt8)) {r : (S_api_Head × Int)} (h : f_lumref_HeadRead fu a0 = some r) : FnOk Tryd.prog 36 [(str a0)] [uMax] [] (fun (i : Value × Value) => { val := (Value.tuple #[(ag [(Value.int .i64 r.1.Next), i.1, i.2]), (Value.int .i64 r.2)]), fz := [(fDat (tyList (tyInt .i64)) [i.1] r.1.Packs), (fDat (tyList tyS_api_Snap) [i.2] r.1.Snaps)] }) := by
  unfold f_lumref_HeadRead at h
  refine fn_enter Tryd.func36 rfl Tryd.ntmps36 rfl (fun w0 Z0 => ?_)
  refine aw_seq ?_
  refine aw_region ?_
  refine al_alloc (zs := [(Value.int .i64 (0 : Int)), (Value.slice none 0 0), (Value.slice none 0 0)]) (zeroOf_to to62) rfl rfl (fun g1 => ?_)
  refine al_val (ov_assign rfl rfl) ?_
  refine al_nil ?_
  refine aq_then ?_
  refine aw_seq ?_
  refine aw_region ?_
  refine al_val (ov_move rfl rfl) ?_
  obtain ⟨r3, hc2, h⟩ := opt_some h
  refine al_call (vs := [(str a0)]) (f_lumref_Scan_ok fu a0 hc2) [] [] [0] pre_nil rfl (by simp) (by decide) (.inl rfl) rfl Tryd.func15 rfl rfl rfl (fun v4 => ?_)
  refine al_val (ov_move rfl rfl) ?_
  refine al_val (ov_extract rfl rfl rfl) ?_
  refine al_val (ov_extract rfl rfl rfl) ?_
  refine al_val (ov_assign rfl rfl) ?_
  refine al_val (ov_assign rfl rfl) ?_
  refine al_nil ?_
  refine aq_then ?_
  refine aw_seq ?_
  refine aw_seq ?_
  refine aw_region ?_
  refine al_val (ov_move rfl rfl) ?_
  refine al_val (ov_lenR 0 rfl rfl Tryd.underlying22 rfl) ?_
  refine al_val (ov_int rfl rfl rfl rfl) ?_
  refine al_nil ?_
  refine aq_then ?_
  refine aw_cond rfl (fun hb5 => ?_) (fun hb5 => ?_)
  · replace h := bif_t hb5 h
    refine aw_seq ?_
    refine aw_region ?_
    refine al_val (ov_build (cells := ([(Value.int .i64 (0 : Int)), (Value.slice none 0 0), (Value.slice none 0 0)]).toArray) (cs := [(Value.int .i64 (0 : Int)), (Value.slice none 0 0), (Value.slice none 0 0)]) rfl (fun w a hm hs => by simp only [List.map_toArray, List.map_cons, List.map_nil, List.toList_toArray]; kernel_rfl)) ?_
    refine al_store (i := 1) (vs := [(Value.int .i64 (0 : Int)), (Value.slice none 0 0), (Value.slice none 0 0)]) (cs' := [(Value.int .i64 (0 : Int)), (Value.slice none 0 0), (Value.slice none 0 0)]) rfl rfl rfl sz62 (cv_rfl rfl) rfl (co_val rfl (co_val rfl (co_val rfl co_nil))) (Nat.le_of_ble_eq_true rfl) rfl rfl ?_
    refine al_val (ov_assign rfl rfl) ?_
    refine al_nil ?_
    refine aq_then ?_
    refine aw_ret ?_
    refine aq_then_ret ?_
    refine aq_nilD (tyInt .i64) ?_
    refine aq_nilD tyS_api_Snap ?_
    obtain rfl := Option.some.inj h
    exact fn_ret ((Value.slice none 0 0), (Value.slice none 0 0)) [] [1, 0] rfl rfl rfl rfl (resC rfl (resB (i := 1) rfl rfl Tryd.underlying62 sz62 rfl rfl rfl (resT rfl (resN))) rfl) rfl rfl rfl (by decide)
  · replace h := bif_f hb5 h
    refine aw_skip ?_
    refine aq_then ?_
    refine aw_seq ?_
    refine aw_region ?_
    refine al_alloc (zs := [(Value.int .i64 (0 : Int)), (Value.slice none 0 0), (Value.slice none 0 0)]) (zeroOf_to to62) rfl rfl (fun g6 => ?_)
    refine al_nil ?_
    refine aq_then ?_
    refine aw_seq ?_
    refine aw_region ?_
    refine al_val (ov_move rfl rfl) ?_
    obtain ⟨u7, hu8, h⟩ := opt_some h
    refine al_idxR 1 (at_some hu8).1 (at_some hu8).2.1 rfl rfl rfl Tryd.underlying22 sz9 rfl (fun p9 hp10 => ?_)
    refine al_val (ov_loadR (ds := [(str u7)]) 1 rfl hp10 (at_some hu8).2.2 (fun h => h) rfl Tryd.underlying9 sz9 rfl rfl rfl) ?_
    refine al_alloc (zs := [(str ([] : List UInt8))]) (zeroOf_to to9) rfl rfl (fun g11 => ?_)
    refine al_alloc (zs := [(Value.bool false)]) (zeroOf_to to4) rfl rfl (fun g12 => ?_)
    refine al_store (i := 1) (vs := [(str u7)]) (cs' := [(str u7)]) rfl rfl rfl sz9 (cv_rfl rfl) rfl (co_val rfl co_nil) (Nat.le_of_ble_eq_true rfl) rfl rfl ?_
    refine al_store (i := 0) (vs := [(Value.bool true)]) (cs' := [(Value.bool true)]) rfl rfl rfl sz4 (cv_rfl rfl) rfl (co_val rfl co_nil) (Nat.le_of_ble_eq_true rfl) rfl rfl ?_
    refine al_nil ?_
    refine aq_then ?_
    refine aw_seq ?_
    refine aw_region ?_
    refine al_val (ov_makeFunc2 (vs := [(ptr g11 0), (ptr g12 0)]) rfl rfl) ?_
    refine al_val (ov_assign rfl rfl) ?_
    refine al_nil ?_
    refine aq_then ?_
    refine aw_seq ?_
    refine aw_region ?_
    refine al_val (ov_move rfl rfl) ?_
    obtain ⟨r14, hc13, h⟩ := opt_some h
    refine al_callF (vs := []) (caps := [(ptr g11 0), (ptr g12 0)]) (f_lumref_HeadRead_1_ok fu g11 u7 g12 true hc13) rfl [] [1, 0] [2, 3, 4] pre_nil rfl (by simp) (by decide) (.inl rfl) rfl rfl Tryd.func80 rfl rfl rfl (fun _ => ?_)
    refine al_val (ov_fieldA (p := 0) rfl Tryd.underlying62 rfl sz3 rfl rfl rfl) ?_
    refine al_store (i := 2) (vs := [(Value.int .i64 r14.1)]) (cs' := [(Value.int .i64 r14.1), (Value.slice none 0 0), (Value.slice none 0 0)]) rfl rfl rfl sz3 (cv_rfl rfl) rfl (co_val rfl co_nil) (Nat.le_of_ble_eq_true rfl) rfl rfl ?_
    refine al_nil ?_
    refine aq_then ?_
    obtain ⟨kk16, hkk16, h⟩ := lt_some h
    refine aw_seq_join (ι := Value × (List Int) × (List UInt8) × Bool) (fun i => (memOf w0 Z0 [] [(oBox g1 62 [(Value.int .i64 (0 : Int)), (Value.slice none 0 0), (Value.slice none 0 0)]), (oRow i.1 3 (tyInt .i64) i.2.1), (oBox g6 62 [(Value.int .i64 r14.1), i.1, (Value.slice none 0 0)]), (oBox g11 9 [(str i.2.2.1)]), (oBox g12 4 [(Value.bool i.2.2.2)])] [uMax])) (fun i => (tab [(0, (str a0)), (2, (ptr g1 0)), (6, (ptr g6 0)), (7, (ptr g11 0)), (8, (ptr g12 0)), (9, (Value.func (.func 80) #[] #[(ptr g11 0), (ptr g12 0)]))])) (fun i => kk16 i.2.1 i.2.2.1 i.2.2.2 = some r) ?_ ?_
    · rintro ⟨j15v6_1, j15x6_1, j15s7_0, j15b8_0⟩ h
      have h : kk16 j15x6_1 j15s7_0 j15b8_0 = some r := h
      rw [hkk16] at h
      dsimp only at h
      clear hkk16
      refine aw_show (m := (memOf w0 Z0 [] [(oBox g1 62 [(Value.int .i64 (0 : Int)), (Value.slice none 0 0), (Value.slice none 0 0)]), (oRow j15v6_1 3 (tyInt .i64) j15x6_1), (oBox g6 62 [(Value.int .i64 r14.1), j15v6_1, (Value.slice none 0 0)]), (oBox g11 9 [(str j15s7_0)]), (oBox g12 4 [(Value.bool j15b8_0)])] [uMax])) (S := (tab [(0, (str a0)), (2, (ptr g1 0)), (6, (ptr g6 0)), (7, (ptr g11 0)), (8, (ptr g12 0)), (9, (Value.func (.func 80) #[] #[(ptr g11 0), (ptr g12 0)]))])) ?_
      obtain ⟨kk18, hkk18, h⟩ := lt_some h
      refine aw_seq_join (ι := Value × (List S_api_Snap) × Bool) (fun i => (memOf w0 Z0 [] [(oBox g1 62 [(Value.int .i64 (0 : Int)), (Value.slice none 0 0), (Value.slice none 0 0)]), (oRow j15v6_1 3 (tyInt .i64) j15x6_1), (oRow i.1 104 tyS_api_Snap i.2.1), (oBox g6 62 [(Value.int .i64 r14.1), j15v6_1, i.1]), (oBox g12 4 [(Value.bool i.2.2)])] [uMax])) (fun i => (tab [(0, (str a0)), (2, (ptr g1 0)), (6, (ptr g6 0)), (8, (ptr g12 0))])) (fun i => kk18 i.2.1 i.2.2 = some r) ?_ ?_
      · rintro ⟨j17v6_2, j17x6_2, j17b8_0⟩ h
        have h : kk18 j17x6_2 j17b8_0 = some r := h
        rw [hkk18] at h
        dsimp only at h
        clear hkk18
        refine aw_show (m := (memOf w0 Z0 [] [(oBox g1 62 [(Value.int .i64 (0 : Int)), (Value.slice none 0 0), (Value.slice none 0 0)]), (oRow j15v6_1 3 (tyInt .i64) j15x6_1), (oRow j17v6_2 104 tyS_api_Snap j17x6_2), (oBox g6 62 [(Value.int .i64 r14.1), j15v6_1, j17v6_2]), (oBox g12 4 [(Value.bool j17b8_0)])] [uMax])) (S := (tab [(0, (str a0)), (2, (ptr g1 0)), (6, (ptr g6 0)), (8, (ptr g12 0))])) ?_
        refine aw_seq ?_
        obtain ⟨kk20, hkk20, h⟩ := lt_some h
        refine aw_seq_join (ι := Bool) (fun i => (memOf w0 Z0 [] [(oBox g1 62 [(Value.int .i64 (0 : Int)), (Value.slice none 0 0), (Value.slice none 0 0)]), (oRow j15v6_1 3 (tyInt .i64) j15x6_1), (oRow j17v6_2 104 tyS_api_Snap j17x6_2), (oBox g6 62 [(Value.int .i64 r14.1), j15v6_1, j17v6_2])] [uMax])) (fun i => (tab [(2, (ptr g1 0)), (6, (ptr g6 0)), (99, (Value.bool i))])) (fun i => kk20 i = some r) ?_ ?_
        · rintro j19b99 h
          have h : kk20 j19b99 = some r := h
          rw [hkk20] at h
          dsimp only at h
          clear hkk20
          refine aw_show (m := (memOf w0 Z0 [] [(oBox g1 62 [(Value.int .i64 (0 : Int)), (Value.slice none 0 0), (Value.slice none 0 0)]), (oRow j15v6_1 3 (tyInt .i64) j15x6_1), (oRow j17v6_2 104 tyS_api_Snap j17x6_2), (oBox g6 62 [(Value.int .i64 r14.1), j15v6_1, j17v6_2])] [uMax])) (S := (tab [(2, (ptr g1 0)), (6, (ptr g6 0)), (99, (Value.bool j19b99))])) ?_
          refine aw_cond rfl (fun hb21 => ?_) (fun hb21 => ?_)
          · replace h := bif_t hb21 h
            refine aw_seq ?_
            refine aw_region ?_
            refine al_val (ov_build (cells := ([(Value.int .i64 (0 : Int)), (Value.slice none 0 0), (Value.slice none 0 0)]).toArray) (cs := [(Value.int .i64 (0 : Int)), (Value.slice none 0 0), (Value.slice none 0 0)]) rfl (fun w a hm hs => by simp only [List.map_toArray, List.map_cons, List.map_nil, List.toList_toArray]; kernel_rfl)) ?_
            refine al_store (i := 0) (vs := [(Value.int .i64 (0 : Int)), (Value.slice none 0 0), (Value.slice none 0 0)]) (cs' := [(Value.int .i64 (0 : Int)), (Value.slice none 0 0), (Value.slice none 0 0)]) rfl rfl rfl sz62 (cv_rfl rfl) rfl (co_val rfl (co_val rfl (co_val rfl co_nil))) (Nat.le_of_ble_eq_true rfl) rfl rfl ?_
            refine al_val (ov_assign rfl rfl) ?_
            refine al_nil ?_
            refine aq_then ?_
            refine aw_ret ?_
            refine aq_then_ret ?_
            refine aq_nilD (tyInt .i64) ?_
            refine aq_nilD tyS_api_Snap ?_
            obtain rfl := Option.some.inj h
            exact fn_ret ((Value.slice none 0 0), (Value.slice none 0 0)) [] [1, 0] rfl rfl rfl rfl (resC rfl (resB (i := 0) rfl rfl Tryd.underlying62 sz62 rfl rfl rfl (resT rfl (resN))) rfl) rfl rfl rfl (by decide)
          · replace h := bif_f hb21 h
            refine aw_skip ?_
            refine aq_then ?_
            refine aw_seq ?_
            refine aw_region ?_
            refine al_val (ov_load (i := 3) (v := (ag [(Value.int .i64 r14.1), j15v6_1, j17v6_2])) rfl rfl Tryd.underlying62 sz62 rfl rfl rfl rfl) ?_
            refine al_store (i := 0) (vs := [(Value.int .i64 r14.1), j15v6_1, j17v6_2]) (cs' := [(Value.int .i64 r14.1), j15v6_1, j17v6_2]) rfl rfl rfl sz62 (cv_rfl rfl) rfl (co_val rfl (co_own 1 rfl (co_own 2 rfl co_nil))) (Nat.le_of_ble_eq_true rfl) rfl rfl ?_
            refine al_val (ov_assign rfl rfl) ?_
            refine al_nil ?_
            refine aq_then ?_
            refine aw_ret ?_
            refine aq_freeze 1 rfl rfl ?_
            refine aq_freeze 1 rfl rfl ?_
            obtain rfl := Option.some.inj h
            exact fn_ret (j15v6_1, j17v6_2) [] [1, 0] rfl rfl rfl rfl (resC rfl (resB (i := 0) rfl rfl Tryd.underlying62 sz62 rfl rfl rfl (resT rfl (resN))) rfl) rfl rfl rfl (by decide)
        · clear hkk20
          refine aw_region ?_
          refine al_val (ov_load (i := 4) (v := (Value.bool j17b8_0)) rfl rfl Tryd.underlying4 sz4 rfl rfl rfl rfl) ?_
          refine al_val (ov_not rfl rfl) ?_
          refine al_val (ov_move rfl rfl) ?_
          refine al_caseB 89 rfl (fun hb22 => ?_) (fun hb22 => ?_)
          · replace h := bif_t hb22 h
            refine al_skip ?_
            refine al_skip ?_
            refine al_skip ?_
            refine al_val (ov_pick_t rfl rfl rfl) ?_
            refine al_val (ov_move rfl rfl) ?_
            refine al_skip ?_
            refine al_skip ?_
            refine al_skip ?_
            refine al_skip ?_
            refine al_val (ov_pick_t rfl rfl rfl) ?_
            refine al_nil ?_
            exact aq_join true h (fun w a hm hs => norm hm hs [0, 1, 2, 3] [0] [(2, (ptr g1 0)), (6, (ptr g6 0)), (99, (Value.bool true))] (by decide) ⟨rfl, rfl, rfl, trivial⟩)
          · replace h := bif_f hb22 h
            refine al_val (ov_load (i := 3) (v := (ag [(Value.int .i64 r14.1), j15v6_1, j17v6_2])) rfl rfl Tryd.underlying62 sz62 rfl rfl rfl rfl) ?_
            obtain ⟨r24, hc23, h⟩ := opt_some h
            refine al_call (vs := [(ag [(Value.int .i64 r14.1), j15v6_1, j17v6_2])]) (f_lumref_HeadErr_ok fu j15v6_1 j17v6_2 (S_api_Head.mk r14.1 j15x6_1 j17x6_2) hc23) [1, 2] [] [0, 1, 2, 3, 4] (pre_own 1 rfl rfl (pre_own 2 rfl rfl pre_nil)) rfl (by simp) (by decide) (.inr flat_res0) rfl Tryd.func32 rfl rfl rfl (fun _ => ?_)
            refine al_val (ov_int rfl rfl rfl rfl) ?_
            refine al_val (ov_pick_f rfl rfl rfl) ?_
            refine al_val (ov_move rfl rfl) ?_
            refine al_caseB 94 rfl (fun hb25 => ?_) (fun hb25 => ?_)
            · replace h := bif_t hb25 h
              refine al_skip ?_
              refine al_skip ?_
              refine al_skip ?_
              refine al_skip ?_
              refine al_val (ov_pick_t rfl rfl rfl) ?_
              refine al_nil ?_
              exact aq_join true h (fun w a hm hs => norm hm hs [0, 1, 2, 3] [0] [(2, (ptr g1 0)), (6, (ptr g6 0)), (99, (Value.bool true))] (by decide) ⟨rfl, rfl, rfl, trivial⟩)
            · replace h := bif_f hb25 h
              refine al_val (ov_load (i := 3) (v := (ag [(Value.int .i64 r14.1), j15v6_1, j17v6_2])) rfl rfl Tryd.underlying62 sz62 rfl rfl rfl rfl) ?_
              obtain ⟨r27, hc26, h⟩ := opt_some h
              refine al_call (vs := [(ag [(Value.int .i64 r14.1), j15v6_1, j17v6_2])]) (f_lumref_HeadText_ok fu j15v6_1 j17v6_2 (S_api_Head.mk r14.1 j15x6_1 j17x6_2) hc26) [1, 2] [] [0, 1, 2, 3, 4] (pre_own 1 rfl rfl (pre_own 2 rfl rfl (pre_fz 0 rfl pre_nil))) rfl (by simp) (by decide) (.inr flat_res0) rfl Tryd.func34 rfl rfl rfl (fun _ => ?_)
              refine al_val (ov_move rfl rfl) ?_
              refine al_val (ov_strCmp rfl rfl rfl rfl) ?_
              refine al_val (ov_pick_f rfl rfl rfl) ?_
              refine al_nil ?_
              exact aq_join (!(r27 == a0)) h (fun w a hm hs => norm hm hs [0, 1, 2, 3] [0] [(2, (ptr g1 0)), (6, (ptr g6 0)), (99, (Value.bool (!(r27 == a0))))] (by decide) ⟨rfl, rfl, rfl, trivial⟩)
      · clear hkk18
        refine aw_seq ?_
        refine aw_region ?_
        refine al_val (ov_move rfl rfl) ?_
        obtain ⟨r29, hc28, h⟩ := opt_some h
        refine al_callF (vs := []) (caps := [(ptr g11 0), (ptr g12 0)]) (f_lumref_HeadRead_1_ok fu g11 j15s7_0 g12 j15b8_0 hc28) rfl [] [3, 4] [0, 1, 2] pre_nil rfl (by simp) (by decide) (.inl rfl) rfl rfl Tryd.func80 rfl rfl rfl (fun _ => ?_)
        refine al_val (ov_assign rfl rfl) ?_
        refine al_nil ?_
        refine aq_then ?_
        refine aw_block ?_
        refine aw_nilR 104 tyS_api_Snap ?_
        refine aw_state (aw_loop (ι := Value × (List S_api_Snap) × (List UInt8) × Bool × Int) (fun i => (memOf w0 Z0 [] [(oBox g1 62 [(Value.int .i64 (0 : Int)), (Value.slice none 0 0), (Value.slice none 0 0)]), (oRow j15v6_1 3 (tyInt .i64) j15x6_1), (oRow i.1 104 tyS_api_Snap i.2.1), (oBox g6 62 [(Value.int .i64 r14.1), j15v6_1, i.1]), (oBox g11 9 [(str i.2.2.1)]), (oBox g12 4 [(Value.bool i.2.2.2.1)])] [uMax])) (fun i => (tab [(0, (str a0)), (2, (ptr g1 0)), (6, (ptr g6 0)), (7, (ptr g11 0)), (8, (ptr g12 0)), (9, (Value.func (.func 80) #[] #[(ptr g11 0), (ptr g12 0)])), (11, (Value.int .i64 i.2.2.2.2))])) (fun q i => f_lumref_HeadRead_L32 kk18 fu q i.2.1 i.2.2.1 i.2.2.2.1 i.2.2.2.2 = some r) ?_ fu ((Value.slice none 0 0), ([] : List S_api_Snap), r29.2.1, r29.2.2, r29.1) h) (fun w a hm hs => norm hm hs [3, 4, 0, 5, 1, 2] [0] [(0, (str a0)), (2, (ptr g1 0)), (6, (ptr g6 0)), (7, (ptr g11 0)), (8, (ptr g12 0)), (9, (Value.func (.func 80) #[] #[(ptr g11 0), (ptr g12 0)])), (11, (Value.int .i64 r29.1))] (by decide) ⟨rfl, rfl, rfl, rfl, rfl, rfl, rfl, trivial⟩)
        clear h
        rintro k31 ⟨l30v6_2, l30x6_2, l30s7_0, l30b8_0, l30i11⟩ h
        have h : f_lumref_HeadRead_L32 kk18 fu k31 l30x6_2 l30s7_0 l30b8_0 l30i11 = some r := h
        obtain _ | k31 := k31
        · rw [f_lumref_HeadRead_L32] at h; cases h
        rw [f_lumref_HeadRead_L32] at h
        refine aw_show (m := (memOf w0 Z0 [] [(oBox g1 62 [(Value.int .i64 (0 : Int)), (Value.slice none 0 0), (Value.slice none 0 0)]), (oRow j15v6_1 3 (tyInt .i64) j15x6_1), (oRow l30v6_2 104 tyS_api_Snap l30x6_2), (oBox g6 62 [(Value.int .i64 r14.1), j15v6_1, l30v6_2]), (oBox g11 9 [(str l30s7_0)]), (oBox g12 4 [(Value.bool l30b8_0)])] [uMax])) (S := (tab [(0, (str a0)), (2, (ptr g1 0)), (6, (ptr g6 0)), (7, (ptr g11 0)), (8, (ptr g12 0)), (9, (Value.func (.func 80) #[] #[(ptr g11 0), (ptr g12 0)])), (11, (Value.int .i64 l30i11))])) ?_
        refine aw_seq ?_
        obtain ⟨kk34, hkk34, h⟩ := lt_some h
        refine aw_seq_join (ι := Bool) (fun i => (memOf w0 Z0 [] [(oBox g1 62 [(Value.int .i64 (0 : Int)), (Value.slice none 0 0), (Value.slice none 0 0)]), (oRow j15v6_1 3 (tyInt .i64) j15x6_1), (oRow l30v6_2 104 tyS_api_Snap l30x6_2), (oBox g6 62 [(Value.int .i64 r14.1), j15v6_1, l30v6_2]), (oBox g11 9 [(str l30s7_0)]), (oBox g12 4 [(Value.bool l30b8_0)])] [uMax])) (fun i => (tab [(0, (str a0)), (2, (ptr g1 0)), (6, (ptr g6 0)), (7, (ptr g11 0)), (8, (ptr g12 0)), (9, (Value.func (.func 80) #[] #[(ptr g11 0), (ptr g12 0)])), (11, (Value.int .i64 l30i11)), (54, (Value.bool i))])) (fun i => kk34 i = some r) ?_ ?_
        · rintro j33b54 h
          have h : kk34 j33b54 = some r := h
          rw [hkk34] at h
          dsimp only at h
          clear hkk34
          refine aw_show (m := (memOf w0 Z0 [] [(oBox g1 62 [(Value.int .i64 (0 : Int)), (Value.slice none 0 0), (Value.slice none 0 0)]), (oRow j15v6_1 3 (tyInt .i64) j15x6_1), (oRow l30v6_2 104 tyS_api_Snap l30x6_2), (oBox g6 62 [(Value.int .i64 r14.1), j15v6_1, l30v6_2]), (oBox g11 9 [(str l30s7_0)]), (oBox g12 4 [(Value.bool l30b8_0)])] [uMax])) (S := (tab [(0, (str a0)), (2, (ptr g1 0)), (6, (ptr g6 0)), (7, (ptr g11 0)), (8, (ptr g12 0)), (9, (Value.func (.func 80) #[] #[(ptr g11 0), (ptr g12 0)])), (11, (Value.int .i64 l30i11)), (54, (Value.bool j33b54))])) ?_
          refine aw_cond rfl (fun hb35 => ?_) (fun hb35 => ?_)
          · replace h := bif_t hb35 h
            refine aw_skip ?_
            refine aq_then ?_
            refine aw_seq ?_
            refine aw_block ?_
            refine aw_seq ?_
            refine aw_region ?_
            refine al_val (ov_load (i := 4) (v := (str l30s7_0)) rfl rfl Tryd.underlying9 sz9 rfl rfl rfl rfl) ?_
            obtain ⟨r37, hc36, h⟩ := opt_some h
            refine al_call (vs := [(str l30s7_0)]) (f_lumref_GetText_ok fu l30s7_0 hc36) [] [] [0, 1, 2, 3, 4, 5] pre_nil rfl (by simp) (by decide) (.inl rfl) rfl Tryd.func75 rfl rfl rfl (fun _ => ?_)
            refine al_val (ov_move rfl rfl) ?_
            refine al_val (ov_extract rfl rfl rfl) ?_
            refine al_val (ov_extract rfl rfl rfl) ?_
            refine al_val (ov_extract rfl rfl rfl) ?_
            refine al_val (ov_assign rfl rfl) ?_
            refine al_val (ov_assign rfl rfl) ?_
            refine al_val (ov_assign rfl rfl) ?_
            refine al_nil ?_
            refine aq_then ?_
            refine aw_seq ?_
            refine aw_seq ?_
            refine aw_region ?_
            refine al_val (ov_move rfl rfl) ?_
            refine al_val (ov_int rfl rfl rfl rfl) ?_
            refine al_nil ?_
            refine aq_then ?_
            refine aw_cond rfl (fun hb38 => ?_) (fun hb38 => ?_)
            · replace h := bif_t hb38 h
              refine aw_seq ?_
              refine aw_region ?_
              refine al_store (i := 5) (vs := [(Value.bool false)]) (cs' := [(Value.bool false)]) rfl rfl rfl sz4 (cv_rfl rfl) rfl (co_val rfl co_nil) (Nat.le_of_ble_eq_true rfl) rfl rfl ?_
              refine al_nil ?_
              refine aq_then ?_
              refine aw_exit ?_
              refine aq_then_exit ?_
              refine aq_block_other rfl ?_
              refine aq_then_exit ?_
              refine aq_then_exit ?_
              refine aq_block_exit ?_
              exact aq_join (l30v6_2, l30x6_2, false) h (fun w a hm hs => norm hm hs [0, 1, 2, 3, 5] [0] [(0, (str a0)), (2, (ptr g1 0)), (6, (ptr g6 0)), (8, (ptr g12 0))] (by decide) ⟨rfl, rfl, rfl, rfl, trivial⟩)
            · replace h := bif_f hb38 h
              refine aw_skip ?_
              refine aq_then ?_
              refine aw_seq ?_
              refine aw_region ?_
              refine al_val (ov_load (i := 4) (v := (str l30s7_0)) rfl rfl Tryd.underlying9 sz9 rfl rfl rfl rfl) ?_
              refine al_val (ov_move rfl rfl) ?_
              obtain ⟨hc39, h⟩ := req_some h
              refine al_val (ov_strFrom hc39.1 hc39.2 Tryd.underlying9 rfl rfl rfl) ?_
              refine al_store (i := 4) (vs := [(str (l30s7_0.drop (r37.2.1).toNat))]) (cs' := [(str (l30s7_0.drop (r37.2.1).toNat))]) rfl rfl rfl sz9 (cv_rfl rfl) rfl (co_val rfl co_nil) (Nat.le_of_ble_eq_true rfl) rfl rfl ?_
              refine al_nil ?_
              refine aq_then ?_
              refine aw_seq ?_
              refine aw_region ?_
              refine al_val (ov_move rfl rfl) ?_
              refine al_val (ov_move rfl rfl) ?_
              obtain ⟨r41, hc40, h⟩ := opt_some h
              refine al_callF (vs := []) (caps := [(ptr g11 0), (ptr g12 0)]) (f_lumref_HeadRead_1_ok fu g11 (l30s7_0.drop (r37.2.1).toNat) g12 l30b8_0 hc40) rfl [] [4, 5] [0, 1, 2, 3] pre_nil rfl (by simp) (by decide) (.inl rfl) rfl rfl Tryd.func80 rfl rfl rfl (fun _ => ?_)
              refine al_val (ov_build (cells := (([(str r37.1), (Value.int .i64 r41.1)] ++ (cA8u8 (A8u8.mk (0 : UInt8) (0 : UInt8) (0 : UInt8) (0 : UInt8) (0 : UInt8) (0 : UInt8) (0 : UInt8) (0 : UInt8))))).toArray) (cs := ([(str r37.1), (Value.int .i64 r41.1)] ++ (cA8u8 (A8u8.mk (0 : UInt8) (0 : UInt8) (0 : UInt8) (0 : UInt8) (0 : UInt8) (0 : UInt8) (0 : UInt8) (0 : UInt8))))) rfl (fun w a hm hs => by simp only [List.map_toArray, List.map_cons, List.map_nil, List.toList_toArray, hs.ev (x := .tmp 68) rfl, hs.ev (x := .tmp 70) rfl]; kernel_rfl)) ?_
              refine al_alloc (zs := ([(str ([] : List UInt8)), (Value.int .i64 (0 : Int))] ++ (cA8u8 (A8u8.mk (0 : UInt8) (0 : UInt8) (0 : UInt8) (0 : UInt8) (0 : UInt8) (0 : UInt8) (0 : UInt8) (0 : UInt8))))) (zeroOf_to to104) rfl rfl (fun g42 => ?_)
              refine al_store (i := 0) (vs := ([(str r37.1), (Value.int .i64 r41.1)] ++ (cA8u8 (A8u8.mk (0 : UInt8) (0 : UInt8) (0 : UInt8) (0 : UInt8) (0 : UInt8) (0 : UInt8) (0 : UInt8) (0 : UInt8))))) (cs' := ([(str r37.1), (Value.int .i64 r41.1)] ++ (cA8u8 (A8u8.mk (0 : UInt8) (0 : UInt8) (0 : UInt8) (0 : UInt8) (0 : UInt8) (0 : UInt8) (0 : UInt8) (0 : UInt8))))) rfl rfl rfl sz104 (cv_rfl rfl) rfl (co_val rfl (co_val rfl (co_all (oneA8u8 (A8u8.mk (0 : UInt8) (0 : UInt8) (0 : UInt8) (0 : UInt8) (0 : UInt8) (0 : UInt8) (0 : UInt8) (0 : UInt8)))))) (Nat.le_of_ble_eq_true rfl) rfl rfl ?_
              refine al_nil ?_
              refine aq_then ?_
              refine aw_seq ?_
              refine aw_seq ?_
              refine aw_region ?_
              refine al_val (ov_load (i := 1) (v := (str r41.2.1)) rfl rfl Tryd.underlying9 sz9 rfl rfl rfl rfl) ?_
              refine al_val (ov_strLen Tryd.underlying9 rfl rfl) ?_
              refine al_val (ov_int rfl rfl rfl rfl) ?_
              refine al_nil ?_
              refine aq_then ?_
              refine aw_cond rfl (fun hb43 => ?_) (fun hb43 => ?_)
              · replace h := bif_t hb43 h
                refine aw_seq ?_
                refine aw_region ?_
                refine al_store (i := 2) (vs := [(Value.bool false)]) (cs' := [(Value.bool false)]) rfl rfl rfl sz4 (cv_rfl rfl) rfl (co_val rfl co_nil) (Nat.le_of_ble_eq_true rfl) rfl rfl ?_
                refine al_nil ?_
                refine aq_then ?_
                refine aw_exit ?_
                refine aq_then_exit ?_
                refine aq_block_other rfl ?_
                refine aq_then_exit ?_
                refine aq_then_exit ?_
                refine aq_block_exit ?_
                exact aq_join (l30v6_2, l30x6_2, false) h (fun w a hm hs => norm hm hs [3, 4, 5, 6, 2] [0] [(0, (str a0)), (2, (ptr g1 0)), (6, (ptr g6 0)), (8, (ptr g12 0))] (by decide) ⟨rfl, rfl, rfl, rfl, trivial⟩)
              · replace h := bif_f hb43 h
                refine aw_skip ?_
                refine aq_then ?_
                refine aw_seq ?_
                refine aw_region_draw 3 [(75, (fun u => fEq u (ptr g42 2))), (76, (fun u => fEq u (sbx g42 2 8))), (77, (fun u => fEq u (str r41.2.1)))] (tab [(0, (str a0)), (2, (ptr g1 0)), (6, (ptr g6 0)), (7, (ptr g11 0)), (8, (ptr g12 0)), (9, (Value.func (.func 80) #[] #[(ptr g11 0), (ptr g12 0)])), (11, (Value.int .i64 l30i11)), (15, (ptr g42 0))]) mixed (by kernel_rfl) rfl rfl rfl (fun a hs => hs.tab _ (allT_mem ⟨rfl, rfl, rfl, rfl, rfl, rfl, rfl, rfl, trivial⟩)) ⟨⟨rfl, ld_val (ov_fieldA (p := 2) rfl Tryd.underlying104 rfl sz49 rfl rfl rfl)⟩, ⟨rfl, ld_eq (j := 0) rfl rfl (ld_val (ov_sliceBox (i := 0) rfl rfl Tryd.underlying49 sz5 rfl))⟩, ⟨rfl, ld_val (ov_load (i := 1) (v := (str r41.2.1)) rfl rfl Tryd.underlying9 sz9 rfl rfl rfl rfl)⟩, trivial⟩ ?_
                refine tl_eq 1 rfl ?_
                refine tl_eq 2 rfl ?_
                refine tl_done ?_
                refine al_copyS (i := 0) (cs := ([(str r37.1), (Value.int .i64 r41.1)] ++ (cA8u8 (A8u8.mk (0 : UInt8) (0 : UInt8) (0 : UInt8) (0 : UInt8) (0 : UInt8) (0 : UInt8) (0 : UInt8) (0 : UInt8))))) (cs' := ([(str r37.1), (Value.int .i64 r41.1)] ++ (cA8u8 (cpA8u8 (A8u8.mk (0 : UInt8) (0 : UInt8) (0 : UInt8) (0 : UInt8) (0 : UInt8) (0 : UInt8) (0 : UInt8) (0 : UInt8)) r41.2.1)))) rfl rfl rfl Tryd.underlying89 sz5 rfl (cpcA8u8 (A8u8.mk (0 : UInt8) (0 : UInt8) (0 : UInt8) (0 : UInt8) (0 : UInt8) (0 : UInt8) (0 : UInt8) (0 : UInt8)) r41.2.1 [(str r37.1), (Value.int .i64 r41.1)] []) rfl ?_
                refine al_nil ?_
                refine aq_then ?_
                refine aw_seq ?_
                refine aw_region ?_
                refine al_val (ov_load (i := 1) (v := (str r41.2.1)) rfl rfl Tryd.underlying9 sz9 rfl rfl rfl rfl) ?_
                obtain ⟨hc44, h⟩ := req_some h
                refine al_val (ov_strFrom hc44.1 hc44.2 Tryd.underlying9 rfl rfl rfl) ?_
                refine al_store (i := 1) (vs := [(str (r41.2.1.drop ((8 : Int)).toNat))]) (cs' := [(str (r41.2.1.drop ((8 : Int)).toNat))]) rfl rfl rfl sz9 (cv_rfl rfl) rfl (co_val rfl co_nil) (Nat.le_of_ble_eq_true rfl) rfl rfl ?_
                refine al_nil ?_
                refine aq_then ?_
                refine aw_region ?_
                refine al_val (ov_fieldA (p := 2) rfl Tryd.underlying62 rfl sz60 rfl rfl rfl) ?_
                refine al_val (ov_load (i := 6) (v := l30v6_2) rfl rfl Tryd.underlying60 sz60 rfl rfl rfl rfl) ?_
                refine al_val (ov_load (i := 0) (v := (ag ([(str r37.1), (Value.int .i64 r41.1)] ++ (cA8u8 (cpA8u8 (A8u8.mk (0 : UInt8) (0 : UInt8) (0 : UInt8) (0 : UInt8) (0 : UInt8) (0 : UInt8) (0 : UInt8) (0 : UInt8)) r41.2.1))))) rfl rfl Tryd.underlying104 sz104 rfl rfl rfl rfl) ?_
                refine al_buildSlice (τ := tyS_api_Snap) (e := 104) (k := 1) (sz := 0) (by_ := 0) (z := undef) (cs := ([(str r37.1), (Value.int .i64 r41.1)] ++ (cA8u8 (cpA8u8 (A8u8.mk (0 : UInt8) (0 : UInt8) (0 : UInt8) (0 : UInt8) (0 : UInt8) (0 : UInt8) (0 : UInt8) (0 : UInt8)) r41.2.1)))) (xs := [(S_api_Snap.mk r37.1 r41.1 (cpA8u8 (A8u8.mk (0 : UInt8) (0 : UInt8) (0 : UInt8) (0 : UInt8) (0 : UInt8) (0 : UInt8) (0 : UInt8) (0 : UInt8)) r41.2.1))]) rfl (by decide) (fun w a hm hs => ⟨(([(str r37.1), (Value.int .i64 r41.1)] ++ (cA8u8 (cpA8u8 (A8u8.mk (0 : UInt8) (0 : UInt8) (0 : UInt8) (0 : UInt8) (0 : UInt8) (0 : UInt8) (0 : UInt8) (0 : UInt8)) r41.2.1)))).toArray, rfl, by simp only [List.map_toArray, List.map_cons, List.map_nil, hs.ev (x := .tmp 83) rfl]; exact run_bs [(ag ([(str r37.1), (Value.int .i64 r41.1)] ++ (cA8u8 (cpA8u8 (A8u8.mk (0 : UInt8) (0 : UInt8) (0 : UInt8) (0 : UInt8) (0 : UInt8) (0 : UInt8) (0 : UInt8) (0 : UInt8)) r41.2.1))))] ([(str r37.1), (Value.int .i64 r41.1)] ++ (cA8u8 (cpA8u8 (A8u8.mk (0 : UInt8) (0 : UInt8) (0 : UInt8) (0 : UInt8) (0 : UInt8) (0 : UInt8) (0 : UInt8) (0 : UInt8)) r41.2.1))) Tryd.underlying60 to104 rfl rfl (bs_cons (l := ([(str r37.1), (Value.int .i64 r41.1)] ++ (cA8u8 (cpA8u8 (A8u8.mk (0 : UInt8) (0 : UInt8) (0 : UInt8) (0 : UInt8) (0 : UInt8) (0 : UInt8) (0 : UInt8) (0 : UInt8)) r41.2.1)))) (cs := []) (cv_rfl rfl) rfl bs_nil) hm⟩) (fun hm => ⟨([(str r37.1), (Value.int .i64 r41.1)] ++ (cA8u8 (cpA8u8 (A8u8.mk (0 : UInt8) (0 : UInt8) (0 : UInt8) (0 : UInt8) (0 : UInt8) (0 : UInt8) (0 : UInt8) (0 : UInt8)) r41.2.1))), [], rfl, mkS_api_Snap rfl, rfl⟩) rfl (fun v45 => ?_)
                obtain ⟨hc46, h⟩ := req_some h
                refine al_append 6 hc46.1 hc46.2 rfl (src_own (i := 6) 0 rfl) rfl rfl Tryd.underlying60 to104 rfl rfl rfl (fun v47 => ?_)
                refine al_val (ov_fieldA (p := 2) rfl Tryd.underlying62 rfl sz60 rfl rfl rfl) ?_
                refine al_store (i := 7) (vs := [v47]) (cs' := [(Value.int .i64 r14.1), j15v6_1, v47]) rfl rfl rfl sz60 (cv_own 6 rfl) rfl (co_own 6 rfl co_nil) (Nat.le_of_ble_eq_true rfl) rfl rfl ?_
                refine al_nil ?_
                refine aq_block ?_
                refine aq_then ?_
                refine aw_region ?_
                refine al_val (ov_move rfl rfl) ?_
                refine al_val (ov_int rfl rfl rfl rfl) ?_
                refine al_val (ov_assign rfl rfl) ?_
                refine al_nil ?_
                exact aq_again k31 (v47, (l30x6_2 ++ ([(S_api_Snap.mk r37.1 r41.1 (cpA8u8 (A8u8.mk (0 : UInt8) (0 : UInt8) (0 : UInt8) (0 : UInt8) (0 : UInt8) (0 : UInt8) (0 : UInt8) (0 : UInt8)) r41.2.1))])), (r41.2.1.drop ((8 : Int)).toNat), r41.2.2, (IntKind.i64.wrap (l30i11 - (1 : Int)))) (Nat.lt_succ_self _) h (fun w a hm hs => norm hm hs [4, 5, 6, 7, 2, 3] [0] [(0, (str a0)), (2, (ptr g1 0)), (6, (ptr g6 0)), (7, (ptr g11 0)), (8, (ptr g12 0)), (9, (Value.func (.func 80) #[] #[(ptr g11 0), (ptr g12 0)])), (11, (Value.int .i64 (IntKind.i64.wrap (l30i11 - (1 : Int)))))] (by decide) ⟨rfl, rfl, rfl, rfl, rfl, rfl, rfl, trivial⟩)
          · replace h := bif_f hb35 h
            refine aw_exit ?_
            refine aq_then_exit ?_
            refine aq_then_exit ?_
            refine aq_block_exit ?_
            exact aq_join (l30v6_2, l30x6_2, l30b8_0) h (fun w a hm hs => norm hm hs [0, 1, 2, 3, 5] [0] [(0, (str a0)), (2, (ptr g1 0)), (6, (ptr g6 0)), (8, (ptr g12 0))] (by decide) ⟨rfl, rfl, rfl, rfl, trivial⟩)
        · clear hkk34
          refine aw_region ?_
          refine al_val (ov_move rfl rfl) ?_
          refine al_val (ov_int rfl rfl rfl rfl) ?_
          refine al_val (ov_move rfl rfl) ?_
          refine al_caseB 52 rfl (fun hb48 => ?_) (fun hb48 => ?_)
          · replace h := bif_t hb48 h
            refine al_val (ov_load (i := 5) (v := (Value.bool l30b8_0)) rfl rfl Tryd.underlying4 sz4 rfl rfl rfl rfl) ?_
            refine al_val (ov_pick_t rfl rfl rfl) ?_
            refine al_nil ?_
            exact aq_join l30b8_0 h (fun w a hm hs => norm hm hs [0, 1, 2, 3, 4, 5] [0] [(0, (str a0)), (2, (ptr g1 0)), (6, (ptr g6 0)), (7, (ptr g11 0)), (8, (ptr g12 0)), (9, (Value.func (.func 80) #[] #[(ptr g11 0), (ptr g12 0)])), (11, (Value.int .i64 l30i11)), (54, (Value.bool l30b8_0))] (by decide) ⟨rfl, rfl, rfl, rfl, rfl, rfl, rfl, rfl, trivial⟩)
          · replace h := bif_f hb48 h
            refine al_skip ?_
            refine al_val (ov_pick_f rfl rfl rfl) ?_
            refine al_nil ?_
            exact aq_join false h (fun w a hm hs => norm hm hs [0, 1, 2, 3, 4, 5] [0] [(0, (str a0)), (2, (ptr g1 0)), (6, (ptr g6 0)), (7, (ptr g11 0)), (8, (ptr g12 0)), (9, (Value.func (.func 80) #[] #[(ptr g11 0), (ptr g12 0)])), (11, (Value.int .i64 l30i11)), (54, (Value.bool false))] (by decide) ⟨rfl, rfl, rfl, rfl, rfl, rfl, rfl, rfl, trivial⟩)
    · clear hkk16
      refine aw_seq ?_
      refine aw_region ?_
      refine al_val (ov_move rfl rfl) ?_
      obtain ⟨r50, hc49, h⟩ := opt_some h
      refine al_callF (vs := []) (caps := [(ptr g11 0), (ptr g12 0)]) (f_lumref_HeadRead_1_ok fu g11 r14.2.1 g12 r14.2.2 hc49) rfl [] [0, 1] [2, 3, 4] pre_nil rfl (by simp) (by decide) (.inl rfl) rfl rfl Tryd.func80 rfl rfl rfl (fun _ => ?_)
      refine al_val (ov_assign rfl rfl) ?_
      refine al_nil ?_
      refine aq_then ?_
      refine aw_block ?_
      refine aw_nilR 3 (tyInt .i64) ?_
      refine aw_state (aw_loop (ι := Value × (List Int) × (List UInt8) × Bool × Int) (fun i => (memOf w0 Z0 [] [(oBox g1 62 [(Value.int .i64 (0 : Int)), (Value.slice none 0 0), (Value.slice none 0 0)]), (oRow i.1 3 (tyInt .i64) i.2.1), (oBox g6 62 [(Value.int .i64 r14.1), i.1, (Value.slice none 0 0)]), (oBox g11 9 [(str i.2.2.1)]), (oBox g12 4 [(Value.bool i.2.2.2.1)])] [uMax])) (fun i => (tab [(0, (str a0)), (2, (ptr g1 0)), (6, (ptr g6 0)), (7, (ptr g11 0)), (8, (ptr g12 0)), (9, (Value.func (.func 80) #[] #[(ptr g11 0), (ptr g12 0)])), (10, (Value.int .i64 i.2.2.2.2))])) (fun q i => f_lumref_HeadRead_L53 kk16 fu q i.2.1 i.2.2.1 i.2.2.2.1 i.2.2.2.2 = some r) ?_ fu ((Value.slice none 0 0), ([] : List Int), r50.2.1, r50.2.2, r50.1) h) (fun w a hm hs => norm hm hs [5, 0, 3, 1, 2] [0] [(0, (str a0)), (2, (ptr g1 0)), (6, (ptr g6 0)), (7, (ptr g11 0)), (8, (ptr g12 0)), (9, (Value.func (.func 80) #[] #[(ptr g11 0), (ptr g12 0)])), (10, (Value.int .i64 r50.1))] (by decide) ⟨rfl, rfl, rfl, rfl, rfl, rfl, rfl, trivial⟩)
      clear h
      rintro k52 ⟨l51v6_1, l51x6_1, l51s7_0, l51b8_0, l51i10⟩ h
      have h : f_lumref_HeadRead_L53 kk16 fu k52 l51x6_1 l51s7_0 l51b8_0 l51i10 = some r := h
      obtain _ | k52 := k52
      · rw [f_lumref_HeadRead_L53] at h; cases h
      rw [f_lumref_HeadRead_L53] at h
      refine aw_show (m := (memOf w0 Z0 [] [(oBox g1 62 [(Value.int .i64 (0 : Int)), (Value.slice none 0 0), (Value.slice none 0 0)]), (oRow l51v6_1 3 (tyInt .i64) l51x6_1), (oBox g6 62 [(Value.int .i64 r14.1), l51v6_1, (Value.slice none 0 0)]), (oBox g11 9 [(str l51s7_0)]), (oBox g12 4 [(Value.bool l51b8_0)])] [uMax])) (S := (tab [(0, (str a0)), (2, (ptr g1 0)), (6, (ptr g6 0)), (7, (ptr g11 0)), (8, (ptr g12 0)), (9, (Value.func (.func 80) #[] #[(ptr g11 0), (ptr g12 0)])), (10, (Value.int .i64 l51i10))])) ?_
      refine aw_seq ?_
      obtain ⟨kk55, hkk55, h⟩ := lt_some h
      refine aw_seq_join (ι := Bool) (fun i => (memOf w0 Z0 [] [(oBox g1 62 [(Value.int .i64 (0 : Int)), (Value.slice none 0 0), (Value.slice none 0 0)]), (oRow l51v6_1 3 (tyInt .i64) l51x6_1), (oBox g6 62 [(Value.int .i64 r14.1), l51v6_1, (Value.slice none 0 0)]), (oBox g11 9 [(str l51s7_0)]), (oBox g12 4 [(Value.bool l51b8_0)])] [uMax])) (fun i => (tab [(0, (str a0)), (2, (ptr g1 0)), (6, (ptr g6 0)), (7, (ptr g11 0)), (8, (ptr g12 0)), (9, (Value.func (.func 80) #[] #[(ptr g11 0), (ptr g12 0)])), (10, (Value.int .i64 l51i10)), (38, (Value.bool i))])) (fun i => kk55 i = some r) ?_ ?_
      · rintro j54b38 h
        have h : kk55 j54b38 = some r := h
        rw [hkk55] at h
        dsimp only at h
        clear hkk55
        refine aw_show (m := (memOf w0 Z0 [] [(oBox g1 62 [(Value.int .i64 (0 : Int)), (Value.slice none 0 0), (Value.slice none 0 0)]), (oRow l51v6_1 3 (tyInt .i64) l51x6_1), (oBox g6 62 [(Value.int .i64 r14.1), l51v6_1, (Value.slice none 0 0)]), (oBox g11 9 [(str l51s7_0)]), (oBox g12 4 [(Value.bool l51b8_0)])] [uMax])) (S := (tab [(0, (str a0)), (2, (ptr g1 0)), (6, (ptr g6 0)), (7, (ptr g11 0)), (8, (ptr g12 0)), (9, (Value.func (.func 80) #[] #[(ptr g11 0), (ptr g12 0)])), (10, (Value.int .i64 l51i10)), (38, (Value.bool j54b38))])) ?_
        refine aw_cond rfl (fun hb56 => ?_) (fun hb56 => ?_)
        · replace h := bif_t hb56 h
          refine aw_skip ?_
          refine aq_then ?_
          refine aw_seq ?_
          refine aw_block ?_
          refine aw_region_open [⟨0, 41, Unit, fun _ => { val := (ptr g6 1) }⟩, ⟨1, 42, Unit, fun _ => { val := l51v6_1 }⟩, ⟨2, 43, Unit, fun _ => { val := (Value.func (.func 80) #[] #[(ptr g11 0), (ptr g12 0)]) }⟩] (tab [(0, (str a0)), (2, (ptr g1 0)), (6, (ptr g6 0)), (7, (ptr g11 0)), (8, (ptr g12 0)), (9, (Value.func (.func 80) #[] #[(ptr g11 0), (ptr g12 0)])), (10, (Value.int .i64 l51i10))]) mixed (fun a hs => hs.tab _ (allT_mem ⟨rfl, rfl, rfl, rfl, rfl, rfl, rfl, trivial⟩)) ?_
          refine ta_show (m := (memOf w0 Z0 [] [(oBox g1 62 [(Value.int .i64 (0 : Int)), (Value.slice none 0 0), (Value.slice none 0 0)]), (oRow l51v6_1 3 (tyInt .i64) l51x6_1), (oBox g6 62 [(Value.int .i64 r14.1), l51v6_1, (Value.slice none 0 0)]), (oBox g11 9 [(str l51s7_0)]), (oBox g12 4 [(Value.bool l51b8_0)])] [uMax])) (S := (tab [(0, (str a0)), (2, (ptr g1 0)), (6, (ptr g6 0)), (7, (ptr g11 0)), (8, (ptr g12 0)), (9, (Value.func (.func 80) #[] #[(ptr g11 0), (ptr g12 0)])), (10, (Value.int .i64 l51i10))])) ?_
          refine ta_step 3 _ [0, 1, 2] [41, 42, 43] [2] [4] [⟨2, 43, Unit, fun _ => { val := (Value.func (.func 80) #[] #[(ptr g11 0), (ptr g12 0)]) }⟩] [⟨0, 41, Unit, fun _ => { val := (ptr g6 1) }⟩, ⟨1, 42, Unit, fun _ => { val := l51v6_1 }⟩] rfl rfl rfl (by kernel_rfl) rfl rfl rfl ⟨⟨_, rfl, [], rfl, by
    intro X_ Y_ F_ K_ hK_
    refine al_show (m := Mem.plus (memOf w0 Z0 [] [(oBox g1 62 [(Value.int .i64 (0 : Int)), (Value.slice none 0 0), (Value.slice none 0 0)]), (oRow l51v6_1 3 (tyInt .i64) l51x6_1), (oBox g6 62 [(Value.int .i64 r14.1), l51v6_1, (Value.slice none 0 0)]), (oBox g11 9 [(str l51s7_0)]), (oBox g12 4 [(Value.bool l51b8_0)])] [uMax]) X_ Y_) (S := over (tab [(0, (str a0)), (2, (ptr g1 0)), (6, (ptr g6 0)), (7, (ptr g11 0)), (8, (ptr g12 0)), (9, (Value.func (.func 80) #[] #[(ptr g11 0), (ptr g12 0)])), (10, (Value.int .i64 l51i10))]) F_) ?_
    refine al_val (ov_fieldA (p := 1) rfl Tryd.underlying62 rfl sz59 rfl rfl rfl) ?_
    refine al_nil ?_
    exact fr_fin hK_ ()⟩, ⟨_, rfl, [0], rfl, by
    intro _
    intro X_ Y_ F_ K_ hK_
    refine al_show (m := Mem.plus (memOf w0 Z0 [] [(oBox g1 62 [(Value.int .i64 (0 : Int)), (Value.slice none 0 0), (Value.slice none 0 0)]), (oRow l51v6_1 3 (tyInt .i64) l51x6_1), (oBox g6 62 [(Value.int .i64 r14.1), l51v6_1, (Value.slice none 0 0)]), (oBox g11 9 [(str l51s7_0)]), (oBox g12 4 [(Value.bool l51b8_0)])] [uMax]) X_ Y_) (S := over (put (tab [(0, (str a0)), (2, (ptr g1 0)), (6, (ptr g6 0)), (7, (ptr g11 0)), (8, (ptr g12 0)), (9, (Value.func (.func 80) #[] #[(ptr g11 0), (ptr g12 0)])), (10, (Value.int .i64 l51i10))]) 41 (ptr g6 1)) F_) ?_
    refine al_val (ov_load (i := 2) (v := l51v6_1) rfl rfl Tryd.underlying59 sz59 rfl rfl rfl rfl) ?_
    refine al_nil ?_
    exact fr_fin hK_ ()⟩, ⟨_, rfl, [], rfl, by
    intro X_ Y_ F_ K_ hK_
    refine al_show (m := Mem.plus (memOf w0 Z0 [] [(oBox g1 62 [(Value.int .i64 (0 : Int)), (Value.slice none 0 0), (Value.slice none 0 0)]), (oRow l51v6_1 3 (tyInt .i64) l51x6_1), (oBox g6 62 [(Value.int .i64 r14.1), l51v6_1, (Value.slice none 0 0)]), (oBox g11 9 [(str l51s7_0)]), (oBox g12 4 [(Value.bool l51b8_0)])] [uMax]) X_ Y_) (S := over (tab [(0, (str a0)), (2, (ptr g1 0)), (6, (ptr g6 0)), (7, (ptr g11 0)), (8, (ptr g12 0)), (9, (Value.func (.func 80) #[] #[(ptr g11 0), (ptr g12 0)])), (10, (Value.int .i64 l51i10))]) F_) ?_
    refine al_val (ov_move rfl rfl) ?_
    refine al_nil ?_
    exact fr_fin hK_ ()⟩, trivial⟩ ?_
          intro _
          intro X_ Y_ F_ K_ hK_
          refine al_show (m := Mem.plus (memOf w0 Z0 [] [(oBox g1 62 [(Value.int .i64 (0 : Int)), (Value.slice none 0 0), (Value.slice none 0 0)]), (oRow l51v6_1 3 (tyInt .i64) l51x6_1), (oBox g6 62 [(Value.int .i64 r14.1), l51v6_1, (Value.slice none 0 0)]), (oBox g11 9 [(str l51s7_0)]), (oBox g12 4 [(Value.bool l51b8_0)])] [uMax]) X_ Y_) (S := over (put (tab [(0, (str a0)), (2, (ptr g1 0)), (6, (ptr g6 0)), (7, (ptr g11 0)), (8, (ptr g12 0)), (9, (Value.func (.func 80) #[] #[(ptr g11 0), (ptr g12 0)])), (10, (Value.int .i64 l51i10))]) 43 (Value.func (.func 80) #[] #[(ptr g11 0), (ptr g12 0)])) F_) ?_
          obtain ⟨r58, hc57, h⟩ := opt_some h
          refine al_callFX (vs := []) (caps := [(ptr g11 0), (ptr g12 0)]) (f_lumref_HeadRead_1_ok fu g11 l51s7_0 g12 l51b8_0 hc57) rfl [] [3, 4] [0, 1, 2] pre_nil rfl (by simp) (by decide) rfl (.inl rfl) rfl rfl Tryd.func80 rfl rfl rfl (fun _ => ?_)
          refine al_nil ?_
          refine aq_show (m := Mem.plus (memOf w0 Z0 [] [(oBox g11 9 [(str r58.2.1)]), (oBox g12 4 [(Value.bool r58.2.2)]), (oBox g1 62 [(Value.int .i64 (0 : Int)), (Value.slice none 0 0), (Value.slice none 0 0)]), (oRow l51v6_1 3 (tyInt .i64) l51x6_1), (oBox g6 62 [(Value.int .i64 r14.1), l51v6_1, (Value.slice none 0 0)])] [uMax]) X_ Y_) ?_
          refine aq_next hK_ [0, 1, 2, 3, 4] [0] [(0, (str a0)), (2, (ptr g1 0)), (6, (ptr g6 0)), (7, (ptr g11 0)), (8, (ptr g12 0)), (9, (Value.func (.func 80) #[] #[(ptr g11 0), (ptr g12 0)])), (10, (Value.int .i64 l51i10)), (44, (Value.int .i64 r58.1))] [41, 42] [⟨4, 45, Value, fun (i : Value) => { val := i, fz := [(fDat (tyList (tyInt .i64)) [i] [r58.1])] }⟩] rfl rfl (by decide) rfl ⟨rfl, rfl, rfl, rfl, rfl, rfl, rfl, rfl, trivial⟩ ⟨rfl, rfl, trivial⟩ ?_
          clear hK_ K_ F_ X_ Y_
          refine ta_show (m := (memOf w0 Z0 [] [(oBox g11 9 [(str r58.2.1)]), (oBox g12 4 [(Value.bool r58.2.2)]), (oBox g1 62 [(Value.int .i64 (0 : Int)), (Value.slice none 0 0), (Value.slice none 0 0)]), (oRow l51v6_1 3 (tyInt .i64) l51x6_1), (oBox g6 62 [(Value.int .i64 r14.1), l51v6_1, (Value.slice none 0 0)])] [uMax])) (S := (tab [(0, (str a0)), (2, (ptr g1 0)), (6, (ptr g6 0)), (7, (ptr g11 0)), (8, (ptr g12 0)), (9, (Value.func (.func 80) #[] #[(ptr g11 0), (ptr g12 0)])), (10, (Value.int .i64 l51i10)), (44, (Value.int .i64 r58.1))])) ?_
          refine ta_step 5 _ [0, 1, 4] [41, 42, 45] [0, 1, 4] [6] [⟨0, 41, Unit, fun _ => { val := (ptr g6 1) }⟩, ⟨1, 42, Unit, fun _ => { val := l51v6_1 }⟩, ⟨4, 45, Value, fun (i : Value) => { val := i, fz := [(fDat (tyList (tyInt .i64)) [i] [r58.1])] }⟩] [] rfl rfl rfl (by kernel_rfl) rfl rfl rfl ⟨⟨_, rfl, [], rfl, by
    intro X_ Y_ F_ K_ hK_
    refine al_show (m := Mem.plus (memOf w0 Z0 [] [(oBox g11 9 [(str r58.2.1)]), (oBox g12 4 [(Value.bool r58.2.2)]), (oBox g1 62 [(Value.int .i64 (0 : Int)), (Value.slice none 0 0), (Value.slice none 0 0)]), (oRow l51v6_1 3 (tyInt .i64) l51x6_1), (oBox g6 62 [(Value.int .i64 r14.1), l51v6_1, (Value.slice none 0 0)])] [uMax]) X_ Y_) (S := over (tab [(0, (str a0)), (2, (ptr g1 0)), (6, (ptr g6 0)), (7, (ptr g11 0)), (8, (ptr g12 0)), (9, (Value.func (.func 80) #[] #[(ptr g11 0), (ptr g12 0)])), (10, (Value.int .i64 l51i10)), (44, (Value.int .i64 r58.1))]) F_) ?_
    refine al_val (ov_fieldA (p := 1) rfl Tryd.underlying62 rfl sz59 rfl rfl rfl) ?_
    refine al_nil ?_
    exact fr_fin hK_ ()⟩, ⟨_, rfl, [0], rfl, by
    intro _
    intro X_ Y_ F_ K_ hK_
    refine al_show (m := Mem.plus (memOf w0 Z0 [] [(oBox g11 9 [(str r58.2.1)]), (oBox g12 4 [(Value.bool r58.2.2)]), (oBox g1 62 [(Value.int .i64 (0 : Int)), (Value.slice none 0 0), (Value.slice none 0 0)]), (oRow l51v6_1 3 (tyInt .i64) l51x6_1), (oBox g6 62 [(Value.int .i64 r14.1), l51v6_1, (Value.slice none 0 0)])] [uMax]) X_ Y_) (S := over (put (tab [(0, (str a0)), (2, (ptr g1 0)), (6, (ptr g6 0)), (7, (ptr g11 0)), (8, (ptr g12 0)), (9, (Value.func (.func 80) #[] #[(ptr g11 0), (ptr g12 0)])), (10, (Value.int .i64 l51i10)), (44, (Value.int .i64 r58.1))]) 41 (ptr g6 1)) F_) ?_
    refine al_val (ov_load (i := 4) (v := l51v6_1) rfl rfl Tryd.underlying59 sz59 rfl rfl rfl rfl) ?_
    refine al_nil ?_
    exact fr_fin hK_ ()⟩, ⟨_, rfl, [], rfl, by
    intro X_ Y_ F_ K_ hK_
    refine al_show (m := Mem.plus (memOf w0 Z0 [] [(oBox g11 9 [(str r58.2.1)]), (oBox g12 4 [(Value.bool r58.2.2)]), (oBox g1 62 [(Value.int .i64 (0 : Int)), (Value.slice none 0 0), (Value.slice none 0 0)]), (oRow l51v6_1 3 (tyInt .i64) l51x6_1), (oBox g6 62 [(Value.int .i64 r14.1), l51v6_1, (Value.slice none 0 0)])] [uMax]) X_ Y_) (S := over (tab [(0, (str a0)), (2, (ptr g1 0)), (6, (ptr g6 0)), (7, (ptr g11 0)), (8, (ptr g12 0)), (9, (Value.func (.func 80) #[] #[(ptr g11 0), (ptr g12 0)])), (10, (Value.int .i64 l51i10)), (44, (Value.int .i64 r58.1))]) F_) ?_
    refine al_buildSlice (τ := (tyInt .i64)) (e := 3) (k := 1) (sz := 0) (by_ := 0) (z := undef) (cs := [(Value.int .i64 r58.1)]) (xs := [r58.1]) rfl (by decide) (fun w a hm hs => ⟨([(Value.int .i64 r58.1)]).toArray, rfl, by simp only [List.map_toArray, List.map_cons, List.map_nil, hs.ev (x := .tmp 44) rfl]; exact run_bs [(Value.int .i64 r58.1)] [(Value.int .i64 r58.1)] Tryd.underlying59 to3 rfl rfl (bs_cons (l := [(Value.int .i64 r58.1)]) (cs := []) (cv_rfl rfl) rfl bs_nil) hm⟩) (fun hm => ⟨_, _, rfl, (fun _ => rfl) hm, rfl⟩) rfl (fun v59 => ?_)
    refine al_freeze 0 rfl rfl ?_
    refine al_nil ?_
    exact fr_fin hK_ v59⟩, trivial⟩ ?_
          intro _
          intro _
          intro v59
          intro X_ Y_ F_ K_ hK_
          refine al_show (m := Mem.plus (memOf w0 Z0 [] [(oBox g11 9 [(str r58.2.1)]), (oBox g12 4 [(Value.bool r58.2.2)]), (oBox g1 62 [(Value.int .i64 (0 : Int)), (Value.slice none 0 0), (Value.slice none 0 0)]), (oRow l51v6_1 3 (tyInt .i64) l51x6_1), (oBox g6 62 [(Value.int .i64 r14.1), l51v6_1, (Value.slice none 0 0)])] [(fDat (tyList (tyInt .i64)) [v59] [r58.1]), uMax]) X_ Y_) (S := over (put (put (put (tab [(0, (str a0)), (2, (ptr g1 0)), (6, (ptr g6 0)), (7, (ptr g11 0)), (8, (ptr g12 0)), (9, (Value.func (.func 80) #[] #[(ptr g11 0), (ptr g12 0)])), (10, (Value.int .i64 l51i10)), (44, (Value.int .i64 r58.1))]) 41 (ptr g6 1)) 42 l51v6_1) 45 v59) F_) ?_
          obtain ⟨hc60, h⟩ := req_some h
          refine al_append 3 hc60.1 hc60.2 rfl (src_dat (i := 3) 0 rfl) rfl rfl Tryd.underlying59 to3 rfl rfl rfl (fun v61 => ?_)
          refine al_nil ?_
          refine aq_show (m := Mem.plus (memOf w0 Z0 [] [(oBox g11 9 [(str r58.2.1)]), (oBox g12 4 [(Value.bool r58.2.2)]), (oBox g1 62 [(Value.int .i64 (0 : Int)), (Value.slice none 0 0), (Value.slice none 0 0)]), (oRow v61 3 (tyInt .i64) (l51x6_1 ++ ([r58.1]))), (oBox g6 62 [(Value.int .i64 r14.1), l51v6_1, (Value.slice none 0 0)])] [(fDat (tyList (tyInt .i64)) [v59] [r58.1]), uMax]) X_ Y_) ?_
          refine aq_next hK_ [0, 1, 2, 3, 4] [1] [(0, (str a0)), (2, (ptr g1 0)), (6, (ptr g6 0)), (7, (ptr g11 0)), (8, (ptr g12 0)), (9, (Value.func (.func 80) #[] #[(ptr g11 0), (ptr g12 0)])), (10, (Value.int .i64 l51i10)), (46, v61)] [] [⟨6, 47, Unit, fun _ => { val := (ptr g6 1) }⟩] rfl rfl (by decide) rfl ⟨rfl, rfl, rfl, rfl, rfl, rfl, rfl, rfl, trivial⟩ trivial ?_
          clear hK_ K_ F_ X_ Y_
          refine ta_show (m := (memOf w0 Z0 [] [(oBox g11 9 [(str r58.2.1)]), (oBox g12 4 [(Value.bool r58.2.2)]), (oBox g1 62 [(Value.int .i64 (0 : Int)), (Value.slice none 0 0), (Value.slice none 0 0)]), (oRow v61 3 (tyInt .i64) (l51x6_1 ++ ([r58.1]))), (oBox g6 62 [(Value.int .i64 r14.1), l51v6_1, (Value.slice none 0 0)])] [uMax])) (S := (tab [(0, (str a0)), (2, (ptr g1 0)), (6, (ptr g6 0)), (7, (ptr g11 0)), (8, (ptr g12 0)), (9, (Value.func (.func 80) #[] #[(ptr g11 0), (ptr g12 0)])), (10, (Value.int .i64 l51i10)), (46, v61)])) ?_
          refine ta_step 7 _ [6] [47] [6] [] [⟨6, 47, Unit, fun _ => { val := (ptr g6 1) }⟩] [] rfl rfl rfl (by kernel_rfl) rfl rfl rfl ⟨⟨_, rfl, [], rfl, by
    intro X_ Y_ F_ K_ hK_
    refine al_show (m := Mem.plus (memOf w0 Z0 [] [(oBox g11 9 [(str r58.2.1)]), (oBox g12 4 [(Value.bool r58.2.2)]), (oBox g1 62 [(Value.int .i64 (0 : Int)), (Value.slice none 0 0), (Value.slice none 0 0)]), (oRow v61 3 (tyInt .i64) (l51x6_1 ++ ([r58.1]))), (oBox g6 62 [(Value.int .i64 r14.1), l51v6_1, (Value.slice none 0 0)])] [uMax]) X_ Y_) (S := over (tab [(0, (str a0)), (2, (ptr g1 0)), (6, (ptr g6 0)), (7, (ptr g11 0)), (8, (ptr g12 0)), (9, (Value.func (.func 80) #[] #[(ptr g11 0), (ptr g12 0)])), (10, (Value.int .i64 l51i10)), (46, v61)]) F_) ?_
    refine al_val (ov_fieldA (p := 1) rfl Tryd.underlying62 rfl sz59 rfl rfl rfl) ?_
    refine al_nil ?_
    exact fr_fin hK_ ()⟩, trivial⟩ ?_
          intro _
          intro X_ Y_ F_ K_ hK_
          refine al_show (m := Mem.plus (memOf w0 Z0 [] [(oBox g11 9 [(str r58.2.1)]), (oBox g12 4 [(Value.bool r58.2.2)]), (oBox g1 62 [(Value.int .i64 (0 : Int)), (Value.slice none 0 0), (Value.slice none 0 0)]), (oRow v61 3 (tyInt .i64) (l51x6_1 ++ ([r58.1]))), (oBox g6 62 [(Value.int .i64 r14.1), l51v6_1, (Value.slice none 0 0)])] [uMax]) X_ Y_) (S := over (put (tab [(0, (str a0)), (2, (ptr g1 0)), (6, (ptr g6 0)), (7, (ptr g11 0)), (8, (ptr g12 0)), (9, (Value.func (.func 80) #[] #[(ptr g11 0), (ptr g12 0)])), (10, (Value.int .i64 l51i10)), (46, v61)]) 47 (ptr g6 1)) F_) ?_
          refine al_store (i := 4) (vs := [v61]) (cs' := [(Value.int .i64 r14.1), v61, (Value.slice none 0 0)]) rfl rfl rfl sz59 (cv_own 3 rfl) rfl (co_own 3 rfl co_nil) (Nat.le_of_ble_eq_true rfl) rfl rfl ?_
          refine al_nil ?_
          refine aq_show (m := Mem.plus (memOf w0 Z0 [] [(oBox g11 9 [(str r58.2.1)]), (oBox g12 4 [(Value.bool r58.2.2)]), (oBox g1 62 [(Value.int .i64 (0 : Int)), (Value.slice none 0 0), (Value.slice none 0 0)]), (oRow v61 3 (tyInt .i64) (l51x6_1 ++ ([r58.1]))), (oBox g6 62 [(Value.int .i64 r14.1), v61, (Value.slice none 0 0)])] [uMax]) X_ Y_) ?_
          refine aq_next hK_ [0, 1, 2, 3, 4] [0] [(0, (str a0)), (2, (ptr g1 0)), (6, (ptr g6 0)), (7, (ptr g11 0)), (8, (ptr g12 0)), (9, (Value.func (.func 80) #[] #[(ptr g11 0), (ptr g12 0)])), (10, (Value.int .i64 l51i10))] [] [] rfl rfl (by decide) rfl ⟨rfl, rfl, rfl, rfl, rfl, rfl, rfl, trivial⟩ trivial ?_
          clear hK_ K_ F_ X_ Y_
          refine ta_show (m := (memOf w0 Z0 [] [(oBox g11 9 [(str r58.2.1)]), (oBox g12 4 [(Value.bool r58.2.2)]), (oBox g1 62 [(Value.int .i64 (0 : Int)), (Value.slice none 0 0), (Value.slice none 0 0)]), (oRow v61 3 (tyInt .i64) (l51x6_1 ++ ([r58.1]))), (oBox g6 62 [(Value.int .i64 r14.1), v61, (Value.slice none 0 0)])] [uMax])) (S := (tab [(0, (str a0)), (2, (ptr g1 0)), (6, (ptr g6 0)), (7, (ptr g11 0)), (8, (ptr g12 0)), (9, (Value.func (.func 80) #[] #[(ptr g11 0), (ptr g12 0)])), (10, (Value.int .i64 l51i10))])) ?_
          refine ta_end [] [] rfl rfl (by kernel_rfl) rfl trivial ?_
          refine aq_show (m := (memOf w0 Z0 [] [(oBox g11 9 [(str r58.2.1)]), (oBox g12 4 [(Value.bool r58.2.2)]), (oBox g1 62 [(Value.int .i64 (0 : Int)), (Value.slice none 0 0), (Value.slice none 0 0)]), (oRow v61 3 (tyInt .i64) (l51x6_1 ++ ([r58.1]))), (oBox g6 62 [(Value.int .i64 r14.1), v61, (Value.slice none 0 0)])] [uMax])) (S := (tab [(0, (str a0)), (2, (ptr g1 0)), (6, (ptr g6 0)), (7, (ptr g11 0)), (8, (ptr g12 0)), (9, (Value.func (.func 80) #[] #[(ptr g11 0), (ptr g12 0)])), (10, (Value.int .i64 l51i10))])) ?_
          refine aq_block ?_
          refine aq_then ?_
          refine aw_region ?_
          refine al_val (ov_move rfl rfl) ?_
          refine al_val (ov_int rfl rfl rfl rfl) ?_
          refine al_val (ov_assign rfl rfl) ?_
          refine al_nil ?_
          exact aq_again k52 (v61, (l51x6_1 ++ ([r58.1])), r58.2.1, r58.2.2, (IntKind.i64.wrap (l51i10 - (1 : Int)))) (Nat.lt_succ_self _) h (fun w a hm hs => norm hm hs [2, 3, 4, 0, 1] [0] [(0, (str a0)), (2, (ptr g1 0)), (6, (ptr g6 0)), (7, (ptr g11 0)), (8, (ptr g12 0)), (9, (Value.func (.func 80) #[] #[(ptr g11 0), (ptr g12 0)])), (10, (Value.int .i64 (IntKind.i64.wrap (l51i10 - (1 : Int)))))] (by decide) ⟨rfl, rfl, rfl, rfl, rfl, rfl, rfl, trivial⟩)
        · replace h := bif_f hb56 h
          refine aw_exit ?_
          refine aq_then_exit ?_
          refine aq_then_exit ?_
          refine aq_block_exit ?_
          exact aq_join (l51v6_1, l51x6_1, l51s7_0, l51b8_0) h (fun w a hm hs => norm hm hs [0, 1, 2, 3, 4] [0] [(0, (str a0)), (2, (ptr g1 0)), (6, (ptr g6 0)), (7, (ptr g11 0)), (8, (ptr g12 0)), (9, (Value.func (.func 80) #[] #[(ptr g11 0), (ptr g12 0)]))] (by decide) ⟨rfl, rfl, rfl, rfl, rfl, rfl, trivial⟩)
      · clear hkk55
        refine aw_region ?_
        refine al_val (ov_move rfl rfl) ?_
        refine al_val (ov_int rfl rfl rfl rfl) ?_
        refine al_val (ov_move rfl rfl) ?_
        refine al_caseB 36 rfl (fun hb62 => ?_) (fun hb62 => ?_)
        · replace h := bif_t hb62 h
          refine al_val (ov_load (i := 4) (v := (Value.bool l51b8_0)) rfl rfl Tryd.underlying4 sz4 rfl rfl rfl rfl) ?_
          refine al_val (ov_pick_t rfl rfl rfl) ?_
          refine al_nil ?_
          exact aq_join l51b8_0 h (fun w a hm hs => norm hm hs [0, 1, 2, 3, 4] [0] [(0, (str a0)), (2, (ptr g1 0)), (6, (ptr g6 0)), (7, (ptr g11 0)), (8, (ptr g12 0)), (9, (Value.func (.func 80) #[] #[(ptr g11 0), (ptr g12 0)])), (10, (Value.int .i64 l51i10)), (38, (Value.bool l51b8_0))] (by decide) ⟨rfl, rfl, rfl, rfl, rfl, rfl, rfl, rfl, trivial⟩)
        · replace h := bif_f hb62 h
          refine al_skip ?_
          refine al_val (ov_pick_f rfl rfl rfl) ?_
          refine al_nil ?_
          exact aq_join false h (fun w a hm hs => norm hm hs [0, 1, 2, 3, 4] [0] [(0, (str a0)), (2, (ptr g1 0)), (6, (ptr g6 0)), (7, (ptr g11 0)), (8, (ptr g12 0)), (9, (Value.func (.func 80) #[] #[(ptr g11 0), (ptr g12 0)])), (10, (Value.int .i64 l51i10)), (38, (Value.bool false))] (by decide) ⟨rfl, rfl, rfl, rfl, rfl, rfl, rfl, rfl, trivial⟩)
def f_slices_Equal___int_int__L6 (a0 : (List Int)) (a1 : (List Int)) (kk3 : (Unit → Option Bool)) : Nat → Int → Option Bool
  | 0, _ => none
  | k5 + 1, l4i13 => (bif (decide (l4i13 < (a0.length : Int))) then (opt (at? a0 l4i13) fun (u8 : Int) => (opt (at? a1 l4i13) fun (u11 : Int) => (bif (u8 != u11) then (some false) else (f_slices_Equal___int_int__L6 a0 a1 kk3 k5 (IntKind.i64.wrap (l4i13 + (1 : Int))))))) else (kk3 ()))
def f_slices_Equal___int_int_ (fu : Nat) (a0 : (List Int)) (a1 : (List Int)) : Option Bool := (bif ((a0.length : Int) != (a1.length : Int)) then (some false) else (lt (fun (_ : Unit) => (some true)) fun (kk3 : Unit → Option Bool) => (f_slices_Equal___int_int__L6 a0 a1 kk3 fu (0 : Int))))
set_option maxRecDepth 100000 in
theorem f_slices_Equal___int_int__ok (fu : Nat) (v0_0 : Value) (a0 : (List Int)) (v1_0 : Value) (a1 : (List Int)) {r : Bool} (h : f_slices_Equal___int_int_ fu a0 a1 = some r) : FnOk Tryd.prog 81 [v0_0, v1_0] [(fDat (tyList (tyInt .i64)) [v0_0] a0), (fDat (tyList (tyInt .i64)) [v1_0] a1)] [] (fun (i : Unit) => { val := (Value.bool r) }) := by
  unfold f_slices_Equal___int_int_ at h
  refine fn_enter Tryd.func81 rfl Tryd.ntmps81 rfl (fun w0 Z0 => ?_)
  refine aw_seq ?_
  refine aw_region ?_
  refine al_val (ov_assign rfl rfl) ?_
  refine al_nil ?_
  refine aq_then ?_
  refine aw_seq ?_
  refine aw_seq ?_
  refine aw_region ?_
  refine al_val (ov_move rfl rfl) ?_
  refine al_val (ov_lenD 0 rfl rfl Tryd.underlying59 rfl) ?_
  refine al_val (ov_move rfl rfl) ?_
  refine al_val (ov_lenD 1 rfl rfl Tryd.underlying59 rfl) ?_
  refine al_val (ov_int rfl rfl rfl rfl) ?_
  refine al_nil ?_
  refine aq_then ?_
  refine aw_cond rfl (fun hb1 => ?_) (fun hb1 => ?_)
  · replace h := bif_t hb1 h
    refine aw_seq ?_
    refine aw_region ?_
    refine al_val (ov_assign rfl rfl) ?_
    refine al_nil ?_
    refine aq_then ?_
    refine aw_ret ?_
    refine aq_then_ret ?_
    obtain rfl := Option.some.inj h
    exact fn_ret () [] [] rfl rfl rfl rfl (res1 rfl rfl) rfl rfl rfl (by decide)
  · replace h := bif_f hb1 h
    refine aw_skip ?_
    refine aq_then ?_
    obtain ⟨kk3, hkk3, h⟩ := lt_some h
    refine aw_seq_join (ι := Unit) (fun i => (memOf w0 Z0 [] [] [(fDat (tyList (tyInt .i64)) [v0_0] a0), (fDat (tyList (tyInt .i64)) [v1_0] a1)])) (fun i => (tab [])) (fun i => kk3 () = some r) ?_ ?_
    · rintro _ h
      have h : kk3 () = some r := h
      rw [hkk3] at h
      dsimp only at h
      clear hkk3
      refine aw_show (m := (memOf w0 Z0 [] [] [(fDat (tyList (tyInt .i64)) [v0_0] a0), (fDat (tyList (tyInt .i64)) [v1_0] a1)])) (S := (tab [])) ?_
      refine aw_seq ?_
      refine aw_region ?_
      refine al_val (ov_assign rfl rfl) ?_
      refine al_nil ?_
      refine aq_then ?_
      refine aw_ret ?_
      obtain rfl := Option.some.inj h
      exact fn_ret () [] [] rfl rfl rfl rfl (res1 rfl rfl) rfl rfl rfl (by decide)
    · clear hkk3
      refine aw_seq ?_
      refine aw_region ?_
      refine al_val (ov_move rfl rfl) ?_
      refine al_val (ov_lenD 0 rfl rfl Tryd.underlying59 rfl) ?_
      refine al_val (ov_move rfl rfl) ?_
      refine al_nil ?_
      refine aq_then ?_
      refine aw_block ?_
      refine aw_state (aw_loop (ι := Int) (fun i => (memOf w0 Z0 [] [] [(fDat (tyList (tyInt .i64)) [v0_0] a0), (fDat (tyList (tyInt .i64)) [v1_0] a1)])) (fun i => (tab [(0, v0_0), (1, v1_0), (12, (Value.int .i64 (a0.length : Int))), (13, (Value.int .i64 i))])) (fun q i => f_slices_Equal___int_int__L6 a0 a1 kk3 q i = some r) ?_ fu (0 : Int) h) (fun w a hm hs => norm hm hs [] [0, 1] [(0, v0_0), (1, v1_0), (12, (Value.int .i64 (a0.length : Int))), (13, (Value.int .i64 (0 : Int)))] (by decide) ⟨rfl, rfl, rfl, rfl, trivial⟩)
      clear h
      rintro k5 l4i13 h
      have h : f_slices_Equal___int_int__L6 a0 a1 kk3 k5 l4i13 = some r := h
      obtain _ | k5 := k5
      · rw [f_slices_Equal___int_int__L6] at h; cases h
      rw [f_slices_Equal___int_int__L6] at h
      refine aw_show (m := (memOf w0 Z0 [] [] [(fDat (tyList (tyInt .i64)) [v0_0] a0), (fDat (tyList (tyInt .i64)) [v1_0] a1)])) (S := (tab [(0, v0_0), (1, v1_0), (12, (Value.int .i64 (a0.length : Int))), (13, (Value.int .i64 l4i13))])) ?_
      refine aw_seq ?_
      refine aw_region ?_
      refine al_val (ov_int rfl rfl rfl rfl) ?_
      refine al_nil ?_
      refine aq_then ?_
      refine aw_seq ?_
      refine aw_cond rfl (fun hb7 => ?_) (fun hb7 => ?_)
      · replace h := bif_t hb7 h
        refine aw_skip ?_
        refine aq_then ?_
        refine aw_seq ?_
        refine aw_block ?_
        refine aw_seq ?_
        refine aw_region ?_
        refine al_val (ov_move rfl rfl) ?_
        refine al_val (ov_assign rfl rfl) ?_
        refine al_nil ?_
        refine aq_then ?_
        refine aw_seq ?_
        obtain ⟨u8, hu9, h⟩ := opt_some h
        obtain ⟨u11, hu12, h⟩ := opt_some h
        refine aw_region_draw 8 [(16, (fun u => fEq u v0_0)), (17, (fun u => fEq u (Value.int .i64 l4i13))), (18, (fun p10 => (fPtr (tyInt .i64) p10 u8))), (19, (fun u => fEq u (Value.int .i64 u8))), (20, (fun u => fEq u v1_0)), (21, (fun u => fEq u (Value.int .i64 l4i13))), (22, (fun p13 => (fPtr (tyInt .i64) p13 u11))), (23, (fun u => fEq u (Value.int .i64 u11)))] (tab [(0, v0_0), (1, v1_0), (5, (Value.int .i64 l4i13)), (12, (Value.int .i64 (a0.length : Int))), (13, (Value.int .i64 l4i13))]) mixed (by kernel_rfl) rfl rfl rfl (fun a hs => hs.tab _ (allT_mem ⟨rfl, rfl, rfl, rfl, rfl, trivial⟩)) ⟨⟨rfl, ld_val (ov_move rfl rfl)⟩, ⟨rfl, ld_val (ov_move rfl rfl)⟩, ⟨rfl, ld_eq (j := 0) rfl rfl (ld_eq (j := 1) rfl rfl (ld_of (of_idxD 0 hu9 rfl rfl rfl Tryd.underlying59 sz3 rfl)))⟩, ⟨rfl, ld_fact (j := 2) rfl rfl (fun p10 => ld_val (ov_loadP (ds := [(Value.int .i64 u8)]) 0 rfl (fun h => h) rfl Tryd.underlying3 sz3 rfl rfl rfl))⟩, ⟨rfl, ld_val (ov_move rfl rfl)⟩, ⟨rfl, ld_val (ov_move rfl rfl)⟩, ⟨rfl, ld_eq (j := 4) rfl rfl (ld_eq (j := 5) rfl rfl (ld_of (of_idxD 1 hu12 rfl rfl rfl Tryd.underlying59 sz3 rfl)))⟩, ⟨rfl, ld_fact (j := 6) rfl rfl (fun p13 => ld_val (ov_loadP (ds := [(Value.int .i64 u11)]) 0 rfl (fun h => h) rfl Tryd.underlying3 sz3 rfl rfl rfl))⟩, trivial⟩ ?_
        refine tl_eq 3 rfl ?_
        refine tl_eq 7 rfl ?_
        refine tl_done ?_
        refine al_val (ov_int rfl rfl rfl rfl) ?_
        refine al_nil ?_
        refine aq_then ?_
        refine aw_cond rfl (fun hb14 => ?_) (fun hb14 => ?_)
        · replace h := bif_t hb14 h
          refine aw_seq ?_
          refine aw_region ?_
          refine al_val (ov_assign rfl rfl) ?_
          refine al_nil ?_
          refine aq_then ?_
          refine aw_ret ?_
          refine aq_block_ret ?_
          refine aq_then_ret ?_
          refine aq_then_ret ?_
          refine aq_block_ret ?_
          refine aq_then_ret ?_
          obtain rfl := Option.some.inj h
          exact fn_ret () [] [] rfl rfl rfl rfl (res1 rfl rfl) rfl rfl rfl (by decide)
        · replace h := bif_f hb14 h
          refine aw_skip ?_
          refine aq_block ?_
          refine aq_then ?_
          refine aw_region ?_
          refine al_val (ov_int rfl rfl rfl rfl) ?_
          refine al_val (ov_move rfl rfl) ?_
          refine al_nil ?_
          exact aq_again k5 (IntKind.i64.wrap (l4i13 + (1 : Int))) (Nat.lt_succ_self _) h (fun w a hm hs => norm hm hs [] [0, 1] [(0, v0_0), (1, v1_0), (12, (Value.int .i64 (a0.length : Int))), (13, (Value.int .i64 (IntKind.i64.wrap (l4i13 + (1 : Int)))))] (by decide) ⟨rfl, rfl, rfl, rfl, trivial⟩)
      · replace h := bif_f hb7 h
        refine aw_exit ?_
        refine aq_then_exit ?_
        refine aq_then_exit ?_
        refine aq_block_exit ?_
        exact aq_join () h (fun w a hm hs => norm hm hs [] [0, 1] [] (by decide) trivial)
def f_slices_Equal___api_Snap_api_Snap__L6 (a0 : (List S_api_Snap)) (a1 : (List S_api_Snap)) (kk3 : (Unit → Option Bool)) : Nat → Int → Option Bool
  | 0, _ => none
  | k5 + 1, l4i13 => (bif (decide (l4i13 < (a0.length : Int))) then (opt (at? a0 l4i13) fun (u8 : S_api_Snap) => (opt (at? a1 l4i13) fun (u11 : S_api_Snap) => (req (u8.Name.length ≤ 9223372036854775807) (req ((Lit.int .i64 u8.Time).wf = true) (req (u11.Name.length ≤ 9223372036854775807) (req ((Lit.int .i64 u11.Time).wf = true) (bif (!(u8 == u11)) then (some false) else (f_slices_Equal___api_Snap_api_Snap__L6 a0 a1 kk3 k5 (IntKind.i64.wrap (l4i13 + (1 : Int))))))))))) else (kk3 ()))
def f_slices_Equal___api_Snap_api_Snap_ (fu : Nat) (a0 : (List S_api_Snap)) (a1 : (List S_api_Snap)) : Option Bool := (bif ((a0.length : Int) != (a1.length : Int)) then (some false) else (lt (fun (_ : Unit) => (some true)) fun (kk3 : Unit → Option Bool) => (f_slices_Equal___api_Snap_api_Snap__L6 a0 a1 kk3 fu (0 : Int))))
set_option maxRecDepth 100000 in
theorem f_slices_Equal___api_Snap_api_Snap__ok (fu : Nat) (v0_0 : Value) (a0 : (List S_api_Snap)) (v1_0 : Value) (a1 : (List S_api_Snap)) {r : Bool} (h : f_slices_Equal___api_Snap_api_Snap_ fu a0 a1 = some r) : FnOk Tryd.prog 82 [v0_0, v1_0] [(fDat (tyList tyS_api_Snap) [v0_0] a0), (fDat (tyList tyS_api_Snap) [v1_0] a1)] [] (fun (i : Unit) => { val := (Value.bool r) }) := by
  unfold f_slices_Equal___api_Snap_api_Snap_ at h
  refine fn_enter Tryd.func82 rfl Tryd.ntmps82 rfl (fun w0 Z0 => ?_)
  refine aw_seq ?_
  refine aw_region ?_
  refine al_val (ov_assign rfl rfl) ?_
  refine al_nil ?_
  refine aq_then ?_
  refine aw_seq ?_
  refine aw_seq ?_
  refine aw_region ?_
  refine al_val (ov_move rfl rfl) ?_
  refine al_val (ov_lenD 0 rfl rfl Tryd.underlying60 rfl) ?_
  refine al_val (ov_move rfl rfl) ?_
  refine al_val (ov_lenD 1 rfl rfl Tryd.underlying60 rfl) ?_
  refine al_val (ov_int rfl rfl rfl rfl) ?_
  refine al_nil ?_
  refine aq_then ?_
  refine aw_cond rfl (fun hb1 => ?_) (fun hb1 => ?_)
  · replace h := bif_t hb1 h
    refine aw_seq ?_
    refine aw_region ?_
    refine al_val (ov_assign rfl rfl) ?_
    refine al_nil ?_
    refine aq_then ?_
    refine aw_ret ?_
    refine aq_then_ret ?_
    obtain rfl := Option.some.inj h
    exact fn_ret () [] [] rfl rfl rfl rfl (res1 rfl rfl) rfl rfl rfl (by decide)
  · replace h := bif_f hb1 h
    refine aw_skip ?_
    refine aq_then ?_
    obtain ⟨kk3, hkk3, h⟩ := lt_some h
    refine aw_seq_join (ι := Unit) (fun i => (memOf w0 Z0 [] [] [(fDat (tyList tyS_api_Snap) [v0_0] a0), (fDat (tyList tyS_api_Snap) [v1_0] a1)])) (fun i => (tab [])) (fun i => kk3 () = some r) ?_ ?_
    · rintro _ h
      have h : kk3 () = some r := h
      rw [hkk3] at h
      dsimp only at h
      clear hkk3
      refine aw_show (m := (memOf w0 Z0 [] [] [(fDat (tyList tyS_api_Snap) [v0_0] a0), (fDat (tyList tyS_api_Snap) [v1_0] a1)])) (S := (tab [])) ?_
      refine aw_seq ?_
      refine aw_region ?_
      refine al_val (ov_assign rfl rfl) ?_
      refine al_nil ?_
      refine aq_then ?_
      refine aw_ret ?_
      obtain rfl := Option.some.inj h
      exact fn_ret () [] [] rfl rfl rfl rfl (res1 rfl rfl) rfl rfl rfl (by decide)
    · clear hkk3
      refine aw_seq ?_
      refine aw_region ?_
      refine al_val (ov_move rfl rfl) ?_
      refine al_val (ov_lenD 0 rfl rfl Tryd.underlying60 rfl) ?_
      refine al_val (ov_move rfl rfl) ?_
      refine al_nil ?_
      refine aq_then ?_
      refine aw_block ?_
      refine aw_state (aw_loop (ι := Int) (fun i => (memOf w0 Z0 [] [] [(fDat (tyList tyS_api_Snap) [v0_0] a0), (fDat (tyList tyS_api_Snap) [v1_0] a1)])) (fun i => (tab [(0, v0_0), (1, v1_0), (12, (Value.int .i64 (a0.length : Int))), (13, (Value.int .i64 i))])) (fun q i => f_slices_Equal___api_Snap_api_Snap__L6 a0 a1 kk3 q i = some r) ?_ fu (0 : Int) h) (fun w a hm hs => norm hm hs [] [0, 1] [(0, v0_0), (1, v1_0), (12, (Value.int .i64 (a0.length : Int))), (13, (Value.int .i64 (0 : Int)))] (by decide) ⟨rfl, rfl, rfl, rfl, trivial⟩)
      clear h
      rintro k5 l4i13 h
      have h : f_slices_Equal___api_Snap_api_Snap__L6 a0 a1 kk3 k5 l4i13 = some r := h
      obtain _ | k5 := k5
      · rw [f_slices_Equal___api_Snap_api_Snap__L6] at h; cases h
      rw [f_slices_Equal___api_Snap_api_Snap__L6] at h
      refine aw_show (m := (memOf w0 Z0 [] [] [(fDat (tyList tyS_api_Snap) [v0_0] a0), (fDat (tyList tyS_api_Snap) [v1_0] a1)])) (S := (tab [(0, v0_0), (1, v1_0), (12, (Value.int .i64 (a0.length : Int))), (13, (Value.int .i64 l4i13))])) ?_
      refine aw_seq ?_
      refine aw_region ?_
      refine al_val (ov_int rfl rfl rfl rfl) ?_
      refine al_nil ?_
      refine aq_then ?_
      refine aw_seq ?_
      refine aw_cond rfl (fun hb7 => ?_) (fun hb7 => ?_)
      · replace h := bif_t hb7 h
        refine aw_skip ?_
        refine aq_then ?_
        refine aw_seq ?_
        refine aw_block ?_
        refine aw_seq ?_
        refine aw_region ?_
        refine al_val (ov_move rfl rfl) ?_
        refine al_val (ov_assign rfl rfl) ?_
        refine al_nil ?_
        refine aq_then ?_
        refine aw_seq ?_
        obtain ⟨u8, hu9, h⟩ := opt_some h
        obtain ⟨u11, hu12, h⟩ := opt_some h
        refine aw_region_draw 8 [(16, (fun u => fEq u v0_0)), (17, (fun u => fEq u (Value.int .i64 l4i13))), (18, (fun p10 => (fPtr tyS_api_Snap p10 u8))), (19, (fun u => fEq u (ag ([(str u8.Name), (Value.int .i64 u8.Time)] ++ (cA8u8 u8.Root))))), (20, (fun u => fEq u v1_0)), (21, (fun u => fEq u (Value.int .i64 l4i13))), (22, (fun p13 => (fPtr tyS_api_Snap p13 u11))), (23, (fun u => fEq u (ag ([(str u11.Name), (Value.int .i64 u11.Time)] ++ (cA8u8 u11.Root)))))] (tab [(0, v0_0), (1, v1_0), (5, (Value.int .i64 l4i13)), (12, (Value.int .i64 (a0.length : Int))), (13, (Value.int .i64 l4i13))]) mixed (by kernel_rfl) rfl rfl rfl (fun a hs => hs.tab _ (allT_mem ⟨rfl, rfl, rfl, rfl, rfl, trivial⟩)) ⟨⟨rfl, ld_val (ov_move rfl rfl)⟩, ⟨rfl, ld_val (ov_move rfl rfl)⟩, ⟨rfl, ld_eq (j := 0) rfl rfl (ld_eq (j := 1) rfl rfl (ld_of (of_idxD 0 hu9 rfl rfl rfl Tryd.underlying60 sz104 rfl)))⟩, ⟨rfl, ld_fact (j := 2) rfl rfl (fun p10 => ld_val (ov_loadP (ds := ([(str u8.Name), (Value.int .i64 u8.Time)] ++ (cA8u8 u8.Root))) 0 rfl encS_api_Snap rfl Tryd.underlying104 sz104 rfl rfl rfl))⟩, ⟨rfl, ld_val (ov_move rfl rfl)⟩, ⟨rfl, ld_val (ov_move rfl rfl)⟩, ⟨rfl, ld_eq (j := 4) rfl rfl (ld_eq (j := 5) rfl rfl (ld_of (of_idxD 1 hu12 rfl rfl rfl Tryd.underlying60 sz104 rfl)))⟩, ⟨rfl, ld_fact (j := 6) rfl rfl (fun p13 => ld_val (ov_loadP (ds := ([(str u11.Name), (Value.int .i64 u11.Time)] ++ (cA8u8 u11.Root))) 0 rfl encS_api_Snap rfl Tryd.underlying104 sz104 rfl rfl rfl))⟩, trivial⟩ ?_
        refine tl_eq 3 rfl ?_
        refine tl_eq 7 rfl ?_
        refine tl_done ?_
        obtain ⟨hc14, h⟩ := req_some h
        obtain ⟨hc15, h⟩ := req_some h
        obtain ⟨hc16, h⟩ := req_some h
        obtain ⟨hc17, h⟩ := req_some h
        refine al_val (ov_neqA (cs := ([(str u8.Name), (Value.int .i64 u8.Time)] ++ (cA8u8 u8.Root))) (ds := ([(str u11.Name), (Value.int .i64 u11.Time)] ++ (cA8u8 u11.Root))) (ls := [9, 3, 5, 5, 5, 5, 5, 5, 5, 5]) (p := (u8 == u11)) eg104 kt104 lv104 rfl rfl (by kernel_rfl) (by kernel_rfl) (fit_cons (fit_str Tryd.underlying9 hc14) (fit_cons (fit_int Tryd.underlying3 hc15) (fit_cons (fit_u8 Tryd.underlying5) (fit_cons (fit_u8 Tryd.underlying5) (fit_cons (fit_u8 Tryd.underlying5) (fit_cons (fit_u8 Tryd.underlying5) (fit_cons (fit_u8 Tryd.underlying5) (fit_cons (fit_u8 Tryd.underlying5) (fit_cons (fit_u8 Tryd.underlying5) (fit_cons (fit_u8 Tryd.underlying5) fit_nil)))))))))) (fit_cons (fit_str Tryd.underlying9 hc16) (fit_cons (fit_int Tryd.underlying3 hc17) (fit_cons (fit_u8 Tryd.underlying5) (fit_cons (fit_u8 Tryd.underlying5) (fit_cons (fit_u8 Tryd.underlying5) (fit_cons (fit_u8 Tryd.underlying5) (fit_cons (fit_u8 Tryd.underlying5) (fit_cons (fit_u8 Tryd.underlying5) (fit_cons (fit_u8 Tryd.underlying5) (fit_cons (fit_u8 Tryd.underlying5) fit_nil)))))))))) (injS_api_Snap (x := u8) (y := u11)) rfl) ?_
        refine al_nil ?_
        refine aq_then ?_
        refine aw_cond rfl (fun hb18 => ?_) (fun hb18 => ?_)
        · replace h := bif_t hb18 h
          refine aw_seq ?_
          refine aw_region ?_
          refine al_val (ov_assign rfl rfl) ?_
          refine al_nil ?_
          refine aq_then ?_
          refine aw_ret ?_
          refine aq_block_ret ?_
          refine aq_then_ret ?_
          refine aq_then_ret ?_
          refine aq_block_ret ?_
          refine aq_then_ret ?_
          obtain rfl := Option.some.inj h
          exact fn_ret () [] [] rfl rfl rfl rfl (res1 rfl rfl) rfl rfl rfl (by decide)
        · replace h := bif_f hb18 h
          refine aw_skip ?_
          refine aq_block ?_
          refine aq_then ?_
          refine aw_region ?_
          refine al_val (ov_int rfl rfl rfl rfl) ?_
          refine al_val (ov_move rfl rfl) ?_
          refine al_nil ?_
          exact aq_again k5 (IntKind.i64.wrap (l4i13 + (1 : Int))) (Nat.lt_succ_self _) h (fun w a hm hs => norm hm hs [] [0, 1] [(0, v0_0), (1, v1_0), (12, (Value.int .i64 (a0.length : Int))), (13, (Value.int .i64 (IntKind.i64.wrap (l4i13 + (1 : Int)))))] (by decide) ⟨rfl, rfl, rfl, rfl, trivial⟩)
      · replace h := bif_f hb7 h
        refine aw_exit ?_
        refine aq_then_exit ?_
        refine aq_then_exit ?_
        refine aq_block_exit ?_
        exact aq_join () h (fun w a hm hs => norm hm hs [] [0, 1] [] (by decide) trivial)
def f_lumlaw_SameHead (fu : Nat) (a0 : S_api_Head) (a1 : S_api_Head) : Option Bool := (lt (fun (j3b4 : Bool) => (some j3b4)) fun (kk4 : Bool → Option Bool) => (bif (a0.Next == a1.Next) then (opt (f_slices_Equal___int_int_ fu a0.Packs a1.Packs) fun (r7 : Bool) => (bif r7 then (opt (f_slices_Equal___api_Snap_api_Snap_ fu a0.Snaps a1.Snaps) fun (r10 : Bool) => (kk4 r10)) else (kk4 false))) else (kk4 false)))
set_option maxRecDepth 100000 in
theorem f_lumlaw_SameHead_ok (fu : Nat) (v0_1 : Value) (v0_2 : Value) (a0 : S_api_Head) (v1_1 : Value) (v1_2 : Value) (a1 : S_api_Head) {r : Bool} (h : f_lumlaw_SameHead fu a0 a1 = some r) : FnOk Tryd.prog 37 [(ag [(Value.int .i64 a0.Next), v0_1, v0_2]), (ag [(Value.int .i64 a1.Next), v1_1, v1_2])] [(fDat (tyList (tyInt .i64)) [v0_1] a0.Packs), (fDat (tyList tyS_api_Snap) [v0_2] a0.Snaps), (fDat (tyList (tyInt .i64)) [v1_1] a1.Packs), (fDat (tyList tyS_api_Snap) [v1_2] a1.Snaps)] [] (fun (i : Unit) => { val := (Value.bool r) }) := by
  unfold f_lumlaw_SameHead at h
  refine fn_enter Tryd.func37 rfl Tryd.ntmps37 rfl (fun w0 Z0 => ?_)
  refine aw_seq ?_
  refine aw_region ?_
  refine al_box (vs := [(Value.int .i64 a0.Next), v0_1, v0_2]) rfl (cv_rfl rfl) rfl (fun g1 => ?_)
  refine al_box (vs := [(Value.int .i64 a1.Next), v1_1, v1_2]) rfl (cv_rfl rfl) rfl (fun g2 => ?_)
  refine al_val (ov_assign rfl rfl) ?_
  refine al_nil ?_
  refine aq_then ?_
  obtain ⟨kk4, hkk4, h⟩ := lt_some h
  refine aw_seq_join (ι := Bool) (fun i => (memOf w0 Z0 [] [] [(fDat (tyList (tyInt .i64)) [v0_1] a0.Packs), (fDat (tyList tyS_api_Snap) [v0_2] a0.Snaps), (fDat (tyList (tyInt .i64)) [v1_1] a1.Packs), (fDat (tyList tyS_api_Snap) [v1_2] a1.Snaps)])) (fun i => (tab [(4, (Value.bool i))])) (fun i => kk4 i = some r) ?_ ?_
  · rintro j3b4 h
    have h : kk4 j3b4 = some r := h
    rw [hkk4] at h
    dsimp only at h
    clear hkk4
    refine aw_show (m := (memOf w0 Z0 [] [] [(fDat (tyList (tyInt .i64)) [v0_1] a0.Packs), (fDat (tyList tyS_api_Snap) [v0_2] a0.Snaps), (fDat (tyList (tyInt .i64)) [v1_1] a1.Packs), (fDat (tyList tyS_api_Snap) [v1_2] a1.Snaps)])) (S := (tab [(4, (Value.bool j3b4))])) ?_
    refine aw_ret ?_
    obtain rfl := Option.some.inj h
    exact fn_ret () [] [] rfl rfl rfl rfl (res1 rfl rfl) rfl rfl rfl (by decide)
  · clear hkk4
    refine aw_region ?_
    refine al_val (ov_fieldA (p := 0) rfl Tryd.underlying62 rfl sz3 rfl rfl rfl) ?_
    refine al_val (ov_load (i := 1) (v := (Value.int .i64 a0.Next)) rfl rfl Tryd.underlying3 sz3 rfl rfl rfl rfl) ?_
    refine al_val (ov_fieldA (p := 0) rfl Tryd.underlying62 rfl sz3 rfl rfl rfl) ?_
    refine al_val (ov_load (i := 0) (v := (Value.int .i64 a1.Next)) rfl rfl Tryd.underlying3 sz3 rfl rfl rfl rfl) ?_
    refine al_val (ov_int rfl rfl rfl rfl) ?_
    refine al_val (ov_move rfl rfl) ?_
    refine al_caseB 10 rfl (fun hb5 => ?_) (fun hb5 => ?_)
    · replace h := bif_t hb5 h
      refine al_val (ov_fieldA (p := 1) rfl Tryd.underlying62 rfl sz59 rfl rfl rfl) ?_
      refine al_val (ov_load (i := 1) (v := v0_1) rfl rfl Tryd.underlying59 sz59 rfl rfl rfl rfl) ?_
      refine al_val (ov_fieldA (p := 1) rfl Tryd.underlying62 rfl sz59 rfl rfl rfl) ?_
      refine al_val (ov_load (i := 0) (v := v1_1) rfl rfl Tryd.underlying59 sz59 rfl rfl rfl rfl) ?_
      obtain ⟨r7, hc6, h⟩ := opt_some h
      refine al_call (vs := [v0_1, v1_1]) (f_slices_Equal___int_int__ok fu v0_1 a0.Packs v1_1 a1.Packs hc6) [] [] [0, 1] (pre_fz 0 rfl (pre_fz 2 rfl pre_nil)) rfl (by simp) (by decide) (.inl rfl) rfl Tryd.func81 rfl rfl rfl (fun _ => ?_)
      refine al_val (ov_pick_t rfl rfl rfl) ?_
      refine al_val (ov_move rfl rfl) ?_
      refine al_caseB 17 rfl (fun hb8 => ?_) (fun hb8 => ?_)
      · replace h := bif_t hb8 h
        refine al_val (ov_fieldA (p := 2) rfl Tryd.underlying62 rfl sz60 rfl rfl rfl) ?_
        refine al_val (ov_load (i := 1) (v := v0_2) rfl rfl Tryd.underlying60 sz60 rfl rfl rfl rfl) ?_
        refine al_val (ov_fieldA (p := 2) rfl Tryd.underlying62 rfl sz60 rfl rfl rfl) ?_
        refine al_val (ov_load (i := 0) (v := v1_2) rfl rfl Tryd.underlying60 sz60 rfl rfl rfl rfl) ?_
        obtain ⟨r10, hc9, h⟩ := opt_some h
        refine al_call (vs := [v0_2, v1_2]) (f_slices_Equal___api_Snap_api_Snap__ok fu v0_2 a0.Snaps v1_2 a1.Snaps hc9) [] [] [0, 1] (pre_fz 1 rfl (pre_fz 3 rfl pre_nil)) rfl (by simp) (by decide) (.inl rfl) rfl Tryd.func82 rfl rfl rfl (fun _ => ?_)
        refine al_val (ov_pick_t rfl rfl rfl) ?_
        refine al_val (ov_assign rfl rfl) ?_
        refine al_nil ?_
        exact aq_join r10 h (fun w a hm hs => norm hm hs [] [0, 1, 2, 3] [(4, (Value.bool r10))] (by decide) ⟨rfl, trivial⟩)
      · replace h := bif_f hb8 h
        refine al_skip ?_
        refine al_skip ?_
        refine al_skip ?_
        refine al_skip ?_
        refine al_skip ?_
        refine al_val (ov_pick_f rfl rfl rfl) ?_
        refine al_val (ov_assign rfl rfl) ?_
        refine al_nil ?_
        exact aq_join false h (fun w a hm hs => norm hm hs [] [0, 1, 2, 3] [(4, (Value.bool false))] (by decide) ⟨rfl, trivial⟩)
    · replace h := bif_f hb5 h
      refine al_skip ?_
      refine al_skip ?_
      refine al_skip ?_
      refine al_skip ?_
      refine al_skip ?_
      refine al_val (ov_pick_f rfl rfl rfl) ?_
      refine al_val (ov_move rfl rfl) ?_
      refine al_skip ?_
      refine al_skip ?_
      refine al_skip ?_
      refine al_skip ?_
      refine al_skip ?_
      refine al_val (ov_pick_f rfl rfl rfl) ?_
      refine al_val (ov_assign rfl rfl) ?_
      refine al_nil ?_
      exact aq_join false h (fun w a hm hs => norm hm hs [] [0, 1, 2, 3] [(4, (Value.bool false))] (by decide) ⟨rfl, trivial⟩)
def f_lumlaw_RoomHeads (fu : Nat) (a0 : S_api_Head) (a1 : (List UInt8)) : Option Bool := (opt (f_lumref_HeadErr fu a0) fun (r3 : Int) => (opt (f_room_Write fu a0) fun (r5 : ((List UInt8) × Int)) => (lt (fun (j6s8 : (List UInt8)) => (opt (f_room_Read fu a1) fun (r9 : (S_api_Head × Int)) => (opt (f_lumref_HeadRead fu a1) fun (r14 : (S_api_Head × Int)) => (lt (fun (j18b4 : Bool) => (some j18b4)) fun (kk19 : Bool → Option Bool) => (bif (r5.1 == j6s8) then (bif (r5.2 == r3) then (opt (f_lumlaw_SameHead fu (S_api_Head.mk r9.1.Next r9.1.Packs r9.1.Snaps) (S_api_Head.mk r14.1.Next r14.1.Packs r14.1.Snaps)) fun (r23 : Bool) => (bif r23 then (kk19 (r9.2 == r14.2)) else (kk19 false))) else (kk19 false)) else (kk19 false)))))) fun (kk7 : (List UInt8) → Option Bool) => (bif (r3 == (0 : Int)) then (opt (f_lumref_HeadText fu a0) fun (r27 : (List UInt8)) => (kk7 r27)) else (kk7 ([] : List UInt8))))))
set_option maxRecDepth 100000 in
theorem f_lumlaw_RoomHeads_ok (fu : Nat) (v0_1 : Value) (v0_2 : Value) (a0 : S_api_Head) (a1 : (List UInt8)) {r : Bool} (h : f_lumlaw_RoomHeads fu a0 a1 = some r) : FnOk Tryd.prog 7 [(ag [(Value.int .i64 a0.Next), v0_1, v0_2]), (str a1)] [(fDat (tyList (tyInt .i64)) [v0_1] a0.Packs), (fDat (tyList tyS_api_Snap) [v0_2] a0.Snaps), uMax, uTabs] [] (fun (i : Unit) => { val := (Value.bool r) }) := by
  unfold f_lumlaw_RoomHeads at h
  refine fn_enter Tryd.func7 rfl Tryd.ntmps7 rfl (fun w0 Z0 => ?_)
  refine aw_seq ?_
  refine aw_region ?_
  refine al_box (vs := [(Value.int .i64 a0.Next), v0_1, v0_2]) rfl (cv_rfl rfl) rfl (fun g1 => ?_)
  refine al_val (ov_assign rfl rfl) ?_
  refine al_nil ?_
  refine aq_then ?_
  refine aw_seq ?_
  refine aw_region ?_
  refine al_val (ov_load (i := 0) (v := (ag [(Value.int .i64 a0.Next), v0_1, v0_2])) rfl rfl Tryd.underlying62 sz62 rfl rfl rfl rfl) ?_
  obtain ⟨r3, hc2, h⟩ := opt_some h
  refine al_call (vs := [(ag [(Value.int .i64 a0.Next), v0_1, v0_2])]) (f_lumref_HeadErr_ok fu v0_1 v0_2 a0 hc2) [] [] [0] (pre_fz 0 rfl (pre_fz 1 rfl pre_nil)) rfl (by simp) (by decide) (.inl rfl) rfl Tryd.func32 rfl rfl rfl (fun _ => ?_)
  refine al_val (ov_assign rfl rfl) ?_
  refine al_nil ?_
  refine aq_then ?_
  refine aw_seq ?_
  refine aw_region ?_
  refine al_val (ov_load (i := 0) (v := (ag [(Value.int .i64 a0.Next), v0_1, v0_2])) rfl rfl Tryd.underlying62 sz62 rfl rfl rfl rfl) ?_
  obtain ⟨r5, hc4, h⟩ := opt_some h
  refine al_call (vs := [(ag [(Value.int .i64 a0.Next), v0_1, v0_2])]) (f_room_Write_ok fu v0_1 v0_2 a0 hc4) [] [] [0] (pre_fz 0 rfl (pre_fz 1 rfl (pre_fz 2 rfl (pre_fz 3 rfl pre_nil)))) rfl (by simp) (by decide) (.inl rfl) rfl Tryd.func33 rfl rfl rfl (fun _ => ?_)
  refine al_val (ov_move rfl rfl) ?_
  refine al_val (ov_extract rfl rfl rfl) ?_
  refine al_val (ov_extract rfl rfl rfl) ?_
  refine al_val (ov_assign rfl rfl) ?_
  refine al_val (ov_assign rfl rfl) ?_
  refine al_nil ?_
  refine aq_then ?_
  refine aw_seq ?_
  refine aw_region ?_
  refine al_val (ov_assign rfl rfl) ?_
  refine al_nil ?_
  refine aq_then ?_
  obtain ⟨kk7, hkk7, h⟩ := lt_some h
  refine aw_seq_join (ι := (List UInt8)) (fun i => (memOf w0 Z0 [] [] [(fDat (tyList (tyInt .i64)) [v0_1] a0.Packs), (fDat (tyList tyS_api_Snap) [v0_2] a0.Snaps), uMax, uTabs])) (fun i => (tab [(1, (str a1)), (5, (Value.int .i64 r3)), (6, (str r5.1)), (7, (Value.int .i64 r5.2)), (8, (str i))])) (fun i => kk7 i = some r) ?_ ?_
  · rintro j6s8 h
    have h : kk7 j6s8 = some r := h
    rw [hkk7] at h
    dsimp only at h
    clear hkk7
    refine aw_show (m := (memOf w0 Z0 [] [] [(fDat (tyList (tyInt .i64)) [v0_1] a0.Packs), (fDat (tyList tyS_api_Snap) [v0_2] a0.Snaps), uMax, uTabs])) (S := (tab [(1, (str a1)), (5, (Value.int .i64 r3)), (6, (str r5.1)), (7, (Value.int .i64 r5.2)), (8, (str j6s8))])) ?_
    refine aw_seq ?_
    refine aw_region ?_
    refine al_val (ov_move rfl rfl) ?_
    obtain ⟨r9, hc8, h⟩ := opt_some h
    refine al_call (vs := [(str a1)]) (f_room_Read_ok fu a1 hc8) [] [] [] (pre_fz 2 rfl (pre_fz 3 rfl pre_nil)) rfl (by simp) (by decide) (.inl rfl) rfl Tryd.func35 rfl rfl rfl (fun ⟨v10, v11⟩ => ?_)
    refine al_val (ov_move rfl rfl) ?_
    refine al_val (ov_extract rfl rfl rfl) ?_
    refine al_val (ov_extract rfl rfl rfl) ?_
    refine al_alloc (zs := [(Value.int .i64 (0 : Int)), (Value.slice none 0 0), (Value.slice none 0 0)]) (zeroOf_to to62) rfl rfl (fun g12 => ?_)
    refine al_store (i := 0) (vs := [(Value.int .i64 r9.1.Next), v10, v11]) (cs' := [(Value.int .i64 r9.1.Next), v10, v11]) rfl rfl rfl sz62 (cv_rfl rfl) rfl (co_val rfl (co_fz 0 rfl (co_fz 1 rfl co_nil))) (Nat.le_of_ble_eq_true rfl) rfl rfl ?_
    refine al_val (ov_assign rfl rfl) ?_
    refine al_nil ?_
    refine aq_then ?_
    refine aw_seq ?_
    refine aw_region ?_
    refine al_val (ov_move rfl rfl) ?_
    obtain ⟨r14, hc13, h⟩ := opt_some h
    refine al_call (vs := [(str a1)]) (f_lumref_HeadRead_ok fu a1 hc13) [] [] [0] (pre_fz 4 rfl pre_nil) rfl (by simp) (by decide) (.inl rfl) rfl Tryd.func36 rfl rfl rfl (fun ⟨v15, v16⟩ => ?_)
    refine al_val (ov_move rfl rfl) ?_
    refine al_val (ov_extract rfl rfl rfl) ?_
    refine al_val (ov_extract rfl rfl rfl) ?_
    refine al_alloc (zs := [(Value.int .i64 (0 : Int)), (Value.slice none 0 0), (Value.slice none 0 0)]) (zeroOf_to to62) rfl rfl (fun g17 => ?_)
    refine al_store (i := 0) (vs := [(Value.int .i64 r14.1.Next), v15, v16]) (cs' := [(Value.int .i64 r14.1.Next), v15, v16]) rfl rfl rfl sz62 (cv_rfl rfl) rfl (co_val rfl (co_fz 0 rfl (co_fz 1 rfl co_nil))) (Nat.le_of_ble_eq_true rfl) rfl rfl ?_
    refine al_val (ov_assign rfl rfl) ?_
    refine al_nil ?_
    refine aq_then ?_
    obtain ⟨kk19, hkk19, h⟩ := lt_some h
    refine aw_seq_join (ι := Bool) (fun i => (memOf w0 Z0 [] [] [(fDat (tyList (tyInt .i64)) [v15] r14.1.Packs), (fDat (tyList tyS_api_Snap) [v16] r14.1.Snaps), (fDat (tyList (tyInt .i64)) [v10] r9.1.Packs), (fDat (tyList tyS_api_Snap) [v11] r9.1.Snaps), (fDat (tyList (tyInt .i64)) [v0_1] a0.Packs), (fDat (tyList tyS_api_Snap) [v0_2] a0.Snaps), uMax, uTabs])) (fun i => (tab [(4, (Value.bool i))])) (fun i => kk19 i = some r) ?_ ?_
    · rintro j18b4 h
      have h : kk19 j18b4 = some r := h
      rw [hkk19] at h
      dsimp only at h
      clear hkk19
      refine aw_show (m := (memOf w0 Z0 [] [] [(fDat (tyList (tyInt .i64)) [v15] r14.1.Packs), (fDat (tyList tyS_api_Snap) [v16] r14.1.Snaps), (fDat (tyList (tyInt .i64)) [v10] r9.1.Packs), (fDat (tyList tyS_api_Snap) [v11] r9.1.Snaps), (fDat (tyList (tyInt .i64)) [v0_1] a0.Packs), (fDat (tyList tyS_api_Snap) [v0_2] a0.Snaps), uMax, uTabs])) (S := (tab [(4, (Value.bool j18b4))])) ?_
      refine aw_ret ?_
      obtain rfl := Option.some.inj h
      exact fn_ret () [] [] rfl rfl rfl rfl (res1 rfl rfl) rfl rfl rfl (by decide)
    · clear hkk19
      refine aw_region ?_
      refine al_val (ov_move rfl rfl) ?_
      refine al_val (ov_move rfl rfl) ?_
      refine al_val (ov_strCmp rfl rfl rfl rfl) ?_
      refine al_val (ov_move rfl rfl) ?_
      refine al_caseB 37 rfl (fun hb20 => ?_) (fun hb20 => ?_)
      · replace h := bif_t hb20 h
        refine al_val (ov_move rfl rfl) ?_
        refine al_val (ov_move rfl rfl) ?_
        refine al_val (ov_int rfl rfl rfl rfl) ?_
        refine al_val (ov_pick_t rfl rfl rfl) ?_
        refine al_val (ov_move rfl rfl) ?_
        refine al_caseB 42 rfl (fun hb21 => ?_) (fun hb21 => ?_)
        · replace h := bif_t hb21 h
          refine al_val (ov_load (i := 1) (v := (ag [(Value.int .i64 r9.1.Next), v10, v11])) rfl rfl Tryd.underlying62 sz62 rfl rfl rfl rfl) ?_
          refine al_val (ov_load (i := 0) (v := (ag [(Value.int .i64 r14.1.Next), v15, v16])) rfl rfl Tryd.underlying62 sz62 rfl rfl rfl rfl) ?_
          obtain ⟨r23, hc22, h⟩ := opt_some h
          refine al_call (vs := [(ag [(Value.int .i64 r9.1.Next), v10, v11]), (ag [(Value.int .i64 r14.1.Next), v15, v16])]) (f_lumlaw_SameHead_ok fu v10 v11 (S_api_Head.mk r9.1.Next r9.1.Packs r9.1.Snaps) v15 v16 (S_api_Head.mk r14.1.Next r14.1.Packs r14.1.Snaps) hc22) [] [] [0, 1] (pre_fz 2 rfl (pre_fz 3 rfl (pre_fz 0 rfl (pre_fz 1 rfl pre_nil)))) rfl (by simp) (by decide) (.inl rfl) rfl Tryd.func37 rfl rfl rfl (fun _ => ?_)
          refine al_val (ov_pick_t rfl rfl rfl) ?_
          refine al_val (ov_move rfl rfl) ?_
          refine al_caseB 47 rfl (fun hb24 => ?_) (fun hb24 => ?_)
          · replace h := bif_t hb24 h
            refine al_val (ov_move rfl rfl) ?_
            refine al_val (ov_move rfl rfl) ?_
            refine al_val (ov_int rfl rfl rfl rfl) ?_
            refine al_val (ov_pick_t rfl rfl rfl) ?_
            refine al_val (ov_assign rfl rfl) ?_
            refine al_nil ?_
            exact aq_join (r9.2 == r14.2) h (fun w a hm hs => norm hm hs [] [0, 1, 2, 3, 4, 5, 6, 7] [(4, (Value.bool (r9.2 == r14.2)))] (by decide) ⟨rfl, trivial⟩)
          · replace h := bif_f hb24 h
            refine al_skip ?_
            refine al_skip ?_
            refine al_skip ?_
            refine al_val (ov_pick_f rfl rfl rfl) ?_
            refine al_val (ov_assign rfl rfl) ?_
            refine al_nil ?_
            exact aq_join false h (fun w a hm hs => norm hm hs [] [0, 1, 2, 3, 4, 5, 6, 7] [(4, (Value.bool false))] (by decide) ⟨rfl, trivial⟩)
        · replace h := bif_f hb21 h
          refine al_skip ?_
          refine al_skip ?_
          refine al_skip ?_
          refine al_val (ov_pick_f rfl rfl rfl) ?_
          refine al_val (ov_move rfl rfl) ?_
          refine al_skip ?_
          refine al_skip ?_
          refine al_skip ?_
          refine al_val (ov_pick_f rfl rfl rfl) ?_
          refine al_val (ov_assign rfl rfl) ?_
          refine al_nil ?_
          exact aq_join false h (fun w a hm hs => norm hm hs [] [0, 1, 2, 3, 4, 5, 6, 7] [(4, (Value.bool false))] (by decide) ⟨rfl, trivial⟩)
      · replace h := bif_f hb20 h
        refine al_skip ?_
        refine al_skip ?_
        refine al_skip ?_
        refine al_val (ov_pick_f rfl rfl rfl) ?_
        refine al_val (ov_move rfl rfl) ?_
        refine al_skip ?_
        refine al_skip ?_
        refine al_skip ?_
        refine al_val (ov_pick_f rfl rfl rfl) ?_
        refine al_val (ov_move rfl rfl) ?_
        refine al_skip ?_
        refine al_skip ?_
        refine al_skip ?_
        refine al_val (ov_pick_f rfl rfl rfl) ?_
        refine al_val (ov_assign rfl rfl) ?_
        refine al_nil ?_
        exact aq_join false h (fun w a hm hs => norm hm hs [] [0, 1, 2, 3, 4, 5, 6, 7] [(4, (Value.bool false))] (by decide) ⟨rfl, trivial⟩)
  · clear hkk7
    refine aw_seq ?_
    refine aw_region ?_
    refine al_val (ov_move rfl rfl) ?_
    refine al_val (ov_int rfl rfl rfl rfl) ?_
    refine al_nil ?_
    refine aq_then ?_
    refine aw_cond rfl (fun hb25 => ?_) (fun hb25 => ?_)
    · replace h := bif_t hb25 h
      refine aw_region ?_
      refine al_val (ov_load (i := 0) (v := (ag [(Value.int .i64 a0.Next), v0_1, v0_2])) rfl rfl Tryd.underlying62 sz62 rfl rfl rfl rfl) ?_
      obtain ⟨r27, hc26, h⟩ := opt_some h
      refine al_call (vs := [(ag [(Value.int .i64 a0.Next), v0_1, v0_2])]) (f_lumref_HeadText_ok fu v0_1 v0_2 a0 hc26) [] [] [0] (pre_fz 0 rfl (pre_fz 1 rfl (pre_fz 2 rfl pre_nil))) rfl (by simp) (by decide) (.inl rfl) rfl Tryd.func34 rfl rfl rfl (fun _ => ?_)
      refine al_val (ov_assign rfl rfl) ?_
      refine al_nil ?_
      exact aq_join r27 h (fun w a hm hs => norm hm hs [] [0, 1, 2, 3] [(1, (str a1)), (5, (Value.int .i64 r3)), (6, (str r5.1)), (7, (Value.int .i64 r5.2)), (8, (str r27))] (by decide) ⟨rfl, rfl, rfl, rfl, rfl, trivial⟩)
    · replace h := bif_f hb25 h
      refine aw_skip ?_
      exact aq_join ([] : List UInt8) h (fun w a hm hs => norm hm hs [] [0, 1, 2, 3] [(1, (str a1)), (5, (Value.int .i64 r3)), (6, (str r5.1)), (7, (Value.int .i64 r5.2)), (8, (str ([] : List UInt8)))] (by decide) ⟨rfl, rfl, rfl, rfl, rfl, trivial⟩)
end Go.Proofs.YtjbgahmcobcojaaDoor
