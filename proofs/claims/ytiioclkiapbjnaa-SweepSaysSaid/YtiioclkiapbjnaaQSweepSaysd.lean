/- What SweepSays leans on, part 4. No condition. -/
import Derived.Test.YtiioclkiapbjnaaQSweepSaysc
import Derived.Test.YtiioclkiapbjnaaChecked
import Derived.IntWalk
namespace Go.Proofs.Ytiioclkiapbjnaa
open Go.RowKit Ytiioclkiapbjnaa.En
set_option linter.unusedVariables false
set_option linter.unusedSimpArgs false
open Go.Value (int bool)
set_option maxRecDepth 100000 in
set_option maxHeartbeats 2000000 in
set_option maxHeartbeats 2000000 in
theorem f_lumref_Sweep_ok (fu : Nat) (v0_0 : Value) (v0_1 : Value) (a0 : S_api_Heap) (a1 : S_api_Act) {r : (S_api_Heap × Int)} (h : f_lumref_Sweep fu a0 a1 = some r) : FnOk Try.prog 12 [(ag [v0_0, v0_1, (bool a0.Busy)]), (ag [(int .i64 a1.Kind), (int .i64 a1.From), (int .i64 a1.To)])] [(fDat (tyList tyS_api_Thing) [v0_0] a0.Things), (fDat (tyList (tyInt .i64)) [v0_1] a0.Roots)] [] (fun (i : Value × Value) => { val := (Value.tuple #[(ag [i.1, i.2, (bool r.1.Busy)]), (int .i64 r.2)]), fz := [(fDat (tyList tyS_api_Thing) [i.1] r.1.Things), (fDat (tyList (tyInt .i64)) [i.2] r.1.Roots)] }) := by
 unfold f_lumref_Sweep at h
 refine fn_enter Try.func12 rfl Try.ntmps12 rfl (fun w0 Z0 => ?_)
 refine aw_sr ?_
 refine al_box (vs := [v0_0, v0_1, (bool a0.Busy)]) rfl (cv_rfl rfl) rfl (fun g1 => ?_)
 refine al_box (vs := [(iq a1.Kind), (iq a1.From), (iq a1.To)]) rfl (cv_rfl rfl) rfl (fun g2 => ?_)
 refine al_alloc (zs := [nS, nS, (bool false)]) (zeroOf_to to38) rfl rfl (fun g3 => ?_)
 refine an_ ?_
 refine aw_seq ?_
 refine aw_sr ?_
 refine al_val (ov_load (i := 2) (v := (ag [v0_0, v0_1, (bool a0.Busy)])) rfl rfl Try.underlying38 sz38 rfl rfl rfl rfl) ?_
 obtain ⟨r5, hc4, h⟩ := opt_some h
 refine al_call (vs := [(ag [v0_0, v0_1, (bool a0.Busy)])]) (f_lumref_Heap_ok fu v0_0 v0_1 a0 hc4) [] [] [0, 1, 2] (pre_fz 0 rfl (pre_fz 1 rfl pre_nil)) rfl (by simp) (by decide) (.inl rfl) rfl Try.func9 rfl rfl rfl (fun _ => ?_)
 refine an_ ?_
 refine sm_ ?_
 refine im_ ?_
 refine aw_cond rfl (fun hb6 => ?_) (fun hb6 => ?_)
 replace h := bif_t hb6 h
 refine aw_sr ?_
 refine al_val (ov_build (cells := ([nS, nS, (bool false)] : List Value).toArray) (cs := [nS, nS, (bool false)]) rfl (fun w a hm hs => by simp only [List.map_toArray, List.map_cons, List.map_nil, List.toList_toArray]; kernel_rfl)) ?_
 refine mv_ ?_
 refine al_store (i := 0) (vs := [nS, nS, (bool false)]) (cs' := [nS, nS, (bool false)]) rfl rfl rfl sz38 (cv_rfl rfl) rfl (co_val rfl (co_val rfl (co_val rfl co_nil))) (Nat.le_of_ble_eq_true rfl) rfl rfl ?_
 refine an_ ?_
 refine aw_ret ?_
 refine aq_then_ret ?_
 refine aq_nilD tyS_api_Thing ?_
 refine aq_nilD tq ?_
 cases h
 exact fn_ret (nS, nS) [] [1, 0] rfl rfl rfl rfl (resC rfl (resB (i := 0) rfl rfl Try.underlying38 sz38 rfl rfl rfl (resT rfl (resN))) rfl) rfl rfl rfl (by decide)
 replace h := bif_f hb6 h
 refine aw_skip ?_
 refine aq_tr ?_
 refine al_val (ov_load (i := 2) (v := (ag [v0_0, v0_1, (bool a0.Busy)])) rfl rfl Try.underlying38 sz38 rfl rfl rfl rfl) ?_
 obtain ⟨r8, hc7, h⟩ := opt_some h
 refine al_call (vs := [(ag [v0_0, v0_1, (bool a0.Busy)])]) (f_lumref_Live_ok fu v0_0 v0_1 a0 hc7) [] [] [0, 1, 2] (pre_fz 0 rfl (pre_fz 1 rfl pre_nil)) rfl (by simp) (by decide) (.inl rfl) rfl Try.func16 rfl rfl rfl (fun v9 => ?_)
 refine al_alloc (zs := [nS]) (zeroOf_to to42) rfl rfl (fun g10 => ?_)
 refine al_store (i := 0) (vs := [v9]) (cs' := [v9]) rfl rfl rfl sz42 (cv_own 1 rfl) rfl (co_own 1 rfl co_nil) (Nat.le_of_ble_eq_true rfl) rfl rfl ?_
 refine al_nt ?_
 refine aw_seq ?_
 refine aw_freeze 1 rfl rfl ?_
 refine aw_freezeBN (τ := (tyList tyBool)) 0 (r8) rfl rfl (fun hm => fz_at (i := 0) hm rfl) ?_
 refine aw_region ?_
 refine al_val (ov_makeFunc2 (vs := [(pq g10)]) rfl rfl) ?_
 refine an_ ?_
 refine aw_seq ?_
 refine aw_freezeBN (τ := tyS_api_Heap) 2 (a0) rfl rfl (fun hm => mknS_api_Heap (x := a0) rfl (fz_at (i := 2) hm rfl) (fz_at (i := 3) hm rfl)) ?_
 refine aw_region ?_
 refine al_val (ov_makeFunc2 (vs := [(pq g1)]) rfl rfl) ?_
 refine an_ ?_
 obtain ⟨kk12, hkk12, h⟩ := lt_some h
 refine aw_seq_join (ι := Unit) (fun i => (mm38 w0 Z0 a0 g1 g10 g3 r8 v0_0 v0_1 v9)) (fun i => (tab [(4, (pq g3))])) (fun i => kk12 () = some r) ?_ ?_
 rintro _ h
 have h : kk12 () = some r := h
 rw [hkk12] at h
 dsimp only at h
 clear hkk12
 refine aw_show (m := (mm38 w0 Z0 a0 g1 g10 g3 r8 v0_0 v0_1 v9)) (S := _) ?_
 refine aw_sr ?_
 refine al_val (ov_build (cells := ([nS, nS, (bool false)] : List Value).toArray) (cs := [nS, nS, (bool false)]) rfl (fun w a hm hs => by simp only [List.map_toArray, List.map_cons, List.map_nil, List.toList_toArray]; kernel_rfl)) ?_
 refine al_store (i := 0) (vs := [nS, nS, (bool false)]) (cs' := [nS, nS, (bool false)]) rfl rfl rfl sz38 (cv_rfl rfl) rfl (co_val rfl (co_val rfl (co_val rfl co_nil))) (Nat.le_of_ble_eq_true rfl) rfl rfl ?_
 refine an_ ?_
 refine aw_ret ?_
 refine aq_nilD tyS_api_Thing ?_
 refine aq_nilD tq ?_
 cases h
 exact fn_ret (nS, nS) [] [1, 0] rfl rfl rfl rfl (resC rfl (resB (i := 0) rfl rfl Try.underlying38 sz38 rfl rfl rfl (resT rfl (resN))) rfl) rfl rfl rfl (by decide)
 clear hkk12
 refine aw_sr ?_
 refine al_val (ov_fieldA (p := 0) rfl Try.underlying40 rfl sz3 rfl rfl rfl) ?_
 refine al_val (ov_load (i := 1) (v := (iq a1.Kind)) rfl rfl Try.underlying3 sz3 rfl rfl rfl rfl) ?_
 refine al_nt ?_
 refine aw_block ?_
 refine aw_sr ?_
 refine in_ ?_
 refine an_ ?_
 refine aw_cond rfl (fun hb13 => ?_) (fun hb13 => ?_)
 replace h := bif_t hb13 h
 refine aw_sr ?_
 refine al_loadPA 0 rfl rfl Try.underlying38 sz38 rfl rfl (fun cs16 => ?_)
 refine al_use (ι := Value × Value) 0 rfl (fun j => cs16 = [j.1, j.2, (bool a0.Busy)]) (fun j => [(fDat (tyList tyS_api_Thing) [j.1] a0.Things), (fDat (tyList tq) [j.2] a0.Roots)]) encnS_api_Heap (fun (s14, s15) hq => ?_)
 subst hq
 obtain ⟨r18, hc17, h⟩ := opt_some h
 refine al_call (vs := [(ag [s14, s15, (bool a0.Busy)])]) (f_lumref_marked_ok fu s14 s15 a0 hc17) [] [] [0, 1] (pre_fz 0 rfl (pre_fz 1 rfl pre_nil)) rfl (by simp) (by decide) (.inl rfl) rfl Try.func40 rfl rfl rfl (fun ⟨v19, v20⟩ => ?_)
 refine al_store (i := 0) (vs := [v19, v20, (bool r18.Busy)]) (cs' := [v19, v20, (bool r18.Busy)]) rfl rfl rfl sz38 (cv_rfl rfl) rfl (co_fz 0 rfl (co_fz 1 rfl (co_val rfl co_nil))) (Nat.le_of_ble_eq_true rfl) rfl rfl ?_
 refine an_ ?_
 refine aw_ret ?_
 refine aq_block_ret ?_
 refine aq_then_ret ?_
 cases h
 exact fn_ret (v19, v20) [] [0, 1] rfl rfl rfl rfl (resC rfl (resB (i := 0) rfl rfl Try.underlying38 sz38 rfl rfl rfl (resT rfl (resN))) rfl) rfl rfl rfl (by decide)
 replace h := bif_f hb13 h
 refine aw_sr ?_
 refine in_ ?_
 refine an_ ?_
 refine aw_cond rfl (fun hb21 => ?_) (fun hb21 => ?_)
 replace h := bif_t hb21 h
 refine aw_sr ?_
 refine an_ ?_
 obtain ⟨kk23, hkk23, h⟩ := lt_some h
 refine aw_seq_join (ι := Int) (fun i => (mm38 w0 Z0 a0 g1 g10 g3 r8 v0_0 v0_1 v9)) (fun i => (tab [(2, (pq g1)), (4, (pq g3)), (10, (iq i))])) (fun i => kk23 i = some r) ?_ ?_
 rintro j22i10 h
 have h : kk23 j22i10 = some r := h
 rw [hkk23] at h
 dsimp only at h
 clear hkk23
 refine aw_show (m := (mm38 w0 Z0 a0 g1 g10 g3 r8 v0_0 v0_1 v9)) (S := _) ?_
 refine aw_seq ?_
 refine sm_ ?_
 refine im_ ?_
 refine aw_cond rfl (fun hb24 => ?_) (fun hb24 => ?_)
 replace h := bif_t hb24 h
 refine aw_sr ?_
 refine al_val (ov_build (cells := ([nS, nS, (bool false)] : List Value).toArray) (cs := [nS, nS, (bool false)]) rfl (fun w a hm hs => by simp only [List.map_toArray, List.map_cons, List.map_nil, List.toList_toArray]; kernel_rfl)) ?_
 refine al_store (i := 0) (vs := [nS, nS, (bool false)]) (cs' := [nS, nS, (bool false)]) rfl rfl rfl sz38 (cv_rfl rfl) rfl (co_val rfl (co_val rfl (co_val rfl co_nil))) (Nat.le_of_ble_eq_true rfl) rfl rfl ?_
 refine an_ ?_
 refine aw_ret ?_
 refine aq_then_ret ?_
 refine aq_block_ret ?_
 refine aq_then_ret ?_
 refine aq_nilD tyS_api_Thing ?_
 refine aq_nilD tq ?_
 cases h
 exact fn_ret (nS, nS) [] [1, 0] rfl rfl rfl rfl (resC rfl (resB (i := 0) rfl rfl Try.underlying38 sz38 rfl rfl rfl (resT rfl (resN))) rfl) rfl rfl rfl (by decide)
 replace h := bif_f hb24 h
 refine aw_skip ?_
 refine aq_then ?_
 refine aw_seq ?_
 refine aw_sr ?_
 refine al_fieldD (pr := fun (y : S_api_Heap) => y.Roots) 0 rfl subS_api_Heap_1 rfl Try.underlying38 rfl sz30 rfl rfl (fun p25 => ?_)
 refine al_loadP1 0 rfl rfl Try.underlying30 sz30 rfl rfl rfl (fun s26 => ?_)
 refine al_val (ov_lenD 0 rfl rfl Try.underlying30 rfl) ?_
 refine im_ ?_
 refine aw_cond rfl (fun hb27 => ?_) (fun hb27 => ?_)
 replace h := bif_t hb27 h
 refine aw_sr ?_
 refine al_val (ov_build (cells := ([nS, nS, (bool false)] : List Value).toArray) (cs := [nS, nS, (bool false)]) rfl (fun w a hm hs => by simp only [List.map_toArray, List.map_cons, List.map_nil, List.toList_toArray]; kernel_rfl)) ?_
 refine al_store (i := 0) (vs := [nS, nS, (bool false)]) (cs' := [nS, nS, (bool false)]) rfl rfl rfl sz38 (cv_rfl rfl) rfl (co_val rfl (co_val rfl (co_val rfl co_nil))) (Nat.le_of_ble_eq_true rfl) rfl rfl ?_
 refine an_ ?_
 refine aw_ret ?_
 refine aq_then_ret ?_
 refine aq_block_ret ?_
 refine aq_then_ret ?_
 refine aq_nilD tyS_api_Thing ?_
 refine aq_nilD tq ?_
 cases h
 exact fn_ret (nS, nS) [] [1, 0] rfl rfl rfl rfl (resC rfl (resB (i := 0) rfl rfl Try.underlying38 sz38 rfl rfl rfl (resT rfl (resN))) rfl) rfl rfl rfl (by decide)
 replace h := bif_f hb27 h
 refine aw_skip ?_
 refine aq_then ?_
 refine aw_seq ?_
 refine aw_region_open [⟨0, 54, Value, fun (i : Value) => { val := i, fz := [(fPtr (tyList tyS_api_Thing) i a0.Things)] }⟩, ⟨1, 55, Value, fun (i : Value) => { val := i, fz := [(fDat (tyList tyS_api_Thing) [i] a0.Things)] }⟩, ⟨3, 57, Value, fun (i : Value) => { val := i, fz := [(fPtr (tyList tq) i a0.Roots)] }⟩, ⟨4, 58, Value, fun (i : Value) => { val := i, fz := [(fDat (tyList tq) [i] a0.Roots)] }⟩, (sp_ 5 59 (iq j22i10)), ⟨7, 61, Value, fun (i : Value) => { val := i, fz := [(fPtr tyBool i a0.Busy)] }⟩, (sp_ 8 62 (bool a0.Busy)), ⟨10, 11, Nat, fun (i : Nat) => { val := (pq i), own := [(oBox i 38 [nS, nS, (bool false)])] }⟩] (tab [(2, (pq g1)), (4, (pq g3)), (10, (iq j22i10))]) mixed (fun a hs => hs.tab _ (allT_mem ⟨rfl, rfl, rfl, trivial⟩)) ?_
 refine ta_show (m := (mm39 w0 Z0 a0 g1 g10 g3 p25 r8 s26 v0_0 v0_1 v9)) (S := _) ?_
 refine ta_step 2 _ [0, 1, 3, 4, 5, 7, 8, 10] [54, 55, 57, 58, 59, 61, 62, 11] [0, 1] [] [⟨0, 54, Value, fun (i : Value) => { val := i, fz := [(fPtr (tyList tyS_api_Thing) i a0.Things)] }⟩, ⟨1, 55, Value, fun (i : Value) => { val := i, fz := [(fDat (tyList tyS_api_Thing) [i] a0.Things)] }⟩] [⟨3, 57, Value, fun (i : Value) => { val := i, fz := [(fPtr (tyList tq) i a0.Roots)] }⟩, ⟨4, 58, Value, fun (i : Value) => { val := i, fz := [(fDat (tyList tq) [i] a0.Roots)] }⟩, (sp_ 5 59 (iq j22i10)), ⟨7, 61, Value, fun (i : Value) => { val := i, fz := [(fPtr tyBool i a0.Busy)] }⟩, (sp_ 8 62 (bool a0.Busy)), ⟨10, 11, Nat, fun (i : Nat) => { val := (pq i), own := [(oBox i 38 [nS, nS, (bool false)])] }⟩] rfl rfl rfl (by kernel_rfl) rfl rfl rfl ⟨⟨_, rfl, [], rfl, by
  intro X_ Y_ F_ K_ hK_
  refine sh_ (mm39 w0 Z0 a0 g1 g10 g3 p25 r8 s26 v0_0 v0_1 v9) X_ Y_ ?_
  refine al_fieldD (pr := fun (y : S_api_Heap) => y.Things) 2 rfl subS_api_Heap_0 rfl Try.underlying38 rfl sz36 rfl rfl (fun p28 => ?_)
  refine al_nil ?_
  exact fr_fin hK_ p28⟩, ⟨_, rfl, [0], rfl, by
  intro p28
  intro X_ Y_ F_ K_ hK_
  refine sh_ (memOf w0 Z0 [] [(oBox g3 38 [nS, nS, (bool false)])] [(fPtr (tyList tyS_api_Thing) p28 a0.Things), (fDat (tyList tq) [s26] a0.Roots), (fPtr (tyList tq) p25 a0.Roots), (fPtr tyS_api_Heap (pq g1) a0), (fPtr (tyList tyBool) (pq g10) r8), (fDat (tyList tyBool) [v9] r8), (fDat (tyList tyS_api_Thing) [v0_0] a0.Things), (fDat (tyList tq) [v0_1] a0.Roots)]) X_ Y_ ?_
  refine al_loadP1 0 rfl rfl Try.underlying36 sz36 rfl rfl rfl (fun s29 => ?_)
  refine al_nil ?_
  exact fr_fin hK_ s29⟩, ⟨_, rfl, [], rfl, by
  intro X_ Y_ F_ K_ hK_
  refine sh_ (mm39 w0 Z0 a0 g1 g10 g3 p25 r8 s26 v0_0 v0_1 v9) X_ Y_ ?_
  refine al_fieldD (pr := fun (y : S_api_Heap) => y.Roots) 2 rfl subS_api_Heap_1 rfl Try.underlying38 rfl sz30 rfl rfl (fun p30 => ?_)
  refine al_nil ?_
  exact fr_fin hK_ p30⟩, ⟨_, rfl, [2], rfl, by
  intro p30
  intro X_ Y_ F_ K_ hK_
  refine sh_ (memOf w0 Z0 [] [(oBox g3 38 [nS, nS, (bool false)])] [(fPtr (tyList tq) p30 a0.Roots), (fDat (tyList tq) [s26] a0.Roots), (fPtr (tyList tq) p25 a0.Roots), (fPtr tyS_api_Heap (pq g1) a0), (fPtr (tyList tyBool) (pq g10) r8), (fDat (tyList tyBool) [v9] r8), (fDat (tyList tyS_api_Thing) [v0_0] a0.Things), (fDat (tyList tq) [v0_1] a0.Roots)]) X_ Y_ ?_
  refine al_loadP1 0 rfl rfl Try.underlying30 sz30 rfl rfl rfl (fun s31 => ?_)
  refine al_nil ?_
  exact fr_fin hK_ s31⟩, ⟨_, rfl, [], rfl, by
  intro X_ Y_ F_ K_ hK_
  refine sh_ (mm39 w0 Z0 a0 g1 g10 g3 p25 r8 s26 v0_0 v0_1 v9) X_ Y_ ?_
  refine mv_ ?_
  refine al_nil ?_
  exact fr_fin hK_ ()⟩, ⟨_, rfl, [], rfl, by
  intro X_ Y_ F_ K_ hK_
  refine sh_ (mm39 w0 Z0 a0 g1 g10 g3 p25 r8 s26 v0_0 v0_1 v9) X_ Y_ ?_
  refine al_fieldD (pr := fun (y : S_api_Heap) => y.Busy) 2 rfl subS_api_Heap_2 rfl Try.underlying38 rfl sz4 rfl rfl (fun p32 => ?_)
  refine al_nil ?_
  exact fr_fin hK_ p32⟩, ⟨_, rfl, [5], rfl, by
  intro p32
  intro X_ Y_ F_ K_ hK_
  refine sh_ (memOf w0 Z0 [] [(oBox g3 38 [nS, nS, (bool false)])] [(fPtr tyBool p32 a0.Busy), (fDat (tyList tq) [s26] a0.Roots), (fPtr (tyList tq) p25 a0.Roots), (fPtr tyS_api_Heap (pq g1) a0), (fPtr (tyList tyBool) (pq g10) r8), (fDat (tyList tyBool) [v9] r8), (fDat (tyList tyS_api_Thing) [v0_0] a0.Things), (fDat (tyList tq) [v0_1] a0.Roots)]) X_ Y_ ?_
  refine al_val (ov_loadP (ds := [(bool a0.Busy)]) 0 rfl (fun h => h) rfl Try.underlying4 sz4 rfl rfl rfl) ?_
  refine al_nil ?_
  exact fr_fin hK_ ()⟩, ⟨_, rfl, [], rfl, by
  intro X_ Y_ F_ K_ hK_
  refine sh_ (mm39 w0 Z0 a0 g1 g10 g3 p25 r8 s26 v0_0 v0_1 v9) X_ Y_ ?_
  refine al_alloc (zs := [nS, nS, (bool false)]) (zeroOf_to to38) rfl rfl (fun g33 => ?_)
  refine al_nil ?_
  exact fr_fin hK_ g33⟩, trivial⟩ ?_
 intro p28
 intro s29
 intro X_ Y_ F_ K_ hK_
 refine sh_ (memOf w0 Z0 [] [(oBox g3 38 [nS, nS, (bool false)])] [(fDat (tyList tyS_api_Thing) [s29] a0.Things), (fPtr (tyList tyS_api_Thing) p28 a0.Things), (fDat (tyList tq) [s26] a0.Roots), (fPtr (tyList tq) p25 a0.Roots), (fPtr tyS_api_Heap (pq g1) a0), (fPtr (tyList tyBool) (pq g10) r8), (fDat (tyList tyBool) [v9] r8), (fDat (tyList tyS_api_Thing) [v0_0] a0.Things), (fDat (tyList tq) [v0_1] a0.Roots)]) X_ Y_ ?_
 obtain ⟨r35, hc34, h⟩ := opt_some h
 refine al_callX (vs := [s29]) (f_slices_Clone___api_Thing_api_Thing__ok fu s29 a0.Things hc34) [] [] [0] (pre_fz 0 rfl pre_nil) rfl (by simp) (by decide) rfl (.inl rfl) rfl Try.func39 rfl rfl rfl (fun v36 => ?_)
 refine al_nil ?_
 refine aq_show (m := Mem.plus (memOf w0 Z0 [] [(oRow v36 71 tyS_api_Thing r35), (oBox g3 38 [nS, nS, (bool false)])] [(fDat (tyList tyS_api_Thing) [s29] a0.Things), (fPtr (tyList tyS_api_Thing) p28 a0.Things), (fDat (tyList tq) [s26] a0.Roots), (fPtr (tyList tq) p25 a0.Roots), (fPtr tyS_api_Heap (pq g1) a0), (fPtr (tyList tyBool) (pq g10) r8), (fDat (tyList tyBool) [v9] r8), (fDat (tyList tyS_api_Thing) [v0_0] a0.Things), (fDat (tyList tq) [v0_1] a0.Roots)]) X_ Y_) ?_
 refine aq_next hK_ [0, 1] [2, 3, 4, 5, 6, 7, 8] [(2, (pq g1)), (4, (pq g3)), (10, (iq j22i10)), (56, v36)] [57, 58, 59, 61, 62, 11] [] rfl rfl (by decide) rfl ⟨rfl, rfl, rfl, rfl, trivial⟩ ⟨rfl, rfl, rfl, rfl, rfl, rfl, trivial⟩ ?_
 clear hK_ K_ F_ X_ Y_
 refine ta_show (m := (mm40 w0 Z0 a0 g1 g10 g3 p25 r35 r8 s26 v0_0 v0_1 v36 v9)) (S := _) ?_
 refine ta_step 6 _ [3, 4, 5, 7, 8, 10] [57, 58, 59, 61, 62, 11] [3, 4, 5] [9] [⟨3, 57, Value, fun (i : Value) => { val := i, fz := [(fPtr (tyList tq) i a0.Roots)] }⟩, ⟨4, 58, Value, fun (i : Value) => { val := i, fz := [(fDat (tyList tq) [i] a0.Roots)] }⟩, (sp_ 5 59 (iq j22i10))] [⟨7, 61, Value, fun (i : Value) => { val := i, fz := [(fPtr tyBool i a0.Busy)] }⟩, (sp_ 8 62 (bool a0.Busy)), ⟨10, 11, Nat, fun (i : Nat) => { val := (pq i), own := [(oBox i 38 [nS, nS, (bool false)])] }⟩] rfl rfl rfl (by kernel_rfl) rfl rfl rfl ⟨⟨_, rfl, [], rfl, by
  intro X_ Y_ F_ K_ hK_
  refine sh_ (mm40 w0 Z0 a0 g1 g10 g3 p25 r35 r8 s26 v0_0 v0_1 v36 v9) X_ Y_ ?_
  refine al_fieldD (pr := fun (y : S_api_Heap) => y.Roots) 2 rfl subS_api_Heap_1 rfl Try.underlying38 rfl sz30 rfl rfl (fun p30 => ?_)
  refine al_nil ?_
  exact fr_fin hK_ p30⟩, ⟨_, rfl, [0], rfl, by
  intro p30
  intro X_ Y_ F_ K_ hK_
  refine sh_ (memOf w0 Z0 [] [(oRow v36 71 tyS_api_Thing r35), (oBox g3 38 [nS, nS, (bool false)])] [(fPtr (tyList tq) p30 a0.Roots), (fDat (tyList tq) [s26] a0.Roots), (fPtr (tyList tq) p25 a0.Roots), (fPtr tyS_api_Heap (pq g1) a0), (fPtr (tyList tyBool) (pq g10) r8), (fDat (tyList tyBool) [v9] r8), (fDat (tyList tyS_api_Thing) [v0_0] a0.Things), (fDat (tyList tq) [v0_1] a0.Roots)]) X_ Y_ ?_
  refine al_loadP1 0 rfl rfl Try.underlying30 sz30 rfl rfl rfl (fun s31 => ?_)
  refine al_nil ?_
  exact fr_fin hK_ s31⟩, ⟨_, rfl, [], rfl, by
  intro X_ Y_ F_ K_ hK_
  refine sh_ (mm40 w0 Z0 a0 g1 g10 g3 p25 r35 r8 s26 v0_0 v0_1 v36 v9) X_ Y_ ?_
  refine mv_ ?_
  refine al_nil ?_
  exact fr_fin hK_ ()⟩, ⟨_, rfl, [], rfl, by
  intro X_ Y_ F_ K_ hK_
  refine sh_ (mm40 w0 Z0 a0 g1 g10 g3 p25 r35 r8 s26 v0_0 v0_1 v36 v9) X_ Y_ ?_
  refine al_fieldD (pr := fun (y : S_api_Heap) => y.Busy) 2 rfl subS_api_Heap_2 rfl Try.underlying38 rfl sz4 rfl rfl (fun p32 => ?_)
  refine al_nil ?_
  exact fr_fin hK_ p32⟩, ⟨_, rfl, [3], rfl, by
  intro p32
  intro X_ Y_ F_ K_ hK_
  refine sh_ (memOf w0 Z0 [] [(oRow v36 71 tyS_api_Thing r35), (oBox g3 38 [nS, nS, (bool false)])] [(fPtr tyBool p32 a0.Busy), (fDat (tyList tq) [s26] a0.Roots), (fPtr (tyList tq) p25 a0.Roots), (fPtr tyS_api_Heap (pq g1) a0), (fPtr (tyList tyBool) (pq g10) r8), (fDat (tyList tyBool) [v9] r8), (fDat (tyList tyS_api_Thing) [v0_0] a0.Things), (fDat (tyList tq) [v0_1] a0.Roots)]) X_ Y_ ?_
  refine al_val (ov_loadP (ds := [(bool a0.Busy)]) 0 rfl (fun h => h) rfl Try.underlying4 sz4 rfl rfl rfl) ?_
  refine al_nil ?_
  exact fr_fin hK_ ()⟩, ⟨_, rfl, [], rfl, by
  intro X_ Y_ F_ K_ hK_
  refine sh_ (mm40 w0 Z0 a0 g1 g10 g3 p25 r35 r8 s26 v0_0 v0_1 v36 v9) X_ Y_ ?_
  refine al_alloc (zs := [nS, nS, (bool false)]) (zeroOf_to to38) rfl rfl (fun g33 => ?_)
  refine al_nil ?_
  exact fr_fin hK_ g33⟩, trivial⟩ ?_
 intro p30
 intro s31
 intro _
 intro X_ Y_ F_ K_ hK_
 refine sh_ (memOf w0 Z0 [] [(oRow v36 71 tyS_api_Thing r35), (oBox g3 38 [nS, nS, (bool false)])] [(fDat (tyList tq) [s31] a0.Roots), (fPtr (tyList tq) p30 a0.Roots), (fDat (tyList tq) [s26] a0.Roots), (fPtr (tyList tq) p25 a0.Roots), (fPtr tyS_api_Heap (pq g1) a0), (fPtr (tyList tyBool) (pq g10) r8), (fDat (tyList tyBool) [v9] r8), (fDat (tyList tyS_api_Thing) [v0_0] a0.Things), (fDat (tyList tq) [v0_1] a0.Roots)]) X_ Y_ ?_
 obtain ⟨r38, hc37, h⟩ := opt_some h
 refine al_callX (vs := [s31, (iq j22i10)]) (f_lumref_with_ok fu s31 a0.Roots j22i10 hc37) [] [] [0, 1] (pre_fz 0 rfl pre_nil) rfl (by simp) (by decide) rfl (.inl rfl) rfl Try.func41 rfl rfl rfl (fun v39 => ?_)
 refine al_nil ?_
 refine aq_show (m := Mem.plus (memOf w0 Z0 [] [(oRow v39 3 tq r38), (oRow v36 71 tyS_api_Thing r35), (oBox g3 38 [nS, nS, (bool false)])] [(fDat (tyList tq) [s31] a0.Roots), (fPtr (tyList tq) p30 a0.Roots), (fDat (tyList tq) [s26] a0.Roots), (fPtr (tyList tq) p25 a0.Roots), (fPtr tyS_api_Heap (pq g1) a0), (fPtr (tyList tyBool) (pq g10) r8), (fDat (tyList tyBool) [v9] r8), (fDat (tyList tyS_api_Thing) [v0_0] a0.Things), (fDat (tyList tq) [v0_1] a0.Roots)]) X_ Y_) ?_
 refine aq_next hK_ [0, 1, 2] [2, 3, 4, 5, 6, 7, 8] [(2, (pq g1)), (4, (pq g3)), (10, (iq j22i10)), (56, v36), (60, v39)] [61, 62, 11] [(sp_ 9 63 (ag [v36, v39, (bool a0.Busy)]))] rfl rfl (by decide) rfl ⟨rfl, rfl, rfl, rfl, rfl, trivial⟩ ⟨rfl, rfl, rfl, trivial⟩ ?_
 clear hK_ K_ F_ X_ Y_
 refine ta_show (m := (mm41 w0 Z0 a0 g1 g10 g3 p25 r35 r38 r8 s26 v0_0 v0_1 v36 v39 v9)) (S := _) ?_
 refine ta_step 11 _ [7, 8, 10, 9] [61, 62, 11, 63] [7, 8, 10, 9] [] [⟨7, 61, Value, fun (i : Value) => { val := i, fz := [(fPtr tyBool i a0.Busy)] }⟩, (sp_ 8 62 (bool a0.Busy)), ⟨10, 11, Nat, fun (i : Nat) => { val := (pq i), own := [(oBox i 38 [nS, nS, (bool false)])] }⟩, (sp_ 9 63 (ag [v36, v39, (bool a0.Busy)]))] [] rfl rfl rfl (by kernel_rfl) rfl rfl rfl ⟨⟨_, rfl, [], rfl, by
  intro X_ Y_ F_ K_ hK_
  refine sh_ (mm41 w0 Z0 a0 g1 g10 g3 p25 r35 r38 r8 s26 v0_0 v0_1 v36 v39 v9) X_ Y_ ?_
  refine al_fieldD (pr := fun (y : S_api_Heap) => y.Busy) 2 rfl subS_api_Heap_2 rfl Try.underlying38 rfl sz4 rfl rfl (fun p32 => ?_)
  refine al_nil ?_
  exact fr_fin hK_ p32⟩, ⟨_, rfl, [0], rfl, by
  intro p32
  intro X_ Y_ F_ K_ hK_
  refine sh_ (memOf w0 Z0 [] [(oRow v39 3 tq r38), (oRow v36 71 tyS_api_Thing r35), (oBox g3 38 [nS, nS, (bool false)])] [(fPtr tyBool p32 a0.Busy), (fDat (tyList tq) [s26] a0.Roots), (fPtr (tyList tq) p25 a0.Roots), (fPtr tyS_api_Heap (pq g1) a0), (fPtr (tyList tyBool) (pq g10) r8), (fDat (tyList tyBool) [v9] r8), (fDat (tyList tyS_api_Thing) [v0_0] a0.Things), (fDat (tyList tq) [v0_1] a0.Roots)]) X_ Y_ ?_
  refine al_val (ov_loadP (ds := [(bool a0.Busy)]) 0 rfl (fun h => h) rfl Try.underlying4 sz4 rfl rfl rfl) ?_
  refine al_nil ?_
  exact fr_fin hK_ ()⟩, ⟨_, rfl, [], rfl, by
  intro X_ Y_ F_ K_ hK_
  refine sh_ (mm41 w0 Z0 a0 g1 g10 g3 p25 r35 r38 r8 s26 v0_0 v0_1 v36 v39 v9) X_ Y_ ?_
  refine al_alloc (zs := [nS, nS, (bool false)]) (zeroOf_to to38) rfl rfl (fun g33 => ?_)
  refine al_nil ?_
  exact fr_fin hK_ g33⟩, ⟨_, rfl, [1], rfl, by
  intro _
  intro X_ Y_ F_ K_ hK_
  refine sh_ (mm41 w0 Z0 a0 g1 g10 g3 p25 r35 r38 r8 s26 v0_0 v0_1 v36 v39 v9) X_ Y_ ?_
  refine al_val (ov_build (cells := ([v36, v39, (bool a0.Busy)] : List Value).toArray) (cs := [v36, v39, (bool a0.Busy)]) rfl (fun w a hm hs => by simp only [List.map_toArray, List.map_cons, List.map_nil, List.toList_toArray, hs.ev (x := .tmp 56) rfl, hs.ev (x := .tmp 60) rfl, hs.ev (x := .tmp 62) rfl]; obtain ⟨A0, l0, c0, e0⟩ := sl_own 1 rfl hm; rw [e0]; obtain ⟨A1, l1, c1, e1⟩ := sl_own 0 rfl hm; rw [e1]; kernel_rfl)) ?_
  refine al_nil ?_
  exact fr_fin hK_ ()⟩, trivial⟩ ?_
 intro p32
 intro _
 intro g33
 intro _
 intro X_ Y_ F_ K_ hK_
 refine sh_ (memOf w0 Z0 [] [(oBox g33 38 [nS, nS, (bool false)]), (oRow v39 3 tq r38), (oRow v36 71 tyS_api_Thing r35), (oBox g3 38 [nS, nS, (bool false)])] [(fPtr tyBool p32 a0.Busy), (fDat (tyList tq) [s26] a0.Roots), (fPtr (tyList tq) p25 a0.Roots), (fPtr tyS_api_Heap (pq g1) a0), (fPtr (tyList tyBool) (pq g10) r8), (fDat (tyList tyBool) [v9] r8), (fDat (tyList tyS_api_Thing) [v0_0] a0.Things), (fDat (tyList tq) [v0_1] a0.Roots)]) X_ Y_ ?_
 refine al_store (i := 0) (vs := [v36, v39, (bool a0.Busy)]) (cs' := [v36, v39, (bool a0.Busy)]) rfl rfl rfl sz38 (cv_rfl rfl) rfl (co_own 2 rfl (co_own 1 rfl (co_val rfl co_nil))) (Nat.le_of_ble_eq_true rfl) rfl rfl ?_
 refine al_nil ?_
 refine aq_show (m := Mem.plus (memOf w0 Z0 [] [(oBox g33 38 [v36, v39, (bool a0.Busy)]), (oRow v39 3 tq r38), (oRow v36 71 tyS_api_Thing r35), (oBox g3 38 [nS, nS, (bool false)])] [(fPtr tyBool p32 a0.Busy), (fDat (tyList tq) [s26] a0.Roots), (fPtr (tyList tq) p25 a0.Roots), (fPtr tyS_api_Heap (pq g1) a0), (fPtr (tyList tyBool) (pq g10) r8), (fDat (tyList tyBool) [v9] r8), (fDat (tyList tyS_api_Thing) [v0_0] a0.Things), (fDat (tyList tq) [v0_1] a0.Roots)]) X_ Y_) ?_
 refine aq_next hK_ [0, 1, 2, 3] [1, 2, 3, 4, 5, 6, 7] [(4, (pq g3)), (10, (iq j22i10)), (11, (pq g33))] [] [] rfl rfl (by decide) rfl ⟨rfl, rfl, rfl, trivial⟩ trivial ?_
 clear hK_ K_ F_ X_ Y_
 refine ta_show (m := (mm42 w0 Z0 a0 g1 g10 g3 g33 p25 r35 r38 r8 s26 v0_0 v0_1 v36 v39 v9)) (S := _) ?_
 refine ta_end [] [] rfl rfl (by kernel_rfl) rfl trivial ?_
 refine aq_show (m := (mm42 w0 Z0 a0 g1 g10 g3 g33 p25 r35 r38 r8 s26 v0_0 v0_1 v36 v39 v9)) (S := (tab [(4, (pq g3)), (10, (iq j22i10)), (11, (pq g33))])) ?_
 refine aq_then ?_
 obtain ⟨kk41, hkk41, h⟩ := lt_some h
 refine aw_seq_join (ι := Value × (List S_api_Thing)) (fun i => (mm43 w0 Z0 a0 g1 g10 g3 g33 i.1 i.2 p25 r38 r8 s26 v0_0 v0_1 v39 v9)) (fun i => (tab [(4, (pq g3)), (10, (iq j22i10)), (11, (pq g33))])) (fun i => kk41 i.2 = some r) ?_ ?_
 rintro ⟨j40v11_0, j40x11_0⟩ h
 have h : kk41 j40x11_0 = some r := h
 rw [hkk41] at h
 dsimp only at h
 clear hkk41
 refine aw_show (m := (mm43 w0 Z0 a0 g1 g10 g3 g33 j40v11_0 j40x11_0 p25 r38 r8 s26 v0_0 v0_1 v39 v9)) (S := _) ?_
 refine aw_sr ?_
 refine al_val (ov_fieldA (p := 0) rfl Try.underlying38 rfl sz36 rfl rfl rfl) ?_
 refine al_val (ov_load (i := 3) (v := j40v11_0) rfl rfl Try.underlying36 sz36 rfl rfl rfl rfl) ?_
 refine mv_ ?_
 obtain ⟨u42, hu43, h⟩ := opt_some h
 refine al_idxR 1 (at_some hu43).1 (at_some hu43).2.1 rfl rfl rfl Try.underlying36 sz71 rfl (fun p44 hp45 => ?_)
 refine al_fieldR hp45 rfl Try.underlying71 rfl sz4 rfl rfl (fun p46 hp47 => ?_)
 refine al_storeF (k := (j22i10).toNat) (x := u42) (y := false) (vs := [(bool false)]) 1 rfl hp47 (at_some hu43).2.2 ssetS_api_Thing_2 rfl rfl rfl (cv_rfl rfl) (fun _ => rfl) sz4 rfl ?_
 refine al_nt ?_
 refine aw_sr ?_
 refine al_val (ov_load (i := 3) (v := (ag [j40v11_0, v39, (bool a0.Busy)])) rfl rfl Try.underlying38 sz38 rfl rfl rfl rfl) ?_
 refine mv_ ?_
 refine al_freeze 1 rfl rfl ?_
 refine al_freeze 1 rfl rfl ?_
 obtain ⟨r49, hc48, h⟩ := opt_some h
 refine al_call (vs := [(ag [j40v11_0, v39, (bool a0.Busy)]), (iq j22i10)]) (f_lumref_shaded_ok fu j40v11_0 v39 (S_api_Heap.mk (j40x11_0.set (j22i10).toNat { (u42 : S_api_Thing) with Free := false }) r38 a0.Busy) j22i10 hc48) [] [] [0, 1] (pre_fz 1 rfl (pre_fz 0 rfl pre_nil)) rfl (by simp) (by decide) (.inl rfl) rfl Try.func42 rfl rfl rfl (fun ⟨v50, v51⟩ => ?_)
 refine al_store (i := 0) (vs := [v50, v51, (bool r49.Busy)]) (cs' := [v50, v51, (bool r49.Busy)]) rfl rfl rfl sz38 (cv_rfl rfl) rfl (co_fz 0 rfl (co_fz 1 rfl (co_val rfl co_nil))) (Nat.le_of_ble_eq_true rfl) rfl rfl ?_
 refine an_ ?_
 refine aw_ret ?_
 refine aq_block_ret ?_
 refine aq_then_ret ?_
 cases h
 exact fn_ret (v50, v51) [] [0, 1] rfl rfl rfl rfl (resC rfl (resB (i := 0) rfl rfl Try.underlying38 sz38 rfl rfl rfl (resT rfl (resN))) rfl) rfl rfl rfl (by decide)
 clear hkk41
 refine sm_ ?_
 refine al_val (ov_fieldA (p := 0) rfl Try.underlying38 rfl sz36 rfl rfl rfl) ?_
 refine al_val (ov_load (i := 0) (v := v36) rfl rfl Try.underlying36 sz36 rfl rfl rfl rfl) ?_
 refine al_val (ov_lenR 2 rfl rfl Try.underlying36 rfl) ?_
 refine im_ ?_
 refine aw_cond rfl (fun hb52 => ?_) (fun hb52 => ?_)
 replace h := bif_t hb52 h
 refine aw_region ?_
 refine al_val (ov_fieldA (p := 0) rfl Try.underlying38 rfl sz36 rfl rfl rfl) ?_
 refine al_val (ov_load (i := 0) (v := v36) rfl rfl Try.underlying36 sz36 rfl rfl rfl rfl) ?_
 refine al_val (ov_build (cells := ([nS, (iq (0 : Int)), (bool false)] : List Value).toArray) (cs := [nS, (iq (0 : Int)), (bool false)]) rfl (fun w a hm hs => by simp only [List.map_toArray, List.map_cons, List.map_nil, List.toList_toArray]; kernel_rfl)) ?_
 refine al_buildSlice (τ := tyS_api_Thing) (e := 71) (k := 1) (sz := 0) (by_ := 0) (z := undef) (cs := [nS, (iq (0 : Int)), (bool false)]) (xs := [(S_api_Thing.mk ([] : (List Int)) (0 : Int) false)]) rfl (by decide) (fun w a hm hs => ⟨([nS, (iq (0 : Int)), (bool false)]).toArray, rfl, by simp only [List.map_toArray, List.map_cons, List.map_nil, hs.ev (x := .tmp 71) rfl]; exact run_bs [(ag [nS, (iq (0 : Int)), (bool false)])] [nS, (iq (0 : Int)), (bool false)] Try.underlying36 to71 rfl rfl (bs_cons (l := [nS, (iq (0 : Int)), (bool false)]) (cs := []) (cv_rfl rfl) rfl bs_nil) hm⟩) (fun hm => ⟨_, _, rfl, (fun hm => mknS_api_Thing (x := (S_api_Thing.mk ([] : (List Int)) (0 : Int) false)) rfl (nil_dat _ _ _)) hm, rfl⟩) rfl (fun v53 => ?_)
 obtain ⟨hc54, h⟩ := req_some h
 refine al_append 3 hc54.1 hc54.2 rfl (src_own (i := 3) 0 rfl) rfl rfl Try.underlying36 to71 rfl rfl rfl (fun v55 => ?_)
 refine al_val (ov_fieldA (p := 0) rfl Try.underlying38 rfl sz36 rfl rfl rfl) ?_
 refine al_store (i := 1) (vs := [v55]) (cs' := [v55, v39, (bool a0.Busy)]) rfl rfl rfl sz36 (cv_own 3 rfl) rfl (co_own 3 rfl co_nil) (Nat.le_of_ble_eq_true rfl) rfl rfl ?_
 refine al_nil ?_
 exact aq_join (v55, (r35 ++ ([(S_api_Thing.mk ([] : (List Int)) (0 : Int) false)]))) h (nm_ [4, 3, 2, 1] [0, 1, 2, 3, 4, 5, 6] (by decide) ⟨rfl, rfl, rfl, trivial⟩)
 replace h := bif_f hb52 h
 refine aw_skip ?_
 exact aq_join (v36, r35) h (nm_ [3, 2, 1, 0] [0, 1, 2, 3, 4, 5, 6] (by decide) ⟨rfl, rfl, rfl, trivial⟩)
 clear hkk23
 refine aw_block ?_
 refine aw_state (aw_loop (ι := Int) (fun i => (mm38 w0 Z0 a0 g1 g10 g3 r8 v0_0 v0_1 v9)) (fun i => (tab [(2, (pq g1)), (4, (pq g3)), (10, (iq i))])) (fun q i => f_lumref_Sweep_L58 a0 kk23 q i = some r) ?_ fu (0 : Int) h) (nm_ [0] [0, 1, 2, 3, 4] (by decide) ⟨rfl, rfl, rfl, trivial⟩)
 clear h
 rintro k57 l56i10 h
 have h : f_lumref_Sweep_L58 a0 kk23 k57 l56i10 = some r := h
 obtain _ | k57 := k57
 rw [f_lumref_Sweep_L58] at h; cases h
 rw [f_lumref_Sweep_L58] at h
 refine aw_show (m := (mm38 w0 Z0 a0 g1 g10 g3 r8 v0_0 v0_1 v9)) (S := _) ?_
 refine aw_seq ?_
 obtain ⟨kk60, hkk60, h⟩ := lt_some h
 refine aw_seq_join (ι := Bool) (fun i => (mm38 w0 Z0 a0 g1 g10 g3 r8 v0_0 v0_1 v9)) (fun i => (tab [(2, (pq g1)), (4, (pq g3)), (10, (iq l56i10)), (43, (bool i))])) (fun i => kk60 i = some r) ?_ ?_
 rintro j59b43 h
 have h : kk60 j59b43 = some r := h
 rw [hkk60] at h
 dsimp only at h
 clear hkk60
 refine aw_show (m := (mm38 w0 Z0 a0 g1 g10 g3 r8 v0_0 v0_1 v9)) (S := _) ?_
 refine aw_cond rfl (fun hb61 => ?_) (fun hb61 => ?_)
 replace h := bif_t hb61 h
 refine aw_skip ?_
 refine aq_then ?_
 refine aw_block ?_
 refine aw_region ?_
 refine mv_ ?_
 refine in_ ?_
 refine as_ ?_
 refine al_nil ?_
 refine aq_block ?_
 exact aq_again k57 (wq (l56i10 + (1 : Int))) (Nat.lt_succ_self _) h (nm_ [0] [0, 1, 2, 3, 4] (by decide) ⟨rfl, rfl, rfl, trivial⟩)
 replace h := bif_f hb61 h
 refine aw_exit ?_
 refine aq_then_exit ?_
 refine aq_then_exit ?_
 refine aq_block_exit ?_
 exact aq_join l56i10 h (nm_ [0] [0, 1, 2, 3, 4] (by decide) ⟨rfl, rfl, rfl, trivial⟩)
 clear hkk60
 refine aw_region ?_
 refine mv_ ?_
 refine al_fieldD (pr := fun (y : S_api_Heap) => y.Things) 0 rfl subS_api_Heap_0 rfl Try.underlying38 rfl sz36 rfl rfl (fun p62 => ?_)
 refine al_loadP1 0 rfl rfl Try.underlying36 sz36 rfl rfl rfl (fun s63 => ?_)
 refine al_val (ov_lenD 0 rfl rfl Try.underlying36 rfl) ?_
 refine in_ ?_
 refine mv_ ?_
 refine al_caseB 35 rfl (fun hb64 => ?_) (fun hb64 => ?_)
 replace h := bif_t hb64 h
 refine al_fieldD (pr := fun (y : S_api_Heap) => y.Things) 2 rfl subS_api_Heap_0 rfl Try.underlying38 rfl sz36 rfl rfl (fun p65 => ?_)
 refine al_loadP1 0 rfl rfl Try.underlying36 sz36 rfl rfl rfl (fun s66 => ?_)
 refine mv_ ?_
 obtain ⟨u67, hu68, h⟩ := opt_some h
 refine al_idxD 0 hu68 rfl rfl rfl Try.underlying36 sz71 rfl (fun p69 => ?_)
 refine al_fieldD (pr := fun (y : S_api_Thing) => y.Free) 0 rfl subS_api_Thing_2 rfl Try.underlying71 rfl sz4 rfl rfl (fun p70 => ?_)
 refine al_val (ov_loadP (ds := [(bool u67.Free)]) 0 rfl (fun h => h) rfl Try.underlying4 sz4 rfl rfl rfl) ?_
 refine al_val (ov_not rfl rfl) ?_
 refine al_val (ov_pick_t rfl rfl rfl) ?_
 refine al_nil ?_
 exact aq_join (!u67.Free) h (nm_ [0] [6, 7, 8, 9, 10] (by decide) ⟨rfl, rfl, rfl, rfl, trivial⟩)
 replace h := bif_f hb64 h
 iterate 7 refine al_skip ?_
 refine al_val (ov_pick_f rfl rfl rfl) ?_
 refine al_nil ?_
 exact aq_join false h (nm_ [0] [2, 3, 4, 5, 6] (by decide) ⟨rfl, rfl, rfl, rfl, trivial⟩)
 replace h := bif_f hb21 h
 refine aw_sr ?_
 refine in_ ?_
 refine an_ ?_
 refine aw_cond rfl (fun hb71 => ?_) (fun hb71 => ?_)
 replace h := bif_t hb71 h
 refine aw_seq ?_
 obtain ⟨kk73, hkk73, h⟩ := lt_some h
 refine aw_seq_join (ι := Bool) (fun i => (mm44 w0 Z0 a0 a1 g1 g10 g2 g3 r8 v0_0 v0_1 v9)) (fun i => (tab [(2, (pq g1)), (3, (pq g2)), (4, (pq g3)), (9, (Value.func (.func 38) #[] #[(pq g1)])), (96, (bool i))])) (fun i => kk73 i = some r) ?_ ?_
 rintro j72b96 h
 have h : kk73 j72b96 = some r := h
 rw [hkk73] at h
 dsimp only at h
 clear hkk73
 refine aw_show (m := (mm44 w0 Z0 a0 a1 g1 g10 g2 g3 r8 v0_0 v0_1 v9)) (S := _) ?_
 refine aw_cond rfl (fun hb74 => ?_) (fun hb74 => ?_)
 replace h := bif_t hb74 h
 refine aw_sr ?_
 refine al_val (ov_build (cells := ([nS, nS, (bool false)] : List Value).toArray) (cs := [nS, nS, (bool false)]) rfl (fun w a hm hs => by simp only [List.map_toArray, List.map_cons, List.map_nil, List.toList_toArray]; kernel_rfl)) ?_
 refine al_store (i := 1) (vs := [nS, nS, (bool false)]) (cs' := [nS, nS, (bool false)]) rfl rfl rfl sz38 (cv_rfl rfl) rfl (co_val rfl (co_val rfl (co_val rfl co_nil))) (Nat.le_of_ble_eq_true rfl) rfl rfl ?_
 refine an_ ?_
 refine aw_ret ?_
 refine aq_then_ret ?_
 refine aq_block_ret ?_
 refine aq_then_ret ?_
 refine aq_nilD tyS_api_Thing ?_
 refine aq_nilD tq ?_
 cases h
 exact fn_ret (nS, nS) [] [1, 0] rfl rfl rfl rfl (resC rfl (resB (i := 1) rfl rfl Try.underlying38 sz38 rfl rfl rfl (resT rfl (resN))) rfl) rfl rfl rfl (by decide)
 replace h := bif_f hb74 h
 refine aw_skip ?_
 refine aq_then ?_
 refine aw_seq ?_
 refine aw_sr ?_
 refine al_fieldD (pr := fun (y : S_api_Heap) => y.Things) 0 rfl subS_api_Heap_0 rfl Try.underlying38 rfl sz36 rfl rfl (fun p75 => ?_)
 refine al_loadP1 0 rfl rfl Try.underlying36 sz36 rfl rfl rfl (fun s76 => ?_)
 refine al_val (ov_fieldA (p := 1) rfl Try.underlying40 rfl sz3 rfl rfl rfl) ?_
 refine al_val (ov_load (i := 0) (v := (iq a1.From)) rfl rfl Try.underlying3 sz3 rfl rfl rfl rfl) ?_
 obtain ⟨u77, hu78, h⟩ := opt_some h
 refine al_idxD 0 hu78 rfl rfl rfl Try.underlying36 sz71 rfl (fun p79 => ?_)
 refine al_fieldD (pr := fun (y : S_api_Thing) => y.Kids) 0 rfl subS_api_Thing_0 rfl Try.underlying71 rfl sz30 rfl rfl (fun p80 => ?_)
 refine al_loadP1 0 rfl rfl Try.underlying30 sz30 rfl rfl rfl (fun s81 => ?_)
 refine al_val (ov_lenD 0 rfl rfl Try.underlying30 rfl) ?_
 refine im_ ?_
 refine aw_cond rfl (fun hb82 => ?_) (fun hb82 => ?_)
 replace h := bif_t hb82 h
 refine aw_sr ?_
 refine al_val (ov_build (cells := ([nS, nS, (bool false)] : List Value).toArray) (cs := [nS, nS, (bool false)]) rfl (fun w a hm hs => by simp only [List.map_toArray, List.map_cons, List.map_nil, List.toList_toArray]; kernel_rfl)) ?_
 refine al_store (i := 1) (vs := [nS, nS, (bool false)]) (cs' := [nS, nS, (bool false)]) rfl rfl rfl sz38 (cv_rfl rfl) rfl (co_val rfl (co_val rfl (co_val rfl co_nil))) (Nat.le_of_ble_eq_true rfl) rfl rfl ?_
 refine an_ ?_
 refine aw_ret ?_
 refine aq_then_ret ?_
 refine aq_block_ret ?_
 refine aq_then_ret ?_
 refine aq_nilD tyS_api_Thing ?_
 refine aq_nilD tq ?_
 cases h
 exact fn_ret (nS, nS) [] [1, 0] rfl rfl rfl rfl (resC rfl (resB (i := 1) rfl rfl Try.underlying38 sz38 rfl rfl rfl (resT rfl (resN))) rfl) rfl rfl rfl (by decide)
 replace h := bif_f hb82 h
 refine aw_skip ?_
 refine aq_then ?_
 refine aw_seq ?_
 obtain ⟨u85, hu86, h⟩ := opt_some h
 refine aw_region_open [(sp_ 0 108 (Value.func (.func 38) #[] #[(pq g1)])), (sp_ 1 109 (ptr g2 1)), (sp_ 2 110 (iq a1.From)), ⟨3, 111, Value, fun (i : Value) => { val := i, fz := [(fPtr (tyList tyS_api_Thing) i a0.Things)] }⟩, ⟨4, 112, Value, fun (i : Value) => { val := i, fz := [(fDat (tyList tyS_api_Thing) [i] a0.Things)] }⟩, (sp_ 5 113 (ptr g2 1)), (sp_ 6 114 (iq a1.From)), ⟨7, 115, Value, fun (i : Value) => { val := i, fz := [(fPtr tyS_api_Thing i u85)] }⟩, ⟨8, 116, Value, fun (i : Value) => { val := i, fz := [(fPtr (tyList tq) i u85.Kids)] }⟩, ⟨9, 117, Value, fun (i : Value) => { val := i, fz := [(fDat (tyList tq) [i] u85.Kids)] }⟩, (sp_ 10 118 (ptr g2 2)), (sp_ 11 119 (iq a1.To)), (sp_ 14 122 (ptr g2 2)), (sp_ 15 123 (iq a1.To))] (tab [(2, (pq g1)), (3, (pq g2)), (4, (pq g3)), (9, (Value.func (.func 38) #[] #[(pq g1)]))]) mixed (fun a hs => hs.tab _ (allT_mem ⟨rfl, rfl, rfl, rfl, trivial⟩)) ?_
 refine ta_show (m := (mm45 w0 Z0 a0 a1 g1 g10 g2 g3 p75 p79 p80 r8 s76 s81 u77 v0_0 v0_1 v9)) (S := _) ?_
 refine ta_step 12 _ [0, 1, 2, 3, 4, 5, 6, 7, 8, 9, 10, 11, 14, 15] [108, 109, 110, 111, 112, 113, 114, 115, 116, 117, 118, 119, 122, 123] [3, 4, 5, 6, 7, 8, 9, 10, 11] [] [⟨3, 111, Value, fun (i : Value) => { val := i, fz := [(fPtr (tyList tyS_api_Thing) i a0.Things)] }⟩, ⟨4, 112, Value, fun (i : Value) => { val := i, fz := [(fDat (tyList tyS_api_Thing) [i] a0.Things)] }⟩, (sp_ 5 113 (ptr g2 1)), (sp_ 6 114 (iq a1.From)), ⟨7, 115, Value, fun (i : Value) => { val := i, fz := [(fPtr tyS_api_Thing i u85)] }⟩, ⟨8, 116, Value, fun (i : Value) => { val := i, fz := [(fPtr (tyList tq) i u85.Kids)] }⟩, ⟨9, 117, Value, fun (i : Value) => { val := i, fz := [(fDat (tyList tq) [i] u85.Kids)] }⟩, (sp_ 10 118 (ptr g2 2)), (sp_ 11 119 (iq a1.To))] [(sp_ 0 108 (Value.func (.func 38) #[] #[(pq g1)])), (sp_ 1 109 (ptr g2 1)), (sp_ 2 110 (iq a1.From)), (sp_ 14 122 (ptr g2 2)), (sp_ 15 123 (iq a1.To))] rfl rfl rfl (by kernel_rfl) rfl rfl rfl ⟨⟨_, rfl, [], rfl, by
  intro X_ Y_ F_ K_ hK_
  refine sh_ (mm45 w0 Z0 a0 a1 g1 g10 g2 g3 p75 p79 p80 r8 s76 s81 u77 v0_0 v0_1 v9) X_ Y_ ?_
  refine mv_ ?_
  refine al_nil ?_
  exact fr_fin hK_ ()⟩, ⟨_, rfl, [], rfl, by
  intro X_ Y_ F_ K_ hK_
  refine sh_ (mm45 w0 Z0 a0 a1 g1 g10 g2 g3 p75 p79 p80 r8 s76 s81 u77 v0_0 v0_1 v9) X_ Y_ ?_
  refine al_val (ov_fieldA (p := 1) rfl Try.underlying40 rfl sz3 rfl rfl rfl) ?_
  refine al_nil ?_
  exact fr_fin hK_ ()⟩, ⟨_, rfl, [1], rfl, by
  intro _
  intro X_ Y_ F_ K_ hK_
  refine sh_ (mm45 w0 Z0 a0 a1 g1 g10 g2 g3 p75 p79 p80 r8 s76 s81 u77 v0_0 v0_1 v9) X_ Y_ ?_
  refine al_val (ov_load (i := 0) (v := (iq a1.From)) rfl rfl Try.underlying3 sz3 rfl rfl rfl rfl) ?_
  refine al_nil ?_
  exact fr_fin hK_ ()⟩, ⟨_, rfl, [], rfl, by
  intro X_ Y_ F_ K_ hK_
  refine sh_ (mm45 w0 Z0 a0 a1 g1 g10 g2 g3 p75 p79 p80 r8 s76 s81 u77 v0_0 v0_1 v9) X_ Y_ ?_
  refine al_fieldD (pr := fun (y : S_api_Heap) => y.Things) 5 rfl subS_api_Heap_0 rfl Try.underlying38 rfl sz36 rfl rfl (fun p83 => ?_)
  refine al_nil ?_
  exact fr_fin hK_ p83⟩, ⟨_, rfl, [3], rfl, by
  intro p83
  intro X_ Y_ F_ K_ hK_
  refine sh_ (memOf w0 Z0 [] [(oBox g2 40 [(iq a1.Kind), (iq a1.From), (iq a1.To)]), (oBox g3 38 [nS, nS, (bool false)])] [(fPtr (tyList tyS_api_Thing) p83 a0.Things), (fDat (tyList tq) [s81] u77.Kids), (fPtr (tyList tq) p80 u77.Kids), (fPtr tyS_api_Thing p79 u77), (fDat (tyList tyS_api_Thing) [s76] a0.Things), (fPtr (tyList tyS_api_Thing) p75 a0.Things), (fPtr tyS_api_Heap (pq g1) a0), (fPtr (tyList tyBool) (pq g10) r8), (fDat (tyList tyBool) [v9] r8), (fDat (tyList tyS_api_Thing) [v0_0] a0.Things), (fDat (tyList tq) [v0_1] a0.Roots)]) X_ Y_ ?_
  refine al_loadP1 0 rfl rfl Try.underlying36 sz36 rfl rfl rfl (fun s84 => ?_)
  refine al_nil ?_
  exact fr_fin hK_ s84⟩, ⟨_, rfl, [], rfl, by
  intro X_ Y_ F_ K_ hK_
  refine sh_ (mm45 w0 Z0 a0 a1 g1 g10 g2 g3 p75 p79 p80 r8 s76 s81 u77 v0_0 v0_1 v9) X_ Y_ ?_
  refine al_val (ov_fieldA (p := 1) rfl Try.underlying40 rfl sz3 rfl rfl rfl) ?_
  refine al_nil ?_
  exact fr_fin hK_ ()⟩, ⟨_, rfl, [5], rfl, by
  intro _
  intro X_ Y_ F_ K_ hK_
  refine sh_ (mm45 w0 Z0 a0 a1 g1 g10 g2 g3 p75 p79 p80 r8 s76 s81 u77 v0_0 v0_1 v9) X_ Y_ ?_
  refine al_val (ov_load (i := 0) (v := (iq a1.From)) rfl rfl Try.underlying3 sz3 rfl rfl rfl rfl) ?_
  refine al_nil ?_
  exact fr_fin hK_ ()⟩, ⟨_, rfl, [4, 6], rfl, by
  intro s84
  intro _
  intro X_ Y_ F_ K_ hK_
  refine sh_ (memOf w0 Z0 [] [(oBox g2 40 [(iq a1.Kind), (iq a1.From), (iq a1.To)]), (oBox g3 38 [nS, nS, (bool false)])] [(fDat (tyList tyS_api_Thing) [s84] a0.Things), (fDat (tyList tq) [s81] u77.Kids), (fPtr (tyList tq) p80 u77.Kids), (fPtr tyS_api_Thing p79 u77), (fDat (tyList tyS_api_Thing) [s76] a0.Things), (fPtr (tyList tyS_api_Thing) p75 a0.Things), (fPtr tyS_api_Heap (pq g1) a0), (fPtr (tyList tyBool) (pq g10) r8), (fDat (tyList tyBool) [v9] r8), (fDat (tyList tyS_api_Thing) [v0_0] a0.Things), (fDat (tyList tq) [v0_1] a0.Roots)]) X_ Y_ ?_
  refine al_idxD 0 hu86 rfl rfl rfl Try.underlying36 sz71 rfl (fun p87 => ?_)
  refine al_nil ?_
  exact fr_fin hK_ p87⟩, ⟨_, rfl, [7], rfl, by
  intro p87
  intro X_ Y_ F_ K_ hK_
  refine sh_ (memOf w0 Z0 [] [(oBox g2 40 [(iq a1.Kind), (iq a1.From), (iq a1.To)]), (oBox g3 38 [nS, nS, (bool false)])] [(fPtr tyS_api_Thing p87 u85), (fDat (tyList tq) [s81] u77.Kids), (fPtr (tyList tq) p80 u77.Kids), (fPtr tyS_api_Thing p79 u77), (fDat (tyList tyS_api_Thing) [s76] a0.Things), (fPtr (tyList tyS_api_Thing) p75 a0.Things), (fPtr tyS_api_Heap (pq g1) a0), (fPtr (tyList tyBool) (pq g10) r8), (fDat (tyList tyBool) [v9] r8), (fDat (tyList tyS_api_Thing) [v0_0] a0.Things), (fDat (tyList tq) [v0_1] a0.Roots)]) X_ Y_ ?_
  refine al_fieldD (pr := fun (y : S_api_Thing) => y.Kids) 0 rfl subS_api_Thing_0 rfl Try.underlying71 rfl sz30 rfl rfl (fun p88 => ?_)
  refine al_nil ?_
  exact fr_fin hK_ p88⟩, ⟨_, rfl, [8], rfl, by
  intro p88
  intro X_ Y_ F_ K_ hK_
  refine sh_ (memOf w0 Z0 [] [(oBox g2 40 [(iq a1.Kind), (iq a1.From), (iq a1.To)]), (oBox g3 38 [nS, nS, (bool false)])] [(fPtr (tyList tq) p88 u85.Kids), (fDat (tyList tq) [s81] u77.Kids), (fPtr (tyList tq) p80 u77.Kids), (fPtr tyS_api_Thing p79 u77), (fDat (tyList tyS_api_Thing) [s76] a0.Things), (fPtr (tyList tyS_api_Thing) p75 a0.Things), (fPtr tyS_api_Heap (pq g1) a0), (fPtr (tyList tyBool) (pq g10) r8), (fDat (tyList tyBool) [v9] r8), (fDat (tyList tyS_api_Thing) [v0_0] a0.Things), (fDat (tyList tq) [v0_1] a0.Roots)]) X_ Y_ ?_
  refine al_loadP1 0 rfl rfl Try.underlying30 sz30 rfl rfl rfl (fun s89 => ?_)
  refine al_nil ?_
  exact fr_fin hK_ s89⟩, ⟨_, rfl, [], rfl, by
  intro X_ Y_ F_ K_ hK_
  refine sh_ (mm45 w0 Z0 a0 a1 g1 g10 g2 g3 p75 p79 p80 r8 s76 s81 u77 v0_0 v0_1 v9) X_ Y_ ?_
  refine al_val (ov_fieldA (p := 2) rfl Try.underlying40 rfl sz3 rfl rfl rfl) ?_
  refine al_nil ?_
  exact fr_fin hK_ ()⟩, ⟨_, rfl, [10], rfl, by
  intro _
  intro X_ Y_ F_ K_ hK_
  refine sh_ (mm45 w0 Z0 a0 a1 g1 g10 g2 g3 p75 p79 p80 r8 s76 s81 u77 v0_0 v0_1 v9) X_ Y_ ?_
  refine al_val (ov_load (i := 0) (v := (iq a1.To)) rfl rfl Try.underlying3 sz3 rfl rfl rfl rfl) ?_
  refine al_nil ?_
  exact fr_fin hK_ ()⟩, ⟨_, rfl, [], rfl, by
  intro X_ Y_ F_ K_ hK_
  refine sh_ (mm45 w0 Z0 a0 a1 g1 g10 g2 g3 p75 p79 p80 r8 s76 s81 u77 v0_0 v0_1 v9) X_ Y_ ?_
  refine al_val (ov_fieldA (p := 2) rfl Try.underlying40 rfl sz3 rfl rfl rfl) ?_
  refine al_nil ?_
  exact fr_fin hK_ ()⟩, ⟨_, rfl, [12], rfl, by
  intro _
  intro X_ Y_ F_ K_ hK_
  refine sh_ (mm45 w0 Z0 a0 a1 g1 g10 g2 g3 p75 p79 p80 r8 s76 s81 u77 v0_0 v0_1 v9) X_ Y_ ?_
  refine al_val (ov_load (i := 0) (v := (iq a1.To)) rfl rfl Try.underlying3 sz3 rfl rfl rfl rfl) ?_
  refine al_nil ?_
  exact fr_fin hK_ ()⟩, trivial⟩ ?_
 intro p83
 intro s84
 intro _
 intro _
 intro p87
 intro p88
 intro s89
 intro _
 intro _
 intro X_ Y_ F_ K_ hK_
 refine sh_ (memOf w0 Z0 [] [(oBox g2 40 [(iq a1.Kind), (iq a1.From), (iq a1.To)]), (oBox g3 38 [nS, nS, (bool false)])] [(fDat (tyList tq) [s89] u85.Kids), (fPtr (tyList tq) p88 u85.Kids), (fPtr tyS_api_Thing p87 u85), (fDat (tyList tyS_api_Thing) [s84] a0.Things), (fPtr (tyList tyS_api_Thing) p83 a0.Things), (fDat (tyList tq) [s81] u77.Kids), (fPtr (tyList tq) p80 u77.Kids), (fPtr tyS_api_Thing p79 u77), (fDat (tyList tyS_api_Thing) [s76] a0.Things), (fPtr (tyList tyS_api_Thing) p75 a0.Things), (fPtr tyS_api_Heap (pq g1) a0), (fPtr (tyList tyBool) (pq g10) r8), (fDat (tyList tyBool) [v9] r8), (fDat (tyList tyS_api_Thing) [v0_0] a0.Things), (fDat (tyList tq) [v0_1] a0.Roots)]) X_ Y_ ?_
 obtain ⟨r91, hc90, h⟩ := opt_some h
 refine al_callX (vs := [s89, (iq a1.To)]) (f_lumref_with_ok fu s89 u85.Kids a1.To hc90) [] [] [0, 1] (pre_fz 0 rfl pre_nil) rfl (by simp) (by decide) rfl (.inl rfl) rfl Try.func41 rfl rfl rfl (fun v92 => ?_)
 refine al_nil ?_
 refine aq_show (m := Mem.plus (memOf w0 Z0 [] [(oRow v92 3 tq r91), (oBox g2 40 [(iq a1.Kind), (iq a1.From), (iq a1.To)]), (oBox g3 38 [nS, nS, (bool false)])] [(fDat (tyList tq) [s89] u85.Kids), (fPtr (tyList tq) p88 u85.Kids), (fPtr tyS_api_Thing p87 u85), (fDat (tyList tyS_api_Thing) [s84] a0.Things), (fPtr (tyList tyS_api_Thing) p83 a0.Things), (fDat (tyList tq) [s81] u77.Kids), (fPtr (tyList tq) p80 u77.Kids), (fPtr tyS_api_Thing p79 u77), (fDat (tyList tyS_api_Thing) [s76] a0.Things), (fPtr (tyList tyS_api_Thing) p75 a0.Things), (fPtr tyS_api_Heap (pq g1) a0), (fPtr (tyList tyBool) (pq g10) r8), (fDat (tyList tyBool) [v9] r8), (fDat (tyList tyS_api_Thing) [v0_0] a0.Things), (fDat (tyList tq) [v0_1] a0.Roots)]) X_ Y_) ?_
 refine aq_next hK_ [0, 1, 2] [5, 6, 7, 8, 9, 10, 11, 12, 13, 14] [(3, (pq g2)), (4, (pq g3)), (9, (Value.func (.func 38) #[] #[(pq g1)])), (120, v92)] [108, 109, 110, 122, 123] [] rfl rfl (by decide) rfl ⟨rfl, rfl, rfl, rfl, trivial⟩ ⟨rfl, rfl, rfl, rfl, rfl, trivial⟩ ?_
 clear hK_ K_ F_ X_ Y_
 refine ta_show (m := (mm46 w0 Z0 a0 a1 g1 g10 g2 g3 p75 p79 p80 r8 r91 s76 s81 u77 v0_0 v0_1 v9 v92)) (S := _) ?_
 refine ta_step 13 _ [0, 1, 2, 14, 15] [108, 109, 110, 122, 123] [0, 1, 2] [] [(sp_ 0 108 (Value.func (.func 38) #[] #[(pq g1)])), (sp_ 1 109 (ptr g2 1)), (sp_ 2 110 (iq a1.From))] [(sp_ 14 122 (ptr g2 2)), (sp_ 15 123 (iq a1.To))] rfl rfl rfl (by kernel_rfl) rfl rfl rfl ⟨⟨_, rfl, [], rfl, by
  intro X_ Y_ F_ K_ hK_
  refine sh_ (mm46 w0 Z0 a0 a1 g1 g10 g2 g3 p75 p79 p80 r8 r91 s76 s81 u77 v0_0 v0_1 v9 v92) X_ Y_ ?_
  refine mv_ ?_
  refine al_nil ?_
  exact fr_fin hK_ ()⟩, ⟨_, rfl, [], rfl, by
  intro X_ Y_ F_ K_ hK_
  refine sh_ (mm46 w0 Z0 a0 a1 g1 g10 g2 g3 p75 p79 p80 r8 r91 s76 s81 u77 v0_0 v0_1 v9 v92) X_ Y_ ?_
  refine al_val (ov_fieldA (p := 1) rfl Try.underlying40 rfl sz3 rfl rfl rfl) ?_
  refine al_nil ?_
  exact fr_fin hK_ ()⟩, ⟨_, rfl, [1], rfl, by
  intro _
  intro X_ Y_ F_ K_ hK_
  refine sh_ (mm46 w0 Z0 a0 a1 g1 g10 g2 g3 p75 p79 p80 r8 r91 s76 s81 u77 v0_0 v0_1 v9 v92) X_ Y_ ?_
  refine al_val (ov_load (i := 1) (v := (iq a1.From)) rfl rfl Try.underlying3 sz3 rfl rfl rfl rfl) ?_
  refine al_nil ?_
  exact fr_fin hK_ ()⟩, ⟨_, rfl, [], rfl, by
  intro X_ Y_ F_ K_ hK_
  refine sh_ (mm46 w0 Z0 a0 a1 g1 g10 g2 g3 p75 p79 p80 r8 r91 s76 s81 u77 v0_0 v0_1 v9 v92) X_ Y_ ?_
  refine al_val (ov_fieldA (p := 2) rfl Try.underlying40 rfl sz3 rfl rfl rfl) ?_
  refine al_nil ?_
  exact fr_fin hK_ ()⟩, ⟨_, rfl, [3], rfl, by
  intro _
  intro X_ Y_ F_ K_ hK_
  refine sh_ (mm46 w0 Z0 a0 a1 g1 g10 g2 g3 p75 p79 p80 r8 r91 s76 s81 u77 v0_0 v0_1 v9 v92) X_ Y_ ?_
  refine al_val (ov_load (i := 1) (v := (iq a1.To)) rfl rfl Try.underlying3 sz3 rfl rfl rfl rfl) ?_
  refine al_nil ?_
  exact fr_fin hK_ ()⟩, trivial⟩ ?_
 intro _
 intro _
 intro _
 intro X_ Y_ F_ K_ hK_
 refine sh_ (mm46 w0 Z0 a0 a1 g1 g10 g2 g3 p75 p79 p80 r8 r91 s76 s81 u77 v0_0 v0_1 v9 v92) X_ Y_ ?_
 refine al_freeze 0 rfl rfl ?_
 refine sh_ (memOf w0 Z0 [] [(oBox g2 40 [(iq a1.Kind), (iq a1.From), (iq a1.To)]), (oBox g3 38 [nS, nS, (bool false)])] [(fDat (tyList tq) [v92] r91), (fDat (tyList tq) [s81] u77.Kids), (fPtr (tyList tq) p80 u77.Kids), (fPtr tyS_api_Thing p79 u77), (fDat (tyList tyS_api_Thing) [s76] a0.Things), (fPtr (tyList tyS_api_Thing) p75 a0.Things), (fPtr tyS_api_Heap (pq g1) a0), (fPtr (tyList tyBool) (pq g10) r8), (fDat (tyList tyBool) [v9] r8), (fDat (tyList tyS_api_Thing) [v0_0] a0.Things), (fDat (tyList tq) [v0_1] a0.Roots)]) X_ Y_ ?_
 obtain ⟨r94, hc93, h⟩ := opt_some h
 refine al_callFX (vs := [(iq a1.From), v92]) (caps := [(pq g1)]) (f_lumref_Sweep_2_ok fu a1.From v92 r91 (pq g1) a0 hc93) rfl [] [] [0, 1] (pre_fz 0 rfl (pre_fz 6 rfl pre_nil)) rfl (by simp) (by decide) rfl (.inl rfl) rfl rfl Try.func38 rfl rfl rfl (fun ⟨v95, v96⟩ => ?_)
 refine al_nil ?_
 refine aq_show (m := Mem.plus (memOf w0 Z0 [] [(oBox g2 40 [(iq a1.Kind), (iq a1.From), (iq a1.To)]), (oBox g3 38 [nS, nS, (bool false)])] [(fDat (tyList tyS_api_Thing) [v95] r94.Things), (fDat (tyList tq) [v96] r94.Roots), (fDat (tyList tq) [v92] r91), (fDat (tyList tq) [s81] u77.Kids), (fPtr (tyList tq) p80 u77.Kids), (fPtr tyS_api_Thing p79 u77), (fDat (tyList tyS_api_Thing) [s76] a0.Things), (fPtr (tyList tyS_api_Thing) p75 a0.Things), (fPtr tyS_api_Heap (pq g1) a0), (fPtr (tyList tyBool) (pq g10) r8), (fDat (tyList tyBool) [v9] r8), (fDat (tyList tyS_api_Thing) [v0_0] a0.Things), (fDat (tyList tq) [v0_1] a0.Roots)]) X_ Y_) ?_
 refine aq_next hK_ [0, 1] [0, 1, 3, 4, 5, 6, 7, 8, 9, 10, 11, 12] [(3, (pq g2)), (4, (pq g3)), (121, (ag [v95, v96, (bool r94.Busy)]))] [122, 123] [] rfl rfl (by decide) rfl ⟨rfl, rfl, rfl, trivial⟩ ⟨rfl, rfl, trivial⟩ ?_
 clear hK_ K_ F_ X_ Y_
 refine ta_show (m := (mm47 w0 Z0 a0 a1 g1 g10 g2 g3 p75 p79 p80 r8 r94 s76 s81 u77 v0_0 v0_1 v9 v95 v96)) (S := _) ?_
 refine ta_step 16 _ [14, 15] [122, 123] [14, 15] [] [(sp_ 14 122 (ptr g2 2)), (sp_ 15 123 (iq a1.To))] [] rfl rfl rfl (by kernel_rfl) rfl rfl rfl ⟨⟨_, rfl, [], rfl, by
  intro X_ Y_ F_ K_ hK_
  refine sh_ (mm47 w0 Z0 a0 a1 g1 g10 g2 g3 p75 p79 p80 r8 r94 s76 s81 u77 v0_0 v0_1 v9 v95 v96) X_ Y_ ?_
  refine al_val (ov_fieldA (p := 2) rfl Try.underlying40 rfl sz3 rfl rfl rfl) ?_
  refine al_nil ?_
  exact fr_fin hK_ ()⟩, ⟨_, rfl, [0], rfl, by
  intro _
  intro X_ Y_ F_ K_ hK_
  refine sh_ (mm47 w0 Z0 a0 a1 g1 g10 g2 g3 p75 p79 p80 r8 r94 s76 s81 u77 v0_0 v0_1 v9 v95 v96) X_ Y_ ?_
  refine al_val (ov_load (i := 0) (v := (iq a1.To)) rfl rfl Try.underlying3 sz3 rfl rfl rfl rfl) ?_
  refine al_nil ?_
  exact fr_fin hK_ ()⟩, trivial⟩ ?_
 intro _
 intro _
 intro X_ Y_ F_ K_ hK_
 refine sh_ (mm47 w0 Z0 a0 a1 g1 g10 g2 g3 p75 p79 p80 r8 r94 s76 s81 u77 v0_0 v0_1 v9 v95 v96) X_ Y_ ?_
 obtain ⟨r98, hc97, h⟩ := opt_some h
 refine al_callX (vs := [(ag [v95, v96, (bool r94.Busy)]), (iq a1.To)]) (f_lumref_shaded_ok fu v95 v96 r94 a1.To hc97) [] [] [0, 1] (pre_fz 0 rfl (pre_fz 1 rfl pre_nil)) rfl (by simp) (by decide) rfl (.inl rfl) rfl Try.func42 rfl rfl rfl (fun ⟨v99, v100⟩ => ?_)
 refine al_nil ?_
 refine aq_show (m := Mem.plus (mm48 w0 Z0 a0 a1 g1 g10 g2 g3 p75 p79 p80 r8 r94 r98 s76 s81 u77 v0_0 v0_1 v100 v9 v95 v96 v99) X_ Y_) ?_
 refine aq_next hK_ [0, 1] [0, 1, 2, 3, 4, 5, 6, 7, 8, 9, 10, 11, 12, 13] [(4, (pq g3)), (124, (ag [v99, v100, (bool r98.Busy)]))] [] [] rfl rfl (by decide) rfl ⟨rfl, rfl, trivial⟩ trivial ?_
 clear hK_ K_ F_ X_ Y_
 refine ta_show (m := (mm48 w0 Z0 a0 a1 g1 g10 g2 g3 p75 p79 p80 r8 r94 r98 s76 s81 u77 v0_0 v0_1 v100 v9 v95 v96 v99)) (S := _) ?_
 refine ta_step 17 _ [] [] [] [] [] [] rfl rfl rfl (by kernel_rfl) rfl rfl rfl trivial ?_
 intro X_ Y_ F_ K_ hK_
 refine sh_ (mm48 w0 Z0 a0 a1 g1 g10 g2 g3 p75 p79 p80 r8 r94 r98 s76 s81 u77 v0_0 v0_1 v100 v9 v95 v96 v99) X_ Y_ ?_
 refine al_store (i := 1) (vs := [v99, v100, (bool r98.Busy)]) (cs' := [v99, v100, (bool r98.Busy)]) rfl rfl rfl sz38 (cv_rfl rfl) rfl (co_fz 0 rfl (co_fz 1 rfl (co_val rfl co_nil))) (Nat.le_of_ble_eq_true rfl) rfl rfl ?_
 refine al_nil ?_
 refine aq_show (m := Mem.plus (mm49 w0 Z0 a0 a1 g1 g10 g2 g3 p75 p79 p80 r8 r94 r98 s76 s81 u77 v0_0 v0_1 v100 v9 v95 v96 v99) X_ Y_) ?_
 refine aq_next hK_ [0, 1] [0, 1, 2, 3, 4, 5, 6, 7, 8, 9, 10, 11, 12, 13] [(4, (pq g3))] [] [] rfl rfl (by decide) rfl ⟨rfl, trivial⟩ trivial ?_
 clear hK_ K_ F_ X_ Y_
 refine ta_show (m := (mm49 w0 Z0 a0 a1 g1 g10 g2 g3 p75 p79 p80 r8 r94 r98 s76 s81 u77 v0_0 v0_1 v100 v9 v95 v96 v99)) (S := _) ?_
 refine ta_step 18 _ [] [] [] [] [] [] rfl rfl rfl (by kernel_rfl) rfl rfl rfl trivial ?_
 intro X_ Y_ F_ K_ hK_
 refine sh_ (mm49 w0 Z0 a0 a1 g1 g10 g2 g3 p75 p79 p80 r8 r94 r98 s76 s81 u77 v0_0 v0_1 v100 v9 v95 v96 v99) X_ Y_ ?_
 refine as_ ?_
 refine al_nil ?_
 refine aq_show (m := Mem.plus (mm49 w0 Z0 a0 a1 g1 g10 g2 g3 p75 p79 p80 r8 r94 r98 s76 s81 u77 v0_0 v0_1 v100 v9 v95 v96 v99) X_ Y_) ?_
 refine aq_next hK_ [0, 1] [0, 1, 2, 3, 4, 5, 6, 7, 8, 9, 10, 11, 12, 13] [(4, (pq g3)), (5, (iq (0 : Int)))] [] [] rfl rfl (by decide) rfl ⟨rfl, rfl, trivial⟩ trivial ?_
 clear hK_ K_ F_ X_ Y_
 refine ta_show (m := (mm49 w0 Z0 a0 a1 g1 g10 g2 g3 p75 p79 p80 r8 r94 r98 s76 s81 u77 v0_0 v0_1 v100 v9 v95 v96 v99)) (S := _) ?_
 refine ta_end [] [] rfl rfl (by kernel_rfl) rfl trivial ?_
 refine aq_show (m := (mm49 w0 Z0 a0 a1 g1 g10 g2 g3 p75 p79 p80 r8 r94 r98 s76 s81 u77 v0_0 v0_1 v100 v9 v95 v96 v99)) (S := (tab [(4, (pq g3)), (5, (iq (0 : Int)))])) ?_
 refine aq_then ?_
 refine aw_ret ?_
 refine aq_block_ret ?_
 refine aq_then_ret ?_
 cases h
 exact fn_ret (v99, v100) [] [0, 1] rfl rfl rfl rfl (resC rfl (resB (i := 1) rfl rfl Try.underlying38 sz38 rfl rfl rfl (resT rfl (resN))) rfl) rfl rfl rfl (by decide)
 clear hkk73
 refine aw_region ?_
 refine mv_ ?_
 refine al_val (ov_fieldA (p := 1) rfl Try.underlying40 rfl sz3 rfl rfl rfl) ?_
 refine al_val (ov_load (i := 1) (v := (iq a1.From)) rfl rfl Try.underlying3 sz3 rfl rfl rfl rfl) ?_
 obtain ⟨r102, hc101, h⟩ := opt_some h
 refine al_callF (vs := [(iq a1.From)]) (caps := [(pq g10)]) (f_lumref_Sweep_1_ok fu a1.From (pq g10) r8 hc101) rfl [] [] [0, 1] (pre_fz 1 rfl pre_nil) rfl (by simp) (by decide) (.inl rfl) rfl rfl Try.func37 rfl rfl rfl (fun _ => ?_)
 refine al_val (ov_not rfl rfl) ?_
 refine mv_ ?_
 refine al_caseB 90 rfl (fun hb103 => ?_) (fun hb103 => ?_)
 replace h := bif_t hb103 h
 iterate 5 refine al_skip ?_
 refine al_val (ov_pick_t rfl rfl rfl) ?_
 refine al_nil ?_
 exact aq_join true h (nm_ [1, 0] [0, 1, 2, 3, 4] (by decide) ⟨rfl, rfl, rfl, rfl, rfl, trivial⟩)
 replace h := bif_f hb103 h
 refine mv_ ?_
 refine al_val (ov_fieldA (p := 2) rfl Try.underlying40 rfl sz3 rfl rfl rfl) ?_
 refine al_val (ov_load (i := 1) (v := (iq a1.To)) rfl rfl Try.underlying3 sz3 rfl rfl rfl rfl) ?_
 obtain ⟨r105, hc104, h⟩ := opt_some h
 refine al_callF (vs := [(iq a1.To)]) (caps := [(pq g10)]) (f_lumref_Sweep_1_ok fu a1.To (pq g10) r8 hc104) rfl [] [] [0, 1] (pre_fz 1 rfl pre_nil) rfl (by simp) (by decide) (.inl rfl) rfl rfl Try.func37 rfl rfl rfl (fun _ => ?_)
 refine al_val (ov_not rfl rfl) ?_
 refine al_val (ov_pick_f rfl rfl rfl) ?_
 refine al_nil ?_
 exact aq_join (!r105) h (nm_ [1, 0] [0, 1, 2, 3, 4] (by decide) ⟨rfl, rfl, rfl, rfl, rfl, trivial⟩)
 replace h := bif_f hb71 h
 refine aw_sr ?_
 refine in_ ?_
 refine an_ ?_
 refine aw_cond rfl (fun hb106 => ?_) (fun hb106 => ?_)
 replace h := bif_t hb106 h
 refine aw_seq ?_
 obtain ⟨kk108, hkk108, h⟩ := lt_some h
 refine aw_seq_join (ι := Bool) (fun i => (mm44 w0 Z0 a0 a1 g1 g10 g2 g3 r8 v0_0 v0_1 v9)) (fun i => (tab [(2, (pq g1)), (3, (pq g2)), (4, (pq g3)), (9, (Value.func (.func 38) #[] #[(pq g1)])), (149, (bool i))])) (fun i => kk108 i = some r) ?_ ?_
 rintro j107b149 h
 have h : kk108 j107b149 = some r := h
 rw [hkk108] at h
 dsimp only at h
 clear hkk108
 refine aw_show (m := (mm44 w0 Z0 a0 a1 g1 g10 g2 g3 r8 v0_0 v0_1 v9)) (S := _) ?_
 refine aw_cond rfl (fun hb109 => ?_) (fun hb109 => ?_)
 replace h := bif_t hb109 h
 refine aw_sr ?_
 refine al_val (ov_build (cells := ([nS, nS, (bool false)] : List Value).toArray) (cs := [nS, nS, (bool false)]) rfl (fun w a hm hs => by simp only [List.map_toArray, List.map_cons, List.map_nil, List.toList_toArray]; kernel_rfl)) ?_
 refine al_store (i := 1) (vs := [nS, nS, (bool false)]) (cs' := [nS, nS, (bool false)]) rfl rfl rfl sz38 (cv_rfl rfl) rfl (co_val rfl (co_val rfl (co_val rfl co_nil))) (Nat.le_of_ble_eq_true rfl) rfl rfl ?_
 refine an_ ?_
 refine aw_ret ?_
 refine aq_then_ret ?_
 refine aq_block_ret ?_
 refine aq_then_ret ?_
 refine aq_nilD tyS_api_Thing ?_
 refine aq_nilD tq ?_
 cases h
 exact fn_ret (nS, nS) [] [1, 0] rfl rfl rfl rfl (resC rfl (resB (i := 1) rfl rfl Try.underlying38 sz38 rfl rfl rfl (resT rfl (resN))) rfl) rfl rfl rfl (by decide)
 replace h := bif_f hb109 h
 refine aw_skip ?_
 refine aq_then ?_
 refine aw_seq ?_
 obtain ⟨u112, hu113, h⟩ := opt_some h
 refine aw_region_open [(sp_ 0 151 (Value.func (.func 38) #[] #[(pq g1)])), (sp_ 1 152 (ptr g2 1)), (sp_ 2 153 (iq a1.From)), ⟨3, 154, Value, fun (i : Value) => { val := i, fz := [(fPtr (tyList tyS_api_Thing) i a0.Things)] }⟩, ⟨4, 155, Value, fun (i : Value) => { val := i, fz := [(fDat (tyList tyS_api_Thing) [i] a0.Things)] }⟩, (sp_ 5 156 (ptr g2 1)), (sp_ 6 157 (iq a1.From)), ⟨7, 158, Value, fun (i : Value) => { val := i, fz := [(fPtr tyS_api_Thing i u112)] }⟩, ⟨8, 159, Value, fun (i : Value) => { val := i, fz := [(fPtr (tyList tq) i u112.Kids)] }⟩, ⟨9, 160, Value, fun (i : Value) => { val := i, fz := [(fDat (tyList tq) [i] u112.Kids)] }⟩, (sp_ 10 161 (ptr g2 2)), (sp_ 11 162 (iq a1.To))] (tab [(2, (pq g1)), (3, (pq g2)), (4, (pq g3)), (9, (Value.func (.func 38) #[] #[(pq g1)]))]) mixed (fun a hs => hs.tab _ (allT_mem ⟨rfl, rfl, rfl, rfl, trivial⟩)) ?_
 refine ta_show (m := (mm44 w0 Z0 a0 a1 g1 g10 g2 g3 r8 v0_0 v0_1 v9)) (S := _) ?_
 refine ta_step 12 _ [0, 1, 2, 3, 4, 5, 6, 7, 8, 9, 10, 11] [151, 152, 153, 154, 155, 156, 157, 158, 159, 160, 161, 162] [3, 4, 5, 6, 7, 8, 9, 10, 11] [] [⟨3, 154, Value, fun (i : Value) => { val := i, fz := [(fPtr (tyList tyS_api_Thing) i a0.Things)] }⟩, ⟨4, 155, Value, fun (i : Value) => { val := i, fz := [(fDat (tyList tyS_api_Thing) [i] a0.Things)] }⟩, (sp_ 5 156 (ptr g2 1)), (sp_ 6 157 (iq a1.From)), ⟨7, 158, Value, fun (i : Value) => { val := i, fz := [(fPtr tyS_api_Thing i u112)] }⟩, ⟨8, 159, Value, fun (i : Value) => { val := i, fz := [(fPtr (tyList tq) i u112.Kids)] }⟩, ⟨9, 160, Value, fun (i : Value) => { val := i, fz := [(fDat (tyList tq) [i] u112.Kids)] }⟩, (sp_ 10 161 (ptr g2 2)), (sp_ 11 162 (iq a1.To))] [(sp_ 0 151 (Value.func (.func 38) #[] #[(pq g1)])), (sp_ 1 152 (ptr g2 1)), (sp_ 2 153 (iq a1.From))] rfl rfl rfl (by kernel_rfl) rfl rfl rfl ⟨⟨_, rfl, [], rfl, by
  intro X_ Y_ F_ K_ hK_
  refine sh_ (mm44 w0 Z0 a0 a1 g1 g10 g2 g3 r8 v0_0 v0_1 v9) X_ Y_ ?_
  refine mv_ ?_
  refine al_nil ?_
  exact fr_fin hK_ ()⟩, ⟨_, rfl, [], rfl, by
  intro X_ Y_ F_ K_ hK_
  refine sh_ (mm44 w0 Z0 a0 a1 g1 g10 g2 g3 r8 v0_0 v0_1 v9) X_ Y_ ?_
  refine al_val (ov_fieldA (p := 1) rfl Try.underlying40 rfl sz3 rfl rfl rfl) ?_
  refine al_nil ?_
  exact fr_fin hK_ ()⟩, ⟨_, rfl, [1], rfl, by
  intro _
  intro X_ Y_ F_ K_ hK_
  refine sh_ (mm44 w0 Z0 a0 a1 g1 g10 g2 g3 r8 v0_0 v0_1 v9) X_ Y_ ?_
  refine al_val (ov_load (i := 0) (v := (iq a1.From)) rfl rfl Try.underlying3 sz3 rfl rfl rfl rfl) ?_
  refine al_nil ?_
  exact fr_fin hK_ ()⟩, ⟨_, rfl, [], rfl, by
  intro X_ Y_ F_ K_ hK_
  refine sh_ (mm44 w0 Z0 a0 a1 g1 g10 g2 g3 r8 v0_0 v0_1 v9) X_ Y_ ?_
  refine al_fieldD (pr := fun (y : S_api_Heap) => y.Things) 0 rfl subS_api_Heap_0 rfl Try.underlying38 rfl sz36 rfl rfl (fun p110 => ?_)
  refine al_nil ?_
  exact fr_fin hK_ p110⟩, ⟨_, rfl, [3], rfl, by
  intro p110
  intro X_ Y_ F_ K_ hK_
  refine sh_ (memOf w0 Z0 [] [(oBox g2 40 [(iq a1.Kind), (iq a1.From), (iq a1.To)]), (oBox g3 38 [nS, nS, (bool false)])] [(fPtr (tyList tyS_api_Thing) p110 a0.Things), (fPtr tyS_api_Heap (pq g1) a0), (fPtr (tyList tyBool) (pq g10) r8), (fDat (tyList tyBool) [v9] r8), (fDat (tyList tyS_api_Thing) [v0_0] a0.Things), (fDat (tyList tq) [v0_1] a0.Roots)]) X_ Y_ ?_
  refine al_loadP1 0 rfl rfl Try.underlying36 sz36 rfl rfl rfl (fun s111 => ?_)
  refine al_nil ?_
  exact fr_fin hK_ s111⟩, ⟨_, rfl, [], rfl, by
  intro X_ Y_ F_ K_ hK_
  refine sh_ (mm44 w0 Z0 a0 a1 g1 g10 g2 g3 r8 v0_0 v0_1 v9) X_ Y_ ?_
  refine al_val (ov_fieldA (p := 1) rfl Try.underlying40 rfl sz3 rfl rfl rfl) ?_
  refine al_nil ?_
  exact fr_fin hK_ ()⟩, ⟨_, rfl, [5], rfl, by
  intro _
  intro X_ Y_ F_ K_ hK_
  refine sh_ (mm44 w0 Z0 a0 a1 g1 g10 g2 g3 r8 v0_0 v0_1 v9) X_ Y_ ?_
  refine al_val (ov_load (i := 0) (v := (iq a1.From)) rfl rfl Try.underlying3 sz3 rfl rfl rfl rfl) ?_
  refine al_nil ?_
  exact fr_fin hK_ ()⟩, ⟨_, rfl, [4, 6], rfl, by
  intro s111
  intro _
  intro X_ Y_ F_ K_ hK_
  refine sh_ (memOf w0 Z0 [] [(oBox g2 40 [(iq a1.Kind), (iq a1.From), (iq a1.To)]), (oBox g3 38 [nS, nS, (bool false)])] [(fDat (tyList tyS_api_Thing) [s111] a0.Things), (fPtr tyS_api_Heap (pq g1) a0), (fPtr (tyList tyBool) (pq g10) r8), (fDat (tyList tyBool) [v9] r8), (fDat (tyList tyS_api_Thing) [v0_0] a0.Things), (fDat (tyList tq) [v0_1] a0.Roots)]) X_ Y_ ?_
  refine al_idxD 0 hu113 rfl rfl rfl Try.underlying36 sz71 rfl (fun p114 => ?_)
  refine al_nil ?_
  exact fr_fin hK_ p114⟩, ⟨_, rfl, [7], rfl, by
  intro p114
  intro X_ Y_ F_ K_ hK_
  refine sh_ (memOf w0 Z0 [] [(oBox g2 40 [(iq a1.Kind), (iq a1.From), (iq a1.To)]), (oBox g3 38 [nS, nS, (bool false)])] [(fPtr tyS_api_Thing p114 u112), (fPtr tyS_api_Heap (pq g1) a0), (fPtr (tyList tyBool) (pq g10) r8), (fDat (tyList tyBool) [v9] r8), (fDat (tyList tyS_api_Thing) [v0_0] a0.Things), (fDat (tyList tq) [v0_1] a0.Roots)]) X_ Y_ ?_
  refine al_fieldD (pr := fun (y : S_api_Thing) => y.Kids) 0 rfl subS_api_Thing_0 rfl Try.underlying71 rfl sz30 rfl rfl (fun p115 => ?_)
  refine al_nil ?_
  exact fr_fin hK_ p115⟩, ⟨_, rfl, [8], rfl, by
  intro p115
  intro X_ Y_ F_ K_ hK_
  refine sh_ (memOf w0 Z0 [] [(oBox g2 40 [(iq a1.Kind), (iq a1.From), (iq a1.To)]), (oBox g3 38 [nS, nS, (bool false)])] [(fPtr (tyList tq) p115 u112.Kids), (fPtr tyS_api_Heap (pq g1) a0), (fPtr (tyList tyBool) (pq g10) r8), (fDat (tyList tyBool) [v9] r8), (fDat (tyList tyS_api_Thing) [v0_0] a0.Things), (fDat (tyList tq) [v0_1] a0.Roots)]) X_ Y_ ?_
  refine al_loadP1 0 rfl rfl Try.underlying30 sz30 rfl rfl rfl (fun s116 => ?_)
  refine al_nil ?_
  exact fr_fin hK_ s116⟩, ⟨_, rfl, [], rfl, by
  intro X_ Y_ F_ K_ hK_
  refine sh_ (mm44 w0 Z0 a0 a1 g1 g10 g2 g3 r8 v0_0 v0_1 v9) X_ Y_ ?_
  refine al_val (ov_fieldA (p := 2) rfl Try.underlying40 rfl sz3 rfl rfl rfl) ?_
  refine al_nil ?_
  exact fr_fin hK_ ()⟩, ⟨_, rfl, [10], rfl, by
  intro _
  intro X_ Y_ F_ K_ hK_
  refine sh_ (mm44 w0 Z0 a0 a1 g1 g10 g2 g3 r8 v0_0 v0_1 v9) X_ Y_ ?_
  refine al_val (ov_load (i := 0) (v := (iq a1.To)) rfl rfl Try.underlying3 sz3 rfl rfl rfl rfl) ?_
  refine al_nil ?_
  exact fr_fin hK_ ()⟩, trivial⟩ ?_
 intro p110
 intro s111
 intro _
 intro _
 intro p114
 intro p115
 intro s116
 intro _
 intro _
 intro X_ Y_ F_ K_ hK_
 refine sh_ (memOf w0 Z0 [] [(oBox g2 40 [(iq a1.Kind), (iq a1.From), (iq a1.To)]), (oBox g3 38 [nS, nS, (bool false)])] [(fDat (tyList tq) [s116] u112.Kids), (fPtr (tyList tq) p115 u112.Kids), (fPtr tyS_api_Thing p114 u112), (fDat (tyList tyS_api_Thing) [s111] a0.Things), (fPtr (tyList tyS_api_Thing) p110 a0.Things), (fPtr tyS_api_Heap (pq g1) a0), (fPtr (tyList tyBool) (pq g10) r8), (fDat (tyList tyBool) [v9] r8), (fDat (tyList tyS_api_Thing) [v0_0] a0.Things), (fDat (tyList tq) [v0_1] a0.Roots)]) X_ Y_ ?_
 obtain ⟨r118, hc117, h⟩ := opt_some h
 refine al_callX (vs := [s116, (iq a1.To)]) (f_lumref_without_ok fu s116 u112.Kids a1.To hc117) [] [] [0, 1] (pre_fz 0 rfl pre_nil) rfl (by simp) (by decide) rfl (.inl rfl) rfl Try.func43 rfl rfl rfl (fun v119 => ?_)
 refine al_nil ?_
 refine aq_show (m := Mem.plus (memOf w0 Z0 [] [(oRow v119 3 tq r118), (oBox g2 40 [(iq a1.Kind), (iq a1.From), (iq a1.To)]), (oBox g3 38 [nS, nS, (bool false)])] [(fDat (tyList tq) [s116] u112.Kids), (fPtr (tyList tq) p115 u112.Kids), (fPtr tyS_api_Thing p114 u112), (fDat (tyList tyS_api_Thing) [s111] a0.Things), (fPtr (tyList tyS_api_Thing) p110 a0.Things), (fPtr tyS_api_Heap (pq g1) a0), (fPtr (tyList tyBool) (pq g10) r8), (fDat (tyList tyBool) [v9] r8), (fDat (tyList tyS_api_Thing) [v0_0] a0.Things), (fDat (tyList tq) [v0_1] a0.Roots)]) X_ Y_) ?_
 refine aq_next hK_ [0, 1, 2] [5, 6, 7, 8, 9] [(3, (pq g2)), (4, (pq g3)), (9, (Value.func (.func 38) #[] #[(pq g1)])), (163, v119)] [151, 152, 153] [] rfl rfl (by decide) rfl ⟨rfl, rfl, rfl, rfl, trivial⟩ ⟨rfl, rfl, rfl, trivial⟩ ?_
 clear hK_ K_ F_ X_ Y_
 refine ta_show (m := (mm50 w0 Z0 a0 a1 g1 g10 g2 g3 r118 r8 v0_0 v0_1 v119 v9)) (S := _) ?_
 refine ta_step 13 _ [0, 1, 2] [151, 152, 153] [0, 1, 2] [] [(sp_ 0 151 (Value.func (.func 38) #[] #[(pq g1)])), (sp_ 1 152 (ptr g2 1)), (sp_ 2 153 (iq a1.From))] [] rfl rfl rfl (by kernel_rfl) rfl rfl rfl ⟨⟨_, rfl, [], rfl, by
  intro X_ Y_ F_ K_ hK_
  refine sh_ (mm50 w0 Z0 a0 a1 g1 g10 g2 g3 r118 r8 v0_0 v0_1 v119 v9) X_ Y_ ?_
  refine mv_ ?_
  refine al_nil ?_
  exact fr_fin hK_ ()⟩, ⟨_, rfl, [], rfl, by
  intro X_ Y_ F_ K_ hK_
  refine sh_ (mm50 w0 Z0 a0 a1 g1 g10 g2 g3 r118 r8 v0_0 v0_1 v119 v9) X_ Y_ ?_
  refine al_val (ov_fieldA (p := 1) rfl Try.underlying40 rfl sz3 rfl rfl rfl) ?_
  refine al_nil ?_
  exact fr_fin hK_ ()⟩, ⟨_, rfl, [1], rfl, by
  intro _
  intro X_ Y_ F_ K_ hK_
  refine sh_ (mm50 w0 Z0 a0 a1 g1 g10 g2 g3 r118 r8 v0_0 v0_1 v119 v9) X_ Y_ ?_
  refine al_val (ov_load (i := 1) (v := (iq a1.From)) rfl rfl Try.underlying3 sz3 rfl rfl rfl rfl) ?_
  refine al_nil ?_
  exact fr_fin hK_ ()⟩, trivial⟩ ?_
 intro _
 intro _
 intro _
 intro X_ Y_ F_ K_ hK_
 refine sh_ (mm50 w0 Z0 a0 a1 g1 g10 g2 g3 r118 r8 v0_0 v0_1 v119 v9) X_ Y_ ?_
 refine al_freeze 0 rfl rfl ?_
 refine sh_ (memOf w0 Z0 [] [(oBox g2 40 [(iq a1.Kind), (iq a1.From), (iq a1.To)]), (oBox g3 38 [nS, nS, (bool false)])] [(fDat (tyList tq) [v119] r118), (fPtr tyS_api_Heap (pq g1) a0), (fPtr (tyList tyBool) (pq g10) r8), (fDat (tyList tyBool) [v9] r8), (fDat (tyList tyS_api_Thing) [v0_0] a0.Things), (fDat (tyList tq) [v0_1] a0.Roots)]) X_ Y_ ?_
 obtain ⟨r121, hc120, h⟩ := opt_some h
 refine al_callFX (vs := [(iq a1.From), v119]) (caps := [(pq g1)]) (f_lumref_Sweep_2_ok fu a1.From v119 r118 (pq g1) a0 hc120) rfl [] [] [0, 1] (pre_fz 0 rfl (pre_fz 1 rfl pre_nil)) rfl (by simp) (by decide) rfl (.inl rfl) rfl rfl Try.func38 rfl rfl rfl (fun ⟨v122, v123⟩ => ?_)
 refine al_nil ?_
 refine aq_show (m := Mem.plus (memOf w0 Z0 [] [(oBox g2 40 [(iq a1.Kind), (iq a1.From), (iq a1.To)]), (oBox g3 38 [nS, nS, (bool false)])] [(fDat (tyList tyS_api_Thing) [v122] r121.Things), (fDat (tyList tq) [v123] r121.Roots), (fDat (tyList tq) [v119] r118), (fPtr tyS_api_Heap (pq g1) a0), (fPtr (tyList tyBool) (pq g10) r8), (fDat (tyList tyBool) [v9] r8), (fDat (tyList tyS_api_Thing) [v0_0] a0.Things), (fDat (tyList tq) [v0_1] a0.Roots)]) X_ Y_) ?_
 refine aq_next hK_ [0, 1] [0, 1, 3, 4, 5, 6, 7] [(4, (pq g3)), (164, (ag [v122, v123, (bool r121.Busy)]))] [] [] rfl rfl (by decide) rfl ⟨rfl, rfl, trivial⟩ trivial ?_
 clear hK_ K_ F_ X_ Y_
 refine ta_show (m := (mm51 w0 Z0 a0 a1 g1 g10 g2 g3 r121 r8 v0_0 v0_1 v122 v123 v9)) (S := _) ?_
 refine ta_step 14 _ [] [] [] [] [] [] rfl rfl rfl (by kernel_rfl) rfl rfl rfl trivial ?_
 intro X_ Y_ F_ K_ hK_
 refine sh_ (mm51 w0 Z0 a0 a1 g1 g10 g2 g3 r121 r8 v0_0 v0_1 v122 v123 v9) X_ Y_ ?_
 refine al_store (i := 1) (vs := [v122, v123, (bool r121.Busy)]) (cs' := [v122, v123, (bool r121.Busy)]) rfl rfl rfl sz38 (cv_rfl rfl) rfl (co_fz 0 rfl (co_fz 1 rfl (co_val rfl co_nil))) (Nat.le_of_ble_eq_true rfl) rfl rfl ?_
 refine al_nil ?_
 refine aq_show (m := Mem.plus (mm52 w0 Z0 a0 a1 g1 g10 g2 g3 r121 r8 v0_0 v0_1 v122 v123 v9) X_ Y_) ?_
 refine aq_next hK_ [0, 1] [0, 1, 2, 3, 4, 5, 6] [(4, (pq g3))] [] [] rfl rfl (by decide) rfl ⟨rfl, trivial⟩ trivial ?_
 clear hK_ K_ F_ X_ Y_
 refine ta_show (m := (mm52 w0 Z0 a0 a1 g1 g10 g2 g3 r121 r8 v0_0 v0_1 v122 v123 v9)) (S := _) ?_
 refine ta_step 15 _ [] [] [] [] [] [] rfl rfl rfl (by kernel_rfl) rfl rfl rfl trivial ?_
 intro X_ Y_ F_ K_ hK_
 refine sh_ (mm52 w0 Z0 a0 a1 g1 g10 g2 g3 r121 r8 v0_0 v0_1 v122 v123 v9) X_ Y_ ?_
 refine as_ ?_
 refine al_nil ?_
 refine aq_show (m := Mem.plus (mm52 w0 Z0 a0 a1 g1 g10 g2 g3 r121 r8 v0_0 v0_1 v122 v123 v9) X_ Y_) ?_
 refine aq_next hK_ [0, 1] [0, 1, 2, 3, 4, 5, 6] [(4, (pq g3)), (5, (iq (0 : Int)))] [] [] rfl rfl (by decide) rfl ⟨rfl, rfl, trivial⟩ trivial ?_
 clear hK_ K_ F_ X_ Y_
 refine ta_show (m := (mm52 w0 Z0 a0 a1 g1 g10 g2 g3 r121 r8 v0_0 v0_1 v122 v123 v9)) (S := _) ?_
 refine ta_end [] [] rfl rfl (by kernel_rfl) rfl trivial ?_
 refine aq_show (m := (mm52 w0 Z0 a0 a1 g1 g10 g2 g3 r121 r8 v0_0 v0_1 v122 v123 v9)) (S := (tab [(4, (pq g3)), (5, (iq (0 : Int)))])) ?_
 refine aq_then ?_
 refine aw_ret ?_
 refine aq_block_ret ?_
 refine aq_then_ret ?_
 cases h
 exact fn_ret (v122, v123) [] [0, 1] rfl rfl rfl rfl (resC rfl (resB (i := 1) rfl rfl Try.underlying38 sz38 rfl rfl rfl (resT rfl (resN))) rfl) rfl rfl rfl (by decide)
 clear hkk108
 obtain ⟨r125, hc124, h⟩ := opt_some h
 rcases Bool.eq_false_or_eq_true (!r125) with hb126 | hb126
 replace h := bif_t hb126 h
 refine aw_region_draw 22 [(127, (fE (Value.func (.func 37) #[] #[(pq g10)]))), (128, (fE (ptr g2 1))), (129, (fE (iq a1.From))), (130, (fE (bool r125))), (131, (fE (bool true))), (132, (fE (bool true))), (133, (fE undef)), (134, (fE undef)), (135, (fE undef)), (136, (fE (bool true))), (137, (fE (bool true))), (138, (fE undef)), (139, (fE undef)), (140, (fE undef)), (141, (fE undef)), (142, (fE undef)), (143, (fE undef)), (144, (fE undef)), (145, (fE undef)), (146, (fE undef)), (147, (fE undef)), (148, (fE undef))] (tab [(2, (pq g1)), (3, (pq g2)), (4, (pq g3)), (8, (Value.func (.func 37) #[] #[(pq g10)])), (9, (Value.func (.func 38) #[] #[(pq g1)]))]) mixed (by kernel_rfl) rfl rfl rfl (fun a hs => hs.tab _ (allT_mem ⟨rfl, rfl, rfl, rfl, rfl, trivial⟩)) ⟨⟨rfl, ld_val (ov_move rfl rfl)⟩, ⟨rfl, ld_val (ov_fieldA (p := 1) rfl Try.underlying40 rfl sz3 rfl rfl rfl)⟩, ⟨rfl, ld_eq (j := 1) rfl rfl (ld_val (ov_load (i := 1) (v := (iq a1.From)) rfl rfl Try.underlying3 sz3 rfl rfl rfl rfl))⟩, ⟨rfl, ld_eq (j := 0) rfl rfl (ld_eq (j := 2) rfl rfl (ld_callF (vs := [(iq a1.From)]) (caps := [(pq g10)]) (f_lumref_Sweep_1_ok fu a1.From (pq g10) r8 hc124) rfl [] (pre_fz 1 rfl pre_nil) rfl rfl Try.func37 rfl rfl rfl))⟩, ⟨rfl, ld_eq (j := 3) rfl rfl (ld_val (ov_cast (by first | rw [hb126] | rfl) (ov_not rfl rfl)))⟩, ⟨rfl, ld_eq (j := 4) rfl rfl (ld_val (ov_cast (by first | rw [hb126] | rfl) (ov_move rfl rfl)))⟩, ⟨rfl, ld_eq (j := 5) rfl rfl (ld_skip)⟩, ⟨rfl, ld_eq (j := 5) rfl rfl (ld_skip)⟩, ⟨rfl, ld_eq (j := 5) rfl rfl (ld_skip)⟩, ⟨rfl, ld_eq (j := 5) rfl rfl (ld_eq (j := 8) rfl rfl (ld_val (ov_pick_t rfl rfl rfl)))⟩, ⟨rfl, ld_eq (j := 9) rfl rfl (ld_val (ov_move rfl rfl))⟩, ⟨rfl, ld_eq (j := 10) rfl rfl (ld_skip)⟩, ⟨rfl, ld_eq (j := 10) rfl rfl (ld_skip)⟩, ⟨rfl, ld_eq (j := 10) rfl rfl (ld_skip)⟩, ⟨rfl, ld_eq (j := 10) rfl rfl (ld_skip)⟩, ⟨rfl, ld_eq (j := 10) rfl rfl (ld_skip)⟩, ⟨rfl, ld_eq (j := 10) rfl rfl (ld_skip)⟩, ⟨rfl, ld_eq (j := 10) rfl rfl (ld_skip)⟩, ⟨rfl, ld_eq (j := 10) rfl rfl (ld_skip)⟩, ⟨rfl, ld_eq (j := 10) rfl rfl (ld_skip)⟩, ⟨rfl, ld_eq (j := 10) rfl rfl (ld_skip)⟩, ⟨rfl, ld_eq (j := 10) rfl rfl (ld_skip)⟩, trivial⟩ ?_
 refine tl_eq 10 rfl ?_
 refine tl_eq 21 rfl ?_
 refine tl_done ?_
 refine al_val (ov_pick_t rfl rfl rfl) ?_
 refine al_nil ?_
 exact aq_join true h (nm_ [1, 0] [0, 1, 2, 3, 4] (by decide) ⟨rfl, rfl, rfl, rfl, rfl, trivial⟩)
 replace h := bif_f hb126 h
 rcases Bool.eq_false_or_eq_true (decide (a1.To < (0 : Int))) with hb127 | hb127
 replace h := bif_t hb127 h
 refine aw_region_draw 22 [(127, (fE (Value.func (.func 37) #[] #[(pq g10)]))), (128, (fE (ptr g2 1))), (129, (fE (iq a1.From))), (130, (fE (bool r125))), (131, (fE (bool false))), (132, (fE (bool false))), (133, (fE (ptr g2 2))), (134, (fE (iq a1.To))), (135, (fE (bool true))), (136, (fE (bool true))), (137, (fE (bool true))), (138, (fE undef)), (139, (fE undef)), (140, (fE undef)), (141, (fE undef)), (142, (fE undef)), (143, (fE undef)), (144, (fE undef)), (145, (fE undef)), (146, (fE undef)), (147, (fE undef)), (148, (fE undef))] (tab [(2, (pq g1)), (3, (pq g2)), (4, (pq g3)), (8, (Value.func (.func 37) #[] #[(pq g10)])), (9, (Value.func (.func 38) #[] #[(pq g1)]))]) mixed (by kernel_rfl) rfl rfl rfl (fun a hs => hs.tab _ (allT_mem ⟨rfl, rfl, rfl, rfl, rfl, trivial⟩)) ⟨⟨rfl, ld_val (ov_move rfl rfl)⟩, ⟨rfl, ld_val (ov_fieldA (p := 1) rfl Try.underlying40 rfl sz3 rfl rfl rfl)⟩, ⟨rfl, ld_eq (j := 1) rfl rfl (ld_val (ov_load (i := 1) (v := (iq a1.From)) rfl rfl Try.underlying3 sz3 rfl rfl rfl rfl))⟩, ⟨rfl, ld_eq (j := 0) rfl rfl (ld_eq (j := 2) rfl rfl (ld_callF (vs := [(iq a1.From)]) (caps := [(pq g10)]) (f_lumref_Sweep_1_ok fu a1.From (pq g10) r8 hc124) rfl [] (pre_fz 1 rfl pre_nil) rfl rfl Try.func37 rfl rfl rfl))⟩, ⟨rfl, ld_eq (j := 3) rfl rfl (ld_val (ov_cast (by first | rw [hb126] | rfl) (ov_not rfl rfl)))⟩, ⟨rfl, ld_eq (j := 4) rfl rfl (ld_val (ov_cast (by first | rw [hb126] | rfl) (ov_move rfl rfl)))⟩, ⟨rfl, ld_eq (j := 5) rfl rfl (ld_val (ov_fieldA (p := 2) rfl Try.underlying40 rfl sz3 rfl rfl rfl))⟩, ⟨rfl, ld_eq (j := 5) rfl rfl (ld_eq (j := 6) rfl rfl (ld_val (ov_load (i := 1) (v := (iq a1.To)) rfl rfl Try.underlying3 sz3 rfl rfl rfl rfl)))⟩, ⟨rfl, ld_eq (j := 5) rfl rfl (ld_eq (j := 7) rfl rfl (ld_val (ov_cast (by first | rw [hb127] | rfl) (ov_int rfl rfl rfl rfl))))⟩, ⟨rfl, ld_eq (j := 5) rfl rfl (ld_eq (j := 8) rfl rfl (ld_val (ov_cast (by first | rw [hb127] | rfl) (ov_pick_f rfl rfl rfl))))⟩, ⟨rfl, ld_eq (j := 9) rfl rfl (ld_val (ov_cast (by first | rw [hb127] | rfl) (ov_move rfl rfl)))⟩, ⟨rfl, ld_eq (j := 10) rfl rfl (ld_skip)⟩, ⟨rfl, ld_eq (j := 10) rfl rfl (ld_skip)⟩, ⟨rfl, ld_eq (j := 10) rfl rfl (ld_skip)⟩, ⟨rfl, ld_eq (j := 10) rfl rfl (ld_skip)⟩, ⟨rfl, ld_eq (j := 10) rfl rfl (ld_skip)⟩, ⟨rfl, ld_eq (j := 10) rfl rfl (ld_skip)⟩, ⟨rfl, ld_eq (j := 10) rfl rfl (ld_skip)⟩, ⟨rfl, ld_eq (j := 10) rfl rfl (ld_skip)⟩, ⟨rfl, ld_eq (j := 10) rfl rfl (ld_skip)⟩, ⟨rfl, ld_eq (j := 10) rfl rfl (ld_skip)⟩, ⟨rfl, ld_eq (j := 10) rfl rfl (ld_skip)⟩, trivial⟩ ?_
 refine tl_eq 10 rfl ?_
 refine tl_eq 21 rfl ?_
 refine tl_done ?_
 refine al_val (ov_pick_t rfl rfl rfl) ?_
 refine al_nil ?_
 exact aq_join true h (nm_ [1, 0] [0, 1, 2, 3, 4] (by decide) ⟨rfl, rfl, rfl, rfl, rfl, trivial⟩)
 replace h := bif_f hb127 h
 obtain ⟨u130, hu131, h⟩ := opt_some h
 refine aw_region_draw 22 [(127, (fE (Value.func (.func 37) #[] #[(pq g10)]))), (128, (fE (ptr g2 1))), (129, (fE (iq a1.From))), (130, (fE (bool r125))), (131, (fE (bool false))), (132, (fE (bool false))), (133, (fE (ptr g2 2))), (134, (fE (iq a1.To))), (135, (fE (bool false))), (136, (fE (bool false))), (137, (fE (bool false))), (138, (fE (ptr g2 2))), (139, (fE (iq a1.To))), (140, (fun p128 => (fPtr (tyList tyS_api_Thing) p128 a0.Things))), (141, (fun s129 => (fDat (tyList tyS_api_Thing) [s129] a0.Things))), (142, (fE (ptr g2 1))), (143, (fE (iq a1.From))), (144, (fun p132 => (fPtr tyS_api_Thing p132 u130))), (145, (fun p133 => (fPtr (tyList tq) p133 u130.Kids))), (146, (fun s134 => (fDat (tyList tq) [s134] u130.Kids))), (147, (fE (iq (u130.Kids.length : Int)))), (148, (fE (bool (decide (a1.To ≥ (u130.Kids.length : Int))))))] (tab [(2, (pq g1)), (3, (pq g2)), (4, (pq g3)), (8, (Value.func (.func 37) #[] #[(pq g10)])), (9, (Value.func (.func 38) #[] #[(pq g1)]))]) mixed (by kernel_rfl) rfl rfl rfl (fun a hs => hs.tab _ (allT_mem ⟨rfl, rfl, rfl, rfl, rfl, trivial⟩)) ⟨⟨rfl, ld_val (ov_move rfl rfl)⟩, ⟨rfl, ld_val (ov_fieldA (p := 1) rfl Try.underlying40 rfl sz3 rfl rfl rfl)⟩, ⟨rfl, ld_eq (j := 1) rfl rfl (ld_val (ov_load (i := 1) (v := (iq a1.From)) rfl rfl Try.underlying3 sz3 rfl rfl rfl rfl))⟩, ⟨rfl, ld_eq (j := 0) rfl rfl (ld_eq (j := 2) rfl rfl (ld_callF (vs := [(iq a1.From)]) (caps := [(pq g10)]) (f_lumref_Sweep_1_ok fu a1.From (pq g10) r8 hc124) rfl [] (pre_fz 1 rfl pre_nil) rfl rfl Try.func37 rfl rfl rfl))⟩, ⟨rfl, ld_eq (j := 3) rfl rfl (ld_val (ov_cast (by first | rw [hb126] | rfl) (ov_not rfl rfl)))⟩, ⟨rfl, ld_eq (j := 4) rfl rfl (ld_val (ov_cast (by first | rw [hb126] | rfl) (ov_move rfl rfl)))⟩, ⟨rfl, ld_eq (j := 5) rfl rfl (ld_val (ov_fieldA (p := 2) rfl Try.underlying40 rfl sz3 rfl rfl rfl))⟩, ⟨rfl, ld_eq (j := 5) rfl rfl (ld_eq (j := 6) rfl rfl (ld_val (ov_load (i := 1) (v := (iq a1.To)) rfl rfl Try.underlying3 sz3 rfl rfl rfl rfl)))⟩, ⟨rfl, ld_eq (j := 5) rfl rfl (ld_eq (j := 7) rfl rfl (ld_val (ov_cast (by first | rw [hb127] | rfl) (ov_int rfl rfl rfl rfl))))⟩, ⟨rfl, ld_eq (j := 5) rfl rfl (ld_eq (j := 8) rfl rfl (ld_val (ov_cast (by first | rw [hb127] | rfl) (ov_pick_f rfl rfl rfl))))⟩, ⟨rfl, ld_eq (j := 9) rfl rfl (ld_val (ov_cast (by first | rw [hb127] | rfl) (ov_move rfl rfl)))⟩, ⟨rfl, ld_eq (j := 10) rfl rfl (ld_val (ov_fieldA (p := 2) rfl Try.underlying40 rfl sz3 rfl rfl rfl))⟩, ⟨rfl, ld_eq (j := 10) rfl rfl (ld_eq (j := 11) rfl rfl (ld_val (ov_load (i := 1) (v := (iq a1.To)) rfl rfl Try.underlying3 sz3 rfl rfl rfl rfl)))⟩, ⟨rfl, ld_eq (j := 10) rfl rfl (ld_of (of_fieldD (pr := fun (y : S_api_Heap) => y.Things) 0 rfl subS_api_Heap_0 rfl Try.underlying38 rfl sz36 rfl rfl))⟩, ⟨rfl, ld_eq (j := 10) rfl rfl (ld_fact (j := 13) rfl rfl (fun p128 => ld_of (of_loadP1 0 rfl rfl Try.underlying36 sz36 rfl rfl rfl)))⟩, ⟨rfl, ld_eq (j := 10) rfl rfl (ld_val (ov_fieldA (p := 1) rfl Try.underlying40 rfl sz3 rfl rfl rfl))⟩, ⟨rfl, ld_eq (j := 10) rfl rfl (ld_eq (j := 15) rfl rfl (ld_val (ov_load (i := 1) (v := (iq a1.From)) rfl rfl Try.underlying3 sz3 rfl rfl rfl rfl)))⟩, ⟨rfl, ld_eq (j := 10) rfl rfl (ld_fact (j := 14) rfl rfl (fun s129 => ld_eq (j := 16) rfl rfl (ld_of (of_idxD 0 hu131 rfl rfl rfl Try.underlying36 sz71 rfl))))⟩, ⟨rfl, ld_eq (j := 10) rfl rfl (ld_fact (j := 17) rfl rfl (fun p132 => ld_of (of_fieldD (pr := fun (y : S_api_Thing) => y.Kids) 0 rfl subS_api_Thing_0 rfl Try.underlying71 rfl sz30 rfl rfl)))⟩, ⟨rfl, ld_eq (j := 10) rfl rfl (ld_fact (j := 18) rfl rfl (fun p133 => ld_of (of_loadP1 0 rfl rfl Try.underlying30 sz30 rfl rfl rfl)))⟩, ⟨rfl, ld_eq (j := 10) rfl rfl (ld_fact (j := 19) rfl rfl (fun s134 => ld_val (ov_lenD 0 rfl rfl Try.underlying30 rfl)))⟩, ⟨rfl, ld_eq (j := 10) rfl rfl (ld_eq (j := 12) rfl rfl (ld_eq (j := 20) rfl rfl (ld_val (ov_int rfl rfl rfl rfl))))⟩, trivial⟩ ?_
 refine tl_eq 10 rfl ?_
 refine tl_eq 21 rfl ?_
 refine tl_done ?_
 refine al_val (ov_pick_f rfl rfl rfl) ?_
 refine al_nil ?_
 exact aq_join (decide (a1.To ≥ (u130.Kids.length : Int))) h (nm_ [1, 0] [0, 1, 2, 3, 4] (by decide) ⟨rfl, rfl, rfl, rfl, rfl, trivial⟩)
 replace h := bif_f hb106 h
 refine aw_sr ?_
 refine in_ ?_
 refine an_ ?_
 refine aw_cond rfl (fun hb135 => ?_) (fun hb135 => ?_)
 replace h := bif_t hb135 h
 refine aw_seq ?_
 refine sm_ ?_
 refine al_val (ov_fieldA (p := 2) rfl Try.underlying40 rfl sz3 rfl rfl rfl) ?_
 refine al_val (ov_load (i := 1) (v := (iq a1.To)) rfl rfl Try.underlying3 sz3 rfl rfl rfl rfl) ?_
 obtain ⟨r137, hc136, h⟩ := opt_some h
 refine al_callF (vs := [(iq a1.To)]) (caps := [(pq g10)]) (f_lumref_Sweep_1_ok fu a1.To (pq g10) r8 hc136) rfl [] [] [0, 1] (pre_fz 1 rfl pre_nil) rfl (by simp) (by decide) (.inl rfl) rfl rfl Try.func37 rfl rfl rfl (fun _ => ?_)
 refine al_val (ov_not rfl rfl) ?_
 refine al_nt ?_
 refine aw_cond rfl (fun hb138 => ?_) (fun hb138 => ?_)
 replace h := bif_t hb138 h
 refine aw_sr ?_
 refine al_val (ov_build (cells := ([nS, nS, (bool false)] : List Value).toArray) (cs := [nS, nS, (bool false)]) rfl (fun w a hm hs => by simp only [List.map_toArray, List.map_cons, List.map_nil, List.toList_toArray]; kernel_rfl)) ?_
 refine al_store (i := 0) (vs := [nS, nS, (bool false)]) (cs' := [nS, nS, (bool false)]) rfl rfl rfl sz38 (cv_rfl rfl) rfl (co_val rfl (co_val rfl (co_val rfl co_nil))) (Nat.le_of_ble_eq_true rfl) rfl rfl ?_
 refine an_ ?_
 refine aw_ret ?_
 refine aq_then_ret ?_
 refine aq_block_ret ?_
 refine aq_then_ret ?_
 refine aq_nilD tyS_api_Thing ?_
 refine aq_nilD tq ?_
 cases h
 exact fn_ret (nS, nS) [] [1, 0] rfl rfl rfl rfl (resC rfl (resB (i := 0) rfl rfl Try.underlying38 sz38 rfl rfl rfl (resT rfl (resN))) rfl) rfl rfl rfl (by decide)
 replace h := bif_f hb138 h
 refine aw_skip ?_
 refine aq_then ?_
 refine aw_seq ?_
 refine aw_sr ?_
 refine al_fieldD (pr := fun (y : S_api_Heap) => y.Roots) 0 rfl subS_api_Heap_1 rfl Try.underlying38 rfl sz30 rfl rfl (fun p139 => ?_)
 refine al_loadP1 0 rfl rfl Try.underlying30 sz30 rfl rfl rfl (fun s140 => ?_)
 refine al_val (ov_lenD 0 rfl rfl Try.underlying30 rfl) ?_
 refine im_ ?_
 refine aw_cond rfl (fun hb141 => ?_) (fun hb141 => ?_)
 replace h := bif_t hb141 h
 refine aw_sr ?_
 refine al_val (ov_build (cells := ([nS, nS, (bool false)] : List Value).toArray) (cs := [nS, nS, (bool false)]) rfl (fun w a hm hs => by simp only [List.map_toArray, List.map_cons, List.map_nil, List.toList_toArray]; kernel_rfl)) ?_
 refine al_store (i := 0) (vs := [nS, nS, (bool false)]) (cs' := [nS, nS, (bool false)]) rfl rfl rfl sz38 (cv_rfl rfl) rfl (co_val rfl (co_val rfl (co_val rfl co_nil))) (Nat.le_of_ble_eq_true rfl) rfl rfl ?_
 refine an_ ?_
 refine aw_ret ?_
 refine aq_then_ret ?_
 refine aq_block_ret ?_
 refine aq_then_ret ?_
 refine aq_nilD tyS_api_Thing ?_
 refine aq_nilD tq ?_
 cases h
 exact fn_ret (nS, nS) [] [1, 0] rfl rfl rfl rfl (resC rfl (resB (i := 0) rfl rfl Try.underlying38 sz38 rfl rfl rfl (resT rfl (resN))) rfl) rfl rfl rfl (by decide)
 replace h := bif_f hb141 h
 refine aw_skip ?_
 refine aq_then ?_
 refine aw_seq ?_
 refine aw_region_open [⟨0, 178, Value, fun (i : Value) => { val := i, fz := [(fPtr (tyList tyS_api_Thing) i a0.Things)] }⟩, ⟨1, 179, Value, fun (i : Value) => { val := i, fz := [(fDat (tyList tyS_api_Thing) [i] a0.Things)] }⟩, ⟨2, 180, Value, fun (i : Value) => { val := i, fz := [(fPtr (tyList tq) i a0.Roots)] }⟩, ⟨3, 181, Value, fun (i : Value) => { val := i, fz := [(fDat (tyList tq) [i] a0.Roots)] }⟩, (sp_ 4 182 (ptr g2 2)), (sp_ 5 183 (iq a1.To)), ⟨7, 185, Value, fun (i : Value) => { val := i, fz := [(fPtr tyBool i a0.Busy)] }⟩, (sp_ 8 186 (bool a0.Busy)), (sp_ 10 188 (ptr g2 2)), (sp_ 11 189 (iq a1.To))] (tab [(2, (pq g1)), (3, (pq g2)), (4, (pq g3)), (5, (iq (0 : Int)))]) mixed (fun a hs => hs.tab _ (allT_mem ⟨rfl, rfl, rfl, rfl, trivial⟩)) ?_
 refine ta_show (m := (mm53 w0 Z0 a0 a1 g1 g10 g2 g3 p139 r8 s140 v0_0 v0_1 v9)) (S := _) ?_
 refine ta_step 6 _ [0, 1, 2, 3, 4, 5, 7, 8, 10, 11] [178, 179, 180, 181, 182, 183, 185, 186, 188, 189] [2, 3, 4, 5] [9] [⟨2, 180, Value, fun (i : Value) => { val := i, fz := [(fPtr (tyList tq) i a0.Roots)] }⟩, ⟨3, 181, Value, fun (i : Value) => { val := i, fz := [(fDat (tyList tq) [i] a0.Roots)] }⟩, (sp_ 4 182 (ptr g2 2)), (sp_ 5 183 (iq a1.To))] [⟨0, 178, Value, fun (i : Value) => { val := i, fz := [(fPtr (tyList tyS_api_Thing) i a0.Things)] }⟩, ⟨1, 179, Value, fun (i : Value) => { val := i, fz := [(fDat (tyList tyS_api_Thing) [i] a0.Things)] }⟩, ⟨7, 185, Value, fun (i : Value) => { val := i, fz := [(fPtr tyBool i a0.Busy)] }⟩, (sp_ 8 186 (bool a0.Busy)), (sp_ 10 188 (ptr g2 2)), (sp_ 11 189 (iq a1.To))] rfl rfl rfl (by kernel_rfl) rfl rfl rfl ⟨⟨_, rfl, [], rfl, by
  intro X_ Y_ F_ K_ hK_
  refine sh_ (mm53 w0 Z0 a0 a1 g1 g10 g2 g3 p139 r8 s140 v0_0 v0_1 v9) X_ Y_ ?_
  refine al_fieldD (pr := fun (y : S_api_Heap) => y.Things) 2 rfl subS_api_Heap_0 rfl Try.underlying38 rfl sz36 rfl rfl (fun p142 => ?_)
  refine al_nil ?_
  exact fr_fin hK_ p142⟩, ⟨_, rfl, [0], rfl, by
  intro p142
  intro X_ Y_ F_ K_ hK_
  refine sh_ (memOf w0 Z0 [] [(oBox g3 38 [nS, nS, (bool false)]), (oBox g2 40 [(iq a1.Kind), (iq a1.From), (iq a1.To)])] [(fPtr (tyList tyS_api_Thing) p142 a0.Things), (fDat (tyList tq) [s140] a0.Roots), (fPtr (tyList tq) p139 a0.Roots), (fPtr tyS_api_Heap (pq g1) a0), (fPtr (tyList tyBool) (pq g10) r8), (fDat (tyList tyBool) [v9] r8), (fDat (tyList tyS_api_Thing) [v0_0] a0.Things), (fDat (tyList tq) [v0_1] a0.Roots)]) X_ Y_ ?_
  refine al_loadP1 0 rfl rfl Try.underlying36 sz36 rfl rfl rfl (fun s143 => ?_)
  refine al_nil ?_
  exact fr_fin hK_ s143⟩, ⟨_, rfl, [], rfl, by
  intro X_ Y_ F_ K_ hK_
  refine sh_ (mm53 w0 Z0 a0 a1 g1 g10 g2 g3 p139 r8 s140 v0_0 v0_1 v9) X_ Y_ ?_
  refine al_fieldD (pr := fun (y : S_api_Heap) => y.Roots) 2 rfl subS_api_Heap_1 rfl Try.underlying38 rfl sz30 rfl rfl (fun p144 => ?_)
  refine al_nil ?_
  exact fr_fin hK_ p144⟩, ⟨_, rfl, [2], rfl, by
  intro p144
  intro X_ Y_ F_ K_ hK_
  refine sh_ (memOf w0 Z0 [] [(oBox g3 38 [nS, nS, (bool false)]), (oBox g2 40 [(iq a1.Kind), (iq a1.From), (iq a1.To)])] [(fPtr (tyList tq) p144 a0.Roots), (fDat (tyList tq) [s140] a0.Roots), (fPtr (tyList tq) p139 a0.Roots), (fPtr tyS_api_Heap (pq g1) a0), (fPtr (tyList tyBool) (pq g10) r8), (fDat (tyList tyBool) [v9] r8), (fDat (tyList tyS_api_Thing) [v0_0] a0.Things), (fDat (tyList tq) [v0_1] a0.Roots)]) X_ Y_ ?_
  refine al_loadP1 0 rfl rfl Try.underlying30 sz30 rfl rfl rfl (fun s145 => ?_)
  refine al_nil ?_
  exact fr_fin hK_ s145⟩, ⟨_, rfl, [], rfl, by
  intro X_ Y_ F_ K_ hK_
  refine sh_ (mm53 w0 Z0 a0 a1 g1 g10 g2 g3 p139 r8 s140 v0_0 v0_1 v9) X_ Y_ ?_
  refine al_val (ov_fieldA (p := 2) rfl Try.underlying40 rfl sz3 rfl rfl rfl) ?_
  refine al_nil ?_
  exact fr_fin hK_ ()⟩, ⟨_, rfl, [4], rfl, by
  intro _
  intro X_ Y_ F_ K_ hK_
  refine sh_ (mm53 w0 Z0 a0 a1 g1 g10 g2 g3 p139 r8 s140 v0_0 v0_1 v9) X_ Y_ ?_
  refine al_val (ov_load (i := 1) (v := (iq a1.To)) rfl rfl Try.underlying3 sz3 rfl rfl rfl rfl) ?_
  refine al_nil ?_
  exact fr_fin hK_ ()⟩, ⟨_, rfl, [], rfl, by
  intro X_ Y_ F_ K_ hK_
  refine sh_ (mm53 w0 Z0 a0 a1 g1 g10 g2 g3 p139 r8 s140 v0_0 v0_1 v9) X_ Y_ ?_
  refine al_fieldD (pr := fun (y : S_api_Heap) => y.Busy) 2 rfl subS_api_Heap_2 rfl Try.underlying38 rfl sz4 rfl rfl (fun p146 => ?_)
  refine al_nil ?_
  exact fr_fin hK_ p146⟩, ⟨_, rfl, [6], rfl, by
  intro p146
  intro X_ Y_ F_ K_ hK_
  refine sh_ (memOf w0 Z0 [] [(oBox g3 38 [nS, nS, (bool false)]), (oBox g2 40 [(iq a1.Kind), (iq a1.From), (iq a1.To)])] [(fPtr tyBool p146 a0.Busy), (fDat (tyList tq) [s140] a0.Roots), (fPtr (tyList tq) p139 a0.Roots), (fPtr tyS_api_Heap (pq g1) a0), (fPtr (tyList tyBool) (pq g10) r8), (fDat (tyList tyBool) [v9] r8), (fDat (tyList tyS_api_Thing) [v0_0] a0.Things), (fDat (tyList tq) [v0_1] a0.Roots)]) X_ Y_ ?_
  refine al_val (ov_loadP (ds := [(bool a0.Busy)]) 0 rfl (fun h => h) rfl Try.underlying4 sz4 rfl rfl rfl) ?_
  refine al_nil ?_
  exact fr_fin hK_ ()⟩, ⟨_, rfl, [], rfl, by
  intro X_ Y_ F_ K_ hK_
  refine sh_ (mm53 w0 Z0 a0 a1 g1 g10 g2 g3 p139 r8 s140 v0_0 v0_1 v9) X_ Y_ ?_
  refine al_val (ov_fieldA (p := 2) rfl Try.underlying40 rfl sz3 rfl rfl rfl) ?_
  refine al_nil ?_
  exact fr_fin hK_ ()⟩, ⟨_, rfl, [8], rfl, by
  intro _
  intro X_ Y_ F_ K_ hK_
  refine sh_ (mm53 w0 Z0 a0 a1 g1 g10 g2 g3 p139 r8 s140 v0_0 v0_1 v9) X_ Y_ ?_
  refine al_val (ov_load (i := 1) (v := (iq a1.To)) rfl rfl Try.underlying3 sz3 rfl rfl rfl rfl) ?_
  refine al_nil ?_
  exact fr_fin hK_ ()⟩, trivial⟩ ?_
 intro p144
 intro s145
 intro _
 intro _
 intro X_ Y_ F_ K_ hK_
 refine sh_ (memOf w0 Z0 [] [(oBox g3 38 [nS, nS, (bool false)]), (oBox g2 40 [(iq a1.Kind), (iq a1.From), (iq a1.To)])] [(fDat (tyList tq) [s145] a0.Roots), (fPtr (tyList tq) p144 a0.Roots), (fDat (tyList tq) [s140] a0.Roots), (fPtr (tyList tq) p139 a0.Roots), (fPtr tyS_api_Heap (pq g1) a0), (fPtr (tyList tyBool) (pq g10) r8), (fDat (tyList tyBool) [v9] r8), (fDat (tyList tyS_api_Thing) [v0_0] a0.Things), (fDat (tyList tq) [v0_1] a0.Roots)]) X_ Y_ ?_
 obtain ⟨r148, hc147, h⟩ := opt_some h
 refine al_callX (vs := [s145, (iq a1.To)]) (f_lumref_with_ok fu s145 a0.Roots a1.To hc147) [] [] [0, 1] (pre_fz 0 rfl pre_nil) rfl (by simp) (by decide) rfl (.inl rfl) rfl Try.func41 rfl rfl rfl (fun v149 => ?_)
 refine al_nil ?_
 refine aq_show (m := Mem.plus (memOf w0 Z0 [] [(oRow v149 3 tq r148), (oBox g3 38 [nS, nS, (bool false)]), (oBox g2 40 [(iq a1.Kind), (iq a1.From), (iq a1.To)])] [(fDat (tyList tq) [s145] a0.Roots), (fPtr (tyList tq) p144 a0.Roots), (fDat (tyList tq) [s140] a0.Roots), (fPtr (tyList tq) p139 a0.Roots), (fPtr tyS_api_Heap (pq g1) a0), (fPtr (tyList tyBool) (pq g10) r8), (fDat (tyList tyBool) [v9] r8), (fDat (tyList tyS_api_Thing) [v0_0] a0.Things), (fDat (tyList tq) [v0_1] a0.Roots)]) X_ Y_) ?_
 refine aq_next hK_ [0, 1, 2] [2, 3, 4, 5, 6, 7, 8] [(2, (pq g1)), (3, (pq g2)), (4, (pq g3)), (5, (iq (0 : Int))), (184, v149)] [178, 179, 185, 186, 188, 189] [⟨9, 187, Value, fun (i : Value) => { val := (ag [i, v149, (bool a0.Busy)]), fz := [(fDat (tyList tyS_api_Thing) [i] a0.Things)] }⟩] rfl rfl (by decide) rfl ⟨rfl, rfl, rfl, rfl, rfl, trivial⟩ ⟨rfl, rfl, rfl, rfl, rfl, rfl, trivial⟩ ?_
 clear hK_ K_ F_ X_ Y_
 refine ta_show (m := (mm54 w0 Z0 a0 a1 g1 g10 g2 g3 p139 r148 r8 s140 v0_0 v0_1 v149 v9)) (S := _) ?_
 refine ta_step 12 _ [0, 1, 7, 8, 10, 11, 9] [178, 179, 185, 186, 188, 189, 187] [0, 1, 7, 8, 10, 11, 9] [] [⟨0, 178, Value, fun (i : Value) => { val := i, fz := [(fPtr (tyList tyS_api_Thing) i a0.Things)] }⟩, ⟨1, 179, Value, fun (i : Value) => { val := i, fz := [(fDat (tyList tyS_api_Thing) [i] a0.Things)] }⟩, ⟨7, 185, Value, fun (i : Value) => { val := i, fz := [(fPtr tyBool i a0.Busy)] }⟩, (sp_ 8 186 (bool a0.Busy)), (sp_ 10 188 (ptr g2 2)), (sp_ 11 189 (iq a1.To)), ⟨9, 187, Value, fun (i : Value) => { val := (ag [i, v149, (bool a0.Busy)]), fz := [(fDat (tyList tyS_api_Thing) [i] a0.Things)] }⟩] [] rfl rfl rfl (by kernel_rfl) rfl rfl rfl ⟨⟨_, rfl, [], rfl, by
  intro X_ Y_ F_ K_ hK_
  refine sh_ (mm54 w0 Z0 a0 a1 g1 g10 g2 g3 p139 r148 r8 s140 v0_0 v0_1 v149 v9) X_ Y_ ?_
  refine al_fieldD (pr := fun (y : S_api_Heap) => y.Things) 2 rfl subS_api_Heap_0 rfl Try.underlying38 rfl sz36 rfl rfl (fun p142 => ?_)
  refine al_nil ?_
  exact fr_fin hK_ p142⟩, ⟨_, rfl, [0], rfl, by
  intro p142
  intro X_ Y_ F_ K_ hK_
  refine sh_ (memOf w0 Z0 [] [(oRow v149 3 tq r148), (oBox g3 38 [nS, nS, (bool false)]), (oBox g2 40 [(iq a1.Kind), (iq a1.From), (iq a1.To)])] [(fPtr (tyList tyS_api_Thing) p142 a0.Things), (fDat (tyList tq) [s140] a0.Roots), (fPtr (tyList tq) p139 a0.Roots), (fPtr tyS_api_Heap (pq g1) a0), (fPtr (tyList tyBool) (pq g10) r8), (fDat (tyList tyBool) [v9] r8), (fDat (tyList tyS_api_Thing) [v0_0] a0.Things), (fDat (tyList tq) [v0_1] a0.Roots)]) X_ Y_ ?_
  refine al_loadP1 0 rfl rfl Try.underlying36 sz36 rfl rfl rfl (fun s143 => ?_)
  refine al_nil ?_
  exact fr_fin hK_ s143⟩, ⟨_, rfl, [], rfl, by
  intro X_ Y_ F_ K_ hK_
  refine sh_ (mm54 w0 Z0 a0 a1 g1 g10 g2 g3 p139 r148 r8 s140 v0_0 v0_1 v149 v9) X_ Y_ ?_
  refine al_fieldD (pr := fun (y : S_api_Heap) => y.Busy) 2 rfl subS_api_Heap_2 rfl Try.underlying38 rfl sz4 rfl rfl (fun p146 => ?_)
  refine al_nil ?_
  exact fr_fin hK_ p146⟩, ⟨_, rfl, [2], rfl, by
  intro p146
  intro X_ Y_ F_ K_ hK_
  refine sh_ (memOf w0 Z0 [] [(oRow v149 3 tq r148), (oBox g3 38 [nS, nS, (bool false)]), (oBox g2 40 [(iq a1.Kind), (iq a1.From), (iq a1.To)])] [(fPtr tyBool p146 a0.Busy), (fDat (tyList tq) [s140] a0.Roots), (fPtr (tyList tq) p139 a0.Roots), (fPtr tyS_api_Heap (pq g1) a0), (fPtr (tyList tyBool) (pq g10) r8), (fDat (tyList tyBool) [v9] r8), (fDat (tyList tyS_api_Thing) [v0_0] a0.Things), (fDat (tyList tq) [v0_1] a0.Roots)]) X_ Y_ ?_
  refine al_val (ov_loadP (ds := [(bool a0.Busy)]) 0 rfl (fun h => h) rfl Try.underlying4 sz4 rfl rfl rfl) ?_
  refine al_nil ?_
  exact fr_fin hK_ ()⟩, ⟨_, rfl, [], rfl, by
  intro X_ Y_ F_ K_ hK_
  refine sh_ (mm54 w0 Z0 a0 a1 g1 g10 g2 g3 p139 r148 r8 s140 v0_0 v0_1 v149 v9) X_ Y_ ?_
  refine al_val (ov_fieldA (p := 2) rfl Try.underlying40 rfl sz3 rfl rfl rfl) ?_
  refine al_nil ?_
  exact fr_fin hK_ ()⟩, ⟨_, rfl, [4], rfl, by
  intro _
  intro X_ Y_ F_ K_ hK_
  refine sh_ (mm54 w0 Z0 a0 a1 g1 g10 g2 g3 p139 r148 r8 s140 v0_0 v0_1 v149 v9) X_ Y_ ?_
  refine al_val (ov_load (i := 2) (v := (iq a1.To)) rfl rfl Try.underlying3 sz3 rfl rfl rfl rfl) ?_
  refine al_nil ?_
  exact fr_fin hK_ ()⟩, ⟨_, rfl, [1, 3], rfl, by
  intro s143
  intro _
  intro X_ Y_ F_ K_ hK_
  refine sh_ (mm55 w0 Z0 a0 a1 g1 g10 g2 g3 p139 r148 r8 s140 s143 v0_0 v0_1 v149 v9) X_ Y_ ?_
  refine al_val (ov_build (cells := ([s143, v149, (bool a0.Busy)] : List Value).toArray) (cs := [s143, v149, (bool a0.Busy)]) rfl (fun w a hm hs => by simp only [List.map_toArray, List.map_cons, List.map_nil, List.toList_toArray, hs.ev (x := .tmp 179) rfl, hs.ev (x := .tmp 184) rfl, hs.ev (x := .tmp 186) rfl]; obtain ⟨A0, l0, c0, e0⟩ := sl_fz 0 rfl hm; rw [e0]; obtain ⟨A1, l1, c1, e1⟩ := sl_own 0 rfl hm; rw [e1]; kernel_rfl)) ?_
  refine al_nil ?_
  refine aq_show (m := Mem.plus (mm55 w0 Z0 a0 a1 g1 g10 g2 g3 p139 r148 r8 s140 s143 v0_0 v0_1 v149 v9) X_ Y_) ?_
  exact fr_finF hK_ s143 [0] rfl rfl⟩, trivial⟩ ?_
 intro p142
 intro s143
 intro p146
 intro _
 intro _
 intro _
 intro s143x
 intro X_ Y_ F_ K_ hK_
 refine sh_ (memOf w0 Z0 [] [(oRow v149 3 tq r148), (oBox g3 38 [nS, nS, (bool false)]), (oBox g2 40 [(iq a1.Kind), (iq a1.From), (iq a1.To)])] [(fDat (tyList tyS_api_Thing) [s143x] a0.Things), (fPtr tyBool p146 a0.Busy), (fDat (tyList tyS_api_Thing) [s143] a0.Things), (fPtr (tyList tyS_api_Thing) p142 a0.Things), (fDat (tyList tq) [s140] a0.Roots), (fPtr (tyList tq) p139 a0.Roots), (fPtr tyS_api_Heap (pq g1) a0), (fPtr (tyList tyBool) (pq g10) r8), (fDat (tyList tyBool) [v9] r8), (fDat (tyList tyS_api_Thing) [v0_0] a0.Things), (fDat (tyList tq) [v0_1] a0.Roots)]) X_ Y_ ?_
 refine al_freeze 0 rfl rfl ?_
 refine sh_ (memOf w0 Z0 [] [(oBox g3 38 [nS, nS, (bool false)]), (oBox g2 40 [(iq a1.Kind), (iq a1.From), (iq a1.To)])] [(fDat (tyList tq) [v149] r148), (fDat (tyList tyS_api_Thing) [s143x] a0.Things), (fPtr tyBool p146 a0.Busy), (fDat (tyList tyS_api_Thing) [s143] a0.Things), (fPtr (tyList tyS_api_Thing) p142 a0.Things), (fDat (tyList tq) [s140] a0.Roots), (fPtr (tyList tq) p139 a0.Roots), (fPtr tyS_api_Heap (pq g1) a0), (fPtr (tyList tyBool) (pq g10) r8), (fDat (tyList tyBool) [v9] r8), (fDat (tyList tyS_api_Thing) [v0_0] a0.Things), (fDat (tyList tq) [v0_1] a0.Roots)]) X_ Y_ ?_
 obtain ⟨r151, hc150, h⟩ := opt_some h
 refine al_callX (vs := [(ag [s143x, v149, (bool a0.Busy)]), (iq a1.To)]) (f_lumref_shaded_ok fu s143x v149 (S_api_Heap.mk a0.Things r148 a0.Busy) a1.To hc150) [] [] [0, 1] (pre_fz 1 rfl (pre_fz 0 rfl pre_nil)) rfl (by simp) (by decide) rfl (.inl rfl) rfl Try.func42 rfl rfl rfl (fun ⟨v152, v153⟩ => ?_)
 refine al_nil ?_
 refine aq_show (m := Mem.plus (memOf w0 Z0 [] [(oBox g3 38 [nS, nS, (bool false)]), (oBox g2 40 [(iq a1.Kind), (iq a1.From), (iq a1.To)])] [(fDat (tyList tyS_api_Thing) [v152] r151.Things), (fDat (tyList tq) [v153] r151.Roots), (fDat (tyList tq) [v149] r148), (fDat (tyList tyS_api_Thing) [s143x] a0.Things), (fPtr tyBool p146 a0.Busy), (fDat (tyList tyS_api_Thing) [s143] a0.Things), (fPtr (tyList tyS_api_Thing) p142 a0.Things), (fDat (tyList tq) [s140] a0.Roots), (fPtr (tyList tq) p139 a0.Roots), (fPtr tyS_api_Heap (pq g1) a0), (fPtr (tyList tyBool) (pq g10) r8), (fDat (tyList tyBool) [v9] r8), (fDat (tyList tyS_api_Thing) [v0_0] a0.Things), (fDat (tyList tq) [v0_1] a0.Roots)]) X_ Y_) ?_
 refine aq_next hK_ [0, 1] [0, 1, 7, 8, 9, 10, 11, 12, 13] [(4, (pq g3)), (5, (iq (0 : Int))), (190, (ag [v152, v153, (bool r151.Busy)]))] [] [] rfl rfl (by decide) rfl ⟨rfl, rfl, rfl, trivial⟩ trivial ?_
 clear hK_ K_ F_ X_ Y_
 refine ta_show (m := (mm56 w0 Z0 a0 a1 g1 g10 g2 g3 p139 r151 r8 s140 v0_0 v0_1 v152 v153 v9)) (S := _) ?_
 refine ta_step 13 _ [] [] [] [] [] [] rfl rfl rfl (by kernel_rfl) rfl rfl rfl trivial ?_
 intro X_ Y_ F_ K_ hK_
 refine sh_ (mm56 w0 Z0 a0 a1 g1 g10 g2 g3 p139 r151 r8 s140 v0_0 v0_1 v152 v153 v9) X_ Y_ ?_
 refine al_store (i := 0) (vs := [v152, v153, (bool r151.Busy)]) (cs' := [v152, v153, (bool r151.Busy)]) rfl rfl rfl sz38 (cv_rfl rfl) rfl (co_fz 0 rfl (co_fz 1 rfl (co_val rfl co_nil))) (Nat.le_of_ble_eq_true rfl) rfl rfl ?_
 refine al_nil ?_
 refine aq_show (m := Mem.plus (mm57 w0 Z0 a0 a1 g1 g10 g2 g3 p139 r151 r8 s140 v0_0 v0_1 v152 v153 v9) X_ Y_) ?_
 refine aq_next hK_ [0, 1] [0, 1, 2, 3, 4, 5, 6, 7, 8] [(4, (pq g3)), (5, (iq (0 : Int)))] [] [] rfl rfl (by decide) rfl ⟨rfl, rfl, trivial⟩ trivial ?_
 clear hK_ K_ F_ X_ Y_
 refine ta_show (m := (mm57 w0 Z0 a0 a1 g1 g10 g2 g3 p139 r151 r8 s140 v0_0 v0_1 v152 v153 v9)) (S := _) ?_
 refine ta_step 14 _ [] [] [] [] [] [] rfl rfl rfl (by kernel_rfl) rfl rfl rfl trivial ?_
 intro X_ Y_ F_ K_ hK_
 refine sh_ (mm57 w0 Z0 a0 a1 g1 g10 g2 g3 p139 r151 r8 s140 v0_0 v0_1 v152 v153 v9) X_ Y_ ?_
 refine as_ ?_
 refine al_nil ?_
 refine aq_show (m := Mem.plus (mm57 w0 Z0 a0 a1 g1 g10 g2 g3 p139 r151 r8 s140 v0_0 v0_1 v152 v153 v9) X_ Y_) ?_
 refine aq_next hK_ [0, 1] [0, 1, 2, 3, 4, 5, 6, 7, 8] [(4, (pq g3)), (5, (iq (0 : Int)))] [] [] rfl rfl (by decide) rfl ⟨rfl, rfl, trivial⟩ trivial ?_
 clear hK_ K_ F_ X_ Y_
 refine ta_show (m := (mm57 w0 Z0 a0 a1 g1 g10 g2 g3 p139 r151 r8 s140 v0_0 v0_1 v152 v153 v9)) (S := _) ?_
 refine ta_end [] [] rfl rfl (by kernel_rfl) rfl trivial ?_
 refine aq_show (m := (mm57 w0 Z0 a0 a1 g1 g10 g2 g3 p139 r151 r8 s140 v0_0 v0_1 v152 v153 v9)) (S := (tab [(4, (pq g3)), (5, (iq (0 : Int)))])) ?_
 refine aq_then ?_
 refine aw_ret ?_
 refine aq_block_ret ?_
 refine aq_then_ret ?_
 cases h
 exact fn_ret (v152, v153) [] [0, 1] rfl rfl rfl rfl (resC rfl (resB (i := 0) rfl rfl Try.underlying38 sz38 rfl rfl rfl (resT rfl (resN))) rfl) rfl rfl rfl (by decide)
 replace h := bif_f hb135 h
 refine aw_sr ?_
 refine in_ ?_
 refine an_ ?_
 refine aw_cond rfl (fun hb154 => ?_) (fun hb154 => ?_)
 replace h := bif_t hb154 h
 refine aw_seq ?_
 obtain ⟨kk156, hkk156, h⟩ := lt_some h
 refine aw_seq_join (ι := Bool) (fun i => (mm44 w0 Z0 a0 a1 g1 g10 g2 g3 r8 v0_0 v0_1 v9)) (fun i => (tab [(2, (pq g1)), (3, (pq g2)), (4, (pq g3)), (203, (bool i))])) (fun i => kk156 i = some r) ?_ ?_
 rintro j155b203 h
 have h : kk156 j155b203 = some r := h
 rw [hkk156] at h
 dsimp only at h
 clear hkk156
 refine aw_show (m := (mm44 w0 Z0 a0 a1 g1 g10 g2 g3 r8 v0_0 v0_1 v9)) (S := _) ?_
 refine aw_cond rfl (fun hb157 => ?_) (fun hb157 => ?_)
 replace h := bif_t hb157 h
 refine aw_sr ?_
 refine al_val (ov_build (cells := ([nS, nS, (bool false)] : List Value).toArray) (cs := [nS, nS, (bool false)]) rfl (fun w a hm hs => by simp only [List.map_toArray, List.map_cons, List.map_nil, List.toList_toArray]; kernel_rfl)) ?_
 refine al_store (i := 1) (vs := [nS, nS, (bool false)]) (cs' := [nS, nS, (bool false)]) rfl rfl rfl sz38 (cv_rfl rfl) rfl (co_val rfl (co_val rfl (co_val rfl co_nil))) (Nat.le_of_ble_eq_true rfl) rfl rfl ?_
 refine an_ ?_
 refine aw_ret ?_
 refine aq_then_ret ?_
 refine aq_block_ret ?_
 refine aq_then_ret ?_
 refine aq_nilD tyS_api_Thing ?_
 refine aq_nilD tq ?_
 cases h
 exact fn_ret (nS, nS) [] [1, 0] rfl rfl rfl rfl (resC rfl (resB (i := 1) rfl rfl Try.underlying38 sz38 rfl rfl rfl (resT rfl (resN))) rfl) rfl rfl rfl (by decide)
 replace h := bif_f hb157 h
 refine aw_skip ?_
 refine aq_then ?_
 refine aw_seq ?_
 obtain ⟨r163, hc162, h⟩ := opt_some h
 refine aw_region_draw 9 [(205, (fun p158 => (fPtr (tyList tyS_api_Thing) p158 a0.Things))), (206, (fun s159 => (fDat (tyList tyS_api_Thing) [s159] a0.Things))), (207, (fun p160 => (fPtr (tyList tq) p160 a0.Roots))), (208, (fun s161 => (fDat (tyList tq) [s161] a0.Roots))), (209, (fE (ptr g2 2))), (210, (fE (iq a1.To))), (211, (fun v164 => (fDat (tyList tq) [v164] r163))), (212, (fun p165 => (fPtr tyBool p165 a0.Busy))), (213, (fE (bool a0.Busy)))] (tab [(2, (pq g1)), (3, (pq g2)), (4, (pq g3))]) mixed (by kernel_rfl) rfl rfl rfl (fun a hs => hs.tab _ (allT_mem ⟨rfl, rfl, rfl, trivial⟩)) ⟨⟨rfl, ld_of (of_fieldD (pr := fun (y : S_api_Heap) => y.Things) 0 rfl subS_api_Heap_0 rfl Try.underlying38 rfl sz36 rfl rfl)⟩, ⟨rfl, ld_fact (j := 0) rfl rfl (fun p158 => ld_of (of_loadP1 0 rfl rfl Try.underlying36 sz36 rfl rfl rfl))⟩, ⟨rfl, ld_of (of_fieldD (pr := fun (y : S_api_Heap) => y.Roots) 0 rfl subS_api_Heap_1 rfl Try.underlying38 rfl sz30 rfl rfl)⟩, ⟨rfl, ld_fact (j := 2) rfl rfl (fun p160 => ld_of (of_loadP1 0 rfl rfl Try.underlying30 sz30 rfl rfl rfl))⟩, ⟨rfl, ld_val (ov_fieldA (p := 2) rfl Try.underlying40 rfl sz3 rfl rfl rfl)⟩, ⟨rfl, ld_eq (j := 4) rfl rfl (ld_val (ov_load (i := 0) (v := (iq a1.To)) rfl rfl Try.underlying3 sz3 rfl rfl rfl rfl))⟩, ⟨rfl, ld_fact (j := 3) rfl rfl (fun s161 => ld_eq (j := 5) rfl rfl (ld_callR (vs := [s161, (iq a1.To)]) flat_enc (f_lumref_without_ok fu s161 a0.Roots a1.To hc162) [] (pre_fz 0 rfl pre_nil) rfl Try.func43 rfl rfl rfl))⟩, ⟨rfl, ld_of (of_fieldD (pr := fun (y : S_api_Heap) => y.Busy) 0 rfl subS_api_Heap_2 rfl Try.underlying38 rfl sz4 rfl rfl)⟩, ⟨rfl, ld_fact (j := 7) rfl rfl (fun p165 => ld_val (ov_loadP (ds := [(bool a0.Busy)]) 0 rfl (fun h => h) rfl Try.underlying4 sz4 rfl rfl rfl))⟩, trivial⟩ ?_
 refine tl_fact 1 rfl (fun s159 => ?_)
 refine tl_fact 6 rfl (fun v164 => ?_)
 refine tl_eq 8 rfl ?_
 refine tl_done ?_
 refine al_val (ov_build (cells := ([s159, v164, (bool a0.Busy)] : List Value).toArray) (cs := [s159, v164, (bool a0.Busy)]) rfl (fun w a hm hs => by simp only [List.map_toArray, List.map_cons, List.map_nil, List.toList_toArray, hs.ev (x := .tmp 206) rfl, hs.ev (x := .tmp 211) rfl, hs.ev (x := .tmp 213) rfl]; obtain ⟨A0, l0, c0, e0⟩ := sl_fz 1 rfl hm; rw [e0]; obtain ⟨A1, l1, c1, e1⟩ := sl_fz 0 rfl hm; rw [e1]; kernel_rfl)) ?_
 refine al_store (i := 1) (vs := [s159, v164, (bool a0.Busy)]) (cs' := [s159, v164, (bool a0.Busy)]) rfl rfl rfl sz38 (cv_rfl rfl) rfl (co_fz 1 rfl (co_fz 0 rfl (co_val rfl co_nil))) (Nat.le_of_ble_eq_true rfl) rfl rfl ?_
 refine an_ ?_
 refine aw_ret ?_
 refine aq_block_ret ?_
 refine aq_then_ret ?_
 cases h
 exact fn_ret (s159, v164) [] [1, 0] rfl rfl rfl rfl (resC rfl (resB (i := 1) rfl rfl Try.underlying38 sz38 rfl rfl rfl (resT rfl (resN))) rfl) rfl rfl rfl (by decide)
 clear hkk156
 refine aw_region ?_
 refine al_val (ov_fieldA (p := 2) rfl Try.underlying40 rfl sz3 rfl rfl rfl) ?_
 refine al_val (ov_load (i := 1) (v := (iq a1.To)) rfl rfl Try.underlying3 sz3 rfl rfl rfl rfl) ?_
 refine in_ ?_
 refine mv_ ?_
 refine al_caseB 196 rfl (fun hb166 => ?_) (fun hb166 => ?_)
 replace h := bif_t hb166 h
 iterate 6 refine al_skip ?_
 refine al_val (ov_pick_t rfl rfl rfl) ?_
 refine al_nil ?_
 exact aq_join true h (nm_ [1, 0] [0, 1, 2, 3, 4] (by decide) ⟨rfl, rfl, rfl, rfl, trivial⟩)
 replace h := bif_f hb166 h
 refine al_val (ov_fieldA (p := 2) rfl Try.underlying40 rfl sz3 rfl rfl rfl) ?_
 refine al_val (ov_load (i := 1) (v := (iq a1.To)) rfl rfl Try.underlying3 sz3 rfl rfl rfl rfl) ?_
 refine al_fieldD (pr := fun (y : S_api_Heap) => y.Roots) 0 rfl subS_api_Heap_1 rfl Try.underlying38 rfl sz30 rfl rfl (fun p167 => ?_)
 refine al_loadP1 0 rfl rfl Try.underlying30 sz30 rfl rfl rfl (fun s168 => ?_)
 refine al_val (ov_lenD 0 rfl rfl Try.underlying30 rfl) ?_
 refine in_ ?_
 refine al_val (ov_pick_f rfl rfl rfl) ?_
 refine al_nil ?_
 exact aq_join (decide (a1.To ≥ (a0.Roots.length : Int))) h (nm_ [1, 0] [2, 3, 4, 5, 6] (by decide) ⟨rfl, rfl, rfl, rfl, trivial⟩)
 replace h := bif_f hb154 h
 refine aw_skip ?_
 refine aq_block ?_
 exact aq_join () h (nm_ [0] [0, 1, 2, 3, 4] (by decide) ⟨rfl, trivial⟩)
def f_slices_Equal___int_int__L6 (a0 : (List Int)) (a1 : (List Int)) (kk3 : (Unit → Option Bool)) : Nat → Int → Option Bool
  | 0, _ => none
  | k5 + 1, l4i13 => (bif (decide (l4i13 < (a0.length : Int))) then (opt (at? a0 l4i13) fun (u8 : Int) => (opt (at? a1 l4i13) fun (u11 : Int) => (bif (u8 != u11) then (some false) else (f_slices_Equal___int_int__L6 a0 a1 kk3 k5 (IntKind.i64.wrap (l4i13 + (1 : Int))))))) else (kk3 ()))
def f_slices_Equal___int_int_ (fu : Nat) (a0 : (List Int)) (a1 : (List Int)) : Option Bool := (bif ((a0.length : Int) != (a1.length : Int)) then (some false) else (lt (fun (_ : Unit) => (some true)) fun (kk3 : Unit → Option Bool) => (f_slices_Equal___int_int__L6 a0 a1 kk3 fu (0 : Int))))
set_option maxHeartbeats 2000000 in
set_option maxRecDepth 100000 in
theorem f_slices_Equal___int_int__ok (fu : Nat) (v0_0 : Value) (a0 : (List Int)) (v1_0 : Value) (a1 : (List Int)) {r : Bool} (h : f_slices_Equal___int_int_ fu a0 a1 = some r) : FnOk Try.prog 49 [v0_0, v1_0] [(fDat (tyList (tyInt .i64)) [v0_0] a0), (fDat (tyList (tyInt .i64)) [v1_0] a1)] [] (fun (i : Unit) => { val := (bool r) }) := by
 unfold f_slices_Equal___int_int_ at h
 refine fn_enter Try.func49 rfl Try.ntmps49 rfl (fun w0 Z0 => ?_)
 refine aw_sr ?_
 refine an_ ?_
 refine aw_seq ?_
 refine sm_ ?_
 refine al_val (ov_lenD 0 rfl rfl Try.underlying30 rfl) ?_
 refine mv_ ?_
 refine al_val (ov_lenD 1 rfl rfl Try.underlying30 rfl) ?_
 refine im_ ?_
 refine aw_cond rfl (fun hb1 => ?_) (fun hb1 => ?_)
 replace h := bif_t hb1 h
 refine aw_sr ?_
 refine an_ ?_
 refine aw_ret ?_
 refine aq_then_ret ?_
 cases h
 exact fr1_
 replace h := bif_f hb1 h
 refine aw_skip ?_
 refine aq_then ?_
 obtain ⟨kk3, hkk3, h⟩ := lt_some h
 refine aw_seq_join (ι := Unit) (fun i => (memOf w0 Z0 [] [] [(fDat (tyList tq) [v0_0] a0), (fDat (tyList tq) [v1_0] a1)])) (fun i => (tab [])) (fun i => kk3 () = some r) ?_ ?_
 rintro _ h
 have h : kk3 () = some r := h
 rw [hkk3] at h
 dsimp only at h
 clear hkk3
 refine aw_show (m := (memOf w0 Z0 [] [] [(fDat (tyList tq) [v0_0] a0), (fDat (tyList tq) [v1_0] a1)])) (S := _) ?_
 refine aw_sr ?_
 refine an_ ?_
 refine aw_ret ?_
 cases h
 exact fr1_
 clear hkk3
 refine sm_ ?_
 refine al_val (ov_lenD 0 rfl rfl Try.underlying30 rfl) ?_
 refine mv_ ?_
 refine al_nt ?_
 refine aw_block ?_
 refine aw_state (aw_loop (ι := Int) (fun i => (memOf w0 Z0 [] [] [(fDat (tyList tq) [v0_0] a0), (fDat (tyList tq) [v1_0] a1)])) (fun i => (tab [(0, v0_0), (1, v1_0), (12, (iq (a0.length : Int))), (13, (iq i))])) (fun q i => f_slices_Equal___int_int__L6 a0 a1 kk3 q i = some r) ?_ fu (0 : Int) h) (nm_ [] [0, 1] (by decide) ⟨rfl, rfl, rfl, rfl, trivial⟩)
 clear h
 rintro k5 l4i13 h
 have h : f_slices_Equal___int_int__L6 a0 a1 kk3 k5 l4i13 = some r := h
 obtain _ | k5 := k5
 rw [f_slices_Equal___int_int__L6] at h; cases h
 rw [f_slices_Equal___int_int__L6] at h
 refine aw_show (m := (memOf w0 Z0 [] [] [(fDat (tyList tq) [v0_0] a0), (fDat (tyList tq) [v1_0] a1)])) (S := _) ?_
 refine aw_sr ?_
 refine im_ ?_
 refine aw_seq ?_
 refine aw_cond rfl (fun hb7 => ?_) (fun hb7 => ?_)
 replace h := bif_t hb7 h
 refine aw_skip ?_
 refine aq_then ?_
 refine aw_seq ?_
 refine aw_block ?_
 refine sm_ ?_
 refine an_ ?_
 refine aw_seq ?_
 obtain ⟨u8, hu9, h⟩ := opt_some h
 obtain ⟨u11, hu12, h⟩ := opt_some h
 refine aw_region_draw 8 [(16, (fE v0_0)), (17, (fE (iq l4i13))), (18, (fun p10 => (fPtr tq p10 u8))), (19, (fE (iq u8))), (20, (fE v1_0)), (21, (fE (iq l4i13))), (22, (fun p13 => (fPtr tq p13 u11))), (23, (fE (iq u11)))] (tab [(0, v0_0), (1, v1_0), (5, (iq l4i13)), (12, (iq (a0.length : Int))), (13, (iq l4i13))]) mixed (by kernel_rfl) rfl rfl rfl (fun a hs => hs.tab _ (allT_mem ⟨rfl, rfl, rfl, rfl, rfl, trivial⟩)) ⟨⟨rfl, ld_val (ov_move rfl rfl)⟩, ⟨rfl, ld_val (ov_move rfl rfl)⟩, ⟨rfl, ld_eq (j := 0) rfl rfl (ld_eq (j := 1) rfl rfl (ld_of (of_idxD 0 hu9 rfl rfl rfl Try.underlying30 sz3 rfl)))⟩, ⟨rfl, ld_fact (j := 2) rfl rfl (fun p10 => ld_val (ov_loadP (ds := [(iq u8)]) 0 rfl (fun h => h) rfl Try.underlying3 sz3 rfl rfl rfl))⟩, ⟨rfl, ld_val (ov_move rfl rfl)⟩, ⟨rfl, ld_val (ov_move rfl rfl)⟩, ⟨rfl, ld_eq (j := 4) rfl rfl (ld_eq (j := 5) rfl rfl (ld_of (of_idxD 1 hu12 rfl rfl rfl Try.underlying30 sz3 rfl)))⟩, ⟨rfl, ld_fact (j := 6) rfl rfl (fun p13 => ld_val (ov_loadP (ds := [(iq u11)]) 0 rfl (fun h => h) rfl Try.underlying3 sz3 rfl rfl rfl))⟩, trivial⟩ ?_
 refine tl_eq 3 rfl ?_
 refine tl_eq 7 rfl ?_
 refine tl_done ?_
 refine im_ ?_
 refine aw_cond rfl (fun hb14 => ?_) (fun hb14 => ?_)
 replace h := bif_t hb14 h
 refine aw_sr ?_
 refine an_ ?_
 refine aw_ret ?_
 refine aq_block_ret ?_
 refine aq_then_ret ?_
 refine aq_then_ret ?_
 refine aq_block_ret ?_
 refine aq_then_ret ?_
 cases h
 exact fr1_
 replace h := bif_f hb14 h
 refine aw_skip ?_
 refine aq_block ?_
 refine aq_then ?_
 refine aw_region ?_
 refine in_ ?_
 refine mv_ ?_
 refine al_nil ?_
 exact aq_again k5 (wq (l4i13 + (1 : Int))) (Nat.lt_succ_self _) h (nm_ [] [0, 1] (by decide) ⟨rfl, rfl, rfl, rfl, trivial⟩)
 replace h := bif_f hb7 h
 refine aw_exit ?_
 refine aq_then_exit ?_
 refine aq_then_exit ?_
 refine aq_block_exit ?_
 exact aq_join () h (nm_ [] [0, 1] (by decide) trivial)
def f_lumref_SameHeap_1 (fu : Nat) (a0 : S_api_Thing) (a1 : S_api_Thing) : Option Bool := (lt (fun (j3b4 : Bool) => (some j3b4)) fun (kk4 : Bool → Option Bool) => (bif (a0.Colour == a1.Colour) then (bif (a0.Free == a1.Free) then (opt (f_slices_Equal___int_int_ fu a0.Kids a1.Kids) fun (r8 : Bool) => (kk4 r8)) else (kk4 false)) else (kk4 false)))
set_option maxHeartbeats 2000000 in
set_option maxRecDepth 100000 in
theorem f_lumref_SameHeap_1_ok (fu : Nat) (v0_0 : Value) (a0 : S_api_Thing) (v1_0 : Value) (a1 : S_api_Thing) {r : Bool} (h : f_lumref_SameHeap_1 fu a0 a1 = some r) : FnOk Try.prog 48 [(ag [v0_0, (int .i64 a0.Colour), (bool a0.Free)]), (ag [v1_0, (int .i64 a1.Colour), (bool a1.Free)])] [(fDat (tyList (tyInt .i64)) [v0_0] a0.Kids), (fDat (tyList (tyInt .i64)) [v1_0] a1.Kids)] [] (fun (i : Unit) => { val := (bool r) }) := by
 unfold f_lumref_SameHeap_1 at h
 refine fn_enter Try.func48 rfl Try.ntmps48 rfl (fun w0 Z0 => ?_)
 refine aw_sr ?_
 refine al_box (vs := [v0_0, (iq a0.Colour), (bool a0.Free)]) rfl (cv_rfl rfl) rfl (fun g1 => ?_)
 refine al_box (vs := [v1_0, (iq a1.Colour), (bool a1.Free)]) rfl (cv_rfl rfl) rfl (fun g2 => ?_)
 refine an_ ?_
 obtain ⟨kk4, hkk4, h⟩ := lt_some h
 refine aw_seq_join (ι := Bool) (fun i => (memOf w0 Z0 [] [] [(fDat (tyList tq) [v0_0] a0.Kids), (fDat (tyList tq) [v1_0] a1.Kids)])) (fun i => (tab [(4, (bool i))])) (fun i => kk4 i = some r) ?_ ?_
 rintro j3b4 h
 have h : kk4 j3b4 = some r := h
 rw [hkk4] at h
 dsimp only at h
 clear hkk4
 refine aw_show (m := (memOf w0 Z0 [] [] [(fDat (tyList tq) [v0_0] a0.Kids), (fDat (tyList tq) [v1_0] a1.Kids)])) (S := _) ?_
 refine aw_ret ?_
 cases h
 exact fr1_
 clear hkk4
 refine aw_region ?_
 refine al_val (ov_fieldA (p := 1) rfl Try.underlying71 rfl sz3 rfl rfl rfl) ?_
 refine al_val (ov_load (i := 1) (v := (iq a0.Colour)) rfl rfl Try.underlying3 sz3 rfl rfl rfl rfl) ?_
 refine al_val (ov_fieldA (p := 1) rfl Try.underlying71 rfl sz3 rfl rfl rfl) ?_
 refine al_val (ov_load (i := 0) (v := (iq a1.Colour)) rfl rfl Try.underlying3 sz3 rfl rfl rfl rfl) ?_
 refine in_ ?_
 refine mv_ ?_
 refine al_caseB 10 rfl (fun hb5 => ?_) (fun hb5 => ?_)
 replace h := bif_t hb5 h
 refine al_val (ov_fieldA (p := 2) rfl Try.underlying71 rfl sz4 rfl rfl rfl) ?_
 refine al_val (ov_load (i := 1) (v := (bool a0.Free)) rfl rfl Try.underlying4 sz4 rfl rfl rfl rfl) ?_
 refine al_val (ov_fieldA (p := 2) rfl Try.underlying71 rfl sz4 rfl rfl rfl) ?_
 refine al_val (ov_load (i := 0) (v := (bool a1.Free)) rfl rfl Try.underlying4 sz4 rfl rfl rfl rfl) ?_
 refine al_val (ov_boolEq Try.underlying4 rfl rfl rfl) ?_
 refine al_val (ov_pick_t rfl rfl rfl) ?_
 refine mv_ ?_
 refine al_caseB 17 rfl (fun hb6 => ?_) (fun hb6 => ?_)
 replace h := bif_t hb6 h
 refine al_val (ov_fieldA (p := 0) rfl Try.underlying71 rfl sz30 rfl rfl rfl) ?_
 refine al_val (ov_load (i := 1) (v := v0_0) rfl rfl Try.underlying30 sz30 rfl rfl rfl rfl) ?_
 refine al_val (ov_fieldA (p := 0) rfl Try.underlying71 rfl sz30 rfl rfl rfl) ?_
 refine al_val (ov_load (i := 0) (v := v1_0) rfl rfl Try.underlying30 sz30 rfl rfl rfl rfl) ?_
 obtain ⟨r8, hc7, h⟩ := opt_some h
 refine al_call (vs := [v0_0, v1_0]) (f_slices_Equal___int_int__ok fu v0_0 a0.Kids v1_0 a1.Kids hc7) [] [] [0, 1] (pre_fz 0 rfl (pre_fz 1 rfl pre_nil)) rfl (by simp) (by decide) (.inl rfl) rfl Try.func49 rfl rfl rfl (fun _ => ?_)
 refine al_val (ov_pick_t rfl rfl rfl) ?_
 refine as_ ?_
 refine al_nil ?_
 exact aq_join r8 h (nm_ [] [0, 1] (by decide) ⟨rfl, trivial⟩)
 replace h := bif_f hb6 h
 iterate 5 refine al_skip ?_
 refine al_val (ov_pick_f rfl rfl rfl) ?_
 refine as_ ?_
 refine al_nil ?_
 exact aq_join false h (nm_ [] [0, 1] (by decide) ⟨rfl, trivial⟩)
 replace h := bif_f hb5 h
 iterate 5 refine al_skip ?_
 refine al_val (ov_pick_f rfl rfl rfl) ?_
 refine mv_ ?_
 iterate 5 refine al_skip ?_
 refine al_val (ov_pick_f rfl rfl rfl) ?_
 refine as_ ?_
 refine al_nil ?_
 exact aq_join false h (nm_ [] [0, 1] (by decide) ⟨rfl, trivial⟩)
 -- STUCK slices.EqualFunc[[]lumberroom/api.Thing,[]lumberroom/api.Thing,lumberroom/api.Thing,lumberroom/api.Thing]: lty ['func', [71, 71], [4], False]
def f_slices_EqualFunc___api_Thing___api_Thing_api_Thing_api_Thing__F48_L6 (a0 : (List S_api_Thing)) (a1 : (List S_api_Thing)) (kk3 : (Unit → Option Bool)) (fu : Nat) : Nat → Int → Option Bool
  | 0, _ => none
  | k5 + 1, l4i17 => (bif (decide (l4i17 < (a0.length : Int))) then (opt (at? a0 l4i17) fun (u8 : S_api_Thing) => (opt (at? a1 l4i17) fun (u14 : S_api_Thing) => (opt (f_lumref_SameHeap_1 fu u8 u14) fun (r21 : Bool) => (bif (!r21) then (some false) else (f_slices_EqualFunc___api_Thing___api_Thing_api_Thing_api_Thing__F48_L6 a0 a1 kk3 fu k5 (IntKind.i64.wrap (l4i17 + (1 : Int)))))))) else (kk3 ()))
def f_slices_EqualFunc___api_Thing___api_Thing_api_Thing_api_Thing__F48 (fu : Nat) (a0 : (List S_api_Thing)) (a1 : (List S_api_Thing)) : Option Bool := (bif ((a0.length : Int) != (a1.length : Int)) then (some false) else (lt (fun (_ : Unit) => (some true)) fun (kk3 : Unit → Option Bool) => (f_slices_EqualFunc___api_Thing___api_Thing_api_Thing_api_Thing__F48_L6 a0 a1 kk3 fu fu (0 : Int))))
set_option maxHeartbeats 2000000 in
set_option maxRecDepth 100000 in
theorem f_slices_EqualFunc___api_Thing___api_Thing_api_Thing_api_Thing__F48_ok (fu : Nat) (v0_0 : Value) (a0 : (List S_api_Thing)) (v1_0 : Value) (a1 : (List S_api_Thing)) {r : Bool} (h : f_slices_EqualFunc___api_Thing___api_Thing_api_Thing_api_Thing__F48 fu a0 a1 = some r) : FnOk Try.prog 50 [v0_0, v1_0, (Value.func (.func 48) #[] #[])] [(fDat (tyList tyS_api_Thing) [v0_0] a0), (fDat (tyList tyS_api_Thing) [v1_0] a1)] [] (fun (i : Unit) => { val := (bool r) }) := by
 unfold f_slices_EqualFunc___api_Thing___api_Thing_api_Thing_api_Thing__F48 at h
 refine fn_enter Try.func50 rfl Try.ntmps50 rfl (fun w0 Z0 => ?_)
 refine aw_sr ?_
 refine an_ ?_
 refine aw_seq ?_
 refine sm_ ?_
 refine al_val (ov_lenD 0 rfl rfl Try.underlying36 rfl) ?_
 refine mv_ ?_
 refine al_val (ov_lenD 1 rfl rfl Try.underlying36 rfl) ?_
 refine im_ ?_
 refine aw_cond rfl (fun hb1 => ?_) (fun hb1 => ?_)
 replace h := bif_t hb1 h
 refine aw_sr ?_
 refine an_ ?_
 refine aw_ret ?_
 refine aq_then_ret ?_
 cases h
 exact fr1_
 replace h := bif_f hb1 h
 refine aw_skip ?_
 refine aq_then ?_
 obtain ⟨kk3, hkk3, h⟩ := lt_some h
 refine aw_seq_join (ι := Unit) (fun i => (memOf w0 Z0 [] [] [(fDat (tyList tyS_api_Thing) [v0_0] a0), (fDat (tyList tyS_api_Thing) [v1_0] a1)])) (fun i => (tab [])) (fun i => kk3 () = some r) ?_ ?_
 rintro _ h
 have h : kk3 () = some r := h
 rw [hkk3] at h
 dsimp only at h
 clear hkk3
 refine aw_show (m := (memOf w0 Z0 [] [] [(fDat (tyList tyS_api_Thing) [v0_0] a0), (fDat (tyList tyS_api_Thing) [v1_0] a1)])) (S := _) ?_
 refine aw_sr ?_
 refine an_ ?_
 refine aw_ret ?_
 cases h
 exact fr1_
 clear hkk3
 refine sm_ ?_
 refine al_val (ov_lenD 0 rfl rfl Try.underlying36 rfl) ?_
 refine mv_ ?_
 refine al_nt ?_
 refine aw_block ?_
 refine aw_state (aw_loop (ι := Int) (fun i => (memOf w0 Z0 [] [] [(fDat (tyList tyS_api_Thing) [v1_0] a1), (fDat (tyList tyS_api_Thing) [v0_0] a0)])) (fun i => (tab [(1, v1_0), (2, (fq 48)), (15, v0_0), (16, (iq (a0.length : Int))), (17, (iq i))])) (fun q i => f_slices_EqualFunc___api_Thing___api_Thing_api_Thing_api_Thing__F48_L6 a0 a1 kk3 fu q i = some r) ?_ fu (0 : Int) h) (nm_ [] [1, 0] (by decide) ⟨rfl, rfl, rfl, rfl, rfl, trivial⟩)
 clear h
 rintro k5 l4i17 h
 have h : f_slices_EqualFunc___api_Thing___api_Thing_api_Thing_api_Thing__F48_L6 a0 a1 kk3 fu k5 l4i17 = some r := h
 obtain _ | k5 := k5
 rw [f_slices_EqualFunc___api_Thing___api_Thing_api_Thing_api_Thing__F48_L6] at h; cases h
 rw [f_slices_EqualFunc___api_Thing___api_Thing_api_Thing_api_Thing__F48_L6] at h
 refine aw_show (m := (memOf w0 Z0 [] [] [(fDat (tyList tyS_api_Thing) [v1_0] a1), (fDat (tyList tyS_api_Thing) [v0_0] a0)])) (S := _) ?_
 refine aw_sr ?_
 refine im_ ?_
 refine aw_seq ?_
 refine aw_cond rfl (fun hb7 => ?_) (fun hb7 => ?_)
 replace h := bif_t hb7 h
 refine aw_skip ?_
 refine aq_then ?_
 refine aw_seq ?_
 refine aw_block ?_
 refine sm_ ?_
 obtain ⟨u8, hu9, h⟩ := opt_some h
 refine al_idxD 1 hu9 rfl rfl rfl Try.underlying36 sz71 rfl (fun p10 => ?_)
 refine al_loadPA 0 rfl rfl Try.underlying71 sz71 rfl rfl (fun cs12 => ?_)
 refine al_use (ι := Value) 0 rfl (fun j => cs12 = [j, (iq u8.Colour), (bool u8.Free)]) (fun j => [(fDat (tyList tq) [j] u8.Kids)]) encnS_api_Thing (fun s11 hq => ?_)
 subst hq
 refine al_alloc (zs := [nS, (iq (0 : Int)), (bool false)]) (zeroOf_to to71) rfl rfl (fun g13 => ?_)
 refine as_ ?_
 refine al_store (i := 0) (vs := [s11, (iq u8.Colour), (bool u8.Free)]) (cs' := [s11, (iq u8.Colour), (bool u8.Free)]) rfl rfl rfl sz71 (cv_rfl rfl) rfl (co_fz 0 rfl (co_val rfl (co_val rfl co_nil))) (Nat.le_of_ble_eq_true rfl) rfl rfl ?_
 refine al_nt ?_
 refine sm_ ?_
 refine mv_ ?_
 obtain ⟨u14, hu15, h⟩ := opt_some h
 refine al_idxD 3 hu15 rfl rfl rfl Try.underlying36 sz71 rfl (fun p16 => ?_)
 refine al_loadPA 0 rfl rfl Try.underlying71 sz71 rfl rfl (fun cs18 => ?_)
 refine al_use (ι := Value) 0 rfl (fun j => cs18 = [j, (iq u14.Colour), (bool u14.Free)]) (fun j => [(fDat (tyList tq) [j] u14.Kids)]) encnS_api_Thing (fun s17 hq => ?_)
 subst hq
 refine al_alloc (zs := [nS, (iq (0 : Int)), (bool false)]) (zeroOf_to to71) rfl rfl (fun g19 => ?_)
 refine al_store (i := 0) (vs := [s17, (iq u14.Colour), (bool u14.Free)]) (cs' := [s17, (iq u14.Colour), (bool u14.Free)]) rfl rfl rfl sz71 (cv_rfl rfl) rfl (co_fz 0 rfl (co_val rfl (co_val rfl co_nil))) (Nat.le_of_ble_eq_true rfl) rfl rfl ?_
 refine al_nt ?_
 refine sm_ ?_
 refine al_val (ov_load (i := 1) (v := (ag [s11, (iq u8.Colour), (bool u8.Free)])) rfl rfl Try.underlying71 sz71 rfl rfl rfl rfl) ?_
 refine al_val (ov_load (i := 0) (v := (ag [s17, (iq u14.Colour), (bool u14.Free)])) rfl rfl Try.underlying71 sz71 rfl rfl rfl rfl) ?_
 obtain ⟨r21, hc20, h⟩ := opt_some h
 refine al_callF (vs := [(ag [s11, (iq u8.Colour), (bool u8.Free)]), (ag [s17, (iq u14.Colour), (bool u14.Free)])]) (caps := []) (f_lumref_SameHeap_1_ok fu s11 u8 s17 u14 hc20) rfl [] [] [0, 1] (pre_fz 3 rfl (pre_fz 0 rfl pre_nil)) rfl (by simp) (by decide) (.inl rfl) rfl rfl Try.func48 rfl rfl rfl (fun _ => ?_)
 refine al_val (ov_not rfl rfl) ?_
 refine al_nt ?_
 refine aw_cond rfl (fun hb22 => ?_) (fun hb22 => ?_)
 replace h := bif_t hb22 h
 refine aw_sr ?_
 refine an_ ?_
 refine aw_ret ?_
 refine aq_block_ret ?_
 refine aq_then_ret ?_
 refine aq_then_ret ?_
 refine aq_block_ret ?_
 refine aq_then_ret ?_
 cases h
 exact fr1_
 replace h := bif_f hb22 h
 refine aw_skip ?_
 refine aq_block ?_
 refine aq_then ?_
 refine aw_region ?_
 refine in_ ?_
 refine mv_ ?_
 refine al_nil ?_
 exact aq_again k5 (wq (l4i17 + (1 : Int))) (Nat.lt_succ_self _) h (nm_ [] [6, 7] (by decide) ⟨rfl, rfl, rfl, rfl, rfl, trivial⟩)
 replace h := bif_f hb7 h
 refine aw_exit ?_
 refine aq_then_exit ?_
 refine aq_then_exit ?_
 refine aq_block_exit ?_
 exact aq_join () h (nm_ [] [1, 0] (by decide) trivial)
def f_lumref_SameHeap (fu : Nat) (a0 : S_api_Heap) (a1 : S_api_Heap) : Option Bool := (lt (fun (j3b4 : Bool) => (some j3b4)) fun (kk4 : Bool → Option Bool) => (bif (a0.Busy == a1.Busy) then (opt (f_slices_Equal___int_int_ fu a0.Roots a1.Roots) fun (r7 : Bool) => (bif r7 then (opt (f_slices_EqualFunc___api_Thing___api_Thing_api_Thing_api_Thing__F48 fu a0.Things a1.Things) fun (r10 : Bool) => (kk4 r10)) else (kk4 false))) else (kk4 false)))
set_option maxHeartbeats 2000000 in
set_option maxRecDepth 100000 in
theorem f_lumref_SameHeap_ok (fu : Nat) (v0_0 : Value) (v0_1 : Value) (a0 : S_api_Heap) (v1_0 : Value) (v1_1 : Value) (a1 : S_api_Heap) {r : Bool} (h : f_lumref_SameHeap fu a0 a1 = some r) : FnOk Try.prog 14 [(ag [v0_0, v0_1, (bool a0.Busy)]), (ag [v1_0, v1_1, (bool a1.Busy)])] [(fDat (tyList tyS_api_Thing) [v0_0] a0.Things), (fDat (tyList (tyInt .i64)) [v0_1] a0.Roots), (fDat (tyList tyS_api_Thing) [v1_0] a1.Things), (fDat (tyList (tyInt .i64)) [v1_1] a1.Roots)] [] (fun (i : Unit) => { val := (bool r) }) := by
 unfold f_lumref_SameHeap at h
 refine fn_enter Try.func14 rfl Try.ntmps14 rfl (fun w0 Z0 => ?_)
 refine aw_sr ?_
 refine al_box (vs := [v0_0, v0_1, (bool a0.Busy)]) rfl (cv_rfl rfl) rfl (fun g1 => ?_)
 refine al_box (vs := [v1_0, v1_1, (bool a1.Busy)]) rfl (cv_rfl rfl) rfl (fun g2 => ?_)
 refine an_ ?_
 refine aw_sr ?_
 refine an_ ?_
 obtain ⟨kk4, hkk4, h⟩ := lt_some h
 refine aw_seq_join (ι := Bool) (fun i => (memOf w0 Z0 [] [] [(fDat (tyList tyS_api_Thing) [v0_0] a0.Things), (fDat (tyList tq) [v0_1] a0.Roots), (fDat (tyList tyS_api_Thing) [v1_0] a1.Things), (fDat (tyList tq) [v1_1] a1.Roots)])) (fun i => (tab [(4, (bool i))])) (fun i => kk4 i = some r) ?_ ?_
 rintro j3b4 h
 have h : kk4 j3b4 = some r := h
 rw [hkk4] at h
 dsimp only at h
 clear hkk4
 refine aw_show (m := (memOf w0 Z0 [] [] [(fDat (tyList tyS_api_Thing) [v0_0] a0.Things), (fDat (tyList tq) [v0_1] a0.Roots), (fDat (tyList tyS_api_Thing) [v1_0] a1.Things), (fDat (tyList tq) [v1_1] a1.Roots)])) (S := _) ?_
 refine aw_ret ?_
 cases h
 exact fr1_
 clear hkk4
 refine aw_region ?_
 refine al_val (ov_fieldA (p := 2) rfl Try.underlying38 rfl sz4 rfl rfl rfl) ?_
 refine al_val (ov_load (i := 1) (v := (bool a0.Busy)) rfl rfl Try.underlying4 sz4 rfl rfl rfl rfl) ?_
 refine al_val (ov_fieldA (p := 2) rfl Try.underlying38 rfl sz4 rfl rfl rfl) ?_
 refine al_val (ov_load (i := 0) (v := (bool a1.Busy)) rfl rfl Try.underlying4 sz4 rfl rfl rfl rfl) ?_
 refine al_val (ov_boolEq Try.underlying4 rfl rfl rfl) ?_
 refine mv_ ?_
 refine al_caseB 11 rfl (fun hb5 => ?_) (fun hb5 => ?_)
 replace h := bif_t hb5 h
 refine al_val (ov_fieldA (p := 1) rfl Try.underlying38 rfl sz30 rfl rfl rfl) ?_
 refine al_val (ov_load (i := 1) (v := v0_1) rfl rfl Try.underlying30 sz30 rfl rfl rfl rfl) ?_
 refine al_val (ov_fieldA (p := 1) rfl Try.underlying38 rfl sz30 rfl rfl rfl) ?_
 refine al_val (ov_load (i := 0) (v := v1_1) rfl rfl Try.underlying30 sz30 rfl rfl rfl rfl) ?_
 obtain ⟨r7, hc6, h⟩ := opt_some h
 refine al_call (vs := [v0_1, v1_1]) (f_slices_Equal___int_int__ok fu v0_1 a0.Roots v1_1 a1.Roots hc6) [] [] [0, 1] (pre_fz 1 rfl (pre_fz 3 rfl pre_nil)) rfl (by simp) (by decide) (.inl rfl) rfl Try.func49 rfl rfl rfl (fun _ => ?_)
 refine al_val (ov_pick_t rfl rfl rfl) ?_
 refine mv_ ?_
 refine al_caseB 18 rfl (fun hb8 => ?_) (fun hb8 => ?_)
 replace h := bif_t hb8 h
 refine al_val (ov_fieldA (p := 0) rfl Try.underlying38 rfl sz36 rfl rfl rfl) ?_
 refine al_val (ov_load (i := 1) (v := v0_0) rfl rfl Try.underlying36 sz36 rfl rfl rfl rfl) ?_
 refine al_val (ov_fieldA (p := 0) rfl Try.underlying38 rfl sz36 rfl rfl rfl) ?_
 refine al_val (ov_load (i := 0) (v := v1_0) rfl rfl Try.underlying36 sz36 rfl rfl rfl rfl) ?_
 refine mv_ ?_
 obtain ⟨r10, hc9, h⟩ := opt_some h
 refine al_call (vs := [v0_0, v1_0, (fq 48)]) (f_slices_EqualFunc___api_Thing___api_Thing_api_Thing_api_Thing__F48_ok fu v0_0 a0.Things v1_0 a1.Things hc9) [] [] [0, 1] (pre_fz 0 rfl (pre_fz 2 rfl pre_nil)) rfl (by simp) (by decide) (.inl rfl) rfl Try.func50 rfl rfl rfl (fun _ => ?_)
 refine al_val (ov_pick_t rfl rfl rfl) ?_
 refine as_ ?_
 refine al_nil ?_
 exact aq_join r10 h (nm_ [] [0, 1, 2, 3] (by decide) ⟨rfl, trivial⟩)
 replace h := bif_f hb8 h
 iterate 6 refine al_skip ?_
 refine al_val (ov_pick_f rfl rfl rfl) ?_
 refine as_ ?_
 refine al_nil ?_
 exact aq_join false h (nm_ [] [0, 1, 2, 3] (by decide) ⟨rfl, trivial⟩)
 replace h := bif_f hb5 h
 iterate 5 refine al_skip ?_
 refine al_val (ov_pick_f rfl rfl rfl) ?_
 refine mv_ ?_
 iterate 6 refine al_skip ?_
 refine al_val (ov_pick_f rfl rfl rfl) ?_
 refine as_ ?_
 refine al_nil ?_
 exact aq_join false h (nm_ [] [0, 1, 2, 3] (by decide) ⟨rfl, trivial⟩)
def f_slices_Equal___bool_bool__L6 (a0 : (List Bool)) (a1 : (List Bool)) (kk3 : (Unit → Option Bool)) : Nat → Int → Option Bool
  | 0, _ => none
  | k5 + 1, l4i13 => (bif (decide (l4i13 < (a0.length : Int))) then (opt (at? a0 l4i13) fun (u8 : Bool) => (opt (at? a1 l4i13) fun (u11 : Bool) => (bif (u8 != u11) then (some false) else (f_slices_Equal___bool_bool__L6 a0 a1 kk3 k5 (IntKind.i64.wrap (l4i13 + (1 : Int))))))) else (kk3 ()))
def f_slices_Equal___bool_bool_ (fu : Nat) (a0 : (List Bool)) (a1 : (List Bool)) : Option Bool := (bif ((a0.length : Int) != (a1.length : Int)) then (some false) else (lt (fun (_ : Unit) => (some true)) fun (kk3 : Unit → Option Bool) => (f_slices_Equal___bool_bool__L6 a0 a1 kk3 fu (0 : Int))))
set_option maxHeartbeats 2000000 in
set_option maxRecDepth 100000 in
theorem f_slices_Equal___bool_bool__ok (fu : Nat) (v0_0 : Value) (a0 : (List Bool)) (v1_0 : Value) (a1 : (List Bool)) {r : Bool} (h : f_slices_Equal___bool_bool_ fu a0 a1 = some r) : FnOk Try.prog 15 [v0_0, v1_0] [(fDat (tyList tyBool) [v0_0] a0), (fDat (tyList tyBool) [v1_0] a1)] [] (fun (i : Unit) => { val := (bool r) }) := by
 unfold f_slices_Equal___bool_bool_ at h
 refine fn_enter Try.func15 rfl Try.ntmps15 rfl (fun w0 Z0 => ?_)
 refine aw_sr ?_
 refine an_ ?_
 refine aw_seq ?_
 refine sm_ ?_
 refine al_val (ov_lenD 0 rfl rfl Try.underlying42 rfl) ?_
 refine mv_ ?_
 refine al_val (ov_lenD 1 rfl rfl Try.underlying42 rfl) ?_
 refine im_ ?_
 refine aw_cond rfl (fun hb1 => ?_) (fun hb1 => ?_)
 replace h := bif_t hb1 h
 refine aw_sr ?_
 refine an_ ?_
 refine aw_ret ?_
 refine aq_then_ret ?_
 cases h
 exact fr1_
 replace h := bif_f hb1 h
 refine aw_skip ?_
 refine aq_then ?_
 obtain ⟨kk3, hkk3, h⟩ := lt_some h
 refine aw_seq_join (ι := Unit) (fun i => (memOf w0 Z0 [] [] [(fDat (tyList tyBool) [v0_0] a0), (fDat (tyList tyBool) [v1_0] a1)])) (fun i => (tab [])) (fun i => kk3 () = some r) ?_ ?_
 rintro _ h
 have h : kk3 () = some r := h
 rw [hkk3] at h
 dsimp only at h
 clear hkk3
 refine aw_show (m := (memOf w0 Z0 [] [] [(fDat (tyList tyBool) [v0_0] a0), (fDat (tyList tyBool) [v1_0] a1)])) (S := _) ?_
 refine aw_sr ?_
 refine an_ ?_
 refine aw_ret ?_
 cases h
 exact fr1_
 clear hkk3
 refine sm_ ?_
 refine al_val (ov_lenD 0 rfl rfl Try.underlying42 rfl) ?_
 refine mv_ ?_
 refine al_nt ?_
 refine aw_block ?_
 refine aw_state (aw_loop (ι := Int) (fun i => (memOf w0 Z0 [] [] [(fDat (tyList tyBool) [v0_0] a0), (fDat (tyList tyBool) [v1_0] a1)])) (fun i => (tab [(0, v0_0), (1, v1_0), (12, (iq (a0.length : Int))), (13, (iq i))])) (fun q i => f_slices_Equal___bool_bool__L6 a0 a1 kk3 q i = some r) ?_ fu (0 : Int) h) (nm_ [] [0, 1] (by decide) ⟨rfl, rfl, rfl, rfl, trivial⟩)
 clear h
 rintro k5 l4i13 h
 have h : f_slices_Equal___bool_bool__L6 a0 a1 kk3 k5 l4i13 = some r := h
 obtain _ | k5 := k5
 rw [f_slices_Equal___bool_bool__L6] at h; cases h
 rw [f_slices_Equal___bool_bool__L6] at h
 refine aw_show (m := (memOf w0 Z0 [] [] [(fDat (tyList tyBool) [v0_0] a0), (fDat (tyList tyBool) [v1_0] a1)])) (S := _) ?_
 refine aw_sr ?_
 refine im_ ?_
 refine aw_seq ?_
 refine aw_cond rfl (fun hb7 => ?_) (fun hb7 => ?_)
 replace h := bif_t hb7 h
 refine aw_skip ?_
 refine aq_then ?_
 refine aw_seq ?_
 refine aw_block ?_
 refine sm_ ?_
 refine an_ ?_
 refine aw_seq ?_
 obtain ⟨u8, hu9, h⟩ := opt_some h
 obtain ⟨u11, hu12, h⟩ := opt_some h
 refine aw_region_draw 8 [(16, (fE v0_0)), (17, (fE (iq l4i13))), (18, (fun p10 => (fPtr tyBool p10 u8))), (19, (fE (bool u8))), (20, (fE v1_0)), (21, (fE (iq l4i13))), (22, (fun p13 => (fPtr tyBool p13 u11))), (23, (fE (bool u11)))] (tab [(0, v0_0), (1, v1_0), (5, (iq l4i13)), (12, (iq (a0.length : Int))), (13, (iq l4i13))]) mixed (by kernel_rfl) rfl rfl rfl (fun a hs => hs.tab _ (allT_mem ⟨rfl, rfl, rfl, rfl, rfl, trivial⟩)) ⟨⟨rfl, ld_val (ov_move rfl rfl)⟩, ⟨rfl, ld_val (ov_move rfl rfl)⟩, ⟨rfl, ld_eq (j := 0) rfl rfl (ld_eq (j := 1) rfl rfl (ld_of (of_idxD 0 hu9 rfl rfl rfl Try.underlying42 sz4 rfl)))⟩, ⟨rfl, ld_fact (j := 2) rfl rfl (fun p10 => ld_val (ov_loadP (ds := [(bool u8)]) 0 rfl (fun h => h) rfl Try.underlying4 sz4 rfl rfl rfl))⟩, ⟨rfl, ld_val (ov_move rfl rfl)⟩, ⟨rfl, ld_val (ov_move rfl rfl)⟩, ⟨rfl, ld_eq (j := 4) rfl rfl (ld_eq (j := 5) rfl rfl (ld_of (of_idxD 1 hu12 rfl rfl rfl Try.underlying42 sz4 rfl)))⟩, ⟨rfl, ld_fact (j := 6) rfl rfl (fun p13 => ld_val (ov_loadP (ds := [(bool u11)]) 0 rfl (fun h => h) rfl Try.underlying4 sz4 rfl rfl rfl))⟩, trivial⟩ ?_
 refine tl_eq 3 rfl ?_
 refine tl_eq 7 rfl ?_
 refine tl_done ?_
 refine al_val (ov_boolNe Try.underlying4 rfl rfl rfl) ?_
 refine al_nt ?_
 refine aw_cond rfl (fun hb14 => ?_) (fun hb14 => ?_)
 replace h := bif_t hb14 h
 refine aw_sr ?_
 refine an_ ?_
 refine aw_ret ?_
 refine aq_block_ret ?_
 refine aq_then_ret ?_
 refine aq_then_ret ?_
 refine aq_block_ret ?_
 refine aq_then_ret ?_
 cases h
 exact fr1_
 replace h := bif_f hb14 h
 refine aw_skip ?_
 refine aq_block ?_
 refine aq_then ?_
 refine aw_region ?_
 refine in_ ?_
 refine mv_ ?_
 refine al_nil ?_
 exact aq_again k5 (wq (l4i13 + (1 : Int))) (Nat.lt_succ_self _) h (nm_ [] [0, 1] (by decide) ⟨rfl, rfl, rfl, rfl, trivial⟩)
 replace h := bif_f hb7 h
 refine aw_exit ?_
 refine aq_then_exit ?_
 refine aq_then_exit ?_
 refine aq_block_exit ?_
 exact aq_join () h (nm_ [] [0, 1] (by decide) trivial)
def f_lumlaw_SweepSays (fu : Nat) (a0 : S_api_Heap) (a1 : S_api_Act) : Option Bool := (opt (f_lumref_Heap fu a0) fun (r4 : Int) => (opt (f_sweep_Live fu a0) fun (r6 : ((List Bool) × Int)) => (opt (f_sweep_Do fu a0 a1) fun (r9 : (S_api_Heap × Int)) => (opt (f_lumref_Sweep fu a0 a1) fun (r14 : (S_api_Heap × Int)) => (bif (r4 != (0 : Int)) then (lt (fun (j19b4 : Bool) => (some j19b4)) fun (kk20 : Bool → Option Bool) => (opt (f_sweep_Check fu a0) fun (r22 : Int) => (bif (r22 == r4) then (bif ((r6.1.length : Int) == (0 : Int)) then (bif (r6.2 == r4) then (bif (r9.2 == r4) then (opt (f_lumref_SameHeap fu (S_api_Heap.mk r9.1.Things r9.1.Roots r9.1.Busy) (S_api_Heap.mk ([] : (List S_api_Thing)) ([] : (List Int)) false)) fun (r28 : Bool) => (kk20 r28)) else (kk20 false)) else (kk20 false)) else (kk20 false)) else (kk20 false)))) else (lt (fun (j29b4 : Bool) => (some j29b4)) fun (kk30 : Bool → Option Bool) => (opt (f_sweep_Check fu a0) fun (r32 : Int) => (bif (r32 == (0 : Int)) then (bif (r6.2 == (0 : Int)) then (opt (f_lumref_Live fu a0) fun (r36 : (List Bool)) => (opt (f_slices_Equal___bool_bool_ fu r6.1 r36) fun (r39 : Bool) => (bif r39 then (bif (r9.2 == r14.2) then (opt (f_lumref_SameHeap fu (S_api_Heap.mk r9.1.Things r9.1.Roots r9.1.Busy) (S_api_Heap.mk r14.1.Things r14.1.Roots r14.1.Busy)) fun (r43 : Bool) => (kk30 r43)) else (kk30 false)) else (kk30 false)))) else (kk30 false)) else (kk30 false)))))))))
abbrev mm58 (w0 : World) (Z0 : Nat → Prop) (a0 : S_api_Heap) (r14 : (S_api_Heap × Int)) (r9 : (S_api_Heap × Int)) (v0_0 : Value) (v0_1 : Value) (v10 : Value) (v11 : Value) (v15 : Value) (v16 : Value) : Mem := memOf w0 Z0 [] [] [(fDat (tyList tyS_api_Thing) [v15] r14.1.Things), (fDat (tyList (tyInt .i64)) [v16] r14.1.Roots), (fDat (tyList tyS_api_Thing) [v10] r9.1.Things), (fDat (tyList (tyInt .i64)) [v11] r9.1.Roots), (fDat (tyList tyS_api_Thing) [v0_0] a0.Things), (fDat (tyList (tyInt .i64)) [v0_1] a0.Roots)]
set_option maxRecDepth 100000 in
set_option maxHeartbeats 2000000 in
set_option maxHeartbeats 2000000 in
theorem f_lumlaw_SweepSays_ok (fu : Nat) (v0_0 : Value) (v0_1 : Value) (a0 : S_api_Heap) (a1 : S_api_Act) {r : Bool} (h : f_lumlaw_SweepSays fu a0 a1 = some r) : FnOk Try.prog 4 [(ag [v0_0, v0_1, (bool a0.Busy)]), (ag [(int .i64 a1.Kind), (int .i64 a1.From), (int .i64 a1.To)])] [(fDat (tyList tyS_api_Thing) [v0_0] a0.Things), (fDat (tyList (tyInt .i64)) [v0_1] a0.Roots)] [] (fun (i : Unit) => { val := (bool r) }) := by
 unfold f_lumlaw_SweepSays at h
 refine fn_enter Try.func4 rfl Try.ntmps4 rfl (fun w0 Z0 => ?_)
 refine aw_sr ?_
 refine al_box (vs := [v0_0, v0_1, (bool a0.Busy)]) rfl (cv_rfl rfl) rfl (fun g1 => ?_)
 refine al_box (vs := [(iq a1.Kind), (iq a1.From), (iq a1.To)]) rfl (cv_rfl rfl) rfl (fun g2 => ?_)
 refine an_ ?_
 refine aw_sr ?_
 refine al_val (ov_load (i := 1) (v := (ag [v0_0, v0_1, (bool a0.Busy)])) rfl rfl Try.underlying38 sz38 rfl rfl rfl rfl) ?_
 obtain ⟨r4, hc3, h⟩ := opt_some h
 refine al_call (vs := [(ag [v0_0, v0_1, (bool a0.Busy)])]) (f_lumref_Heap_ok fu v0_0 v0_1 a0 hc3) [] [] [0, 1] (pre_fz 0 rfl (pre_fz 1 rfl pre_nil)) rfl (by simp) (by decide) (.inl rfl) rfl Try.func9 rfl rfl rfl (fun _ => ?_)
 refine an_ ?_
 refine aw_sr ?_
 refine al_val (ov_load (i := 1) (v := (ag [v0_0, v0_1, (bool a0.Busy)])) rfl rfl Try.underlying38 sz38 rfl rfl rfl rfl) ?_
 obtain ⟨r6, hc5, h⟩ := opt_some h
 refine al_call (vs := [(ag [v0_0, v0_1, (bool a0.Busy)])]) (f_sweep_Live_ok fu v0_0 v0_1 a0 hc5) [] [] [0, 1] (pre_fz 0 rfl (pre_fz 1 rfl pre_nil)) rfl (by simp) (by decide) (.inl rfl) rfl Try.func10 rfl rfl rfl (fun v7 => ?_)
 refine mv_ ?_
 refine al_ex rfl rfl rfl ?_
 refine al_ex rfl rfl rfl ?_
 refine as_ ?_
 refine an_ ?_
 refine aw_sr ?_
 refine al_val (ov_load (i := 2) (v := (ag [v0_0, v0_1, (bool a0.Busy)])) rfl rfl Try.underlying38 sz38 rfl rfl rfl rfl) ?_
 refine al_val (ov_load (i := 1) (v := (ag [(iq a1.Kind), (iq a1.From), (iq a1.To)])) rfl rfl Try.underlying40 sz40 rfl rfl rfl rfl) ?_
 obtain ⟨r9, hc8, h⟩ := opt_some h
 refine al_call (vs := [(ag [v0_0, v0_1, (bool a0.Busy)]), (ag [(iq a1.Kind), (iq a1.From), (iq a1.To)])]) (f_sweep_Do_ok fu v0_0 v0_1 a0 a1 hc8) [] [] [0, 1, 2] (pre_fz 0 rfl (pre_fz 1 rfl pre_nil)) rfl (by simp) (by decide) (.inl rfl) rfl Try.func11 rfl rfl rfl (fun ⟨v10, v11⟩ => ?_)
 refine mv_ ?_
 refine al_ex rfl rfl rfl ?_
 refine al_ex rfl rfl rfl ?_
 refine al_alloc (zs := [nS, nS, (bool false)]) (zeroOf_to to38) rfl rfl (fun g12 => ?_)
 refine al_store (i := 0) (vs := [v10, v11, (bool r9.1.Busy)]) (cs' := [v10, v11, (bool r9.1.Busy)]) rfl rfl rfl sz38 (cv_rfl rfl) rfl (co_fz 0 rfl (co_fz 1 rfl (co_val rfl co_nil))) (Nat.le_of_ble_eq_true rfl) rfl rfl ?_
 refine an_ ?_
 refine aw_sr ?_
 refine al_val (ov_load (i := 3) (v := (ag [v0_0, v0_1, (bool a0.Busy)])) rfl rfl Try.underlying38 sz38 rfl rfl rfl rfl) ?_
 refine al_val (ov_load (i := 2) (v := (ag [(iq a1.Kind), (iq a1.From), (iq a1.To)])) rfl rfl Try.underlying40 sz40 rfl rfl rfl rfl) ?_
 obtain ⟨r14, hc13, h⟩ := opt_some h
 refine al_call (vs := [(ag [v0_0, v0_1, (bool a0.Busy)]), (ag [(iq a1.Kind), (iq a1.From), (iq a1.To)])]) (f_lumref_Sweep_ok fu v0_0 v0_1 a0 a1 hc13) [] [] [0, 1, 2, 3] (pre_fz 2 rfl (pre_fz 3 rfl pre_nil)) rfl (by simp) (by decide) (.inl rfl) rfl Try.func12 rfl rfl rfl (fun ⟨v15, v16⟩ => ?_)
 refine mv_ ?_
 refine al_ex rfl rfl rfl ?_
 refine al_ex rfl rfl rfl ?_
 refine al_alloc (zs := [nS, nS, (bool false)]) (zeroOf_to to38) rfl rfl (fun g17 => ?_)
 refine al_store (i := 0) (vs := [v15, v16, (bool r14.1.Busy)]) (cs' := [v15, v16, (bool r14.1.Busy)]) rfl rfl rfl sz38 (cv_rfl rfl) rfl (co_fz 0 rfl (co_fz 1 rfl (co_val rfl co_nil))) (Nat.le_of_ble_eq_true rfl) rfl rfl ?_
 refine an_ ?_
 refine aw_seq ?_
 refine sm_ ?_
 refine im_ ?_
 refine aw_cond rfl (fun hb18 => ?_) (fun hb18 => ?_)
 replace h := bif_t hb18 h
 obtain ⟨kk20, hkk20, h⟩ := lt_some h
 refine aw_seq_join (ι := Bool) (fun i => (mm58 w0 Z0 a0 r14 r9 v0_0 v0_1 v10 v11 v15 v16)) (fun i => (tab [(4, (bool i))])) (fun i => kk20 i = some r) ?_ ?_
 rintro j19b4 h
 have h : kk20 j19b4 = some r := h
 rw [hkk20] at h
 dsimp only at h
 clear hkk20
 refine aw_show (m := (mm58 w0 Z0 a0 r14 r9 v0_0 v0_1 v10 v11 v15 v16)) (S := _) ?_
 refine aw_ret ?_
 refine aq_then_ret ?_
 cases h
 exact fr1_
 clear hkk20
 refine aw_region ?_
 refine al_val (ov_load (i := 4) (v := (ag [v0_0, v0_1, (bool a0.Busy)])) rfl rfl Try.underlying38 sz38 rfl rfl rfl rfl) ?_
 obtain ⟨r22, hc21, h⟩ := opt_some h
 refine al_call (vs := [(ag [v0_0, v0_1, (bool a0.Busy)])]) (f_sweep_Check_ok fu v0_0 v0_1 a0 hc21) [] [] [0, 1, 2, 3, 4] (pre_fz 4 rfl (pre_fz 5 rfl pre_nil)) rfl (by simp) (by decide) (.inl rfl) rfl Try.func13 rfl rfl rfl (fun _ => ?_)
 refine mv_ ?_
 refine in_ ?_
 refine mv_ ?_
 refine al_caseB 37 rfl (fun hb23 => ?_) (fun hb23 => ?_)
 replace h := bif_t hb23 h
 refine mv_ ?_
 refine al_val (ov_lenR 2 rfl rfl Try.underlying42 rfl) ?_
 refine in_ ?_
 refine al_val (ov_pick_t rfl rfl rfl) ?_
 refine mv_ ?_
 refine al_caseB 42 rfl (fun hb24 => ?_) (fun hb24 => ?_)
 replace h := bif_t hb24 h
 refine mv_ ?_
 refine mv_ ?_
 refine in_ ?_
 refine al_val (ov_pick_t rfl rfl rfl) ?_
 refine mv_ ?_
 refine al_caseB 47 rfl (fun hb25 => ?_) (fun hb25 => ?_)
 replace h := bif_t hb25 h
 refine mv_ ?_
 refine mv_ ?_
 refine in_ ?_
 refine al_val (ov_pick_t rfl rfl rfl) ?_
 refine mv_ ?_
 refine al_caseB 52 rfl (fun hb26 => ?_) (fun hb26 => ?_)
 replace h := bif_t hb26 h
 refine al_val (ov_load (i := 1) (v := (ag [v10, v11, (bool r9.1.Busy)])) rfl rfl Try.underlying38 sz38 rfl rfl rfl rfl) ?_
 refine al_val (ov_build (cells := ([nS, nS, (bool false)] : List Value).toArray) (cs := [nS, nS, (bool false)]) rfl (fun w a hm hs => by simp only [List.map_toArray, List.map_cons, List.map_nil, List.toList_toArray]; kernel_rfl)) ?_
 obtain ⟨r28, hc27, h⟩ := opt_some h
 refine al_call (vs := [(ag [v10, v11, (bool r9.1.Busy)]), (ag [nS, nS, (bool false)])]) (f_lumref_SameHeap_ok fu v10 v11 (S_api_Heap.mk r9.1.Things r9.1.Roots r9.1.Busy) nS nS (S_api_Heap.mk ([] : (List S_api_Thing)) ([] : (List Int)) false) hc27) [] [] [0, 1, 2, 3, 4] (pre_fz 2 rfl (pre_fz 3 rfl (pre_nilD (pre_nilD pre_nil)))) rfl (by simp) (by decide) (.inl rfl) rfl Try.func14 rfl rfl rfl (fun _ => ?_)
 refine al_val (ov_pick_t rfl rfl rfl) ?_
 refine as_ ?_
 refine al_nil ?_
 exact aq_join r28 h (nm_ [] [0, 1, 2, 3, 4, 5] (by decide) ⟨rfl, trivial⟩)
 replace h := bif_f hb26 h
 iterate 3 refine al_skip ?_
 refine al_val (ov_pick_f rfl rfl rfl) ?_
 refine as_ ?_
 refine al_nil ?_
 exact aq_join false h (nm_ [] [0, 1, 2, 3, 4, 5] (by decide) ⟨rfl, trivial⟩)
 replace h := bif_f hb25 h
 iterate 3 refine al_skip ?_
 refine al_val (ov_pick_f rfl rfl rfl) ?_
 refine mv_ ?_
 iterate 3 refine al_skip ?_
 refine al_val (ov_pick_f rfl rfl rfl) ?_
 refine as_ ?_
 refine al_nil ?_
 exact aq_join false h (nm_ [] [0, 1, 2, 3, 4, 5] (by decide) ⟨rfl, trivial⟩)
 replace h := bif_f hb24 h
 iterate 3 refine al_skip ?_
 refine al_val (ov_pick_f rfl rfl rfl) ?_
 refine mv_ ?_
 iterate 3 refine al_skip ?_
 refine al_val (ov_pick_f rfl rfl rfl) ?_
 refine mv_ ?_
 iterate 3 refine al_skip ?_
 refine al_val (ov_pick_f rfl rfl rfl) ?_
 refine as_ ?_
 refine al_nil ?_
 exact aq_join false h (nm_ [] [0, 1, 2, 3, 4, 5] (by decide) ⟨rfl, trivial⟩)
 replace h := bif_f hb23 h
 iterate 3 refine al_skip ?_
 refine al_val (ov_pick_f rfl rfl rfl) ?_
 refine mv_ ?_
 iterate 3 refine al_skip ?_
 refine al_val (ov_pick_f rfl rfl rfl) ?_
 refine mv_ ?_
 iterate 3 refine al_skip ?_
 refine al_val (ov_pick_f rfl rfl rfl) ?_
 refine mv_ ?_
 iterate 3 refine al_skip ?_
 refine al_val (ov_pick_f rfl rfl rfl) ?_
 refine as_ ?_
 refine al_nil ?_
 exact aq_join false h (nm_ [] [0, 1, 2, 3, 4, 5] (by decide) ⟨rfl, trivial⟩)
 replace h := bif_f hb18 h
 refine aw_skip ?_
 refine aq_then ?_
 obtain ⟨kk30, hkk30, h⟩ := lt_some h
 refine aw_seq_join (ι := Bool) (fun i => (mm58 w0 Z0 a0 r14 r9 v0_0 v0_1 v10 v11 v15 v16)) (fun i => (tab [(4, (bool i))])) (fun i => kk30 i = some r) ?_ ?_
 rintro j29b4 h
 have h : kk30 j29b4 = some r := h
 rw [hkk30] at h
 dsimp only at h
 clear hkk30
 refine aw_show (m := (mm58 w0 Z0 a0 r14 r9 v0_0 v0_1 v10 v11 v15 v16)) (S := _) ?_
 refine aw_ret ?_
 cases h
 exact fr1_
 clear hkk30
 refine aw_region ?_
 refine al_val (ov_load (i := 4) (v := (ag [v0_0, v0_1, (bool a0.Busy)])) rfl rfl Try.underlying38 sz38 rfl rfl rfl rfl) ?_
 obtain ⟨r32, hc31, h⟩ := opt_some h
 refine al_call (vs := [(ag [v0_0, v0_1, (bool a0.Busy)])]) (f_sweep_Check_ok fu v0_0 v0_1 a0 hc31) [] [] [0, 1, 2, 3, 4] (pre_fz 4 rfl (pre_fz 5 rfl pre_nil)) rfl (by simp) (by decide) (.inl rfl) rfl Try.func13 rfl rfl rfl (fun _ => ?_)
 refine in_ ?_
 refine mv_ ?_
 refine al_caseB 60 rfl (fun hb33 => ?_) (fun hb33 => ?_)
 replace h := bif_t hb33 h
 refine mv_ ?_
 refine in_ ?_
 refine al_val (ov_pick_t rfl rfl rfl) ?_
 refine mv_ ?_
 refine al_caseB 64 rfl (fun hb34 => ?_) (fun hb34 => ?_)
 replace h := bif_t hb34 h
 refine mv_ ?_
 refine al_val (ov_load (i := 4) (v := (ag [v0_0, v0_1, (bool a0.Busy)])) rfl rfl Try.underlying38 sz38 rfl rfl rfl rfl) ?_
 obtain ⟨r36, hc35, h⟩ := opt_some h
 refine al_call (vs := [(ag [v0_0, v0_1, (bool a0.Busy)])]) (f_lumref_Live_ok fu v0_0 v0_1 a0 hc35) [] [] [0, 1, 2, 3, 4] (pre_fz 4 rfl (pre_fz 5 rfl pre_nil)) rfl (by simp) (by decide) (.inl rfl) rfl Try.func16 rfl rfl rfl (fun v37 => ?_)
 obtain ⟨r39, hc38, h⟩ := opt_some h
 refine al_call (vs := [v7, v37]) (f_slices_Equal___bool_bool__ok fu v7 r6.1 v37 r36 hc38) [0, 3] [] [0, 1, 2, 3, 4, 5] (pre_own 3 rfl rfl (pre_own 0 rfl rfl pre_nil)) rfl (by simp) (by decide) (.inr flat_res0) rfl Try.func15 rfl rfl rfl (fun _ => ?_)
 refine al_val (ov_pick_t rfl rfl rfl) ?_
 refine mv_ ?_
 refine al_caseB 70 rfl (fun hb40 => ?_) (fun hb40 => ?_)
 replace h := bif_t hb40 h
 refine mv_ ?_
 refine mv_ ?_
 refine in_ ?_
 refine al_val (ov_pick_t rfl rfl rfl) ?_
 refine mv_ ?_
 refine al_caseB 75 rfl (fun hb41 => ?_) (fun hb41 => ?_)
 replace h := bif_t hb41 h
 refine al_val (ov_load (i := 2) (v := (ag [v10, v11, (bool r9.1.Busy)])) rfl rfl Try.underlying38 sz38 rfl rfl rfl rfl) ?_
 refine al_val (ov_load (i := 1) (v := (ag [v15, v16, (bool r14.1.Busy)])) rfl rfl Try.underlying38 sz38 rfl rfl rfl rfl) ?_
 obtain ⟨r43, hc42, h⟩ := opt_some h
 refine al_call (vs := [(ag [v10, v11, (bool r9.1.Busy)]), (ag [v15, v16, (bool r14.1.Busy)])]) (f_lumref_SameHeap_ok fu v10 v11 (S_api_Heap.mk r9.1.Things r9.1.Roots r9.1.Busy) v15 v16 (S_api_Heap.mk r14.1.Things r14.1.Roots r14.1.Busy) hc42) [] [] [0, 1, 2, 3, 4, 5] (pre_fz 2 rfl (pre_fz 3 rfl (pre_fz 0 rfl (pre_fz 1 rfl pre_nil)))) rfl (by simp) (by decide) (.inl rfl) rfl Try.func14 rfl rfl rfl (fun _ => ?_)
 refine al_val (ov_pick_t rfl rfl rfl) ?_
 refine as_ ?_
 refine al_nil ?_
 exact aq_join r43 h (nm_ [] [0, 1, 2, 3, 4, 5] (by decide) ⟨rfl, trivial⟩)
 replace h := bif_f hb41 h
 iterate 3 refine al_skip ?_
 refine al_val (ov_pick_f rfl rfl rfl) ?_
 refine as_ ?_
 refine al_nil ?_
 exact aq_join false h (nm_ [] [0, 1, 2, 3, 4, 5] (by decide) ⟨rfl, trivial⟩)
 replace h := bif_f hb40 h
 iterate 3 refine al_skip ?_
 refine al_val (ov_pick_f rfl rfl rfl) ?_
 refine mv_ ?_
 iterate 3 refine al_skip ?_
 refine al_val (ov_pick_f rfl rfl rfl) ?_
 refine as_ ?_
 refine al_nil ?_
 exact aq_join false h (nm_ [] [0, 1, 2, 3, 4, 5] (by decide) ⟨rfl, trivial⟩)
 replace h := bif_f hb34 h
 iterate 4 refine al_skip ?_
 refine al_val (ov_pick_f rfl rfl rfl) ?_
 refine mv_ ?_
 iterate 3 refine al_skip ?_
 refine al_val (ov_pick_f rfl rfl rfl) ?_
 refine mv_ ?_
 iterate 3 refine al_skip ?_
 refine al_val (ov_pick_f rfl rfl rfl) ?_
 refine as_ ?_
 refine al_nil ?_
 exact aq_join false h (nm_ [] [0, 1, 2, 3, 4, 5] (by decide) ⟨rfl, trivial⟩)
 replace h := bif_f hb33 h
 refine al_skip ?_
 refine al_skip ?_
 refine al_val (ov_pick_f rfl rfl rfl) ?_
 refine mv_ ?_
 iterate 4 refine al_skip ?_
 refine al_val (ov_pick_f rfl rfl rfl) ?_
 refine mv_ ?_
 iterate 3 refine al_skip ?_
 refine al_val (ov_pick_f rfl rfl rfl) ?_
 refine mv_ ?_
 iterate 3 refine al_skip ?_
 refine al_val (ov_pick_f rfl rfl rfl) ?_
 refine as_ ?_
 refine al_nil ?_
 exact aq_join false h (nm_ [] [0, 1, 2, 3, 4, 5] (by decide) ⟨rfl, trivial⟩)
end Go.Proofs.Ytiioclkiapbjnaa
namespace Go.Proofs.Ytiioclkiapbjnaa
open Go.RowKit Ytiioclkiapbjnaa.En
theorem at_nat {α : Type} (xs : List α) (k : Nat) : at? xs (k : Int) = xs[k]? := by unfold at?; rw [if_pos (Int.natCast_nonneg k)]; simp
theorem at_lt {α : Type} {xs : List α} {k : Nat} (h : k < xs.length) : at? xs (k : Int) = some xs[k] := by rw [at_nat, List.getElem?_eq_getElem h]
theorem at_of {α : Type} {xs : List α} {k : Nat} {x : α} (h : xs[k]? = some x) : at? xs (k : Int) = some x := by rw [at_nat, h]
theorem at_int {α : Type} {xs : List α} {i : Int} (h0 : 0 ≤ i) (h : i.toNat < xs.length) : at? xs i = some xs[i.toNat] := by unfold at?; rw [if_pos h0, List.getElem?_eq_getElem h]
theorem at_neg {α : Type} {xs : List α} {i : Int} (h0 : i < 0) : at? xs i = none := by unfold at?; rw [if_neg (by omega)]
theorem w64 {x : Int} (h0 : -9223372036854775808 ≤ x) (h1 : x ≤ 9223372036854775807) : IntKind.i64.wrap x = x := IntWalk.i64_in x (by omega)
theorem wsucc {k : Nat} (h : k < 9223372036854775807) : IntKind.i64.wrap ((k : Int) + 1) = ((k + 1 : Nat) : Int) := by rw [w64 (by omega) (by omega)]; omega
theorem dlt {a b : Int} (h : a < b) : decide (a < b) = true := decide_eq_true h
theorem dge {a b : Int} (h : b ≤ a) : decide (a < b) = false := decide_eq_false (by omega)
theorem cond_tt {α : Type} {b : Bool} {x y : α} (h : b = true) : (bif b then x else y) = x := by rw [h]; rfl
theorem cond_ff {α : Type} {b : Bool} {x y : α} (h : b = false) : (bif b then x else y) = y := by rw [h]; rfl
end Go.Proofs.Ytiioclkiapbjnaa
namespace Go.Proofs.Ytiioclkiapbjnaa.Swp
open Go.RowKit Ytiioclkiapbjnaa.En Ytiioclkiapbjnaa
set_option linter.unusedVariables false
set_option linter.unusedSimpArgs false
theorem eqi_loop (a b : List Int) (kk : Unit → Option Bool) (hl : a.length = b.length) (hm : a.length ≤ 200) : ∀ (fuel k : Nat), k ≤ a.length → a.length - k < fuel →
    f_slices_Equal___int_int__L6 a b kk fuel (k : Int) = if a.drop k = b.drop k then kk () else some false
  | 0, k, _, hf => absurd hf (Nat.not_lt_zero _)
  | fuel + 1, k, hk, hf => by
    rw [f_slices_Equal___int_int__L6]
    by_cases hlt : k < a.length
    · rw [cond_tt (dlt (by omega)), at_lt hlt, at_lt (show k < b.length by omega), opt_of, opt_of, List.drop_eq_getElem_cons hlt, List.drop_eq_getElem_cons (show k < b.length by omega)]
      by_cases he : a[k] = b[k]
      · rw [cond_ff (by simp [he]), wsucc (by omega), eqi_loop a b kk hl hm fuel (k + 1) (by omega) (by omega)]
        by_cases hd : a.drop (k + 1) = b.drop (k + 1)
        · rw [if_pos hd, if_pos (by rw [he, hd])]
        · rw [if_neg hd, if_neg (fun h => hd (List.cons.inj h).2)]
      · rw [cond_tt (by simp [he]), if_neg (fun h => he (List.cons.inj h).1)]
    · rw [cond_ff (dge (by omega)), List.drop_of_length_le (by omega), List.drop_of_length_le (by omega), if_pos rfl]
theorem eqi (a : List Int) (fu : Nat) (hm : a.length ≤ 200) (hf : 200 < fu) : f_slices_Equal___int_int_ fu a a = some true := by
  unfold f_slices_Equal___int_int_
  rw [cond_ff (by simp), lt_of]
  refine (eqi_loop a a _ rfl hm fu 0 (by omega) (by omega)).trans ?_
  rw [if_pos rfl]
theorem eqb_loop (a b : List Bool) (kk : Unit → Option Bool) (hl : a.length = b.length) (hm : a.length ≤ 200) : ∀ (fuel k : Nat), k ≤ a.length → a.length - k < fuel →
    f_slices_Equal___bool_bool__L6 a b kk fuel (k : Int) = if a.drop k = b.drop k then kk () else some false
  | 0, k, _, hf => absurd hf (Nat.not_lt_zero _)
  | fuel + 1, k, hk, hf => by
    rw [f_slices_Equal___bool_bool__L6]
    by_cases hlt : k < a.length
    · rw [cond_tt (dlt (by omega)), at_lt hlt, at_lt (show k < b.length by omega), opt_of, opt_of, List.drop_eq_getElem_cons hlt, List.drop_eq_getElem_cons (show k < b.length by omega)]
      by_cases he : a[k] = b[k]
      · rw [cond_ff (by simp [he]), wsucc (by omega), eqb_loop a b kk hl hm fuel (k + 1) (by omega) (by omega)]
        by_cases hd : a.drop (k + 1) = b.drop (k + 1)
        · rw [if_pos hd, if_pos (by rw [he, hd])]
        · rw [if_neg hd, if_neg (fun h => hd (List.cons.inj h).2)]
      · rw [cond_tt (by simp [he]), if_neg (fun h => he (List.cons.inj h).1)]
    · rw [cond_ff (dge (by omega)), List.drop_of_length_le (by omega), List.drop_of_length_le (by omega), if_pos rfl]
theorem eqb (a : List Bool) (fu : Nat) (hm : a.length ≤ 200) (hf : 200 < fu) : f_slices_Equal___bool_bool_ fu a a = some true := by
  unfold f_slices_Equal___bool_bool_
  rw [cond_ff (by simp), lt_of]
  refine (eqb_loop a a _ rfl hm fu 0 (by omega) (by omega)).trans ?_
  rw [if_pos rfl]
def Fine (n : Nat) (l : List Int) : Prop := l.length ≤ 64 ∧ ∀ x ∈ l, 0 ≤ x ∧ x < (n : Int)
structure Good (g : List (List Int)) : Prop where
  len : g.length ≤ 200
  fine : ∀ l ∈ g, Fine g.length l
inductive R (g : List (List Int)) (s : List Int) : Nat → Prop
  | base {j : Nat} : (j : Int) ∈ s → R g s j
  | step {i j : Nat} {l : List Int} : R g s i → g[i]? = some l → (j : Int) ∈ l → R g s j
def On (c : List Bool) (j : Nat) : Prop := c[j]? = some true
theorem on_set {c : List Bool} {i j : Nat} (hi : i < c.length) : On (c.set i true) j ↔ On c j ∨ j = i := by
  unfold On
  rw [List.getElem?_set]
  by_cases h : i = j
  · subst h; simp [hi]
  · rw [if_neg h]
    constructor
    · intro h'; exact .inl h'
    · rintro (h' | h')
      · exact h'
      · exact absurd h'.symm h
theorem off {c : List Bool} {j : Nat} (hj : j < c.length) (h : ¬On c j) : c[j]? = some false := by
  unfold On at h
  rw [List.getElem?_eq_getElem hj] at h ⊢
  cases hc : c[j] with
  | true => rw [hc] at h; exact absurd rfl h
  | false => rfl
theorem off_none (n : Nat) (j : Nat) : ¬On (List.replicate n false) j := by
  unfold On
  rw [List.getElem?_replicate]
  split <;> simp
def Final (g : List (List Int)) (s : List Int) (c : List Bool) : Prop := c.length = g.length ∧ ∀ j, On c j ↔ R g s j
theorem final_eq {g : List (List Int)} {s : List Int} {c d : List Bool} (hc : Final g s c) (hd : Final g s d) : c = d := by
  apply List.ext_getElem?
  intro j
  by_cases hj : j < g.length
  · by_cases h : R g s j
    · rw [(hc.2 j).2 h, (hd.2 j).2 h]
    · rw [off (by rw [hc.1]; exact hj) (fun h' => h ((hc.2 j).1 h')), off (by rw [hd.1]; exact hj) (fun h' => h ((hd.2 j).1 h'))]
  · rw [List.getElem?_eq_none (by rw [hc.1]; omega), List.getElem?_eq_none (by rw [hd.1]; omega)]
theorem count_set : ∀ {c : List Bool} {i : Nat}, c[i]? = some false → (c.set i true).count false + 1 = c.count false
  | [], i, h => by simp at h
  | b :: c, 0, h => by simp at h; subst h; simp
  | b :: c, i + 1, h => by
    have := count_set (c := c) (i := i) (by simpa using h)
    simp only [List.set_cons_succ, List.count_cons]; omega
structure DInv (g : List (List Int)) (s : List Int) (seen : List Bool) (stack : List Int) : Prop where
  len : seen.length = g.length
  stk : ∀ x ∈ stack, ∃ j : Nat, x = j ∧ j < g.length ∧ R g s j
  sub : ∀ i, On seen i → R g s i
  cl : ∀ i l j, On seen i → g[i]? = some l → ((j : Nat) : Int) ∈ l → On seen j ∨ ((j : Nat) : Int) ∈ stack
  st : ∀ j, ((j : Nat) : Int) ∈ s → On seen j ∨ ((j : Nat) : Int) ∈ stack
theorem dinv_end {g : List (List Int)} {s : List Int} {seen : List Bool} (h : DInv g s seen []) : Final g s seen := by
  refine ⟨h.len, fun j => ⟨h.sub j, fun hr => ?_⟩⟩
  induction hr with
  | base hs => rcases h.st _ hs with h' | h'; exact h'; cases h'
  | step _ hl hj ih => rcases h.cl _ _ _ ih hl hj with h' | h'; exact h'; cases h'
theorem closure_loop (g : List (List Int)) (hg : Good g) (s : List Int) : ∀ (fuel : Nat) (seen : List Bool) (stack : List Int), fuel ≤ 100000 → DInv g s seen stack → seen.count false * 65 + stack.length < fuel →
    ∃ c, f_graph_Closure_L9 g (fun j => some j) fuel seen stack = some c ∧ Final g s c
  | 0, _, _, _, _, hf => absurd hf (Nat.not_lt_zero _)
  | fuel + 1, seen, stack, hb, hd, hf => by
    rw [f_graph_Closure_L9]
    rcases List.eq_nil_or_concat stack with rfl | ⟨ys, x, rfl⟩
    · rw [cond_ff (by simp)]
      exact ⟨seen, rfl, dinv_end hd⟩
    · simp only [List.concat_eq_append] at hd hf ⊢
      obtain ⟨i, rfl, hi, hri⟩ := hd.stk x (by simp)
      have hlen : (ys ++ [(i : Int)]).length = ys.length + 1 := by simp
      have hys : ys.length < 100000 := by omega
      have hw : IntKind.i64.wrap (((ys ++ [(i : Int)]).length : Int) - 1) = (ys.length : Int) := by rw [hlen, w64 (by omega) (by omega)]; omega
      have hat : at? (ys ++ [(i : Int)]) (ys.length : Int) = some (i : Int) := by rw [at_nat]; simp
      have hil : i < seen.length := by rw [hd.len]; exact hi
      have htk : (ys ++ [(i : Int)]).take ys.length = ys := by simp
      rw [cond_tt (decide_eq_true (by rw [hlen]; omega)), hw, hat, opt_of, req_pos (by rw [hlen]; omega), Int.toNat_natCast, htk]
      by_cases ho : On seen i
      · rw [at_of ho, opt_of, cond_ff (show (!true) = false from rfl)]
        refine closure_loop g hg s fuel seen ys (by omega) ⟨hd.len, fun x hx => hd.stk x (by simp [hx]), hd.sub, fun a l j ha hl hj => ?_, fun j hj => ?_⟩ (by rw [hlen] at hf; omega)
        · rcases hd.cl a l j ha hl hj with h | h
          · exact .inl h
          · rcases List.mem_append.1 h with h | h
            · exact .inr h
            · have : j = i := Int.ofNat.inj (by simpa using h)
              subst this; exact .inl ho
        · rcases hd.st j hj with h | h
          · exact .inl h
          · rcases List.mem_append.1 h with h | h
            · exact .inr h
            · have : j = i := Int.ofNat.inj (by simpa using h)
              subst this; exact .inl ho
      · have hof := off hil ho
        obtain ⟨hu, hr⟩ := hg.fine g[i] (List.getElem_mem hi)
        have hgi : g[i]? = some g[i] := List.getElem?_eq_getElem hi
        rw [at_of hof, opt_of, cond_tt (show (!false) = true from rfl), opt_of, at_lt hi, opt_of, req_pos (by omega), Int.toNat_natCast]
        have hc := count_set hof
        refine closure_loop g hg s fuel _ _ (by omega) ⟨by simp [hd.len], fun x hx => ?_, fun j hj => ?_, fun a l j ha hl hj => ?_, fun j hj => ?_⟩ (by rw [hlen] at hf; simp only [List.length_append]; omega)
        · rcases List.mem_append.1 hx with hx | hx
          · exact hd.stk x (by simp [hx])
          · obtain ⟨h0, h1⟩ := hr x hx
            have hxx : x = ((x.toNat : Nat) : Int) := by omega
            exact ⟨x.toNat, hxx, by omega, .step hri hgi (hxx ▸ hx)⟩
        · rcases (on_set hil).1 hj with h | rfl
          · exact hd.sub j h
          · exact hri
        · rw [on_set hil]
          rcases (on_set hil).1 ha with h | rfl
          · rcases hd.cl a l j h hl hj with h | h
            · exact .inl (.inl h)
            · rcases List.mem_append.1 h with h | h
              · exact .inr (by simp [h])
              · exact .inl (.inr (Int.ofNat.inj (by simpa using h)))
          · rw [hgi] at hl; cases hl
            exact .inr (by simp [hj])
        · rw [on_set hil]
          rcases hd.st j hj with h | h
          · exact .inl (.inl h)
          · rcases List.mem_append.1 h with h | h
            · exact .inr (by simp [h])
            · exact .inl (.inr (Int.ofNat.inj (by simpa using h)))
theorem closure_any (g : List (List Int)) (hg : Good g) (s : List Int) (hs : Fine g.length s) : ∃ c, f_graph_Closure 20000 g s = some c ∧ Final g s c := by
  unfold f_graph_Closure
  have hl := hg.len
  have hsl := hs.1
  rw [req_pos (by omega), lt_of, req_pos (by simp; omega), Int.toNat_natCast, List.nil_append]
  refine closure_loop g hg s 20000 _ _ (by omega) ⟨by simp, fun x hx => ?_, fun i hi => absurd hi (off_none _ _), fun i l j hi => absurd hi (off_none _ _), fun j hj => .inr hj⟩ (by simp; omega)
  obtain ⟨h0, h1⟩ := hs.2 x hx
  have hxx : x = ((x.toNat : Nat) : Int) := by omega
  exact ⟨x.toNat, hxx, by omega, .base (hxx ▸ hx)⟩
theorem marks_loop (n : Nat) (hn : n ≤ 200) (s : List Int) (hs : Fine n s) (kk : List Bool → Option (List Bool)) : ∀ (fuel k : Nat) (c : List Bool), c.length = n → k ≤ s.length → s.length - k < fuel →
    ∃ d, f_lumref_reached_L45 s kk fuel c (k : Int) = kk d ∧ d.length = n ∧ ∀ j, On d j ↔ On c j ∨ ((j : Nat) : Int) ∈ s.drop k
  | 0, k, c, _, _, hf => absurd hf (Nat.not_lt_zero _)
  | fuel + 1, k, c, hc, hk, hf => by
    rw [f_lumref_reached_L45]
    have hsl := hs.1
    by_cases hlt : k < s.length
    · obtain ⟨h0, h1⟩ := hs.2 s[k] (List.getElem_mem hlt)
      obtain ⟨i, hi⟩ : ∃ i : Nat, s[k] = i := ⟨s[k].toNat, by omega⟩
      rw [hi] at h1
      have hil : i < c.length := by omega
      rw [cond_tt (dlt (by omega)), at_lt hlt, opt_of, hi, at_lt hil, opt_of, wsucc (by omega), Int.toNat_natCast]
      obtain ⟨d, hd, hdl, ho⟩ := marks_loop n hn s hs kk fuel (k + 1) (c.set i true) (by simp [hc]) (by omega) (by omega)
      refine ⟨d, hd, hdl, fun j => ?_⟩
      rw [ho j, on_set hil, List.drop_eq_getElem_cons hlt, List.mem_cons, hi]
      constructor
      · rintro ((h | h) | h)
        · exact .inl h
        · exact .inr (.inl (by rw [h]))
        · exact .inr (.inr h)
      · rintro (h | h | h)
        · exact .inl (.inl h)
        · exact .inl (.inr (by omega))
        · exact .inr h
    · rw [cond_ff (dge (by omega)), List.drop_of_length_le (by omega)]
      exact ⟨c, rfl, hc, fun j => by simp⟩
theorem row_loop (n : Nat) (hn : n ≤ 200) (i : Nat) (hin : i < n) (u : List Int) (hu : Fine n u) (kk : List Bool → Option (List Bool)) : ∀ (fuel k : Nat) (c : List Bool), c.length = n → k ≤ u.length → u.length - k < fuel →
    ∃ d, f_lumref_reached_L27 (i : Int) kk u fuel c (k : Int) = kk d ∧ d.length = n ∧ ∀ j, On d j ↔ On c j ∨ (On c i ∧ ((j : Nat) : Int) ∈ u.drop k)
  | 0, k, c, _, _, hf => absurd hf (Nat.not_lt_zero _)
  | fuel + 1, k, c, hc, hk, hf => by
    rw [f_lumref_reached_L27]
    have hsl := hu.1
    by_cases hlt : k < u.length
    · obtain ⟨h0, h1⟩ := hu.2 u[k] (List.getElem_mem hlt)
      obtain ⟨m, hm⟩ : ∃ i : Nat, u[k] = i := ⟨u[k].toNat, by omega⟩
      rw [hm] at h1
      have hml : m < c.length := by omega
      rw [cond_tt (dlt (by omega)), lt_of, at_lt hlt, opt_of, hm, wsucc (by omega), Int.toNat_natCast]
      dsimp only
      by_cases ho : On c i
      · rw [at_of ho, opt_of, cond_tt rfl, at_lt hml, opt_of]
        obtain ⟨d, hd, hdl, hod⟩ := row_loop n hn i hin u hu kk fuel (k + 1) (c.set m true) (by simp [hc]) (by omega) (by omega)
        refine ⟨d, hd, hdl, fun j => ?_⟩
        rw [hod j, on_set hml, on_set hml, List.drop_eq_getElem_cons hlt, List.mem_cons, hm]
        constructor
        · rintro ((h | h) | h)
          · exact .inl h
          · exact .inr ⟨ho, .inl (by rw [h])⟩
          · exact .inr ⟨ho, .inr h.2⟩
        · rintro (h | ⟨_, h | h⟩)
          · exact .inl (.inl h)
          · exact .inl (.inr (by omega))
          · exact .inr ⟨.inl ho, h⟩
      · rw [at_of (off (by omega) ho), opt_of, cond_ff rfl]
        obtain ⟨d, hd, hdl, hod⟩ := row_loop n hn i hin u hu kk fuel (k + 1) c hc (by omega) (by omega)
        refine ⟨d, hd, hdl, fun j => ?_⟩
        rw [hod j]
        constructor
        · rintro (h | ⟨h, _⟩)
          · exact .inl h
          · exact absurd h ho
        · rintro (h | ⟨h, _⟩)
          · exact .inl h
          · exact absurd h ho
    · rw [cond_ff (dge (by omega)), List.drop_of_length_le (by omega)]
      exact ⟨c, rfl, hc, fun j => by simp⟩
def Shut (g : List (List Int)) (p : Nat → Prop) : Prop := ∀ i l j, p i → g[i]? = some l → ((j : Nat) : Int) ∈ l → p j
theorem round_loop (g : List (List Int)) (hg : Good g) (fu : Nat) (hf : 300 ≤ fu) (kk : List Bool → Option (List Bool)) : ∀ (fuel k : Nat) (c : List Bool), c.length = g.length → k ≤ g.length → g.length - k < fuel →
    ∃ d, f_lumref_reached_L16 g kk fu fuel c (k : Int) = kk d ∧ d.length = g.length ∧ (∀ j, On c j → On d j) ∧ (∀ p : Nat → Prop, Shut g p → (∀ j, On c j → p j) → ∀ j, On d j → p j) ∧ (∀ i l j, k ≤ i → On c i → g[i]? = some l → ((j : Nat) : Int) ∈ l → On d j)
  | 0, k, c, _, _, hfu => absurd hfu (Nat.not_lt_zero _)
  | fuel + 1, k, c, hc, hk, hfu => by
    rw [f_lumref_reached_L16]
    rw [lt_of]
    have hl := hg.len
    by_cases hlt : k < g.length
    · have hu := hg.fine g[k] (List.getElem_mem hlt)
      have hul := hu.1
      have hgk : g[k]? = some g[k] := List.getElem?_eq_getElem hlt
      rw [cond_tt (dlt (by omega)), lt_of, at_lt hlt, opt_of, wsucc (by omega)]
      dsimp only
      obtain ⟨e, he, hel, hoe⟩ := row_loop g.length hl k hlt g[k] hu (fun j => f_lumref_reached_L16 g kk fu fuel j ((k + 1 : Nat) : Int)) fu 0 c hc (by omega) (by omega)
      rw [List.drop_zero] at hoe
      rw [show ((0 : Nat) : Int) = (0 : Int) from rfl] at he
      rw [he]
      obtain ⟨d, hd, hdl, h1, h2, h3⟩ := round_loop g hg fu hf kk fuel (k + 1) e hel (by omega) (by omega)
      refine ⟨d, hd, hdl, fun j h => h1 j ((hoe j).2 (.inl h)), fun p hp hcp j hj => h2 p hp (fun j hj => ?_) j hj, fun i l j hi ho hgl hj => ?_⟩
      · rcases (hoe j).1 hj with h | ⟨h, h'⟩
        · exact hcp j h
        · exact hp k g[k] j (hcp k h) hgk h'
      · by_cases hik : i = k
        · subst hik
          rw [hgk] at hgl; cases hgl
          exact h1 j ((hoe j).2 (.inr ⟨ho, hj⟩))
        · exact h3 i l j (by omega) ((hoe i).2 (.inl ho)) hgl hj
    · rw [cond_ff (dge (by omega))]
      refine ⟨c, rfl, hc, fun j h => h, fun p _ h => h, fun i l j hi ho hgl hj => ?_⟩
      have := (List.getElem?_eq_some_iff.1 hgl).1
      omega
theorem cnt_mono : ∀ (a b : List Bool), a.length = b.length → (∀ j, On a j → On b j) → a.count true ≤ b.count true ∧ ((∃ j, On b j ∧ ¬On a j) → a.count true < b.count true)
  | [], [], _, _ => ⟨Nat.le_refl _, fun ⟨j, h, _⟩ => by simp [On] at h⟩
  | [], _ :: _, h, _ => by simp at h
  | _ :: _, [], h, _ => by simp at h
  | x :: a, y :: b, hl, h => by
    obtain ⟨h1, h2⟩ := cnt_mono a b (by simpa using hl) (fun j hj => by have := h (j + 1) (by simpa [On] using hj); simpa [On] using this)
    have h0 := h 0
    simp only [On, List.getElem?_cons_zero, Option.some.injEq] at h0
    simp only [List.count_cons]
    refine ⟨?_, ?_⟩
    · cases x <;> cases y <;> simp at h0 ⊢ <;> omega
    · rintro ⟨j, hj, hn⟩
      cases j with
      | zero =>
        simp only [On, List.getElem?_cons_zero, Option.some.injEq] at hj hn
        cases x <;> cases y <;> simp at h0 hj hn ⊢ <;> omega
      | succ j =>
        have h3 := h2 ⟨j, by simpa [On] using hj, by simpa [On] using hn⟩
        cases x <;> cases y <;> simp at h0 ⊢ <;> omega
theorem cnt_all {c : List Bool} (h : c.length ≤ c.count true) {j : Nat} (hj : j < c.length) : On c j := by
  have h1 : c.count true = c.length := Nat.le_antisymm List.count_le_length h
  have h2 := List.count_eq_length.1 h1 c[j] (List.getElem_mem hj)
  unfold On
  rw [List.getElem?_eq_getElem hj, ← h2]
theorem rounds_loop (g : List (List Int)) (hg : Good g) (s : List Int) (hs : Fine g.length s) (fu : Nat) (hf : 300 ≤ fu) : ∀ (fuel k : Nat) (c : List Bool), c.length = g.length → k ≤ g.length → g.length - k < fuel → (∀ j, On c j → R g s j) → (∀ j, ((j : Nat) : Int) ∈ s → On c j) → (Shut g (On c) ∨ k ≤ c.count true) →
    ∃ d, f_lumref_reached_L9 g (fun j => some j) fu fuel c (k : Int) = some d ∧ Final g s d
  | 0, k, c, _, _, hfu, _, _, _ => absurd hfu (Nat.not_lt_zero _)
  | fuel + 1, k, c, hc, hk, hfu, hr, hst, hsh => by
    rw [f_lumref_reached_L9]
    rw [lt_of]
    have hl := hg.len
    by_cases hlt : k < g.length
    · rw [cond_tt (dlt (by omega)), lt_of, wsucc (by omega)]
      dsimp only
      obtain ⟨e, he, hel, h1, h2, h3⟩ := round_loop g hg fu hf (fun j => f_lumref_reached_L9 g (fun j => some j) fu fuel j ((k + 1 : Nat) : Int)) fu 0 c hc (by omega) (by omega)
      rw [show ((0 : Nat) : Int) = (0 : Int) from rfl] at he
      rw [he]
      refine rounds_loop g hg s hs fu hf fuel (k + 1) e hel (by omega) (by omega) (h2 _ (fun i l j hi hl hj => .step hi hl hj) hr) (fun j hj => h1 j (hst j hj)) ?_
      by_cases hsc : Shut g (On c)
      · left
        have h4 := h2 _ hsc (fun j h => h)
        exact fun i l j hi hl hj => h1 j (hsc i l j (h4 i hi) hl hj)
      · right
        obtain ⟨h5, h6⟩ := cnt_mono c e (by omega) h1
        have h7 : ∃ j, On e j ∧ ¬On c j := by
          apply Classical.byContradiction
          intro hno
          apply hsc
          intro i l j hi hl hj
          apply Classical.byContradiction
          intro hnj
          exact hno ⟨j, h3 i l j (Nat.zero_le _) hi hl hj, hnj⟩
        have h8 := h6 h7
        rcases hsh with h | h
        · exact absurd h hsc
        · omega
    · rw [cond_ff (dge (by omega))]
      have hsc : Shut g (On c) := by
        rcases hsh with h | h
        · exact h
        · intro i l j hi hl hj
          obtain ⟨hil, rfl⟩ := List.getElem?_eq_some_iff.1 hl
          obtain ⟨_, hx⟩ := (hg.fine _ (List.getElem_mem hil)).2 _ hj
          exact cnt_all (by omega) (by omega)
      refine ⟨c, rfl, hc, fun j => ⟨hr j, fun hj => ?_⟩⟩
      induction hj with
      | base h => exact hst _ h
      | step _ hl hj ih => exact hsc _ _ _ ih hl hj
theorem reached_any (g : List (List Int)) (hg : Good g) (s : List Int) (hs : Fine g.length s) : ∃ c, f_lumref_reached 20000 g s = some c ∧ Final g s c := by
  unfold f_lumref_reached
  have hl := hg.len
  have hsl := hs.1
  rw [req_pos (by omega), lt_of, Int.toNat_natCast]
  obtain ⟨d, hd, hdl, ho⟩ := marks_loop g.length hl s hs (fun j => lt (fun (j5x5 : (List Bool)) => (some j5x5)) fun (kk6 : (List Bool) → Option (List Bool)) => (f_lumref_reached_L9 g kk6 20000 20000 j (0 : Int))) 20000 0 (List.replicate g.length false) (by simp) (by omega) (by omega)
  rw [show ((0 : Nat) : Int) = (0 : Int) from rfl] at hd
  rw [hd, lt_of]
  rw [List.drop_zero] at ho
  refine rounds_loop g hg s hs 20000 (by omega) 20000 0 d hdl (by omega) (by omega) (fun j hj => ?_) (fun j hj => (ho j).2 (.inr hj)) (.inr (Nat.zero_le _))
  rcases (ho j).1 hj with h | h
  · exact absurd h (off_none _ _)
  · exact .base h
end Go.Proofs.Ytiioclkiapbjnaa.Swp
namespace Go.Proofs.Ytiioclkiapbjnaa.Swp
open Go.RowKit Ytiioclkiapbjnaa.En Ytiioclkiapbjnaa
set_option linter.unusedVariables false
set_option linter.unusedSimpArgs false
theorem amb_same {β : Type} [DecidableEq β] {c : Bool} {x y : Option β} (h : c = true → x = y) : amb c x y = y := by
  unfold amb
  cases c with
  | true => rw [h rfl]; simp
  | false => rfl
def okp (T : List S_api_Thing) (x : Int) : Bool := match at? T x with | some t => !t.Free | none => false
theorem at_ge {α : Type} {xs : List α} {i : Int} (h : (xs.length : Int) ≤ i) : at? xs i = none := by
  unfold at?; rw [if_pos (by omega), List.getElem?_eq_none (by omega)]
theorem okp_neg {T : List S_api_Thing} {x : Int} (h : x < 0) : okp T x = false := by unfold okp; rw [at_neg h]
theorem okp_ge {T : List S_api_Thing} {x : Int} (h : (T.length : Int) ≤ x) : okp T x = false := by unfold okp; rw [at_ge h]
theorem okp_in {T : List S_api_Thing} {x : Int} (h0 : 0 ≤ x) (h1 : x < T.length) : ∃ t, at? T x = some t ∧ okp T x = !t.Free := by
  obtain ⟨k, rfl⟩ : ∃ k : Nat, x = k := ⟨x.toNat, by omega⟩
  exact ⟨_, at_lt (show k < T.length by omega), by unfold okp; rw [at_lt (show k < T.length by omega)]⟩
theorem okp_bound {T : List S_api_Thing} {x : Int} (h : okp T x = true) : 0 ≤ x ∧ x < T.length := by
  refine ⟨?_, ?_⟩
  · rcases Int.lt_or_le x 0 with h1 | h1
    · rw [okp_neg h1] at h; cases h
    · exact h1
  · rcases Int.lt_or_le x T.length with h1 | h1
    · exact h1
    · rw [okp_ge h1] at h; cases h
def bad (t : S_api_Thing) : Bool := decide (t.Colour < 0) || decide (t.Colour > 2) || (t.Free && (decide (t.Kids.length ≠ 0) || decide (t.Colour ≠ 0)))
def terr (T : List S_api_Thing) (t : S_api_Thing) : Int := if t.Kids.length > 64 then 2 else if bad t = true then 4 else if t.Kids.all (okp T) = true then 0 else 1
def herr (T : List S_api_Thing) : List S_api_Thing → Int
  | [] => 0
  | t :: ts => if terr T t ≠ 0 then terr T t else herr T ts
def chk (h : S_api_Heap) : Int := if h.Things.length > 40 ∨ h.Roots.length > 64 then 2 else if herr h.Things h.Things ≠ 0 then herr h.Things h.Things else if h.Roots.all (okp h.Things) = true then 0 else 1
theorem herr_cons (T : List S_api_Thing) (t : S_api_Thing) (ts : List S_api_Thing) : herr T (t :: ts) = if terr T t ≠ 0 then terr T t else herr T ts := rfl
theorem ref_points_loop (h : S_api_Heap) (l : List Int) (kk : Unit → Option Bool) (hm : l.length ≤ 64) : ∀ (fuel k : Nat), k ≤ l.length → l.length - k < fuel →
    f_lumref_heapPoints_L6 h l kk fuel (k : Int) = if (l.drop k).all (okp h.Things) = true then kk () else some false
  | 0, k, _, hf => absurd hf (Nat.not_lt_zero _)
  | fuel + 1, k, hk, hf => by
    rw [f_lumref_heapPoints_L6]
    by_cases hlt : k < l.length
    · rw [cond_tt (dlt (by omega)), at_lt hlt, opt_of, lt_of, List.drop_eq_getElem_cons hlt, List.all_cons, wsucc (by omega), ref_points_loop h l kk hm fuel (k + 1) (by omega) (by omega)]
      by_cases h0 : l[k] < 0
      · rw [cond_tt (dlt h0), okp_neg h0]; rfl
      · rw [cond_ff (dge (by omega))]
        by_cases h1 : (h.Things.length : Int) ≤ l[k]
        · rw [cond_tt (decide_eq_true h1), okp_ge h1]; rfl
        · obtain ⟨t, ht, ho⟩ := okp_in (T := h.Things) (x := l[k]) (by omega) (by omega)
          rw [cond_ff (decide_eq_false h1), ht, opt_of, ho]
          cases t.Free <;> rfl
    · rw [cond_ff (dge (by omega)), List.drop_of_length_le (by omega)]; rfl
theorem ref_points (h : S_api_Heap) (l : List Int) (hm : l.length ≤ 64) (fu : Nat) (hf : 300 ≤ fu) : f_lumref_heapPoints fu h l = some (l.all (okp h.Things)) := by
  unfold f_lumref_heapPoints
  rw [lt_of, show (0 : Int) = ((0 : Nat) : Int) from rfl, ref_points_loop h l _ hm fu 0 (by omega) (by omega), List.drop_zero]
  cases l.all (okp h.Things) <;> rfl
theorem bad_ref (t : S_api_Thing) (A : Bool → Option Int) : (lt A fun (kk : Bool → Option Int) => (bif (decide (t.Colour < (0 : Int))) then (kk true) else (bif (decide (t.Colour > (2 : Int))) then (kk true) else (bif t.Free then (bif ((t.Kids.length : Int) != (0 : Int)) then (kk true) else (kk (t.Colour != (0 : Int)))) else (kk false))))) = A (bad t) := by
  unfold bad
  rw [lt_of]
  by_cases h0 : t.Colour < 0
  · rw [cond_tt (dlt h0), dlt h0]; rfl
  · rw [cond_ff (decide_eq_false h0), decide_eq_false h0]
    by_cases h1 : t.Colour > 2
    · rw [cond_tt (decide_eq_true h1), decide_eq_true h1]; rfl
    · rw [cond_ff (decide_eq_false h1), decide_eq_false h1]
      cases t.Free with
      | false => rfl
      | true =>
        rw [cond_tt rfl]
        by_cases h2 : t.Kids.length = 0
        · rw [cond_ff (by simp [h2]), decide_eq_false (show ¬(t.Kids.length ≠ 0) from fun h => h h2)]
          by_cases h3 : t.Colour = 0
          · simp [h3]
          · rw [show (t.Colour != 0) = true from by simpa using h3, decide_eq_true h3]; rfl
        · rw [cond_tt (by simp only [bne_iff_ne, ne_eq]; omega), decide_eq_true h2]; rfl
theorem bad_code (t : S_api_Thing) (A : Bool → Option Int) : (lt A fun (kk : Bool → Option Int) => (bif (decide (t.Colour < (0 : Int))) then (kk true) else (bif (decide (t.Colour > (2 : Int))) then (kk true) else (bif t.Free then (bif (decide ((t.Kids.length : Int) > (0 : Int))) then (kk true) else (kk (t.Colour != (0 : Int)))) else (kk false))))) = A (bad t) := by
  rw [← bad_ref t A]
  have : decide ((t.Kids.length : Int) > 0) = ((t.Kids.length : Int) != 0) := by
    by_cases h : t.Kids.length = 0
    · simp [h]
    · rw [decide_eq_true (by omega)]; symm; simp only [bne_iff_ne, ne_eq]; omega
  rw [this]
theorem ref_loop (h : S_api_Heap) (hm : h.Things.length ≤ 40) (kk : Unit → Option Int) (fu : Nat) (hf : 300 ≤ fu) : ∀ (fuel k : Nat), k ≤ h.Things.length → h.Things.length - k < fuel →
    f_lumref_Heap_L12 h kk fu fuel (k : Int) = if herr h.Things (h.Things.drop k) ≠ 0 then some (herr h.Things (h.Things.drop k)) else kk ()
  | 0, k, _, hfu => absurd hfu (Nat.not_lt_zero _)
  | fuel + 1, k, hk, hfu => by
    rw [f_lumref_Heap_L12]
    by_cases hlt : k < h.Things.length
    · rw [cond_tt (dlt (by omega)), at_lt hlt, opt_of, List.drop_eq_getElem_cons hlt, wsucc (by omega), ref_loop h hm kk fu hf fuel (k + 1) (by omega) (by omega)]
      generalize h.Things[k] = t
      rw [herr_cons]
      unfold terr
      by_cases h1 : t.Kids.length > 64
      · rw [cond_tt (decide_eq_true (by omega)), if_pos h1]; rfl
      · rw [cond_ff (decide_eq_false (by omega)), if_neg h1, bad_ref]
        cases bad t with
        | true => rfl
        | false =>
          rw [cond_ff rfl, ref_points h t.Kids (by omega) fu hf, opt_of]
          cases t.Kids.all (okp h.Things) <;> simp
    · rw [cond_ff (dge (by omega)), List.drop_of_length_le (by omega)]; rfl
theorem long_ref (h : S_api_Heap) (A : Bool → Option Int) : (lt A fun (kk : Bool → Option Int) => (bif (decide ((h.Things.length : Int) > (40 : Int))) then (kk true) else (kk (decide ((h.Roots.length : Int) > (64 : Int)))))) = A (decide (h.Things.length > 40 ∨ h.Roots.length > 64)) := by
  rw [lt_of]
  by_cases h0 : h.Things.length > 40
  · rw [cond_tt (decide_eq_true (by omega)), decide_eq_true (.inl h0)]
  · rw [cond_ff (decide_eq_false (by omega))]
    by_cases h1 : h.Roots.length > 64
    · rw [decide_eq_true (by omega), decide_eq_true (.inr h1)]
    · rw [decide_eq_false (by omega), decide_eq_false (by omega)]
theorem ref_check (h : S_api_Heap) (fu : Nat) (hf : 300 ≤ fu) : f_lumref_Heap fu h = some (chk h) := by
  unfold f_lumref_Heap chk
  rw [long_ref]
  by_cases hl : h.Things.length > 40 ∨ h.Roots.length > 64
  · rw [cond_tt (decide_eq_true hl), if_pos hl]
  · rw [cond_ff (decide_eq_false hl), if_neg hl, lt_of]
    refine (ref_loop h (by omega) _ fu hf fu 0 (by omega) (by omega)).trans ?_
    rw [List.drop_zero]
    by_cases he : herr h.Things h.Things ≠ 0
    · rw [if_pos he, if_pos he]
    · rw [if_neg he, if_neg he, ref_points h h.Roots (by omega) fu hf, opt_of]
      cases h.Roots.all (okp h.Things) <;> rfl
theorem code_there (h : S_api_Heap) (x : Int) (fu : Nat) : f_sweep_there fu h x = some (okp h.Things x) := by
  unfold f_sweep_there
  rw [lt_of]
  by_cases h0 : x ≥ 0
  · rw [cond_tt (decide_eq_true h0)]
    by_cases h1 : x < (h.Things.length : Int)
    · obtain ⟨t, ht, ho⟩ := okp_in h0 h1
      rw [cond_tt (decide_eq_true h1), ht, opt_of, ho]
    · rw [cond_ff (decide_eq_false h1), okp_ge (by omega)]
  · rw [cond_ff (decide_eq_false h0), okp_neg (by omega)]
theorem idx73 (h : S_api_Heap) (l : List Int) (fu : Nat) (hm : l.length ≤ 64) : ∀ (fuel k : Nat), k ≤ l.length → l.length - k < fuel →
    ∃ r, f_slices_IndexFunc___int_int__F73_L5 l h (fun _ => some (-1)) fu fuel (k : Int) = some r ∧ decide (r ≥ 0) = !(l.drop k).all (okp h.Things)
  | 0, k, _, hf => absurd hf (Nat.not_lt_zero _)
  | fuel + 1, k, hk, hf => by
    rw [f_slices_IndexFunc___int_int__F73_L5]
    by_cases hlt : k < l.length
    · obtain ⟨r, hr, hd⟩ := idx73 h l fu hm fuel (k + 1) (by omega) (by omega)
      rw [cond_tt (dlt (by omega)), at_lt hlt, opt_of, List.drop_eq_getElem_cons hlt, List.all_cons, wsucc (by omega), hr]
      unfold f_sweep_check_1
      rw [code_there, opt_of, opt_of]
      cases okp h.Things l[k] with
      | true => exact ⟨r, rfl, by rw [hd]; rfl⟩
      | false => exact ⟨k, rfl, by rw [decide_eq_true (by omega)]; rfl⟩
    · rw [cond_ff (dge (by omega)), List.drop_of_length_le (by omega)]
      exact ⟨-1, rfl, rfl⟩
theorem idx46 (h : S_api_Heap) (l : List Int) (fu : Nat) (hm : l.length ≤ 64) : ∀ (fuel k : Nat), k ≤ l.length → l.length - k < fuel →
    ∃ r, f_slices_IndexFunc___int_int__F46_L5 l h (fun _ => some (-1)) fu fuel (k : Int) = some r ∧ decide (r ≥ 0) = !(l.drop k).all (okp h.Things)
  | 0, k, _, hf => absurd hf (Nat.not_lt_zero _)
  | fuel + 1, k, hk, hf => by
    rw [f_slices_IndexFunc___int_int__F46_L5]
    by_cases hlt : k < l.length
    · obtain ⟨r, hr, hd⟩ := idx46 h l fu hm fuel (k + 1) (by omega) (by omega)
      rw [cond_tt (dlt (by omega)), at_lt hlt, opt_of, List.drop_eq_getElem_cons hlt, List.all_cons, wsucc (by omega), hr]
      unfold f_sweep_Check_1
      rw [code_there, opt_of, opt_of]
      cases okp h.Things l[k] with
      | true => exact ⟨r, rfl, by rw [hd]; rfl⟩
      | false => exact ⟨k, rfl, by rw [decide_eq_true (by omega)]; rfl⟩
    · rw [cond_ff (dge (by omega)), List.drop_of_length_le (by omega)]
      exact ⟨-1, rfl, rfl⟩
theorem con73 (h : S_api_Heap) (l : List Int) (hm : l.length ≤ 64) (fu : Nat) (hf : 300 ≤ fu) : f_slices_ContainsFunc___int_int__F73 fu l h = some (!l.all (okp h.Things)) := by
  unfold f_slices_ContainsFunc___int_int__F73 f_slices_IndexFunc___int_int__F73
  obtain ⟨r, hr, hd⟩ := idx73 h l fu hm fu 0 (by omega) (by omega)
  rw [lt_of, show (0 : Int) = ((0 : Nat) : Int) from rfl, hr, opt_of]
  rw [List.drop_zero] at hd
  exact congrArg some hd
theorem con46 (h : S_api_Heap) (l : List Int) (hm : l.length ≤ 64) (fu : Nat) (hf : 300 ≤ fu) : f_slices_ContainsFunc___int_int__F46 fu l h = some (!l.all (okp h.Things)) := by
  unfold f_slices_ContainsFunc___int_int__F46 f_slices_IndexFunc___int_int__F46
  obtain ⟨r, hr, hd⟩ := idx46 h l fu hm fu 0 (by omega) (by omega)
  rw [lt_of, show (0 : Int) = ((0 : Nat) : Int) from rfl, hr, opt_of]
  rw [List.drop_zero] at hd
  exact congrArg some hd
theorem code_thing (h : S_api_Heap) (t : S_api_Thing) (fu : Nat) (hf : 300 ≤ fu) : f_sweep_check fu h t = some (terr h.Things t) := by
  unfold f_sweep_check terr
  by_cases h1 : t.Kids.length > 64
  · rw [cond_tt (decide_eq_true (by omega)), if_pos h1]
  · rw [cond_ff (decide_eq_false (by omega)), if_neg h1, bad_code]
    cases bad t with
    | true => rfl
    | false =>
      rw [cond_ff rfl, con73 h t.Kids (by omega) fu hf, opt_of]
      cases t.Kids.all (okp h.Things) <;> rfl
theorem code_loop (h : S_api_Heap) (hm : h.Things.length ≤ 40) (kk : Unit → Option Int) (fu : Nat) (hf : 300 ≤ fu) : ∀ (fuel k : Nat), k ≤ h.Things.length → h.Things.length - k < fuel →
    f_sweep_Check_L14 h kk fu fuel (k : Int) = if herr h.Things (h.Things.drop k) ≠ 0 then some (herr h.Things (h.Things.drop k)) else kk ()
  | 0, k, _, hfu => absurd hfu (Nat.not_lt_zero _)
  | fuel + 1, k, hk, hfu => by
    rw [f_sweep_Check_L14]
    by_cases hlt : k < h.Things.length
    · rw [cond_tt (dlt (by omega)), at_lt hlt, opt_of, List.drop_eq_getElem_cons hlt, wsucc (by omega), code_loop h hm kk fu hf fuel (k + 1) (by omega) (by omega), code_thing h _ fu hf, opt_of]
      generalize h.Things[k] = t
      rw [herr_cons]
      by_cases h1 : terr h.Things t = 0
      · rw [cond_ff (by simp [h1])]; simp [h1]
      · rw [cond_tt (by simpa using h1), if_pos h1, if_pos h1]
    · rw [cond_ff (dge (by omega)), List.drop_of_length_le (by omega)]; rfl
theorem code_check (h : S_api_Heap) (fu : Nat) (hf : 300 ≤ fu) : f_sweep_Check fu h = some (chk h) := by
  unfold f_sweep_Check chk
  rw [long_ref]
  by_cases hl : h.Things.length > 40 ∨ h.Roots.length > 64
  · rw [cond_tt (decide_eq_true hl), if_pos hl]
  · rw [cond_ff (decide_eq_false hl), if_neg hl, lt_of]
    refine (code_loop h (by omega) _ fu hf fu 0 (by omega) (by omega)).trans ?_
    rw [List.drop_zero]
    by_cases he : herr h.Things h.Things ≠ 0
    · rw [if_pos he, if_pos he]
    · rw [if_neg he, if_neg he, con46 h h.Roots (by omega) fu hf, opt_of]
      cases h.Roots.all (okp h.Things) <;> rfl
structure Right (h : S_api_Heap) : Prop where
  things : h.Things.length ≤ 40
  roots : h.Roots.length ≤ 64
  root : ∀ x ∈ h.Roots, 0 ≤ x ∧ x < (h.Things.length : Int)
  kids : ∀ t ∈ h.Things, t.Kids.length ≤ 64
  kid : ∀ t ∈ h.Things, ∀ x ∈ t.Kids, 0 ≤ x ∧ x < (h.Things.length : Int)
  free : ∀ t ∈ h.Things, t.Free = true → t.Kids = [] ∧ t.Colour = 0
theorem all_okp {T : List S_api_Thing} {l : List Int} (h : l.all (okp T) = true) : ∀ x ∈ l, 0 ≤ x ∧ x < (T.length : Int) := fun x hx => okp_bound (List.all_eq_true.1 h x hx)
theorem terr_zero {T : List S_api_Thing} {t : S_api_Thing} (h : terr T t = 0) : t.Kids.length ≤ 64 ∧ (∀ x ∈ t.Kids, 0 ≤ x ∧ x < (T.length : Int)) ∧ (t.Free = true → t.Kids = [] ∧ t.Colour = 0) := by
  unfold terr at h
  by_cases h1 : t.Kids.length > 64
  · rw [if_pos h1] at h; cases h
  · rw [if_neg h1] at h
    by_cases h2 : bad t = true
    · rw [if_pos h2] at h; cases h
    · rw [if_neg h2] at h
      by_cases h3 : t.Kids.all (okp T) = true
      · refine ⟨by omega, all_okp h3, fun hf => ?_⟩
        unfold bad at h2
        rw [hf] at h2
        simp only [Bool.true_and, Bool.or_eq_true, decide_eq_true_eq, not_or] at h2
        exact ⟨List.length_eq_zero_iff.1 (by omega), by omega⟩
      · rw [if_neg h3] at h; cases h
theorem herr_zero {T : List S_api_Thing} : ∀ {l : List S_api_Thing}, herr T l = 0 → ∀ t ∈ l, terr T t = 0
  | [], _, t, ht => absurd ht (by simp)
  | a :: l, h, t, ht => by
    unfold herr at h
    by_cases h1 : terr T a = 0
    · rw [if_neg (fun h' => h' h1)] at h
      rcases List.mem_cons.1 ht with rfl | ht
      · exact h1
      · exact herr_zero h t ht
    · rw [if_pos h1] at h; exact absurd h h1
theorem chk_zero {h : S_api_Heap} (hc : chk h = 0) : Right h := by
  unfold chk at hc
  by_cases hl : h.Things.length > 40 ∨ h.Roots.length > 64
  · rw [if_pos hl] at hc; cases hc
  · rw [if_neg hl] at hc
    by_cases he : herr h.Things h.Things = 0
    · rw [if_neg (fun h' => h' he)] at hc
      by_cases hr : h.Roots.all (okp h.Things) = true
      · have ht := herr_zero he
        exact ⟨by omega, by omega, all_okp hr, fun t h' => (terr_zero (ht t h')).1, fun t h' => (terr_zero (ht t h')).2.1, fun t h' => (terr_zero (ht t h')).2.2⟩
      · rw [if_neg hr] at hc; cases hc
    · rw [if_pos he] at hc; exact absurd hc he
theorem live_code_loop (h : S_api_Heap) (hm : h.Things.length ≤ 40) (kk : List (List Int) → Option (List Bool)) : ∀ (fuel k : Nat) (g : List (List Int)), g.length = k → k ≤ h.Things.length → h.Things.length - k < fuel →
    f_sweep_live_L9 h kk fuel g (k : Int) = kk (g ++ (h.Things.drop k).map (fun t => t.Kids))
  | 0, k, _, _, _, hf => absurd hf (Nat.not_lt_zero _)
  | fuel + 1, k, g, hg, hk, hf => by
    rw [f_sweep_live_L9]
    by_cases hlt : k < h.Things.length
    · rw [cond_tt (dlt (by omega)), at_lt hlt, opt_of, req_pos (by simp; omega), wsucc (by omega), live_code_loop h hm kk fuel (k + 1) _ (by simp [hg]) (by omega) (by omega), List.drop_eq_getElem_cons hlt, List.map_cons, List.append_assoc]; rfl
    · rw [cond_ff (dge (by omega)), List.drop_of_length_le (by omega)]; simp
theorem live_ref_loop (h : S_api_Heap) (hm : h.Things.length ≤ 40) (kk : List (List Int) → Option (List Bool)) : ∀ (fuel k : Nat) (g : List (List Int)), g.length = k → k ≤ h.Things.length → h.Things.length - k < fuel →
    f_lumref_Live_L9 h kk fuel g (k : Int) = kk (g ++ (h.Things.drop k).map (fun t => t.Kids))
  | 0, k, _, _, _, hf => absurd hf (Nat.not_lt_zero _)
  | fuel + 1, k, g, hg, hk, hf => by
    rw [f_lumref_Live_L9]
    by_cases hlt : k < h.Things.length
    · rw [cond_tt (dlt (by omega)), at_lt hlt, opt_of, req_pos (by simp; omega), wsucc (by omega), live_ref_loop h hm kk fuel (k + 1) _ (by simp [hg]) (by omega) (by omega), List.drop_eq_getElem_cons hlt, List.map_cons, List.append_assoc]; rfl
    · rw [cond_ff (dge (by omega)), List.drop_of_length_le (by omega)]; simp
theorem Right.good {h : S_api_Heap} (r : Right h) : Good (h.Things.map (fun t => t.Kids)) := by
  have := r.things
  refine ⟨by simp; omega, fun l hl => ?_⟩
  obtain ⟨t, ht, rfl⟩ := List.mem_map.1 hl
  exact ⟨r.kids t ht, by rw [List.length_map]; exact r.kid t ht⟩
theorem live_both {h : S_api_Heap} (r : Right h) : ∃ c, f_sweep_live 20000 h = some c ∧ f_lumref_Live 20000 h = some c ∧ c.length = h.Things.length := by
  have hs : Fine (h.Things.map (fun t => t.Kids)).length h.Roots := ⟨r.roots, by rw [List.length_map]; exact r.root⟩
  obtain ⟨c, hc, hcf⟩ := closure_any _ r.good _ hs
  obtain ⟨d, hd, hdf⟩ := reached_any _ r.good _ hs
  obtain rfl := final_eq hcf hdf
  refine ⟨c, ?_, ?_, by rw [hcf.1, List.length_map]⟩
  · unfold f_sweep_live
    rw [lt_of, show (0 : Int) = ((0 : Nat) : Int) from rfl, live_code_loop h r.things _ 20000 0 [] rfl (by omega) (by have := r.things; omega), List.drop_zero, List.nil_append, hc]; rfl
  · unfold f_lumref_Live
    rw [lt_of, show (0 : Int) = ((0 : Nat) : Int) from rfl, live_ref_loop h r.things _ 20000 0 [] rfl (by omega) (by have := r.things; omega), List.drop_zero, List.nil_append, hd]; rfl
end Go.Proofs.Ytiioclkiapbjnaa.Swp
namespace Go.Proofs.Ytiioclkiapbjnaa.Swp
open Go.RowKit Ytiioclkiapbjnaa.En Ytiioclkiapbjnaa
set_option linter.unusedVariables false
set_option linter.unusedSimpArgs false
theorem clI {l : List Int} (hl : l.length ≤ 200) (fu : Nat) : f_slices_Clone___int_int_ fu l = some l := by
  unfold f_slices_Clone___int_int_
  rw [amb_same, req_pos (by simp; omega), List.nil_append]
  intro h; obtain rfl : l = [] := by simpa using h
  rw [req_pos (by simp)]; rfl
theorem clT {l : List S_api_Thing} (hl : l.length ≤ 200) (fu : Nat) : f_slices_Clone___api_Thing_api_Thing_ fu l = some l := by
  unfold f_slices_Clone___api_Thing_api_Thing_
  rw [amb_same, req_pos (by simp; omega), List.nil_append]
  intro h; obtain rfl : l = [] := by simpa using h
  rw [req_pos (by simp)]; rfl
def white (t : S_api_Thing) : S_api_Thing := { t with Colour := 0 }
def grey (T : List S_api_Thing) (x : Int) : List S_api_Thing := match at? T x with | some t => if t.Colour = 0 then T.set x.toNat { t with Colour := 1 } else T | none => T
def greys (T : List S_api_Thing) (l : List Int) : List S_api_Thing := l.foldl grey T
def swept (t : S_api_Thing) : S_api_Thing := if t.Colour = 0 then ⟨[], 0, true⟩ else { t with Colour := 0 }
theorem grey_some {T : List S_api_Thing} {x : Int} {t : S_api_Thing} (h : at? T x = some t) : grey T x = if t.Colour = 0 then T.set x.toNat { t with Colour := 1 } else T := by unfold grey; rw [h]
theorem grey_len (T : List S_api_Thing) (x : Int) : (grey T x).length = T.length := by
  unfold grey
  cases at? T x with
  | none => rfl
  | some t => dsimp only; split <;> simp
theorem greys_len : ∀ (l : List Int) (T : List S_api_Thing), (greys T l).length = T.length
  | [], T => rfl
  | x :: l, T => (greys_len l (grey T x)).trans (grey_len T x)
theorem at_get {α : Type} {xs : List α} {i : Int} {x : α} (h : at? xs i = some x) : xs[i.toNat]? = some x := (at_some h).2.2
theorem set_same {α : Type} {l : List α} {k : Nat} {x : α} (h : l[k]? = some x) : l.set k x = l := by
  apply List.ext_getElem?; intro j
  rw [List.getElem?_set]
  split
  · rename_i e; subst e; rw [if_pos (List.getElem?_eq_some_iff.1 h).1, h]
  · rfl
theorem grey_kids (T : List S_api_Thing) (x : Int) : (grey T x).map (fun t => t.Kids) = T.map (fun t => t.Kids) := by
  unfold grey
  cases h : at? T x with
  | none => rfl
  | some t =>
    dsimp only
    split
    · rw [List.map_set]
      exact set_same (by rw [List.getElem?_map, at_get h]; rfl)
    · rfl
theorem greys_kids : ∀ (l : List Int) (T : List S_api_Thing), (greys T l).map (fun t => t.Kids) = T.map (fun t => t.Kids)
  | [], T => rfl
  | x :: l, T => (greys_kids l (grey T x)).trans (grey_kids T x)
theorem kids_at {T X : List S_api_Thing} (h : X.map (fun t => t.Kids) = T.map (fun t => t.Kids)) {k : Nat} {t : S_api_Thing} (ht : T[k]? = some t) : ∃ t', X[k]? = some t' ∧ t'.Kids = t.Kids := by
  have h1 : (X.map (fun t => t.Kids))[k]? = some t.Kids := by rw [h, List.getElem?_map, ht]; rfl
  rw [List.getElem?_map] at h1
  cases hx : X[k]? with
  | none => rw [hx] at h1; cases h1
  | some t' => rw [hx] at h1; exact ⟨t', rfl, Option.some.inj h1⟩
theorem modify_kids {X : List S_api_Thing} {k : Nat} {t' : S_api_Thing} {l : List Int} (h : X[k]? = some t') (hk : t'.Kids = l) : X.modify k (fun x => { x with Kids := l }) = X := by
  apply List.ext_getElem?; intro j
  rw [List.getElem?_modify]
  by_cases e : k = j
  · subst e; rw [h]; simp [← hk]
  · cases X[j]? <;> simp [e]
def Col (T : List S_api_Thing) : Prop := ∀ t ∈ T, t.Colour = 0 ∨ t.Colour = 1
theorem grey_col {T : List S_api_Thing} (h : Col T) (x : Int) : Col (grey T x) := by
  unfold grey
  cases ht : at? T x with
  | none => exact h
  | some t =>
    dsimp only
    split
    · intro u hu
      rcases List.mem_or_eq_of_mem_set hu with hu | rfl
      · exact h u hu
      · exact .inr rfl
    · exact h
theorem grey_set {T : List S_api_Thing} (h : Col T) {x : Int} {t : S_api_Thing} (ht : at? T x = some t) : T.set x.toNat { t with Colour := 1 } = grey T x := by
  rw [grey_some ht]
  by_cases h0 : t.Colour = 0
  · rw [if_pos h0]
  · rw [if_neg h0]
    have h1 : t.Colour = 1 := (h t (List.mem_of_getElem? (at_get ht))).resolve_left h0
    have : ({ t with Colour := 1 } : S_api_Thing) = t := by rw [← h1]
    rw [this]; exact set_same (at_get ht)
theorem white_col (T : List S_api_Thing) : Col (T.map white) := fun t ht => by
  obtain ⟨u, _, rfl⟩ := List.mem_map.1 ht
  exact .inl rfl
def ff (p : S_api_Thing → Bool) : List S_api_Thing → Nat
  | [] => 0
  | t :: l => if p t = true then 0 else ff p l + 1
theorem ff_le (p : S_api_Thing → Bool) : ∀ l, ff p l ≤ l.length
  | [] => Nat.le_refl _
  | t :: l => by unfold ff; split <;> simp; exact ff_le p l
theorem ff_at (p : S_api_Thing → Bool) : ∀ l, ff p l < l.length → ∃ t, l[ff p l]? = some t ∧ p t = true
  | [], h => absurd h (Nat.lt_irrefl _)
  | t :: l, h => by
    unfold ff at h ⊢
    by_cases hp : p t = true
    · rw [if_pos hp]; exact ⟨t, rfl, hp⟩
    · rw [if_neg hp] at h ⊢
      obtain ⟨u, hu, hq⟩ := ff_at p l (by simpa using h)
      exact ⟨u, by simpa using hu, hq⟩
def found (p : S_api_Thing → Bool) (T : List S_api_Thing) : Int := if ff p T < T.length then (ff p T : Nat) else -1
theorem step_map {T X : List S_api_Thing} {k : Nat} (y : S_api_Thing) (hl : X.length = T.length) (hk : k < T.length) (hd : X.drop k = T.drop k) :
    at? X (k : Int) = some T[k] ∧ (X.set k y).length = T.length ∧ (X.set k y).drop (k + 1) = T.drop (k + 1) ∧ (X.set k y).take (k + 1) = X.take k ++ [y] := by
  have hkx : k < X.length := by omega
  have e := hd
  rw [List.drop_eq_getElem_cons hkx, List.drop_eq_getElem_cons hk] at e
  obtain ⟨e1, e2⟩ := List.cons.inj e
  refine ⟨by rw [at_lt hkx, e1], by simp [hl], ?_, ?_⟩
  · rw [List.drop_set, if_pos (by omega), e2]
  · rw [List.take_add_one, List.take_set, List.getElem?_set_self hkx]
    rw [show (X.take k).set k y = X.take k from List.set_eq_of_length_le (by rw [List.length_take]; omega)]; rfl
theorem map_end {T X : List S_api_Thing} {k : Nat} (f : S_api_Thing → S_api_Thing) (hl : X.length = T.length) (hk : T.length ≤ k) : X = X.take k ++ (T.drop k).map f := by
  rw [List.drop_of_length_le hk, List.take_of_length_le (by omega)]; simp
theorem map_step {T X : List S_api_Thing} {k : Nat} (f : S_api_Thing → S_api_Thing) (hk : k < T.length) : (X.take k ++ [f T[k]]) ++ (T.drop (k + 1)).map f = X.take k ++ (T.drop k).map f := by
  rw [List.drop_eq_getElem_cons hk, List.map_cons, List.append_assoc]; rfl
def shd (h : S_api_Heap) (x : Int) : S_api_Heap := ⟨bif h.Busy then grey h.Things x else h.Things, h.Roots, h.Busy⟩
def isGrey (t : S_api_Thing) : Bool := t.Colour == 1
def isFree (t : S_api_Thing) : Bool := t.Free
def markS (h : S_api_Heap) : S_api_Heap := bif !h.Busy then ⟨greys (h.Things.map white) h.Roots, h.Roots, true⟩ else match h.Things[ff isGrey h.Things]? with
  | some t => ⟨greys (h.Things.set (ff isGrey h.Things) { t with Colour := 2 }) t.Kids, h.Roots, true⟩
  | none => ⟨h.Things.map swept, h.Roots, false⟩
def isL (c : List Bool) (x : Int) : Bool := match at? c x with | some b => b | none => false
def zT : S_api_Thing := ⟨[], 0, false⟩
def noH : S_api_Heap := ⟨[], [], false⟩
def wo (l : List Int) (x : Int) : List Int := l.take x.toNat ++ l.drop (x.toNat + 1)
def freshT (T : List S_api_Thing) : List S_api_Thing := (if ff isFree T = T.length then T ++ [zT] else T).set (ff isFree T) zT
def spec (h : S_api_Heap) (c : List Bool) (a : S_api_Act) : S_api_Heap × Int :=
  if a.Kind = 1 then (markS h, 0)
  else if a.Kind = 2 then (if ff isFree h.Things = 40 then (noH, 12) else if h.Roots.length ≥ 64 then (noH, 2) else (shd ⟨freshT h.Things, h.Roots ++ [((ff isFree h.Things : Nat) : Int)], h.Busy⟩ ((ff isFree h.Things : Nat) : Int), 0))
  else if a.Kind = 3 then (if isL c a.From = false ∨ isL c a.To = false then (noH, 9) else match at? h.Things a.From with
    | some u => if u.Kids.length ≥ 64 then (noH, 2) else (shd ⟨h.Things.set a.From.toNat { u with Kids := u.Kids ++ [a.To] }, h.Roots, h.Busy⟩ a.To, 0)
    | none => (noH, 9))
  else if a.Kind = 4 then (if isL c a.From = false ∨ a.To < 0 then (noH, 9) else match at? h.Things a.From with
    | some u => if a.To ≥ (u.Kids.length : Int) then (noH, 9) else (⟨h.Things.set a.From.toNat { u with Kids := wo u.Kids a.To }, h.Roots, h.Busy⟩, 0)
    | none => (noH, 9))
  else if a.Kind = 5 then (if isL c a.To = false then (noH, 9) else if h.Roots.length ≥ 64 then (noH, 2) else (shd ⟨h.Things, h.Roots ++ [a.To], h.Busy⟩ a.To, 0))
  else if a.Kind = 6 then (if a.To < 0 ∨ a.To ≥ (h.Roots.length : Int) then (noH, 9) else (⟨h.Things, wo h.Roots a.To, h.Busy⟩, 0))
  else (noH, 5)
theorem isL_in {c : List Bool} {x : Int} (h : isL c x = true) : 0 ≤ x ∧ x < (c.length : Int) := by
  unfold isL at h
  refine ⟨?_, ?_⟩
  · rcases Int.lt_or_le x 0 with h1 | h1
    · rw [at_neg h1] at h; cases h
    · exact h1
  · rcases Int.lt_or_le x c.length with h1 | h1
    · exact h1
    · rw [at_ge h1] at h; cases h
theorem at_in {α : Type} {xs : List α} {i : Int} (h0 : 0 ≤ i) (h1 : i < (xs.length : Int)) : ∃ x, at? xs i = some x := ⟨_, at_int h0 (by omega)⟩
structure Small (h : S_api_Heap) : Prop where
  things : h.Things.length ≤ 41
  roots : h.Roots.length ≤ 65
  kids : ∀ t ∈ h.Things, t.Kids.length ≤ 65
def Kd (T : List S_api_Thing) : Prop := ∀ t ∈ T, t.Kids.length ≤ 65
theorem Kd.set {T : List S_api_Thing} (h : Kd T) {k : Nat} {t : S_api_Thing} (ht : t.Kids.length ≤ 65) : Kd (T.set k t) := fun u hu => by
  rcases List.mem_or_eq_of_mem_set hu with hu | rfl
  · exact h u hu
  · exact ht
theorem Kd.grey {T : List S_api_Thing} (h : Kd T) (x : Int) : Kd (grey T x) := by
  unfold Swp.grey
  cases ht : at? T x with
  | none => exact h
  | some t =>
    dsimp only
    split
    · exact h.set (h t (List.mem_of_getElem? (at_get ht)))
    · exact h
theorem Kd.greys : ∀ (l : List Int) {T : List S_api_Thing}, Kd T → Kd (greys T l)
  | [], _, h => h
  | x :: l, _, h => Kd.greys l (h.grey x)
theorem small_shd {h : S_api_Heap} (s : Small h) (x : Int) : Small (shd h x) := by
  unfold shd
  cases h.Busy with
  | true => exact ⟨by show (grey h.Things x).length ≤ 41; rw [grey_len]; exact s.things, s.roots, Kd.grey s.kids x⟩
  | false => exact ⟨s.things, s.roots, s.kids⟩
theorem small_no : Small noH := ⟨by decide, by decide, fun t ht => absurd ht (by simp [noH])⟩
theorem wo_len (l : List Int) (x : Int) : (wo l x).length ≤ l.length := by unfold wo; rw [List.length_append, List.length_take, List.length_drop]; omega
theorem small_mark {h : S_api_Heap} (r : Right h) : Small (markS h) := by
  have h1 := r.things
  have h2 := r.roots
  have h3 : Kd h.Things := fun t ht => by have := r.kids t ht; omega
  unfold markS
  cases h.Busy with
  | false =>
    refine ⟨by show (greys _ _).length ≤ 41; rw [greys_len, List.length_map]; omega, by show h.Roots.length ≤ 65; omega, Kd.greys _ fun t ht => ?_⟩
    obtain ⟨u, hu, rfl⟩ := List.mem_map.1 ht
    exact h3 u hu
  | true =>
    rw [cond_ff (show (!true) = false from rfl)]
    cases ht : h.Things[ff isGrey h.Things]? with
    | some t => exact ⟨by show (greys _ _).length ≤ 41; rw [greys_len, List.length_set]; omega, by show h.Roots.length ≤ 65; omega, Kd.greys _ (h3.set (h3 t (List.mem_of_getElem? ht)))⟩
    | none =>
      refine ⟨by show (h.Things.map _).length ≤ 41; rw [List.length_map]; omega, by show h.Roots.length ≤ 65; omega, fun t ht => ?_⟩
      obtain ⟨u, hu, rfl⟩ := List.mem_map.1 ht
      unfold swept
      split
      · exact Nat.zero_le _
      · exact h3 u hu
theorem small_spec {h : S_api_Heap} (r : Right h) (c : List Bool) (a : S_api_Act) : Small (spec h c a).1 := by
  have h1 := r.things
  have h2 := r.roots
  have h3 : Kd h.Things := fun t ht => by have := r.kids t ht; omega
  have h4 := ff_le isFree h.Things
  unfold spec
  split
  · exact small_mark r
  split
  · split
    · exact small_no
    split
    · exact small_no
    · refine small_shd ⟨?_, ?_, ?_⟩ _
      · show (freshT h.Things).length ≤ 41
        unfold freshT; rw [List.length_set]; split
        · rw [List.length_append]; show h.Things.length + 1 ≤ 41; omega
        · omega
      · show (h.Roots ++ [_]).length ≤ 65
        rw [List.length_append]; show h.Roots.length + 1 ≤ 65; omega
      · show Kd (freshT h.Things)
        unfold freshT
        refine Kd.set ?_ (Nat.zero_le _)
        split
        · intro t ht
          rcases List.mem_append.1 ht with ht | ht
          · exact h3 t ht
          · rw [List.mem_singleton.1 ht]; exact Nat.zero_le _
        · exact h3
  split
  · split
    · exact small_no
    cases hu : at? h.Things a.From with
    | none => exact small_no
    | some u =>
      dsimp only
      split
      · exact small_no
      · refine small_shd (h := ⟨h.Things.set a.From.toNat { u with Kids := u.Kids ++ [a.To] }, h.Roots, h.Busy⟩) ⟨by show (h.Things.set _ _).length ≤ 41; rw [List.length_set]; omega, by show h.Roots.length ≤ 65; omega, h3.set ?_⟩ _
        show (u.Kids ++ [a.To]).length ≤ 65
        rw [List.length_append]; show u.Kids.length + 1 ≤ 65; omega
  split
  · split
    · exact small_no
    cases hu : at? h.Things a.From with
    | none => exact small_no
    | some u =>
      dsimp only
      split
      · exact small_no
      · refine ⟨by show (h.Things.set _ _).length ≤ 41; rw [List.length_set]; omega, by show h.Roots.length ≤ 65; omega, h3.set ?_⟩
        show (wo u.Kids a.To).length ≤ 65
        have := wo_len u.Kids a.To
        have := h3 u (List.mem_of_getElem? (at_get hu))
        omega
  split
  · split
    · exact small_no
    split
    · exact small_no
    · exact small_shd (h := ⟨h.Things, h.Roots ++ [a.To], h.Busy⟩) ⟨by show h.Things.length ≤ 41; omega, by show (h.Roots ++ [_]).length ≤ 65; rw [List.length_append]; show h.Roots.length + 1 ≤ 65; omega, h3⟩ _
  split
  · split
    · exact small_no
    · exact ⟨by show h.Things.length ≤ 41; omega, by show (wo h.Roots a.To).length ≤ 65; have := wo_len h.Roots a.To; omega, h3⟩
  · exact small_no
theorem same_loop (T : List S_api_Thing) (hm : T.length ≤ 41) (hk : Kd T) (kk : Unit → Option Bool) : ∀ (fuel k : Nat), k ≤ T.length → T.length - k < fuel →
    f_slices_EqualFunc___api_Thing___api_Thing_api_Thing_api_Thing__F48_L6 T T kk 20000 fuel (k : Int) = kk ()
  | 0, k, _, hf => absurd hf (Nat.not_lt_zero _)
  | fuel + 1, k, hk1, hf => by
    rw [f_slices_EqualFunc___api_Thing___api_Thing_api_Thing_api_Thing__F48_L6]
    by_cases hlt : k < T.length
    · have h1 := hk T[k] (List.getElem_mem hlt)
      rw [cond_tt (dlt (by omega)), at_lt hlt, opt_of, opt_of, wsucc (by omega), same_loop T hm hk kk fuel (k + 1) (by omega) (by omega)]
      unfold f_lumref_SameHeap_1
      rw [lt_of, cond_tt (by simp), cond_tt (by simp), eqi _ 20000 (by omega) (by omega)]
      rfl
    · rw [cond_ff (dge (by omega))]
theorem same {h : S_api_Heap} (s : Small h) : f_lumref_SameHeap 20000 h h = some true := by
  have h1 := s.things
  have h2 := s.roots
  unfold f_lumref_SameHeap
  rw [lt_of, cond_tt (by simp), eqi _ 20000 (by omega) (by omega), opt_of, cond_tt rfl]
  unfold f_slices_EqualFunc___api_Thing___api_Thing_api_Thing_api_Thing__F48
  rw [cond_ff (by simp), lt_of]
  rw [show f_slices_EqualFunc___api_Thing___api_Thing_api_Thing_api_Thing__F48_L6 h.Things h.Things (fun _ => some true) 20000 20000 (0 : Int) = some true from same_loop h.Things h1 s.kids _ 20000 0 (by omega) (by omega)]
  rfl
end Go.Proofs.Ytiioclkiapbjnaa.Swp
namespace Go.Proofs.Ytiioclkiapbjnaa.Swp
open Go.RowKit Ytiioclkiapbjnaa.En Ytiioclkiapbjnaa
set_option linter.unusedVariables false
set_option linter.unusedSimpArgs false
def toD (h : S_api_Heap) : D_sweep_heap := ⟨h.Things, h.Roots, h.Busy⟩
theorem copy_loop {h : S_api_Heap} (r : Right h) (kk : List S_api_Thing → Option D_sweep_heap) : ∀ (fuel k : Nat) (X : List S_api_Thing), X.length = k → k ≤ h.Things.length → h.Things.length - k < fuel →
    f_sweep_copyOf_L10 h kk 20000 fuel X (k : Int) = kk (X ++ h.Things.drop k)
  | 0, k, X, _, _, hf => absurd hf (Nat.not_lt_zero _)
  | fuel + 1, k, X, hl, hk, hf => by
    have hm := r.things
    rw [f_sweep_copyOf_L10]
    by_cases hlt : k < h.Things.length
    · have h1 := r.kids h.Things[k] (List.getElem_mem hlt)
      rw [cond_tt (dlt (by omega)), at_lt hlt, opt_of, clI (by omega), opt_of, req_pos (by simp; omega), wsucc (by omega), copy_loop r kk fuel (k + 1) _ (by simp [hl]) (by omega) (by omega), List.drop_eq_getElem_cons hlt, List.append_assoc]; rfl
    · rw [cond_ff (dge (by omega)), List.drop_of_length_le (by omega), List.append_nil]
theorem copyS {h : S_api_Heap} (r : Right h) : f_sweep_copyOf 20000 h = some (toD h) := by
  have hm := r.things
  have hr := r.roots
  unfold f_sweep_copyOf
  rw [clI (by omega), opt_of, lt_of]
  exact copy_loop r _ 20000 0 [] rfl (by omega) (by omega)
theorem shadeD (h : S_api_Heap) (x : Int) (h0 : 0 ≤ x) (h1 : x < (h.Things.length : Int)) (fu : Nat) : f___sweep_heap__shade fu (toD h) x = some (toD (shd h x)) := by
  obtain ⟨T, R, B⟩ := h
  obtain ⟨t, ht⟩ := at_in h0 h1
  unfold f___sweep_heap__shade toD shd
  dsimp only at ht ⊢
  rw [ht, opt_of]
  cases B with
  | false => rfl
  | true =>
    rw [cond_tt rfl, cond_tt rfl, grey_some ht]
    by_cases hc : t.Colour = 0
    · rw [cond_tt (by simp [hc]), if_pos hc]
    · rw [cond_ff (by simpa using hc), if_neg hc]
theorem rootD (h : S_api_Heap) (x : Int) (hr : h.Roots.length ≤ 64) (h0 : 0 ≤ x) (h1 : x < (h.Things.length : Int)) (fu : Nat) : f___sweep_heap__root fu (toD h) x = some (if h.Roots.length ≥ 64 then (2, toD h) else (0, toD (shd ⟨h.Things, h.Roots ++ [x], h.Busy⟩ x))) := by
  unfold f___sweep_heap__root
  show (bif decide ((h.Roots.length : Int) ≥ 64) then _ else _) = _
  by_cases hR : h.Roots.length ≥ 64
  · rw [cond_tt (decide_eq_true (by omega)), if_pos hR]
  · rw [cond_ff (decide_eq_false (by omega)), if_neg hR]
    show (req ((h.Roots.length + [x].length) * 8 ≤ 140737488355328 ∧ h.Roots.length + [x].length ≤ 9223372036854775807) (opt (f___sweep_heap__shade fu (toD ⟨h.Things, h.Roots ++ [x], h.Busy⟩) x) _)) = _
    rw [req_pos (by simp; omega), shadeD ⟨h.Things, h.Roots ++ [x], h.Busy⟩ x h0 h1, opt_of]
theorem liveD {h : S_api_Heap} {c : List Bool} (hcl : f_sweep_live 20000 h = some c) (hl : c.length = h.Things.length) (x : Int) : f___sweep_heap__isLive 20000 (toD h) x = some (isL c x, toD h) := by
  unfold f___sweep_heap__isLive isL
  rw [lt_of]
  show (bif decide (x ≥ 0) then (bif decide (x < (h.Things.length : Int)) then (opt (f_sweep_live 20000 h) _) else _) else _) = _
  by_cases h0 : x ≥ 0
  · rw [cond_tt (decide_eq_true h0)]
    by_cases h1 : x < (h.Things.length : Int)
    · obtain ⟨b, hb⟩ := at_in (xs := c) h0 (by omega)
      rw [cond_tt (decide_eq_true h1), hcl, opt_of, hb, opt_of]
    · rw [cond_ff (decide_eq_false h1), at_ge (by omega)]
  · rw [cond_ff (decide_eq_false h0), at_neg (by omega)]
theorem white_code (d : D_sweep_heap) (hm : d.Things.length ≤ 40) (kk : List S_api_Thing → Option D_sweep_heap) : ∀ (fuel k : Nat) (X : List S_api_Thing), X.length = d.Things.length → X.drop k = d.Things.drop k → k ≤ d.Things.length → d.Things.length - k < fuel →
    f___sweep_heap__mark_L73 d kk fuel X (k : Int) = kk (X.take k ++ (d.Things.drop k).map white)
  | 0, k, X, _, _, _, hf => absurd hf (Nat.not_lt_zero _)
  | fuel + 1, k, X, hl, hd, hk, hf => by
    rw [f___sweep_heap__mark_L73]
    by_cases hlt : k < d.Things.length
    · obtain ⟨h1, h2, h3, h4⟩ := step_map (white d.Things[k]) hl hlt hd
      rw [cond_tt (dlt (by omega)), h1, opt_of, wsucc (by omega), Int.toNat_natCast]
      refine (white_code d hm kk fuel (k + 1) (X.set k (white d.Things[k])) h2 h3 (by omega) (by omega)).trans ?_
      rw [h4, map_step white hlt]
    · rw [cond_ff (dge (by omega)), ← map_end white hl (by omega)]
theorem sweep_code (d : D_sweep_heap) (hm : d.Things.length ≤ 40) (kk : List S_api_Thing → Option D_sweep_heap) : ∀ (fuel k : Nat) (X : List S_api_Thing), X.length = d.Things.length → X.drop k = d.Things.drop k → k ≤ d.Things.length → d.Things.length - k < fuel →
    f___sweep_heap__mark_L11 d kk fuel X (k : Int) = kk (X.take k ++ (d.Things.drop k).map swept)
  | 0, k, X, _, _, _, hf => absurd hf (Nat.not_lt_zero _)
  | fuel + 1, k, X, hl, hd, hk, hf => by
    rw [f___sweep_heap__mark_L11]
    by_cases hlt : k < d.Things.length
    · obtain ⟨h1, h2, h3, h4⟩ := step_map (swept d.Things[k]) hl hlt hd
      rw [cond_tt (dlt (by omega)), lt_of, h1, opt_of, wsucc (by omega), Int.toNat_natCast]
      have ih := sweep_code d hm kk fuel (k + 1) (X.set k (swept d.Things[k])) h2 h3 (by omega) (by omega)
      rw [h4, map_step swept hlt] at ih
      rw [← ih]
      by_cases hc : d.Things[k].Colour = 0
      · rw [cond_tt (by simp [hc])]
        unfold swept; rw [if_pos hc]
      · rw [cond_ff (by simpa using hc)]
        unfold swept; rw [if_neg hc]
    · rw [cond_ff (dge (by omega)), ← map_end swept hl (by omega)]
theorem roots_code (d : D_sweep_heap) (hr : d.Roots.length ≤ 64) (kk : List S_api_Thing → Option D_sweep_heap) : ∀ (fuel k : Nat) (X : List S_api_Thing), Col X → (∀ x ∈ d.Roots, 0 ≤ x ∧ x < (X.length : Int)) → k ≤ d.Roots.length → d.Roots.length - k < fuel →
    f___sweep_heap__mark_L59 d kk fuel X (k : Int) = kk (greys X (d.Roots.drop k))
  | 0, k, X, _, _, _, hf => absurd hf (Nat.not_lt_zero _)
  | fuel + 1, k, X, hcol, hx, hk, hf => by
    rw [f___sweep_heap__mark_L59]
    by_cases hlt : k < d.Roots.length
    · obtain ⟨h0, h1⟩ := hx d.Roots[k] (List.getElem_mem hlt)
      obtain ⟨t, ht⟩ := at_in h0 h1
      rw [cond_tt (dlt (by omega)), at_lt hlt, opt_of, ht, opt_of, List.drop_eq_getElem_cons hlt, wsucc (by omega), grey_set hcol ht]
      exact roots_code d hr kk fuel (k + 1) (grey X d.Roots[k]) (grey_col hcol _) (by rw [grey_len]; exact hx) (by omega) (by omega)
    · rw [cond_ff (dge (by omega)), List.drop_of_length_le (by omega)]; rfl
theorem kids_code (r4 : Int) (u : S_api_Thing) (R : List Int) (hu : u.Kids.length ≤ 64) (kk : List S_api_Thing → List Int → Bool → Option D_sweep_heap) : ∀ (fuel k : Nat) (X : List S_api_Thing), (∀ x ∈ u.Kids, 0 ≤ x ∧ x < (X.length : Int)) → k ≤ u.Kids.length → u.Kids.length - k < fuel →
    f___sweep_heap__mark_L43 r4 kk u 20000 fuel X R true (k : Int) = kk ((greys X (u.Kids.drop k)).modify r4.toNat (fun x => { x with Kids := u.Kids })) R true
  | 0, k, X, _, _, hf => absurd hf (Nat.not_lt_zero _)
  | fuel + 1, k, X, hx, hk, hf => by
    rw [f___sweep_heap__mark_L43]
    by_cases hlt : k < u.Kids.length
    · obtain ⟨h0, h1⟩ := hx u.Kids[k] (List.getElem_mem hlt)
      have hs := shadeD ⟨X, R, true⟩ u.Kids[k] h0 h1 20000
      rw [show toD ⟨X, R, true⟩ = D_sweep_heap.mk X R true from rfl] at hs
      rw [cond_tt (dlt (by omega)), at_lt hlt, opt_of, hs, opt_of, List.drop_eq_getElem_cons hlt, wsucc (by omega)]
      exact kids_code r4 u R hu kk fuel (k + 1) (grey X u.Kids[k]) (by rw [grey_len]; exact hx) (by omega) (by omega)
    · rw [cond_ff (dge (by omega)), List.drop_of_length_le (by omega)]; rfl
theorem idx81 (T : List S_api_Thing) (hm : T.length ≤ 40) (fu : Nat) : ∀ (fuel k : Nat), k ≤ T.length → T.length - k < fuel →
    f_slices_IndexFunc___api_Thing_api_Thing__F81_L5 T (fun _ => some (-1)) fu fuel (k : Int) = some (if k + ff isGrey (T.drop k) < T.length then ((k + ff isGrey (T.drop k) : Nat) : Int) else -1)
  | 0, k, _, hf => absurd hf (Nat.not_lt_zero _)
  | fuel + 1, k, hk, hf => by
    rw [f_slices_IndexFunc___api_Thing_api_Thing__F81_L5]
    by_cases hlt : k < T.length
    · rw [cond_tt (dlt (by omega)), at_lt hlt, opt_of, List.drop_eq_getElem_cons hlt, wsucc (by omega), idx81 T hm fu fuel (k + 1) (by omega) (by omega)]
      unfold f___sweep_heap__mark_1
      rw [opt_of]
      show (bif isGrey T[k] then _ else _) = _
      cases hc : isGrey T[k] with
      | true =>
        have hi : ff isGrey (T[k] :: T.drop (k + 1)) = 0 := by unfold ff; rw [if_pos hc]
        rw [cond_tt rfl, hi, if_pos (by omega)]; rfl
      | false =>
        have hi : ff isGrey (T[k] :: T.drop (k + 1)) = ff isGrey (T.drop (k + 1)) + 1 := by rw [ff, if_neg (by rw [hc]; decide)]
        rw [cond_ff rfl, hi, show k + 1 + ff isGrey (T.drop (k + 1)) = k + (ff isGrey (T.drop (k + 1)) + 1) by omega]
    · rw [cond_ff (dge (by omega)), List.drop_of_length_le (by omega), if_neg (by omega)]
theorem idx82 (T : List S_api_Thing) (hm : T.length ≤ 40) (fu : Nat) : ∀ (fuel k : Nat), k ≤ T.length → T.length - k < fuel →
    f_slices_IndexFunc___api_Thing_api_Thing__F82_L5 T (fun _ => some (-1)) fu fuel (k : Int) = some (if k + ff isFree (T.drop k) < T.length then ((k + ff isFree (T.drop k) : Nat) : Int) else -1)
  | 0, k, _, hf => absurd hf (Nat.not_lt_zero _)
  | fuel + 1, k, hk, hf => by
    rw [f_slices_IndexFunc___api_Thing_api_Thing__F82_L5]
    by_cases hlt : k < T.length
    · rw [cond_tt (dlt (by omega)), at_lt hlt, opt_of, List.drop_eq_getElem_cons hlt, wsucc (by omega), idx82 T hm fu fuel (k + 1) (by omega) (by omega)]
      unfold f___sweep_heap__fresh_1
      rw [opt_of]
      show (bif isFree T[k] then _ else _) = _
      cases hc : isFree T[k] with
      | true =>
        have hi : ff isFree (T[k] :: T.drop (k + 1)) = 0 := by unfold ff; rw [if_pos hc]
        rw [cond_tt rfl, hi, if_pos (by omega)]; rfl
      | false =>
        have hi : ff isFree (T[k] :: T.drop (k + 1)) = ff isFree (T.drop (k + 1)) + 1 := by rw [ff, if_neg (by rw [hc]; decide)]
        rw [cond_ff rfl, hi, show k + 1 + ff isFree (T.drop (k + 1)) = k + (ff isFree (T.drop (k + 1)) + 1) by omega]
    · rw [cond_ff (dge (by omega)), List.drop_of_length_le (by omega), if_neg (by omega)]
theorem found81 (T : List S_api_Thing) (hm : T.length ≤ 40) : f_slices_IndexFunc___api_Thing_api_Thing__F81 20000 T = some (found isGrey T) := by
  unfold f_slices_IndexFunc___api_Thing_api_Thing__F81 found
  rw [lt_of]
  refine (idx81 T hm 20000 20000 0 (by omega) (by omega)).trans ?_
  rw [List.drop_zero, Nat.zero_add]
theorem found82 (T : List S_api_Thing) (hm : T.length ≤ 40) : f_slices_IndexFunc___api_Thing_api_Thing__F82 20000 T = some (found isFree T) := by
  unfold f_slices_IndexFunc___api_Thing_api_Thing__F82 found
  rw [lt_of]
  refine (idx82 T hm 20000 20000 0 (by omega) (by omega)).trans ?_
  rw [List.drop_zero, Nat.zero_add]
theorem markD {h : S_api_Heap} (r : Right h) : f___sweep_heap__mark 20000 (toD h) = some (toD (markS h)) := by
  have hm := r.things
  have hr := r.roots
  have hroot := r.root
  have hkids := r.kids
  have hkid := r.kid
  clear r
  obtain ⟨T, R, B⟩ := h
  dsimp only at hm hr hroot hkids hkid
  unfold f___sweep_heap__mark markS toD
  dsimp only
  rw [lt_of]
  cases B with
  | false =>
    rw [cond_tt (show (!false) = true from rfl), cond_tt (show (!false) = true from rfl), lt_of]
    refine (white_code ⟨T, R, false⟩ hm _ 20000 0 T rfl rfl (by omega) (by dsimp only; omega)).trans ?_
    rw [List.drop_zero, List.take_zero, List.nil_append, lt_of]
    refine (roots_code ⟨T, R, false⟩ hr _ 20000 0 (T.map white) (white_col T) (by rw [List.length_map]; exact hroot) (by omega) (by dsimp only; omega)).trans ?_
    rw [List.drop_zero]
  | true =>
    rw [cond_ff (show (!true) = false from rfl), cond_ff (show (!true) = false from rfl), found81 T hm, opt_of, lt_of]
    unfold found
    have hat := ff_at isGrey T
    generalize ff isGrey T = i at hat ⊢
    by_cases hi : i < T.length
    · obtain ⟨t, ht, _⟩ := hat hi
      have hmem := List.mem_of_getElem? ht
      have hk := hkids t hmem
      rw [if_pos hi, cond_tt (decide_eq_true (by omega)), at_of ht, opt_of, lt_of, Int.toNat_natCast, ht]
      dsimp only
      have hset : (T.set i { t with Colour := 2 })[i]? = some { t with Colour := 2 } := List.getElem?_set_self hi
      rw [at_of hset, opt_of]
      refine (kids_code (i : Int) { t with Colour := 2 } R hk _ 20000 0 (T.set i { t with Colour := 2 }) (by rw [List.length_set]; exact hkid t hmem) (by omega) (by dsimp only; omega)).trans ?_
      rw [List.drop_zero, Int.toNat_natCast]
      dsimp only
      obtain ⟨t', h1, h2⟩ := kids_at (greys_kids t.Kids (T.set i { t with Colour := 2 })) hset
      rw [modify_kids h1 h2]
    · rw [if_neg hi, cond_ff (decide_eq_false (by omega)), List.getElem?_eq_none (by omega), lt_of]
      refine (sweep_code ⟨T, R, true⟩ hm _ 20000 0 T rfl rfl (by omega) (by dsimp only; omega)).trans ?_
      rw [List.drop_zero, List.take_zero, List.nil_append]
def fin (q : Int × D_sweep_heap) : S_api_Heap × Int := if q.1 ≠ 0 then (noH, q.1) else (⟨q.2.Things, q.2.Roots, q.2.Busy⟩, 0)
end Go.Proofs.Ytiioclkiapbjnaa.Swp
namespace Go.Proofs.Ytiioclkiapbjnaa.Swp
open Go.RowKit Ytiioclkiapbjnaa.En Ytiioclkiapbjnaa
set_option linter.unusedVariables false
set_option linter.unusedSimpArgs false
theorem freshD {h : S_api_Heap} (r : Right h) : ∃ q, f___sweep_heap__fresh 20000 (toD h) = some q ∧ fin q = (if ff isFree h.Things = 40 then (noH, 12) else if h.Roots.length ≥ 64 then (noH, 2) else (shd ⟨freshT h.Things, h.Roots ++ [((ff isFree h.Things : Nat) : Int)], h.Busy⟩ ((ff isFree h.Things : Nat) : Int), 0)) := by
  have hm := r.things
  have hr := r.roots
  unfold f___sweep_heap__fresh
  show ∃ q, (opt (f_slices_IndexFunc___api_Thing_api_Thing__F82 20000 h.Things) _) = some q ∧ _
  rw [found82 _ hm, opt_of, lt_of]
  unfold found freshT
  have hi := ff_le isFree h.Things
  generalize ff isFree h.Things = i at hi ⊢
  by_cases hil : i < h.Things.length
  · have hlen : (h.Things.set i zT).length = h.Things.length := List.length_set
    rw [if_pos hil, if_neg (show ¬i = 40 by omega), if_neg (show ¬i = h.Things.length by omega), cond_ff (decide_eq_false (by omega))]
    dsimp only
    rw [cond_ff rfl]
    show ∃ q, (bif decide ((h.Roots.length : Int) ≥ 64) then some ((2 : Int), toD h) else _) = some q ∧ _
    by_cases hR : h.Roots.length ≥ 64
    · rw [cond_tt (decide_eq_true (by omega)), if_pos hR]
      exact ⟨_, rfl, rfl⟩
    · rw [cond_ff (decide_eq_false (by omega)), if_neg hR, lt_of, cond_ff (decide_eq_false (by omega))]
      show ∃ q, (opt (at? h.Things (i : Int)) fun _ => opt (f___sweep_heap__root 20000 (toD ⟨h.Things.set (i : Int).toNat zT, h.Roots, h.Busy⟩) (i : Int)) fun r14 => some (r14.1, r14.2)) = some q ∧ _
      rw [at_lt hil, opt_of, Int.toNat_natCast, rootD ⟨h.Things.set i zT, h.Roots, h.Busy⟩ i hr (by omega) (by show (i : Int) < ((h.Things.set i zT).length : Int); omega), opt_of, if_neg (show ¬h.Roots.length ≥ 64 from hR)]
      exact ⟨_, rfl, rfl⟩
  · have hie : i = h.Things.length := by omega
    rw [if_neg hil, cond_tt (by decide)]
    dsimp only
    show ∃ q, (bif decide ((h.Things.length : Int) ≥ 40) then some ((12 : Int), toD h) else (bif decide ((h.Roots.length : Int) ≥ 64) then some ((2 : Int), toD h) else _)) = some q ∧ _
    by_cases h40 : i = 40
    · rw [cond_tt (decide_eq_true (by omega)), if_pos h40]
      exact ⟨_, rfl, rfl⟩
    · rw [cond_ff (decide_eq_false (by omega)), if_neg h40]
      by_cases hR : h.Roots.length ≥ 64
      · rw [cond_tt (decide_eq_true (by omega)), if_pos hR]
        exact ⟨_, rfl, rfl⟩
      · have hlen : (h.Things ++ [zT]).length = h.Things.length + 1 := by simp
        rw [cond_ff (decide_eq_false (by omega)), if_neg hR, if_pos hie, lt_of, cond_tt (by decide)]
        rw [req_pos (by show (h.Things.length + 1) * 40 ≤ 140737488355328 ∧ h.Things.length + 1 ≤ 9223372036854775807; omega)]
        show ∃ q, (opt (at? (h.Things ++ [zT]) (h.Things.length : Int)) fun _ => opt (f___sweep_heap__root 20000 (toD ⟨(h.Things ++ [zT]).set (h.Things.length : Int).toNat zT, h.Roots, h.Busy⟩) (h.Things.length : Int)) fun r14 => some (r14.1, r14.2)) = some q ∧ _
        subst hie
        rw [at_of (show (h.Things ++ [zT])[h.Things.length]? = some zT from by simp), opt_of, Int.toNat_natCast, rootD ⟨(h.Things ++ [zT]).set h.Things.length zT, h.Roots, h.Busy⟩ _ hr (by omega) (by show (h.Things.length : Int) < (((h.Things ++ [zT]).set h.Things.length zT).length : Int); rw [List.length_set, hlen]; omega), opt_of, if_neg (show ¬h.Roots.length ≥ 64 from hR)]
        exact ⟨_, rfl, rfl⟩
theorem delS (l : List Int) (x : Int) (hm : l.length ≤ 65) (h0 : 0 ≤ x) (h1 : x < (l.length : Int)) (fu : Nat) : f_slices_Delete_I fu l x (IntKind.i64.wrap (x + 1)) = some (wo l x) := by
  obtain ⟨k, rfl⟩ : ∃ k : Nat, x = k := ⟨x.toNat, by omega⟩
  unfold f_slices_Delete_I wo
  rw [wsucc (by omega), req_pos (by omega), Int.toNat_natCast, Int.toNat_natCast]
theorem actD {h : S_api_Heap} (r : Right h) {c : List Bool} (hcl : f_sweep_live 20000 h = some c) (hl : c.length = h.Things.length) (a : S_api_Act) : ∃ q, f___sweep_heap__act 20000 (toD h) a = some q ∧ fin q = spec h c a := by
  have hm := r.things
  have hr := r.roots
  unfold f___sweep_heap__act spec
  rw [lt_of]
  by_cases k1 : a.Kind = 1
  · rw [cond_tt (by simp [k1]), if_pos k1, markD r, opt_of]
    exact ⟨_, rfl, rfl⟩
  rw [cond_ff (by simpa using k1), if_neg k1]
  by_cases k2 : a.Kind = 2
  · rw [cond_tt (by simp [k2]), if_pos k2]
    obtain ⟨q, hq, hf⟩ := freshD r
    rw [hq, opt_of]
    exact ⟨q, rfl, hf⟩
  rw [cond_ff (by simpa using k2), if_neg k2]
  by_cases k3 : a.Kind = 3
  · rw [cond_tt (by simp [k3]), if_pos k3, lt_of, liveD hcl hl, opt_of]
    dsimp only
    cases hF : isL c a.From with
    | false =>
      rw [cond_tt (show (!false) = true from rfl), if_pos (.inl rfl)]
      exact ⟨_, rfl, rfl⟩
    | true =>
      rw [cond_ff (show (!true) = false from rfl), liveD hcl hl, opt_of]
      dsimp only
      cases hT : isL c a.To with
      | false =>
        rw [if_pos (.inr rfl)]
        exact ⟨_, rfl, rfl⟩
      | true =>
        rw [if_neg (by simp), cond_ff (show (!true) = false from rfl)]
        obtain ⟨f0, f1⟩ := isL_in hF
        obtain ⟨t0, t1⟩ := isL_in hT
        obtain ⟨u, hu⟩ := at_in (xs := h.Things) f0 (by omega)
        have hk := r.kids u (List.mem_of_getElem? (at_get hu))
        show ∃ q, (opt (at? h.Things a.From) _) = some q ∧ _
        rw [hu, opt_of]
        dsimp only
        by_cases h64 : u.Kids.length ≥ 64
        · rw [cond_tt (decide_eq_true (by omega)), if_pos h64]
          exact ⟨_, rfl, rfl⟩
        · rw [cond_ff (decide_eq_false (by omega)), if_neg h64, req_pos (by simp; omega)]
          show ∃ q, (opt (f___sweep_heap__shade 20000 (toD ⟨h.Things.set a.From.toNat { u with Kids := u.Kids ++ [a.To] }, h.Roots, h.Busy⟩) a.To) _) = some q ∧ _
          rw [shadeD _ _ t0 (by show a.To < ((h.Things.set _ _).length : Int); rw [List.length_set]; omega), opt_of]
          exact ⟨_, rfl, rfl⟩
  rw [cond_ff (by simpa using k3), if_neg k3]
  by_cases k4 : a.Kind = 4
  · rw [cond_tt (by simp [k4]), if_pos k4, lt_of, liveD hcl hl, opt_of]
    dsimp only
    cases hF : isL c a.From with
    | false =>
      rw [cond_tt (show (!false) = true from rfl), if_pos (.inl rfl)]
      exact ⟨_, rfl, rfl⟩
    | true =>
      rw [cond_ff (show (!true) = false from rfl)]
      obtain ⟨f0, f1⟩ := isL_in hF
      obtain ⟨u, hu⟩ := at_in (xs := h.Things) f0 (by omega)
      have hk := r.kids u (List.mem_of_getElem? (at_get hu))
      by_cases h0 : a.To < 0
      · rw [cond_tt (decide_eq_true h0), if_pos (.inr h0)]
        exact ⟨_, rfl, rfl⟩
      · rw [cond_ff (decide_eq_false h0), if_neg (by simp; omega)]
        show ∃ q, (opt (at? h.Things a.From) _) = some q ∧ _
        rw [hu, opt_of]
        dsimp only
        by_cases h1 : a.To ≥ (u.Kids.length : Int)
        · rw [decide_eq_true h1, if_pos h1]
          exact ⟨_, rfl, rfl⟩
        · rw [decide_eq_false h1, if_neg h1, cond_ff rfl]
          show ∃ q, (opt (at? h.Things a.From) _) = some q ∧ _
          rw [hu, opt_of, delS _ _ (by omega) (by omega) (by omega), opt_of]
          exact ⟨_, rfl, rfl⟩
  rw [cond_ff (by simpa using k4), if_neg k4]
  by_cases k5 : a.Kind = 5
  · rw [cond_tt (by simp [k5]), if_pos k5, liveD hcl hl, opt_of]
    dsimp only
    cases hT : isL c a.To with
    | false =>
      rw [cond_tt (show (!false) = true from rfl), if_pos rfl]
      exact ⟨_, rfl, rfl⟩
    | true =>
      obtain ⟨t0, t1⟩ := isL_in hT
      rw [cond_ff (show (!true) = false from rfl), if_neg (by decide), rootD h a.To hr t0 (by omega), opt_of]
      by_cases hR : h.Roots.length ≥ 64
      · rw [if_pos hR, if_pos hR]
        exact ⟨_, rfl, rfl⟩
      · rw [if_neg hR, if_neg hR]
        exact ⟨_, rfl, rfl⟩
  rw [cond_ff (by simpa using k5), if_neg k5]
  by_cases k6 : a.Kind = 6
  · rw [cond_tt (by simp [k6]), if_pos k6, lt_of]
    by_cases h0 : a.To < 0
    · rw [cond_tt (decide_eq_true h0), if_pos (.inl h0)]
      exact ⟨_, rfl, rfl⟩
    · rw [cond_ff (decide_eq_false h0)]
      show ∃ q, (bif decide (a.To ≥ (h.Roots.length : Int)) then some ((9 : Int), toD h) else (opt (f_slices_Delete_I 20000 h.Roots a.To (IntKind.i64.wrap (a.To + 1))) _)) = some q ∧ _
      by_cases h1 : a.To ≥ (h.Roots.length : Int)
      · rw [cond_tt (decide_eq_true h1), if_pos (.inr h1)]
        exact ⟨_, rfl, rfl⟩
      · rw [cond_ff (decide_eq_false h1), if_neg (by omega), delS _ _ (by omega) (by omega) (by omega), opt_of]
        exact ⟨_, rfl, rfl⟩
  rw [cond_ff (by simpa using k6), if_neg k6]
  exact ⟨_, rfl, rfl⟩
theorem do_spec {h : S_api_Heap} (r : Right h) (hc : chk h = 0) {c : List Bool} (hcl : f_sweep_live 20000 h = some c) (hl : c.length = h.Things.length) (a : S_api_Act) : f_sweep_Do 20000 h a = some (spec h c a) := by
  obtain ⟨q, hq, hf⟩ := actD r hcl hl a
  unfold f_sweep_Do
  rw [code_check h 20000 (by omega), opt_of, cond_ff (by simp [hc]), copyS r, opt_of, hq, opt_of, ← hf]
  unfold fin
  by_cases he : q.1 = 0
  · rw [cond_ff (by simp [he]), if_neg (fun h' => h' he)]
  · rw [cond_tt (by simpa using he), if_pos he]; rfl
end Go.Proofs.Ytiioclkiapbjnaa.Swp
namespace Go.Proofs.Ytiioclkiapbjnaa.Swp
open Go.RowKit Ytiioclkiapbjnaa.En Ytiioclkiapbjnaa
set_option linter.unusedVariables false
set_option linter.unusedSimpArgs false
theorem greyed_loop (l : List Int) (kk : List S_api_Thing → Option (List S_api_Thing)) (hm : l.length ≤ 65) : ∀ (fuel k : Nat) (X : List S_api_Thing), (∀ x ∈ l, 0 ≤ x ∧ x < (X.length : Int)) → k ≤ l.length → l.length - k < fuel →
    f_lumref_greyed_L8 l kk fuel X (k : Int) = kk (greys X (l.drop k))
  | 0, k, X, _, _, hf => absurd hf (Nat.not_lt_zero _)
  | fuel + 1, k, X, hx, hk, hf => by
    rw [f_lumref_greyed_L8]
    by_cases hlt : k < l.length
    · obtain ⟨h0, h1⟩ := hx l[k] (List.getElem_mem hlt)
      obtain ⟨t, ht⟩ := at_in h0 h1
      rw [cond_tt (dlt (by omega)), lt_of, at_lt hlt, opt_of, ht, opt_of, opt_of, List.drop_eq_getElem_cons hlt, wsucc (by omega)]
      show _ = kk (greys (grey X l[k]) (l.drop (k + 1)))
      rw [← greyed_loop l kk hm fuel (k + 1) (grey X l[k]) (by rw [grey_len]; exact hx) (by omega) (by omega), grey_some ht]
      by_cases hc : t.Colour = 0
      · rw [cond_tt (by simp [hc]), if_pos hc]
      · rw [cond_ff (by simpa using hc), if_neg hc]
    · rw [cond_ff (dge (by omega)), List.drop_of_length_le (by omega)]; rfl
theorem greyed (X : List S_api_Thing) (l : List Int) (hX : X.length ≤ 41) (hm : l.length ≤ 65) (hx : ∀ x ∈ l, 0 ≤ x ∧ x < (X.length : Int)) : f_lumref_greyed 20000 X l = some (greys X l) := by
  unfold f_lumref_greyed
  rw [clT (by omega), opt_of, lt_of]
  exact greyed_loop l _ hm 20000 0 X hx (by omega) (by omega)
theorem shaded (h : S_api_Heap) (x : Int) (hT : h.Things.length ≤ 41) (h0 : 0 ≤ x) (h1 : x < (h.Things.length : Int)) : f_lumref_shaded 20000 h x = some (shd h x) := by
  unfold f_lumref_shaded shd
  cases hb : h.Busy with
  | true =>
    rw [cond_tt rfl, greyed h.Things [x] hT (by simp) (fun y hy => by rw [List.mem_singleton.1 hy]; exact ⟨h0, h1⟩), opt_of]; rfl
  | false =>
    rw [cond_ff rfl]
    obtain ⟨T, R, B⟩ := h
    simp only at hb
    subst hb; rfl
theorem white_ref (T : List S_api_Thing) (hm : T.length ≤ 40) (kk : List S_api_Thing → Option S_api_Heap) : ∀ (fuel k : Nat) (X : List S_api_Thing), X.length = T.length → X.drop k = T.drop k → k ≤ T.length → T.length - k < fuel →
    f_lumref_marked_L64 T kk fuel X (k : Int) = kk (X.take k ++ (T.drop k).map white)
  | 0, k, X, _, _, _, hf => absurd hf (Nat.not_lt_zero _)
  | fuel + 1, k, X, hl, hd, hk, hf => by
    rw [f_lumref_marked_L64]
    by_cases hlt : k < T.length
    · obtain ⟨h1, h2, h3, h4⟩ := step_map (white T[k]) hl hlt hd
      rw [cond_tt (dlt (by omega)), h1, opt_of, wsucc (by omega), Int.toNat_natCast]
      refine (white_ref T hm kk fuel (k + 1) (X.set k (white T[k])) h2 h3 (by omega) (by omega)).trans ?_
      rw [h4, map_step white hlt]
    · rw [cond_ff (dge (by omega)), ← map_end white hl (by omega)]
theorem sweep_ref (h : S_api_Heap) (hm : h.Things.length ≤ 40) (kk : List S_api_Thing → Option S_api_Heap) : ∀ (fuel k : Nat) (X : List S_api_Thing), X.length = h.Things.length → X.drop k = h.Things.drop k → k ≤ h.Things.length → h.Things.length - k < fuel →
    f_lumref_marked_L15 h kk fuel X (k : Int) = kk (X.take k ++ (h.Things.drop k).map swept)
  | 0, k, X, _, _, _, hf => absurd hf (Nat.not_lt_zero _)
  | fuel + 1, k, X, hl, hd, hk, hf => by
    rw [f_lumref_marked_L15]
    by_cases hlt : k < h.Things.length
    · obtain ⟨h1, h2, h3, h4⟩ := step_map (swept h.Things[k]) hl hlt hd
      rw [cond_tt (dlt (by omega)), at_lt hlt, opt_of, lt_of, wsucc (by omega), Int.toNat_natCast]
      have ih := sweep_ref h hm kk fuel (k + 1) (X.set k (swept h.Things[k])) h2 h3 (by omega) (by omega)
      rw [h4, map_step swept hlt] at ih
      rw [← ih]
      by_cases hc : h.Things[k].Colour = 0
      · rw [cond_tt (by simp [hc]), h1, opt_of]
        dsimp only
        rw [at_of (show (X.set k (⟨[], 0, true⟩ : S_api_Thing))[k]? = some ⟨[], 0, true⟩ from List.getElem?_set_self (by omega)), opt_of, List.set_set]
        unfold swept; rw [if_pos hc]
      · rw [cond_ff (by simpa using hc)]
        dsimp only
        rw [h1, opt_of]
        unfold swept; rw [if_neg hc]
    · rw [cond_ff (dge (by omega)), ← map_end swept hl (by omega)]
theorem grey_ref (h : S_api_Heap) (r : Right h) (kk : Unit → Option S_api_Heap) : ∀ (fuel k : Nat), k ≤ h.Things.length → h.Things.length - k < fuel →
    f_lumref_marked_L38 h h.Things kk 20000 fuel (k : Int) = match h.Things[k + ff isGrey (h.Things.drop k)]? with
      | some t => some ⟨greys (h.Things.set (k + ff isGrey (h.Things.drop k)) { t with Colour := 2 }) t.Kids, h.Roots, true⟩
      | none => kk ()
  | 0, k, _, hf => absurd hf (Nat.not_lt_zero _)
  | fuel + 1, k, hk, hf => by
    have hm := r.things
    rw [f_lumref_marked_L38]
    by_cases hlt : k < h.Things.length
    · have hmem : h.Things[k] ∈ h.Things := List.getElem_mem hlt
      rw [cond_tt (dlt (by omega)), at_lt hlt, opt_of, List.drop_eq_getElem_cons hlt, wsucc (by omega), grey_ref h r kk fuel (k + 1) (by omega) (by omega)]
      by_cases hc : h.Things[k].Colour = 1
      · have hi : ff isGrey (h.Things[k] :: h.Things.drop (k + 1)) = 0 := by unfold ff; rw [if_pos (by unfold isGrey; simp [hc])]
        have hk2 := r.kids _ hmem
        rw [cond_tt (by simp [hc]), opt_of, hi, Nat.add_zero, List.getElem?_eq_getElem hlt, Int.toNat_natCast,
          greyed (h.Things.set k { h.Things[k] with Colour := 2 }) h.Things[k].Kids (by rw [List.length_set]; omega) (by omega) (by rw [List.length_set]; exact r.kid _ hmem), opt_of]
      · have hi : ff isGrey (h.Things[k] :: h.Things.drop (k + 1)) = ff isGrey (h.Things.drop (k + 1)) + 1 := by rw [ff, if_neg (by unfold isGrey; simpa using hc)]
        rw [cond_ff (by simpa using hc), hi, show k + 1 + ff isGrey (h.Things.drop (k + 1)) = k + (ff isGrey (h.Things.drop (k + 1)) + 1) by omega]
    · rw [cond_ff (dge (by omega)), List.getElem?_eq_none (by omega)]
theorem marked {h : S_api_Heap} (r : Right h) : f_lumref_marked 20000 h = some (markS h) := by
  have hm := r.things
  have hr := r.roots
  unfold f_lumref_marked markS
  rw [clT (by omega), opt_of, lt_of]
  cases hb : h.Busy with
  | false =>
    rw [cond_tt (show (!false) = true from rfl), cond_tt (show (!false) = true from rfl), lt_of]
    refine (white_ref h.Things hm _ 20000 0 h.Things rfl rfl (by omega) (by omega)).trans ?_
    rw [List.drop_zero, List.take_zero, List.nil_append]
    rw [greyed (h.Things.map white) h.Roots (by rw [List.length_map]; omega) (by omega) (by rw [List.length_map]; exact r.root), opt_of]
  | true =>
    rw [cond_ff (show (!true) = false from rfl), cond_ff (show (!true) = false from rfl), lt_of]
    refine (grey_ref h r _ 20000 0 (by omega) (by omega)).trans ?_
    rw [List.drop_zero, Nat.zero_add]
    cases ht : h.Things[ff isGrey h.Things]? with
    | some t => rfl
    | none =>
      dsimp only
      rw [lt_of]
      refine (sweep_ref h hm _ 20000 0 h.Things rfl rfl (by omega) (by omega)).trans ?_
      rw [List.drop_zero, List.take_zero, List.nil_append]
theorem withS (l : List Int) (x : Int) (hm : l.length ≤ 65) : f_lumref_with 20000 l x = some (l ++ [x]) := by
  unfold f_lumref_with
  rw [clI (by omega), opt_of, req_pos (by simp; omega)]
theorem withoutS (l : List Int) (x : Int) (hm : l.length ≤ 65) (h0 : 0 ≤ x) (h1 : x < (l.length : Int)) : f_lumref_without 20000 l x = some (wo l x) := by
  obtain ⟨k, rfl⟩ : ∃ k : Nat, x = k := ⟨x.toNat, by omega⟩
  unfold f_lumref_without wo
  rw [wsucc (by omega), req_pos (by omega), req_pos (by omega), Int.toNat_natCast, Int.toNat_natCast, clI (by rw [List.length_take]; omega), opt_of, req_pos (by rw [List.length_take, List.length_drop]; omega)]
theorem isS (c : List Bool) (x : Int) (fu : Nat) : f_lumref_Sweep_1 fu x c = some (isL c x) := by
  unfold f_lumref_Sweep_1 isL
  rw [lt_of]
  by_cases h0 : x ≥ 0
  · rw [cond_tt (decide_eq_true h0)]
    by_cases h1 : x < (c.length : Int)
    · obtain ⟨b, hb⟩ := at_in h0 h1
      rw [cond_tt (decide_eq_true h1), hb, opt_of]
    · rw [cond_ff (decide_eq_false h1), at_ge (by omega)]
  · rw [cond_ff (decide_eq_false h0), at_neg (by omega)]
theorem kidS (h : S_api_Heap) (x : Int) (l : List Int) (u : S_api_Thing) (hm : h.Things.length ≤ 40) (hu : at? h.Things x = some u) : f_lumref_Sweep_2 20000 x l h = some ⟨h.Things.set x.toNat { u with Kids := l }, h.Roots, h.Busy⟩ := by
  unfold f_lumref_Sweep_2
  rw [clT (by omega), opt_of, hu, opt_of]
theorem free_ref (h : S_api_Heap) (hm : h.Things.length ≤ 40) (kk : Int → Option (S_api_Heap × Int)) : ∀ (fuel k : Nat), k ≤ h.Things.length → h.Things.length - k < fuel →
    f_lumref_Sweep_L58 h kk fuel (k : Int) = kk ((k + ff isFree (h.Things.drop k) : Nat) : Int)
  | 0, k, _, hf => absurd hf (Nat.not_lt_zero _)
  | fuel + 1, k, hk, hf => by
    rw [f_lumref_Sweep_L58]
    rw [lt_of]
    by_cases hlt : k < h.Things.length
    · rw [cond_tt (dlt (by omega)), at_lt hlt, opt_of, List.drop_eq_getElem_cons hlt, wsucc (by omega)]
      dsimp only
      rw [free_ref h hm kk fuel (k + 1) (by omega) (by omega)]
      cases hc : h.Things[k].Free with
      | true =>
        rw [cond_ff (show (!true) = false from rfl)]
        have hi : ff isFree (h.Things[k] :: h.Things.drop (k + 1)) = 0 := by unfold ff; rw [if_pos (show isFree h.Things[k] = true from hc)]
        rw [hi]; rfl
      | false =>
        rw [cond_tt (show (!false) = true from rfl)]
        have hi : ff isFree (h.Things[k] :: h.Things.drop (k + 1)) = ff isFree (h.Things.drop (k + 1)) + 1 := by rw [ff, if_neg (show ¬isFree h.Things[k] = true from by unfold isFree; rw [hc]; decide)]
        rw [hi, show k + 1 + ff isFree (h.Things.drop (k + 1)) = k + (ff isFree (h.Things.drop (k + 1)) + 1) by omega]
    · rw [cond_ff (dge (by omega)), List.drop_of_length_le (by omega)]; rfl
end Go.Proofs.Ytiioclkiapbjnaa.Swp
namespace Go.Proofs.Ytiioclkiapbjnaa.Swp
open Go.RowKit Ytiioclkiapbjnaa.En Ytiioclkiapbjnaa
set_option linter.unusedVariables false
set_option linter.unusedSimpArgs false
theorem free_z {h : S_api_Heap} (r : Right h) {t : S_api_Thing} (ht : t ∈ h.Things) (hf : t.Free = true) : ({ t with Free := false } : S_api_Thing) = zT := by
  obtain ⟨h1, h2⟩ := r.free t ht hf
  unfold zT; rw [h1, h2]
theorem sweep_spec {h : S_api_Heap} (r : Right h) (hc : chk h = 0) {c : List Bool} (hcl : f_lumref_Live 20000 h = some c) (hl : c.length = h.Things.length) (a : S_api_Act) : f_lumref_Sweep 20000 h a = some (spec h c a) := by
  have hm := r.things
  have hr := r.roots
  unfold f_lumref_Sweep
  rw [ref_check h 20000 (by omega), opt_of, cond_ff (by simp [hc]), hcl, opt_of, lt_of]
  unfold spec
  by_cases k1 : a.Kind = 1
  · rw [cond_tt (by simp [k1]), if_pos k1, marked r, opt_of]
  rw [cond_ff (by simpa using k1), if_neg k1]
  by_cases k2 : a.Kind = 2
  · rw [cond_tt (by simp [k2]), if_pos k2, lt_of]
    refine (free_ref h hm _ 20000 0 (by omega) (by omega)).trans ?_
    rw [List.drop_zero, Nat.zero_add]
    dsimp only
    have hi := ff_le isFree h.Things
    have hat := ff_at isFree h.Things
    unfold freshT
    generalize ff isFree h.Things = i at hi hat ⊢
    by_cases h40 : i = 40
    · rw [cond_tt (by rw [h40]; rfl), if_pos h40]; rfl
    rw [cond_ff (by simp; omega), if_neg h40]
    by_cases hR : h.Roots.length ≥ 64
    · rw [cond_tt (decide_eq_true (by omega)), if_pos hR]; rfl
    rw [cond_ff (decide_eq_false (by omega)), if_neg hR, clT (by omega), opt_of, withS _ _ (by omega), opt_of, lt_of]
    by_cases hil : i = h.Things.length
    · have hlen : (h.Things ++ [zT]).length = h.Things.length + 1 := by simp
      rw [cond_tt (by rw [hil]; simp), req_pos (by simp; omega), if_pos hil]
      dsimp only
      rw [at_of (show (h.Things ++ [(⟨[], 0, false⟩ : S_api_Thing)])[i]? = some zT from by rw [hil]; simp [zT]), opt_of, Int.toNat_natCast]
      rw [show (h.Things ++ [(⟨[], 0, false⟩ : S_api_Thing)]).set i ⟨zT.Kids, zT.Colour, false⟩ = (h.Things ++ [zT]).set i zT from rfl]
      rw [shaded _ _ (by show ((h.Things ++ [zT]).set i zT).length ≤ 41; rw [List.length_set, hlen]; omega) (by omega) (by show (i : Int) < (((h.Things ++ [zT]).set i zT).length : Int); rw [List.length_set, hlen]; omega), opt_of]
    · obtain ⟨t, ht, hf⟩ := hat (by omega)
      rw [cond_ff (by simp; omega), if_neg hil]
      dsimp only
      rw [at_of ht, opt_of, Int.toNat_natCast]
      rw [show (⟨t.Kids, t.Colour, false⟩ : S_api_Thing) = zT from free_z r (List.mem_of_getElem? ht) hf]
      rw [shaded _ _ (by show (h.Things.set i zT).length ≤ 41; rw [List.length_set]; omega) (by omega) (by show (i : Int) < ((h.Things.set i zT).length : Int); rw [List.length_set]; omega), opt_of]
  rw [cond_ff (by simpa using k2), if_neg k2]
  by_cases k3 : a.Kind = 3
  · rw [cond_tt (by simp [k3]), if_pos k3, lt_of, isS, opt_of]
    cases hF : isL c a.From with
    | false => rw [cond_tt (show (!false) = true from rfl), if_pos (.inl rfl)]; rfl
    | true =>
      rw [cond_ff (show (!true) = false from rfl), isS, opt_of]
      cases hT : isL c a.To with
      | false => rw [if_pos (.inr rfl)]; rfl
      | true =>
        rw [if_neg (by simp)]
        dsimp only
        obtain ⟨f0, f1⟩ := isL_in hF
        obtain ⟨t0, t1⟩ := isL_in hT
        obtain ⟨u, hu⟩ := at_in (xs := h.Things) f0 (by omega)
        have hk := r.kids u (List.mem_of_getElem? (at_get hu))
        rw [cond_ff (show (!true) = false from rfl), hu, opt_of]
        dsimp only
        by_cases h64 : u.Kids.length ≥ 64
        · rw [cond_tt (decide_eq_true (by omega)), if_pos h64]; rfl
        · rw [cond_ff (decide_eq_false (by omega)), if_neg h64, opt_of, withS _ _ (by omega), opt_of, kidS h _ _ u hm hu, opt_of,
            shaded _ _ (by show (h.Things.set _ _).length ≤ 41; rw [List.length_set]; omega) t0 (by show a.To < ((h.Things.set _ _).length : Int); rw [List.length_set]; omega), opt_of]
  rw [cond_ff (by simpa using k3), if_neg k3]
  by_cases k4 : a.Kind = 4
  · rw [cond_tt (by simp [k4]), if_pos k4, lt_of, isS, opt_of]
    cases hF : isL c a.From with
    | false => rw [cond_tt (show (!false) = true from rfl), if_pos (.inl rfl)]; rfl
    | true =>
      rw [cond_ff (show (!true) = false from rfl)]
      obtain ⟨f0, f1⟩ := isL_in hF
      obtain ⟨u, hu⟩ := at_in (xs := h.Things) f0 (by omega)
      have hk := r.kids u (List.mem_of_getElem? (at_get hu))
      by_cases h0 : a.To < 0
      · rw [cond_tt (decide_eq_true h0), if_pos (.inr h0)]; rfl
      · rw [cond_ff (decide_eq_false h0), if_neg (by simp; omega), hu, opt_of]
        dsimp only
        by_cases h1 : a.To ≥ (u.Kids.length : Int)
        · rw [cond_tt (decide_eq_true h1), if_pos h1]; rfl
        · rw [cond_ff (decide_eq_false h1), if_neg h1, opt_of, withoutS _ _ (by omega) (by omega) (by omega), opt_of, kidS h _ _ u hm hu, opt_of]
  rw [cond_ff (by simpa using k4), if_neg k4]
  by_cases k5 : a.Kind = 5
  · rw [cond_tt (by simp [k5]), if_pos k5, isS, opt_of]
    cases hT : isL c a.To with
    | false => rw [cond_tt (show (!false) = true from rfl), if_pos rfl]; rfl
    | true =>
      rw [cond_ff (show (!true) = false from rfl), if_neg (by decide)]
      obtain ⟨t0, t1⟩ := isL_in hT
      by_cases hR : h.Roots.length ≥ 64
      · rw [cond_tt (decide_eq_true (by omega)), if_pos hR]; rfl
      · rw [cond_ff (decide_eq_false (by omega)), if_neg hR, withS _ _ (by omega), opt_of, shaded _ _ (by show h.Things.length ≤ 41; omega) t0 (by show a.To < (h.Things.length : Int); omega), opt_of]
  rw [cond_ff (by simpa using k5), if_neg k5]
  by_cases k6 : a.Kind = 6
  · rw [cond_tt (by simp [k6]), if_pos k6, lt_of]
    by_cases h0 : a.To < 0
    · rw [cond_tt (decide_eq_true h0), if_pos (.inl h0)]; rfl
    · rw [cond_ff (decide_eq_false h0)]
      by_cases h1 : a.To ≥ (h.Roots.length : Int)
      · rw [decide_eq_true h1, if_pos (.inr h1)]; rfl
      · rw [decide_eq_false h1, if_neg (by omega)]
        dsimp only
        rw [cond_ff rfl, withoutS _ _ (by omega) (by omega) (by omega), opt_of]
  rw [cond_ff (by simpa using k6), if_neg k6]; rfl
end Go.Proofs.Ytiioclkiapbjnaa.Swp
namespace Go.Proofs.Ytiioclkiapbjnaa.PSweepSays
open Go.RowKit Ytiioclkiapbjnaa.En Ytiioclkiapbjnaa Ytiioclkiapbjnaa.Swp
set_option linter.unusedVariables false
set_option linter.unusedSimpArgs false
def fuel (h : S_api_Heap) (a : S_api_Act) : Nat := 20000
theorem says (h : S_api_Heap) (a : S_api_Act) (ok0 : okS_api_Heap h) (ok1 : okS_api_Act a) : f_lumlaw_SweepSays (fuel h a) h a = some true := by
  unfold f_lumlaw_SweepSays fuel
  rw [ref_check h 20000 (by omega), opt_of]
  by_cases hc : chk h = 0
  · have r := chk_zero hc
    obtain ⟨c, h1, h2, h3⟩ := live_both r
    have hl : f_sweep_Live 20000 h = some (c, 0) := by
      unfold f_sweep_Live
      rw [code_check h 20000 (by omega), opt_of, cond_ff (by simp [hc]), h1, opt_of]
    rw [hl, opt_of, do_spec r hc h1 h3 a, opt_of, sweep_spec r hc h2 h3 a, opt_of, cond_ff (by simp [hc]), lt_of, code_check h 20000 (by omega), opt_of, cond_tt (by simp [hc]), cond_tt (by simp), h2, opt_of, eqb c 20000 (by have := r.things; omega) (by omega), opt_of, cond_tt rfl, cond_tt (by simp)]
    have hs := same (small_spec r c a)
    rw [show (S_api_Heap.mk (spec h c a).1.Things (spec h c a).1.Roots (spec h c a).1.Busy) = (spec h c a).1 from rfl, hs, opt_of]
  · have hl : f_sweep_Live 20000 h = some ([], chk h) := by
      unfold f_sweep_Live
      rw [code_check h 20000 (by omega), opt_of, cond_tt (by simpa using hc)]
    have hd : f_sweep_Do 20000 h a = some (noH, chk h) := by
      unfold f_sweep_Do
      rw [code_check h 20000 (by omega), opt_of, cond_tt (by simpa using hc)]; rfl
    have hr : f_lumref_Sweep 20000 h a = some (noH, chk h) := by
      unfold f_lumref_Sweep
      rw [ref_check h 20000 (by omega), opt_of, cond_tt (by simpa using hc)]; rfl
    rw [hl, opt_of, hd, opt_of, hr, opt_of, cond_tt (by simpa using hc), lt_of, code_check h 20000 (by omega), opt_of, cond_tt (by simp), cond_tt (by simp), cond_tt (by simp), cond_tt (by simp)]
    rw [show (S_api_Heap.mk noH.Things noH.Roots noH.Busy) = noH from rfl, show (S_api_Heap.mk ([] : List S_api_Thing) ([] : List Int) false) = noH from rfl, same small_no, opt_of]
end Go.Proofs.Ytiioclkiapbjnaa.PSweepSays
