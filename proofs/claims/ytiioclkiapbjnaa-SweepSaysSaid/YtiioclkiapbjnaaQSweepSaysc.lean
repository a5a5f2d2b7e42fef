/- What SweepSays leans on, part 3. No condition. -/
import Derived.Test.YtiioclkiapbjnaaQSweepSaysb
import Derived.Test.YtiioclkiapbjnaaChecked
namespace Go.Proofs.Ytiioclkiapbjnaa
open Go.RowKit Ytiioclkiapbjnaa.En
set_option linter.unusedVariables false
set_option linter.unusedSimpArgs false
open Go.Value (int bool)
set_option maxRecDepth 100000 in
set_option maxHeartbeats 2000000 in
set_option maxHeartbeats 2000000 in
theorem f___sweep_heap__act_ok (fu : Nat) (bx0 : Nat) (v0_0 : Value) (us0_0 : List Value) (v0_1 : Value) (a0 : D_sweep_heap) (a1 : S_api_Act) {r : (Int × D_sweep_heap)} (h : f___sweep_heap__act fu a0 a1 = some r) : FnOk Try.prog 36 [(ptr bx0 0), (ag [(int .i64 a1.Kind), (int .i64 a1.From), (int .i64 a1.To)])] [] [(oBox bx0 77 [v0_0, v0_1, (bool a0.Busy)]), (oKids v0_0 71 tyhS_api_Thing 3 (tyInt .i64) (fun x : S_api_Thing => x.Kids) none us0_0 a0.Things), (oRow v0_1 3 (tyInt .i64) a0.Roots)] (fun (i : Value × List Value × Value) => { val := (int .i64 r.1), own := [(oBox bx0 77 [i.1, i.2.2, (bool r.2.Busy)]), (oKids i.1 71 tyhS_api_Thing 3 (tyInt .i64) (fun x : S_api_Thing => x.Kids) none i.2.1 r.2.Things), (oRow i.2.2 3 (tyInt .i64) r.2.Roots)] }) := by
 unfold f___sweep_heap__act at h
 refine fn_enter Try.func36 rfl Try.ntmps36 rfl (fun w0 Z0 => ?_)
 refine aw_sr ?_
 refine al_box (vs := [(iq a1.Kind), (iq a1.From), (iq a1.To)]) rfl (cv_rfl rfl) rfl (fun g1 => ?_)
 refine an_ ?_
 obtain ⟨kk3, hkk3, h⟩ := lt_some h
 refine aw_seq_join (ι := Value × (List S_api_Thing) × (List Value) × Value × (List Int) × Bool) (fun i => (memOf w0 Z0 [(oBox bx0 77 [v0_0, v0_1, (bool a0.Busy)]), (oKids v0_0 71 tyhS_api_Thing 3 tq (fun x : S_api_Thing => x.Kids) none us0_0 a0.Things), (oRow v0_1 3 tq a0.Roots)] [(oKids i.1 71 tyhS_api_Thing 3 tq (fun x : S_api_Thing => x.Kids) none i.2.2.1 i.2.1), (oRow i.2.2.2.1 3 tq i.2.2.2.2.1), (oBox bx0 77 [i.1, i.2.2.2.1, (bool i.2.2.2.2.2)])] [])) (fun i => (tab [(0, (pq bx0))])) (fun i => kk3 i.2.1 i.2.2.2.2.1 i.2.2.2.2.2 = some r) ?_ ?_
 rintro ⟨j2v0_0, j2x0_0, j2us0_0, j2v0_1, j2x0_1, j2b0_2⟩ h
 have h : kk3 j2x0_0 j2x0_1 j2b0_2 = some r := h
 rw [hkk3] at h
 dsimp only at h
 clear hkk3
 refine aw_show (m := (memOf w0 Z0 [(oBox bx0 77 [v0_0, v0_1, (bool a0.Busy)]), (oKids v0_0 71 tyhS_api_Thing 3 tq (fun x : S_api_Thing => x.Kids) none us0_0 a0.Things), (oRow v0_1 3 tq a0.Roots)] [(oKids j2v0_0 71 tyhS_api_Thing 3 tq (fun x : S_api_Thing => x.Kids) none j2us0_0 j2x0_0), (oRow j2v0_1 3 tq j2x0_1), (oBox bx0 77 [j2v0_0, j2v0_1, (bool j2b0_2)])] [])) (S := _) ?_
 refine aw_sr ?_
 refine an_ ?_
 refine aw_ret ?_
 cases h
 exact fn_ret (j2v0_0, j2us0_0, j2v0_1) [2, 0, 1] [] rfl rfl rfl rfl (res1 rfl rfl) rfl rfl rfl (by decide)
 clear hkk3
 refine aw_sr ?_
 refine al_val (ov_fieldA (p := 0) rfl Try.underlying40 rfl sz3 rfl rfl rfl) ?_
 refine al_val (ov_load (i := 0) (v := (iq a1.Kind)) rfl rfl Try.underlying3 sz3 rfl rfl rfl rfl) ?_
 refine al_nt ?_
 refine aw_block ?_
 refine aw_sr ?_
 refine in_ ?_
 refine an_ ?_
 refine aw_cond rfl (fun hb4 => ?_) (fun hb4 => ?_)
 replace h := bif_t hb4 h
 refine aw_region ?_
 refine mv_ ?_
 obtain ⟨r6, hc5, h⟩ := opt_some h
 refine al_call (vs := [(pq bx0)]) (f___sweep_heap__mark_ok fu bx0 v0_0 us0_0 v0_1 a0 hc5) [] [1, 2, 3] [0] pre_nil rfl (by simp) (by decide) (.inl rfl) rfl Try.func66 rfl rfl rfl (fun ⟨v7, us8, v9⟩ => ?_)
 refine al_nil ?_
 refine aq_block ?_
 exact aq_join (v7, r6.Things, us8, v9, r6.Roots, r6.Busy) h (nm_ [1, 2, 0] [] (by decide) ⟨rfl, trivial⟩)
 replace h := bif_f hb4 h
 refine aw_sr ?_
 refine in_ ?_
 refine an_ ?_
 refine aw_cond rfl (fun hb10 => ?_) (fun hb10 => ?_)
 replace h := bif_t hb10 h
 refine sm_ ?_
 obtain ⟨r12, hc11, h⟩ := opt_some h
 refine al_call (vs := [(pq bx0)]) (f___sweep_heap__fresh_ok fu bx0 v0_0 us0_0 v0_1 a0 hc11) [] [1, 2, 3] [0] pre_nil rfl (by simp) (by decide) (.inl rfl) rfl Try.func67 rfl rfl rfl (fun ⟨v13, us14, v15⟩ => ?_)
 refine an_ ?_
 refine aw_ret ?_
 refine aq_block_ret ?_
 refine aq_then_ret ?_
 cases h
 exact fn_ret (v13, us14, v15) [0, 1, 2] [] rfl rfl rfl rfl (res1 rfl rfl) rfl rfl rfl (by decide)
 replace h := bif_f hb10 h
 refine aw_sr ?_
 refine in_ ?_
 refine an_ ?_
 refine aw_cond rfl (fun hb16 => ?_) (fun hb16 => ?_)
 replace h := bif_t hb16 h
 refine aw_seq ?_
 obtain ⟨kk18, hkk18, h⟩ := lt_some h
 refine aw_seq_join (ι := (List S_api_Thing) × Value × (List Int) × Bool × Bool) (fun i => (mm21 w0 Z0 a0 a1 bx0 g1 i.2.2.2.1 i.2.1 i.1 i.2.2.1 us0_0 v0_0 v0_1)) (fun i => (tab [(0, (pq bx0)), (3, (pq g1)), (30, (bool i.2.2.2.2))])) (fun i => kk18 i.1 i.2.2.1 i.2.2.2.1 i.2.2.2.2 = some r) ?_ ?_
 rintro ⟨j17x0_0, j17v0_1, j17x0_1, j17b0_2, j17b30⟩ h
 have h : kk18 j17x0_0 j17x0_1 j17b0_2 j17b30 = some r := h
 rw [hkk18] at h
 dsimp only at h
 clear hkk18
 refine aw_show (m := (mm18 w0 Z0 a0 a1 bx0 g1 j17b0_2 j17v0_1 j17x0_0 j17x0_1 us0_0 v0_0 v0_1)) (S := _) ?_
 refine aw_cond rfl (fun hb19 => ?_) (fun hb19 => ?_)
 replace h := bif_t hb19 h
 refine aw_sr ?_
 refine an_ ?_
 refine aw_ret ?_
 refine aq_then_ret ?_
 refine aq_block_ret ?_
 refine aq_then_ret ?_
 cases h
 exact fn_ret (v0_0, us0_0, j17v0_1) [2, 0, 1] [] rfl rfl rfl rfl (res1 rfl rfl) rfl rfl rfl (by decide)
 replace h := bif_f hb19 h
 refine aw_skip ?_
 refine aq_then ?_
 refine aw_seq ?_
 obtain ⟨u20, hu21, h⟩ := opt_some h
 refine aw_region_open [(sp_ 0 31 (pq bx0)), (sp_ 1 32 (pq bx0)), (sp_ 2 33 (pq bx0)), (sp_ 3 34 (pq bx0)), (sp_ 4 35 v0_0), (sp_ 5 36 (ptr g1 1)), (sp_ 6 37 (iq a1.From)), ⟨7, 38, {p : Value // EltOf v0_0 p ((a1.From).toNat * Ty.size tyhS_api_Thing)}, fun p => { val := p.1 }⟩] (tab [(0, (pq bx0)), (3, (pq g1))]) mixed (fun a hs => hs.tab _ (allT_mem ⟨rfl, rfl, trivial⟩)) ?_
 refine ta_show (m := (mm18 w0 Z0 a0 a1 bx0 g1 j17b0_2 j17v0_1 j17x0_0 j17x0_1 us0_0 v0_0 v0_1)) (S := _) ?_
 refine ta_step 8 _ [0, 1, 2, 3, 4, 5, 6, 7] [31, 32, 33, 34, 35, 36, 37, 38] [0, 1, 2, 3, 4, 5, 6, 7] [] [(sp_ 0 31 (pq bx0)), (sp_ 1 32 (pq bx0)), (sp_ 2 33 (pq bx0)), (sp_ 3 34 (pq bx0)), (sp_ 4 35 v0_0), (sp_ 5 36 (ptr g1 1)), (sp_ 6 37 (iq a1.From)), ⟨7, 38, {p : Value // EltOf v0_0 p ((a1.From).toNat * Ty.size tyhS_api_Thing)}, fun p => { val := p.1 }⟩] [] rfl rfl rfl (by kernel_rfl) rfl rfl rfl ⟨⟨_, rfl, [], rfl, by
  intro X_ Y_ F_ K_ hK_
  refine sh_ (mm18 w0 Z0 a0 a1 bx0 g1 j17b0_2 j17v0_1 j17x0_0 j17x0_1 us0_0 v0_0 v0_1) X_ Y_ ?_
  refine mv_ ?_
  refine al_nil ?_
  exact fr_fin hK_ ()⟩, ⟨_, rfl, [0], rfl, by
  intro _
  intro X_ Y_ F_ K_ hK_
  refine sh_ (mm18 w0 Z0 a0 a1 bx0 g1 j17b0_2 j17v0_1 j17x0_0 j17x0_1 us0_0 v0_0 v0_1) X_ Y_ ?_
  refine al_val (ov_nilCheck rfl rfl) ?_
  refine al_nil ?_
  exact fr_fin hK_ ()⟩, ⟨_, rfl, [1], rfl, by
  intro _
  intro X_ Y_ F_ K_ hK_
  refine sh_ (mm18 w0 Z0 a0 a1 bx0 g1 j17b0_2 j17v0_1 j17x0_0 j17x0_1 us0_0 v0_0 v0_1) X_ Y_ ?_
  refine al_val (ov_fieldA (p := 0) rfl Try.underlying77 rfl sz38 rfl rfl rfl) ?_
  refine al_nil ?_
  exact fr_fin hK_ ()⟩, ⟨_, rfl, [2], rfl, by
  intro _
  intro X_ Y_ F_ K_ hK_
  refine sh_ (mm18 w0 Z0 a0 a1 bx0 g1 j17b0_2 j17v0_1 j17x0_0 j17x0_1 us0_0 v0_0 v0_1) X_ Y_ ?_
  refine al_val (ov_fieldA (p := 0) rfl Try.underlying38 rfl sz36 rfl rfl rfl) ?_
  refine al_nil ?_
  exact fr_fin hK_ ()⟩, ⟨_, rfl, [3], rfl, by
  intro _
  intro X_ Y_ F_ K_ hK_
  refine sh_ (mm18 w0 Z0 a0 a1 bx0 g1 j17b0_2 j17v0_1 j17x0_0 j17x0_1 us0_0 v0_0 v0_1) X_ Y_ ?_
  refine al_val (ov_load (i := 2) (v := v0_0) rfl rfl Try.underlying36 sz36 rfl rfl rfl rfl) ?_
  refine al_nil ?_
  exact fr_fin hK_ ()⟩, ⟨_, rfl, [], rfl, by
  intro X_ Y_ F_ K_ hK_
  refine sh_ (mm18 w0 Z0 a0 a1 bx0 g1 j17b0_2 j17v0_1 j17x0_0 j17x0_1 us0_0 v0_0 v0_1) X_ Y_ ?_
  refine al_val (ov_fieldA (p := 1) rfl Try.underlying40 rfl sz3 rfl rfl rfl) ?_
  refine al_nil ?_
  exact fr_fin hK_ ()⟩, ⟨_, rfl, [5], rfl, by
  intro _
  intro X_ Y_ F_ K_ hK_
  refine sh_ (mm18 w0 Z0 a0 a1 bx0 g1 j17b0_2 j17v0_1 j17x0_0 j17x0_1 us0_0 v0_0 v0_1) X_ Y_ ?_
  refine al_val (ov_load (i := 3) (v := (iq a1.From)) rfl rfl Try.underlying3 sz3 rfl rfl rfl rfl) ?_
  refine al_nil ?_
  exact fr_fin hK_ ()⟩, ⟨_, rfl, [4, 6], rfl, by
  intro _
  intro _
  intro X_ Y_ F_ K_ hK_
  refine sh_ (mm18 w0 Z0 a0 a1 bx0 g1 j17b0_2 j17v0_1 j17x0_0 j17x0_1 us0_0 v0_0 v0_1) X_ Y_ ?_
  refine al_idxK (at_some hu21).1 (at_some hu21).2.1 (i := 0) rfl rfl rfl Try.underlying36 sz71 rfl (fun p22 hp23 => ?_)
  refine al_nil ?_
  exact fr_fin hK_ ⟨p22, hp23⟩⟩, trivial⟩ ?_
 intro _
 intro _
 intro _
 intro _
 intro _
 intro _
 intro _
 rintro ⟨p22, hp23⟩
 intro X_ Y_ F_ K_ hK_
 refine sh_ (mm18 w0 Z0 a0 a1 bx0 g1 j17b0_2 j17v0_1 j17x0_0 j17x0_1 us0_0 v0_0 v0_1) X_ Y_ ?_
 refine as_ ?_
 refine al_nil ?_
 refine aq_show (m := Mem.plus (mm18 w0 Z0 a0 a1 bx0 g1 j17b0_2 j17v0_1 j17x0_0 j17x0_1 us0_0 v0_0 v0_1) X_ Y_) ?_
 refine aq_next hK_ [0, 1, 2, 3] [] [(0, (pq bx0)), (3, (pq g1)), (5, p22)] [] [] rfl rfl (by decide) rfl ⟨rfl, rfl, rfl, trivial⟩ trivial ?_
 clear hK_ K_ F_ X_ Y_
 refine ta_show (m := (mm18 w0 Z0 a0 a1 bx0 g1 j17b0_2 j17v0_1 j17x0_0 j17x0_1 us0_0 v0_0 v0_1)) (S := _) ?_
 refine ta_end [] [] rfl rfl (by kernel_rfl) rfl trivial ?_
 refine aq_show (m := (mm18 w0 Z0 a0 a1 bx0 g1 j17b0_2 j17v0_1 j17x0_0 j17x0_1 us0_0 v0_0 v0_1)) (S := (tab [(0, (pq bx0)), (3, (pq g1)), (5, p22)])) ?_
 refine aq_then ?_
 refine aw_seq ?_
 refine sm_ ?_
 refine al_val (ov_nilCheckE hp23 rfl rfl) ?_
 refine al_fieldR hp23 rfl Try.underlying71 rfl sz30 rfl rfl (fun p24 hp25 => ?_)
 refine al_loadKu 0 rfl hp25 (at_some hu21).2.2 subhS_api_Thing_0 rfl Try.underlying30 sz30 rfl rfl (fun s26 hs27 => ?_)
 refine al_val (v := (iq (u20.Kids.length : Int))) (ov_lenKu 0 rfl hs27 (at_some hu21).2.2 rfl Try.underlying30 rfl) ?_
 refine im_ ?_
 refine aw_cond rfl (fun hb28 => ?_) (fun hb28 => ?_)
 replace h := bif_t hb28 h
 refine aw_sr ?_
 refine an_ ?_
 refine aw_ret ?_
 refine aq_then_ret ?_
 refine aq_block_ret ?_
 refine aq_then_ret ?_
 cases h
 exact fn_ret (v0_0, us0_0, j17v0_1) [2, 0, 1] [] rfl rfl rfl rfl (res1 rfl rfl) rfl rfl rfl (by decide)
 replace h := bif_f hb28 h
 refine aw_skip ?_
 refine aq_then ?_
 refine aw_seq ?_
 refine aw_region_open [(sp_ 0 45 p22), (sp_ 1 46 p22), (sp_ 2 47 p22), ⟨3, 48, {p : Value // EltOf v0_0 p ((a1.From).toNat * Ty.size tyhS_api_Thing + 0)}, fun p => { val := p.1 }⟩, ⟨4, 49, {u : Value // us0_0[(a1.From).toNat]? = some u}, fun u => { val := u.1 }⟩, (sp_ 5 50 (ptr g1 2)), (sp_ 6 51 (iq a1.To)), ⟨7, 52, Value, fun (i : Value) => { val := i, own := [(oRow i 3 tq [a1.To])] }⟩] (tab [(0, (pq bx0)), (3, (pq g1)), (5, p22)]) mixed (fun a hs => hs.tab _ (allT_mem ⟨rfl, rfl, rfl, trivial⟩)) ?_
 refine ta_show (m := (mm18 w0 Z0 a0 a1 bx0 g1 j17b0_2 j17v0_1 j17x0_0 j17x0_1 us0_0 v0_0 v0_1)) (S := _) ?_
 refine ta_step 8 _ [0, 1, 2, 3, 4, 5, 6, 7] [45, 46, 47, 48, 49, 50, 51, 52] [1, 2, 3, 4, 5, 6, 7] [9, 10] [(sp_ 1 46 p22), (sp_ 2 47 p22), ⟨3, 48, {p : Value // EltOf v0_0 p ((a1.From).toNat * Ty.size tyhS_api_Thing + 0)}, fun p => { val := p.1 }⟩, ⟨4, 49, {u : Value // us0_0[(a1.From).toNat]? = some u}, fun u => { val := u.1 }⟩, (sp_ 5 50 (ptr g1 2)), (sp_ 6 51 (iq a1.To)), ⟨7, 52, Value, fun (i : Value) => { val := i, own := [(oRow i 3 tq [a1.To])] }⟩] [(sp_ 0 45 p22)] rfl rfl rfl (by kernel_rfl) rfl rfl rfl ⟨⟨_, rfl, [], rfl, by
  intro X_ Y_ F_ K_ hK_
  refine sh_ (mm18 w0 Z0 a0 a1 bx0 g1 j17b0_2 j17v0_1 j17x0_0 j17x0_1 us0_0 v0_0 v0_1) X_ Y_ ?_
  refine mv_ ?_
  refine al_nil ?_
  exact fr_fin hK_ ()⟩, ⟨_, rfl, [], rfl, by
  intro X_ Y_ F_ K_ hK_
  refine sh_ (mm18 w0 Z0 a0 a1 bx0 g1 j17b0_2 j17v0_1 j17x0_0 j17x0_1 us0_0 v0_0 v0_1) X_ Y_ ?_
  refine mv_ ?_
  refine al_nil ?_
  exact fr_fin hK_ ()⟩, ⟨_, rfl, [1], rfl, by
  intro _
  intro X_ Y_ F_ K_ hK_
  refine sh_ (mm18 w0 Z0 a0 a1 bx0 g1 j17b0_2 j17v0_1 j17x0_0 j17x0_1 us0_0 v0_0 v0_1) X_ Y_ ?_
  refine al_val (ov_nilCheckE hp23 rfl rfl) ?_
  refine al_nil ?_
  exact fr_fin hK_ ()⟩, ⟨_, rfl, [2], rfl, by
  intro _
  intro X_ Y_ F_ K_ hK_
  refine sh_ (mm18 w0 Z0 a0 a1 bx0 g1 j17b0_2 j17v0_1 j17x0_0 j17x0_1 us0_0 v0_0 v0_1) X_ Y_ ?_
  refine al_fieldR hp23 rfl Try.underlying71 rfl sz30 rfl rfl (fun p29 hp30 => ?_)
  refine al_nil ?_
  exact fr_fin hK_ ⟨p29, hp30⟩⟩, ⟨_, rfl, [3], rfl, by
  rintro ⟨p29, hp30⟩
  intro X_ Y_ F_ K_ hK_
  refine sh_ (mm18 w0 Z0 a0 a1 bx0 g1 j17b0_2 j17v0_1 j17x0_0 j17x0_1 us0_0 v0_0 v0_1) X_ Y_ ?_
  refine al_loadKu 0 rfl hp30 (at_some hu21).2.2 subhS_api_Thing_0 rfl Try.underlying30 sz30 rfl rfl (fun s31 hs32 => ?_)
  refine al_nil ?_
  exact fr_fin hK_ ⟨s31, hs32⟩⟩, ⟨_, rfl, [], rfl, by
  intro X_ Y_ F_ K_ hK_
  refine sh_ (mm18 w0 Z0 a0 a1 bx0 g1 j17b0_2 j17v0_1 j17x0_0 j17x0_1 us0_0 v0_0 v0_1) X_ Y_ ?_
  refine al_val (ov_fieldA (p := 2) rfl Try.underlying40 rfl sz3 rfl rfl rfl) ?_
  refine al_nil ?_
  exact fr_fin hK_ ()⟩, ⟨_, rfl, [5], rfl, by
  intro _
  intro X_ Y_ F_ K_ hK_
  refine sh_ (mm18 w0 Z0 a0 a1 bx0 g1 j17b0_2 j17v0_1 j17x0_0 j17x0_1 us0_0 v0_0 v0_1) X_ Y_ ?_
  refine al_val (ov_load (i := 3) (v := (iq a1.To)) rfl rfl Try.underlying3 sz3 rfl rfl rfl rfl) ?_
  refine al_nil ?_
  exact fr_fin hK_ ()⟩, ⟨_, rfl, [6], rfl, by
  intro _
  intro X_ Y_ F_ K_ hK_
  refine sh_ (mm18 w0 Z0 a0 a1 bx0 g1 j17b0_2 j17v0_1 j17x0_0 j17x0_1 us0_0 v0_0 v0_1) X_ Y_ ?_
  refine al_buildSlice (τ := tq) (e := 3) (k := 1) (sz := 0) (by_ := 0) (z := undef) (cs := [(iq a1.To)]) (xs := [a1.To]) rfl (by decide) (fun w a hm hs => ⟨([(iq a1.To)]).toArray, rfl, by simp only [List.map_toArray, List.map_cons, List.map_nil, hs.ev (x := .tmp 51) rfl]; exact run_bs [(iq a1.To)] [(iq a1.To)] Try.underlying30 to3 rfl rfl (bs_cons (l := [(iq a1.To)]) (cs := []) (cv_rfl rfl) rfl bs_nil) hm⟩) (fun hm => ⟨_, _, rfl, (fun _ => rfl) hm, rfl⟩) rfl (fun v33 => ?_)
  refine al_nil ?_
  exact fr_fin hK_ v33⟩, trivial⟩ ?_
 intro _
 intro _
 rintro ⟨p29, hp30⟩
 rintro ⟨s31, hs32⟩
 intro _
 intro _
 intro v33
 intro X_ Y_ F_ K_ hK_
 refine sh_ (memOf w0 Z0 [(oBox bx0 77 [v0_0, v0_1, (bool a0.Busy)]), (oKids v0_0 71 tyhS_api_Thing 3 tq (fun x : S_api_Thing => x.Kids) none us0_0 a0.Things), (oRow v0_1 3 tq a0.Roots)] [(oRow v33 3 tq [a1.To]), (oKids v0_0 71 tyhS_api_Thing 3 tq (fun x : S_api_Thing => x.Kids) none us0_0 j17x0_0), (oRow j17v0_1 3 tq j17x0_1), (oBox bx0 77 [v0_0, j17v0_1, (bool j17b0_2)]), (oBox g1 40 [(iq a1.Kind), (iq a1.From), (iq a1.To)])] []) X_ Y_ ?_
 refine al_reoX [1, 0, 2, 3, 4] (by decide) rfl ?_
 refine sh_ (memOf w0 Z0 [(oBox bx0 77 [v0_0, v0_1, (bool a0.Busy)]), (oKids v0_0 71 tyhS_api_Thing 3 tq (fun x : S_api_Thing => x.Kids) none us0_0 a0.Things), (oRow v0_1 3 tq a0.Roots)] [(oKids v0_0 71 tyhS_api_Thing 3 tq (fun x : S_api_Thing => x.Kids) none us0_0 j17x0_0), (oRow v33 3 tq [a1.To]), (oRow j17v0_1 3 tq j17x0_1), (oBox bx0 77 [v0_0, j17v0_1, (bool j17b0_2)]), (oBox g1 40 [(iq a1.Kind), (iq a1.From), (iq a1.To)])] []) X_ Y_ ?_
 refine al_takeK hs32 (at_some hu21).2.2 rfl ?_
 refine sh_ (memOf w0 Z0 [(oBox bx0 77 [v0_0, v0_1, (bool a0.Busy)]), (oKids v0_0 71 tyhS_api_Thing 3 tq (fun x : S_api_Thing => x.Kids) none us0_0 a0.Things), (oRow v0_1 3 tq a0.Roots)] [(oRow s31 3 tq u20.Kids), (oKids v0_0 71 tyhS_api_Thing 3 tq (fun x : S_api_Thing => x.Kids) (some (a1.From).toNat) us0_0 j17x0_0), (oRow v33 3 tq [a1.To]), (oRow j17v0_1 3 tq j17x0_1), (oBox bx0 77 [v0_0, j17v0_1, (bool j17b0_2)]), (oBox g1 40 [(iq a1.Kind), (iq a1.From), (iq a1.To)])] []) X_ Y_ ?_
 obtain ⟨hc34, h⟩ := req_some h
 refine al_append 0 hc34.1 hc34.2 rfl (src_own (i := 0) 2 rfl) rfl rfl Try.underlying30 to3 rfl rfl rfl (fun v35 => ?_)
 refine al_nil ?_
 refine aq_show (m := Mem.plus (mm19 w0 Z0 a0 a1 bx0 g1 j17b0_2 j17v0_1 j17x0_0 j17x0_1 u20 us0_0 v0_0 v0_1 v33 v35) X_ Y_) ?_
 refine aq_next hK_ [0, 1, 2, 3, 4, 5] [] [(0, (pq bx0)), (3, (pq g1)), (5, p22), (53, v35)] [45] [(sp_ 9 54 p22), ⟨10, 55, {p : Value // EltOf v0_0 p ((a1.From).toNat * Ty.size tyhS_api_Thing + 0)}, fun p => { val := p.1 }⟩] rfl rfl (by decide) rfl ⟨rfl, rfl, rfl, rfl, trivial⟩ ⟨rfl, trivial⟩ ?_
 clear hK_ K_ F_ X_ Y_
 refine ta_show (m := (mm19 w0 Z0 a0 a1 bx0 g1 j17b0_2 j17v0_1 j17x0_0 j17x0_1 u20 us0_0 v0_0 v0_1 v33 v35)) (S := _) ?_
 refine ta_step 11 _ [0, 9, 10] [45, 54, 55] [0, 9, 10] [] [(sp_ 0 45 p22), (sp_ 9 54 p22), ⟨10, 55, {p : Value // EltOf v0_0 p ((a1.From).toNat * Ty.size tyhS_api_Thing + 0)}, fun p => { val := p.1 }⟩] [] rfl rfl rfl (by kernel_rfl) rfl rfl rfl ⟨⟨_, rfl, [], rfl, by
  intro X_ Y_ F_ K_ hK_
  refine sh_ (mm19 w0 Z0 a0 a1 bx0 g1 j17b0_2 j17v0_1 j17x0_0 j17x0_1 u20 us0_0 v0_0 v0_1 v33 v35) X_ Y_ ?_
  refine mv_ ?_
  refine al_nil ?_
  exact fr_fin hK_ ()⟩, ⟨_, rfl, [0], rfl, by
  intro _
  intro X_ Y_ F_ K_ hK_
  refine sh_ (mm19 w0 Z0 a0 a1 bx0 g1 j17b0_2 j17v0_1 j17x0_0 j17x0_1 u20 us0_0 v0_0 v0_1 v33 v35) X_ Y_ ?_
  refine al_val (ov_nilCheckE hp23 rfl rfl) ?_
  refine al_nil ?_
  exact fr_fin hK_ ()⟩, ⟨_, rfl, [0, 1], rfl, by
  intro _
  intro _
  intro X_ Y_ F_ K_ hK_
  refine sh_ (mm19 w0 Z0 a0 a1 bx0 g1 j17b0_2 j17v0_1 j17x0_0 j17x0_1 u20 us0_0 v0_0 v0_1 v33 v35) X_ Y_ ?_
  refine al_fieldR hp23 rfl Try.underlying71 rfl sz30 rfl rfl (fun p36 hp37 => ?_)
  refine al_nil ?_
  exact fr_fin hK_ ⟨p36, hp37⟩⟩, trivial⟩ ?_
 intro _
 intro _
 rintro ⟨p36, hp37⟩
 intro X_ Y_ F_ K_ hK_
 refine sh_ (mm19 w0 Z0 a0 a1 bx0 g1 j17b0_2 j17v0_1 j17x0_0 j17x0_1 u20 us0_0 v0_0 v0_1 v33 v35) X_ Y_ ?_
 refine al_storeKidsK (k := (a1.From).toNat) (x2 := { (u20 : S_api_Thing) with Kids := (u20.Kids ++ ([a1.To])) }) rfl hp37 (at_some hu21).2.2 ssethS_api_Thing_0 rfl (fun h => h) rfl rfl rfl sz30 rfl ?_
 refine sh_ (mm20 w0 Z0 a0 a1 bx0 g1 j17b0_2 j17v0_1 j17x0_0 j17x0_1 u20 us0_0 v0_0 v0_1 v33 v35) X_ Y_ ?_
 refine al_nil ?_
 refine aq_show (m := Mem.plus (mm20 w0 Z0 a0 a1 bx0 g1 j17b0_2 j17v0_1 j17x0_0 j17x0_1 u20 us0_0 v0_0 v0_1 v33 v35) X_ Y_) ?_
 refine aq_next hK_ [0, 1, 2, 3, 4] [] [(0, (pq bx0)), (3, (pq g1))] [] [] rfl rfl (by decide) rfl ⟨rfl, rfl, trivial⟩ trivial ?_
 clear hK_ K_ F_ X_ Y_
 refine ta_show (m := (mm20 w0 Z0 a0 a1 bx0 g1 j17b0_2 j17v0_1 j17x0_0 j17x0_1 u20 us0_0 v0_0 v0_1 v33 v35)) (S := _) ?_
 refine ta_end [] [] rfl rfl (by kernel_rfl) rfl trivial ?_
 refine aq_show (m := (mm20 w0 Z0 a0 a1 bx0 g1 j17b0_2 j17v0_1 j17x0_0 j17x0_1 u20 us0_0 v0_0 v0_1 v33 v35)) (S := (tab [(0, (pq bx0)), (3, (pq g1))])) ?_
 refine aq_then ?_
 refine aw_region ?_
 refine mv_ ?_
 refine al_val (ov_fieldA (p := 2) rfl Try.underlying40 rfl sz3 rfl rfl rfl) ?_
 refine al_val (ov_load (i := 4) (v := (iq a1.To)) rfl rfl Try.underlying3 sz3 rfl rfl rfl rfl) ?_
 obtain ⟨r39, hc38, h⟩ := opt_some h
 refine al_call (vs := [(pq bx0), (iq a1.To)]) (f___sweep_heap__shade_ok fu bx0 v0_0 (us0_0.set (a1.From).toNat v35) none j17v0_1 (D_sweep_heap.mk (j17x0_0.set (a1.From).toNat { (u20 : S_api_Thing) with Kids := (u20.Kids ++ ([a1.To])) }) j17x0_1 j17b0_2) a1.To hc38) [] [3, 0, 2] [1, 4] pre_nil rfl (by simp) (by decide) (.inl rfl) rfl Try.func69 rfl rfl rfl (fun v40 => ?_)
 refine al_nil ?_
 refine aq_block ?_
 exact aq_join (v0_0, r39.Things, (us0_0.set (a1.From).toNat v35), v40, r39.Roots, r39.Busy) h (nm_ [1, 2, 0] [] (by decide) ⟨rfl, trivial⟩)
 clear hkk18
 refine aw_region ?_
 refine mv_ ?_
 refine al_val (ov_fieldA (p := 1) rfl Try.underlying40 rfl sz3 rfl rfl rfl) ?_
 refine al_val (ov_load (i := 0) (v := (iq a1.From)) rfl rfl Try.underlying3 sz3 rfl rfl rfl rfl) ?_
 obtain ⟨r42, hc41, h⟩ := opt_some h
 refine al_call (vs := [(pq bx0), (iq a1.From)]) (f___sweep_heap__isLive_ok fu bx0 v0_0 us0_0 v0_1 a0 a1.From hc41) [] [1, 2, 3] [0] pre_nil rfl (by simp) (by decide) (.inl rfl) rfl Try.func68 rfl rfl rfl (fun v43 => ?_)
 refine al_val (ov_not rfl rfl) ?_
 refine mv_ ?_
 refine al_caseB 24 rfl (fun hb44 => ?_) (fun hb44 => ?_)
 replace h := bif_t hb44 h
 iterate 5 refine al_skip ?_
 refine al_val (ov_pick_t rfl rfl rfl) ?_
 refine al_nil ?_
 exact aq_join (r42.2.Things, v43, r42.2.Roots, r42.2.Busy, true) h (nm_ [1, 2, 0, 3] [] (by decide) ⟨rfl, rfl, rfl, trivial⟩)
 replace h := bif_f hb44 h
 refine mv_ ?_
 refine al_val (ov_fieldA (p := 2) rfl Try.underlying40 rfl sz3 rfl rfl rfl) ?_
 refine al_val (ov_load (i := 3) (v := (iq a1.To)) rfl rfl Try.underlying3 sz3 rfl rfl rfl rfl) ?_
 obtain ⟨r46, hc45, h⟩ := opt_some h
 refine al_call (vs := [(pq bx0), (iq a1.To)]) (f___sweep_heap__isLive_ok fu bx0 v0_0 us0_0 v43 r42.2 a1.To hc45) [] [0, 1, 2] [3] pre_nil rfl (by simp) (by decide) (.inl rfl) rfl Try.func68 rfl rfl rfl (fun v47 => ?_)
 refine al_val (ov_not rfl rfl) ?_
 refine al_val (ov_pick_f rfl rfl rfl) ?_
 refine al_nil ?_
 exact aq_join (r46.2.Things, v47, r46.2.Roots, r46.2.Busy, (!r46.1)) h (nm_ [1, 2, 0, 3] [] (by decide) ⟨rfl, rfl, rfl, trivial⟩)
 replace h := bif_f hb16 h
 refine aw_sr ?_
 refine in_ ?_
 refine an_ ?_
 refine aw_cond rfl (fun hb48 => ?_) (fun hb48 => ?_)
 replace h := bif_t hb48 h
 refine aw_seq ?_
 obtain ⟨kk50, hkk50, h⟩ := lt_some h
 refine aw_seq_join (ι := (List S_api_Thing) × Value × (List Int) × Bool × Bool) (fun i => (mm21 w0 Z0 a0 a1 bx0 g1 i.2.2.2.1 i.2.1 i.1 i.2.2.1 us0_0 v0_0 v0_1)) (fun i => (tab [(0, (pq bx0)), (3, (pq g1)), (87, (bool i.2.2.2.2))])) (fun i => kk50 i.1 i.2.2.1 i.2.2.2.1 i.2.2.2.2 = some r) ?_ ?_
 rintro ⟨j49x0_0, j49v0_1, j49x0_1, j49b0_2, j49b87⟩ h
 have h : kk50 j49x0_0 j49x0_1 j49b0_2 j49b87 = some r := h
 rw [hkk50] at h
 dsimp only at h
 clear hkk50
 refine aw_show (m := (mm21 w0 Z0 a0 a1 bx0 g1 j49b0_2 j49v0_1 j49x0_0 j49x0_1 us0_0 v0_0 v0_1)) (S := _) ?_
 refine aw_cond rfl (fun hb51 => ?_) (fun hb51 => ?_)
 replace h := bif_t hb51 h
 refine aw_sr ?_
 refine an_ ?_
 refine aw_ret ?_
 refine aq_then_ret ?_
 refine aq_block_ret ?_
 refine aq_then_ret ?_
 cases h
 exact fn_ret (v0_0, us0_0, j49v0_1) [2, 0, 1] [] rfl rfl rfl rfl (res1 rfl rfl) rfl rfl rfl (by decide)
 replace h := bif_f hb51 h
 refine aw_skip ?_
 refine aq_then ?_
 refine aw_seq ?_
 obtain ⟨u52, hu53, h⟩ := opt_some h
 refine aw_region_open [(sp_ 0 88 (pq bx0)), (sp_ 1 89 (pq bx0)), (sp_ 2 90 (pq bx0)), (sp_ 3 91 (pq bx0)), (sp_ 4 92 v0_0), (sp_ 5 93 (ptr g1 1)), (sp_ 6 94 (iq a1.From)), ⟨7, 95, {p : Value // EltOf v0_0 p ((a1.From).toNat * Ty.size tyhS_api_Thing)}, fun p => { val := p.1 }⟩] (tab [(0, (pq bx0)), (3, (pq g1))]) mixed (fun a hs => hs.tab _ (allT_mem ⟨rfl, rfl, trivial⟩)) ?_
 refine ta_show (m := (mm21 w0 Z0 a0 a1 bx0 g1 j49b0_2 j49v0_1 j49x0_0 j49x0_1 us0_0 v0_0 v0_1)) (S := _) ?_
 refine ta_step 8 _ [0, 1, 2, 3, 4, 5, 6, 7] [88, 89, 90, 91, 92, 93, 94, 95] [0, 1, 2, 3, 4, 5, 6, 7] [] [(sp_ 0 88 (pq bx0)), (sp_ 1 89 (pq bx0)), (sp_ 2 90 (pq bx0)), (sp_ 3 91 (pq bx0)), (sp_ 4 92 v0_0), (sp_ 5 93 (ptr g1 1)), (sp_ 6 94 (iq a1.From)), ⟨7, 95, {p : Value // EltOf v0_0 p ((a1.From).toNat * Ty.size tyhS_api_Thing)}, fun p => { val := p.1 }⟩] [] rfl rfl rfl (by kernel_rfl) rfl rfl rfl ⟨⟨_, rfl, [], rfl, by
  intro X_ Y_ F_ K_ hK_
  refine sh_ (mm21 w0 Z0 a0 a1 bx0 g1 j49b0_2 j49v0_1 j49x0_0 j49x0_1 us0_0 v0_0 v0_1) X_ Y_ ?_
  refine mv_ ?_
  refine al_nil ?_
  exact fr_fin hK_ ()⟩, ⟨_, rfl, [0], rfl, by
  intro _
  intro X_ Y_ F_ K_ hK_
  refine sh_ (mm21 w0 Z0 a0 a1 bx0 g1 j49b0_2 j49v0_1 j49x0_0 j49x0_1 us0_0 v0_0 v0_1) X_ Y_ ?_
  refine al_val (ov_nilCheck rfl rfl) ?_
  refine al_nil ?_
  exact fr_fin hK_ ()⟩, ⟨_, rfl, [1], rfl, by
  intro _
  intro X_ Y_ F_ K_ hK_
  refine sh_ (mm21 w0 Z0 a0 a1 bx0 g1 j49b0_2 j49v0_1 j49x0_0 j49x0_1 us0_0 v0_0 v0_1) X_ Y_ ?_
  refine al_val (ov_fieldA (p := 0) rfl Try.underlying77 rfl sz38 rfl rfl rfl) ?_
  refine al_nil ?_
  exact fr_fin hK_ ()⟩, ⟨_, rfl, [2], rfl, by
  intro _
  intro X_ Y_ F_ K_ hK_
  refine sh_ (mm21 w0 Z0 a0 a1 bx0 g1 j49b0_2 j49v0_1 j49x0_0 j49x0_1 us0_0 v0_0 v0_1) X_ Y_ ?_
  refine al_val (ov_fieldA (p := 0) rfl Try.underlying38 rfl sz36 rfl rfl rfl) ?_
  refine al_nil ?_
  exact fr_fin hK_ ()⟩, ⟨_, rfl, [3], rfl, by
  intro _
  intro X_ Y_ F_ K_ hK_
  refine sh_ (mm21 w0 Z0 a0 a1 bx0 g1 j49b0_2 j49v0_1 j49x0_0 j49x0_1 us0_0 v0_0 v0_1) X_ Y_ ?_
  refine al_val (ov_load (i := 2) (v := v0_0) rfl rfl Try.underlying36 sz36 rfl rfl rfl rfl) ?_
  refine al_nil ?_
  exact fr_fin hK_ ()⟩, ⟨_, rfl, [], rfl, by
  intro X_ Y_ F_ K_ hK_
  refine sh_ (mm21 w0 Z0 a0 a1 bx0 g1 j49b0_2 j49v0_1 j49x0_0 j49x0_1 us0_0 v0_0 v0_1) X_ Y_ ?_
  refine al_val (ov_fieldA (p := 1) rfl Try.underlying40 rfl sz3 rfl rfl rfl) ?_
  refine al_nil ?_
  exact fr_fin hK_ ()⟩, ⟨_, rfl, [5], rfl, by
  intro _
  intro X_ Y_ F_ K_ hK_
  refine sh_ (mm21 w0 Z0 a0 a1 bx0 g1 j49b0_2 j49v0_1 j49x0_0 j49x0_1 us0_0 v0_0 v0_1) X_ Y_ ?_
  refine al_val (ov_load (i := 3) (v := (iq a1.From)) rfl rfl Try.underlying3 sz3 rfl rfl rfl rfl) ?_
  refine al_nil ?_
  exact fr_fin hK_ ()⟩, ⟨_, rfl, [4, 6], rfl, by
  intro _
  intro _
  intro X_ Y_ F_ K_ hK_
  refine sh_ (mm21 w0 Z0 a0 a1 bx0 g1 j49b0_2 j49v0_1 j49x0_0 j49x0_1 us0_0 v0_0 v0_1) X_ Y_ ?_
  refine al_idxK (at_some hu53).1 (at_some hu53).2.1 (i := 0) rfl rfl rfl Try.underlying36 sz71 rfl (fun p54 hp55 => ?_)
  refine al_nil ?_
  exact fr_fin hK_ ⟨p54, hp55⟩⟩, trivial⟩ ?_
 intro _
 intro _
 intro _
 intro _
 intro _
 intro _
 intro _
 rintro ⟨p54, hp55⟩
 intro X_ Y_ F_ K_ hK_
 refine sh_ (mm21 w0 Z0 a0 a1 bx0 g1 j49b0_2 j49v0_1 j49x0_0 j49x0_1 us0_0 v0_0 v0_1) X_ Y_ ?_
 refine as_ ?_
 refine al_nil ?_
 refine aq_show (m := Mem.plus (mm21 w0 Z0 a0 a1 bx0 g1 j49b0_2 j49v0_1 j49x0_0 j49x0_1 us0_0 v0_0 v0_1) X_ Y_) ?_
 refine aq_next hK_ [0, 1, 2, 3] [] [(0, (pq bx0)), (3, (pq g1)), (6, p54)] [] [] rfl rfl (by decide) rfl ⟨rfl, rfl, rfl, trivial⟩ trivial ?_
 clear hK_ K_ F_ X_ Y_
 refine ta_show (m := (mm21 w0 Z0 a0 a1 bx0 g1 j49b0_2 j49v0_1 j49x0_0 j49x0_1 us0_0 v0_0 v0_1)) (S := _) ?_
 refine ta_end [] [] rfl rfl (by kernel_rfl) rfl trivial ?_
 refine aq_show (m := (mm21 w0 Z0 a0 a1 bx0 g1 j49b0_2 j49v0_1 j49x0_0 j49x0_1 us0_0 v0_0 v0_1)) (S := (tab [(0, (pq bx0)), (3, (pq g1)), (6, p54)])) ?_
 refine aq_then ?_
 refine aw_region_open [(sp_ 0 96 p54), (sp_ 1 97 p54), (sp_ 2 98 p54), ⟨3, 99, {p : Value // EltOf v0_0 p ((a1.From).toNat * Ty.size tyhS_api_Thing + 0)}, fun p => { val := p.1 }⟩, ⟨4, 100, {u : Value // us0_0[(a1.From).toNat]? = some u}, fun u => { val := u.1 }⟩, (sp_ 5 101 (ptr g1 2)), (sp_ 6 102 (iq a1.To)), (sp_ 7 103 (ptr g1 2)), (sp_ 8 104 (iq a1.To)), (sp_ 9 105 (iq (wq (a1.To + (1 : Int)))))] (tab [(0, (pq bx0)), (3, (pq g1)), (6, p54)]) mixed (fun a hs => hs.tab _ (allT_mem ⟨rfl, rfl, rfl, trivial⟩)) ?_
 refine ta_show (m := (mm21 w0 Z0 a0 a1 bx0 g1 j49b0_2 j49v0_1 j49x0_0 j49x0_1 us0_0 v0_0 v0_1)) (S := _) ?_
 refine ta_step 10 _ [0, 1, 2, 3, 4, 5, 6, 7, 8, 9] [96, 97, 98, 99, 100, 101, 102, 103, 104, 105] [1, 2, 3, 4, 5, 6, 7, 8, 9] [11, 12] [(sp_ 1 97 p54), (sp_ 2 98 p54), ⟨3, 99, {p : Value // EltOf v0_0 p ((a1.From).toNat * Ty.size tyhS_api_Thing + 0)}, fun p => { val := p.1 }⟩, ⟨4, 100, {u : Value // us0_0[(a1.From).toNat]? = some u}, fun u => { val := u.1 }⟩, (sp_ 5 101 (ptr g1 2)), (sp_ 6 102 (iq a1.To)), (sp_ 7 103 (ptr g1 2)), (sp_ 8 104 (iq a1.To)), (sp_ 9 105 (iq (wq (a1.To + (1 : Int)))))] [(sp_ 0 96 p54)] rfl rfl rfl (by kernel_rfl) rfl rfl rfl ⟨⟨_, rfl, [], rfl, by
  intro X_ Y_ F_ K_ hK_
  refine sh_ (mm21 w0 Z0 a0 a1 bx0 g1 j49b0_2 j49v0_1 j49x0_0 j49x0_1 us0_0 v0_0 v0_1) X_ Y_ ?_
  refine mv_ ?_
  refine al_nil ?_
  exact fr_fin hK_ ()⟩, ⟨_, rfl, [], rfl, by
  intro X_ Y_ F_ K_ hK_
  refine sh_ (mm21 w0 Z0 a0 a1 bx0 g1 j49b0_2 j49v0_1 j49x0_0 j49x0_1 us0_0 v0_0 v0_1) X_ Y_ ?_
  refine mv_ ?_
  refine al_nil ?_
  exact fr_fin hK_ ()⟩, ⟨_, rfl, [1], rfl, by
  intro _
  intro X_ Y_ F_ K_ hK_
  refine sh_ (mm21 w0 Z0 a0 a1 bx0 g1 j49b0_2 j49v0_1 j49x0_0 j49x0_1 us0_0 v0_0 v0_1) X_ Y_ ?_
  refine al_val (ov_nilCheckE hp55 rfl rfl) ?_
  refine al_nil ?_
  exact fr_fin hK_ ()⟩, ⟨_, rfl, [2], rfl, by
  intro _
  intro X_ Y_ F_ K_ hK_
  refine sh_ (mm21 w0 Z0 a0 a1 bx0 g1 j49b0_2 j49v0_1 j49x0_0 j49x0_1 us0_0 v0_0 v0_1) X_ Y_ ?_
  refine al_fieldR hp55 rfl Try.underlying71 rfl sz30 rfl rfl (fun p56 hp57 => ?_)
  refine al_nil ?_
  exact fr_fin hK_ ⟨p56, hp57⟩⟩, ⟨_, rfl, [3], rfl, by
  rintro ⟨p56, hp57⟩
  intro X_ Y_ F_ K_ hK_
  refine sh_ (mm21 w0 Z0 a0 a1 bx0 g1 j49b0_2 j49v0_1 j49x0_0 j49x0_1 us0_0 v0_0 v0_1) X_ Y_ ?_
  refine al_loadKu 0 rfl hp57 (at_some hu53).2.2 subhS_api_Thing_0 rfl Try.underlying30 sz30 rfl rfl (fun s58 hs59 => ?_)
  refine al_nil ?_
  exact fr_fin hK_ ⟨s58, hs59⟩⟩, ⟨_, rfl, [], rfl, by
  intro X_ Y_ F_ K_ hK_
  refine sh_ (mm21 w0 Z0 a0 a1 bx0 g1 j49b0_2 j49v0_1 j49x0_0 j49x0_1 us0_0 v0_0 v0_1) X_ Y_ ?_
  refine al_val (ov_fieldA (p := 2) rfl Try.underlying40 rfl sz3 rfl rfl rfl) ?_
  refine al_nil ?_
  exact fr_fin hK_ ()⟩, ⟨_, rfl, [5], rfl, by
  intro _
  intro X_ Y_ F_ K_ hK_
  refine sh_ (mm21 w0 Z0 a0 a1 bx0 g1 j49b0_2 j49v0_1 j49x0_0 j49x0_1 us0_0 v0_0 v0_1) X_ Y_ ?_
  refine al_val (ov_load (i := 3) (v := (iq a1.To)) rfl rfl Try.underlying3 sz3 rfl rfl rfl rfl) ?_
  refine al_nil ?_
  exact fr_fin hK_ ()⟩, ⟨_, rfl, [], rfl, by
  intro X_ Y_ F_ K_ hK_
  refine sh_ (mm21 w0 Z0 a0 a1 bx0 g1 j49b0_2 j49v0_1 j49x0_0 j49x0_1 us0_0 v0_0 v0_1) X_ Y_ ?_
  refine al_val (ov_fieldA (p := 2) rfl Try.underlying40 rfl sz3 rfl rfl rfl) ?_
  refine al_nil ?_
  exact fr_fin hK_ ()⟩, ⟨_, rfl, [7], rfl, by
  intro _
  intro X_ Y_ F_ K_ hK_
  refine sh_ (mm21 w0 Z0 a0 a1 bx0 g1 j49b0_2 j49v0_1 j49x0_0 j49x0_1 us0_0 v0_0 v0_1) X_ Y_ ?_
  refine al_val (ov_load (i := 3) (v := (iq a1.To)) rfl rfl Try.underlying3 sz3 rfl rfl rfl rfl) ?_
  refine al_nil ?_
  exact fr_fin hK_ ()⟩, ⟨_, rfl, [8], rfl, by
  intro _
  intro X_ Y_ F_ K_ hK_
  refine sh_ (mm21 w0 Z0 a0 a1 bx0 g1 j49b0_2 j49v0_1 j49x0_0 j49x0_1 us0_0 v0_0 v0_1) X_ Y_ ?_
  refine in_ ?_
  refine al_nil ?_
  exact fr_fin hK_ ()⟩, trivial⟩ ?_
 intro _
 intro _
 rintro ⟨p56, hp57⟩
 rintro ⟨s58, hs59⟩
 intro _
 intro _
 intro _
 intro _
 intro _
 intro X_ Y_ F_ K_ hK_
 refine sh_ (mm21 w0 Z0 a0 a1 bx0 g1 j49b0_2 j49v0_1 j49x0_0 j49x0_1 us0_0 v0_0 v0_1) X_ Y_ ?_
 refine al_takeK hs59 (at_some hu53).2.2 rfl ?_
 refine sh_ (memOf w0 Z0 [(oBox bx0 77 [v0_0, v0_1, (bool a0.Busy)]), (oKids v0_0 71 tyhS_api_Thing 3 tq (fun x : S_api_Thing => x.Kids) none us0_0 a0.Things), (oRow v0_1 3 tq a0.Roots)] [(oRow s58 3 tq u52.Kids), (oKids v0_0 71 tyhS_api_Thing 3 tq (fun x : S_api_Thing => x.Kids) (some (a1.From).toNat) us0_0 j49x0_0), (oRow j49v0_1 3 tq j49x0_1), (oBox bx0 77 [v0_0, j49v0_1, (bool j49b0_2)]), (oBox g1 40 [(iq a1.Kind), (iq a1.From), (iq a1.To)])] []) X_ Y_ ?_
 obtain ⟨r61, hc60, h⟩ := opt_some h
 refine al_callX (vs := [s58, (iq a1.To), (iq (wq (a1.To + (1 : Int))))]) (f_slices_Delete_I_ok fu s58 u52.Kids a1.To (wq (a1.To + (1 : Int))) hc60) [] [0] [1, 2, 3, 4] pre_nil rfl (by simp) (by decide) rfl (.inl rfl) rfl Try.func70 rfl rfl rfl (fun v62 => ?_)
 refine al_nil ?_
 refine aq_show (m := Mem.plus (mm22 w0 Z0 a0 a1 bx0 g1 j49b0_2 j49v0_1 j49x0_0 j49x0_1 r61 us0_0 v0_0 v0_1 v62) X_ Y_) ?_
 refine aq_next hK_ [0, 1, 2, 3, 4] [] [(0, (pq bx0)), (6, p54), (106, v62)] [96] [(sp_ 11 107 p54), ⟨12, 108, {p : Value // EltOf v0_0 p ((a1.From).toNat * Ty.size tyhS_api_Thing + 0)}, fun p => { val := p.1 }⟩] rfl rfl (by decide) rfl ⟨rfl, rfl, rfl, trivial⟩ ⟨rfl, trivial⟩ ?_
 clear hK_ K_ F_ X_ Y_
 refine ta_show (m := (mm22 w0 Z0 a0 a1 bx0 g1 j49b0_2 j49v0_1 j49x0_0 j49x0_1 r61 us0_0 v0_0 v0_1 v62)) (S := _) ?_
 refine ta_step 13 _ [0, 11, 12] [96, 107, 108] [0, 11, 12] [] [(sp_ 0 96 p54), (sp_ 11 107 p54), ⟨12, 108, {p : Value // EltOf v0_0 p ((a1.From).toNat * Ty.size tyhS_api_Thing + 0)}, fun p => { val := p.1 }⟩] [] rfl rfl rfl (by kernel_rfl) rfl rfl rfl ⟨⟨_, rfl, [], rfl, by
  intro X_ Y_ F_ K_ hK_
  refine sh_ (mm22 w0 Z0 a0 a1 bx0 g1 j49b0_2 j49v0_1 j49x0_0 j49x0_1 r61 us0_0 v0_0 v0_1 v62) X_ Y_ ?_
  refine mv_ ?_
  refine al_nil ?_
  exact fr_fin hK_ ()⟩, ⟨_, rfl, [0], rfl, by
  intro _
  intro X_ Y_ F_ K_ hK_
  refine sh_ (mm22 w0 Z0 a0 a1 bx0 g1 j49b0_2 j49v0_1 j49x0_0 j49x0_1 r61 us0_0 v0_0 v0_1 v62) X_ Y_ ?_
  refine al_val (ov_nilCheckE hp55 rfl rfl) ?_
  refine al_nil ?_
  exact fr_fin hK_ ()⟩, ⟨_, rfl, [0, 1], rfl, by
  intro _
  intro _
  intro X_ Y_ F_ K_ hK_
  refine sh_ (mm22 w0 Z0 a0 a1 bx0 g1 j49b0_2 j49v0_1 j49x0_0 j49x0_1 r61 us0_0 v0_0 v0_1 v62) X_ Y_ ?_
  refine al_fieldR hp55 rfl Try.underlying71 rfl sz30 rfl rfl (fun p63 hp64 => ?_)
  refine al_nil ?_
  exact fr_fin hK_ ⟨p63, hp64⟩⟩, trivial⟩ ?_
 intro _
 intro _
 rintro ⟨p63, hp64⟩
 intro X_ Y_ F_ K_ hK_
 refine sh_ (mm22 w0 Z0 a0 a1 bx0 g1 j49b0_2 j49v0_1 j49x0_0 j49x0_1 r61 us0_0 v0_0 v0_1 v62) X_ Y_ ?_
 refine al_storeKidsK (k := (a1.From).toNat) (x2 := { (u52 : S_api_Thing) with Kids := r61 }) rfl hp64 (at_some hu53).2.2 ssethS_api_Thing_0 rfl (fun h => h) rfl rfl rfl sz30 rfl ?_
 refine sh_ (mm23 w0 Z0 a0 a1 bx0 g1 j49b0_2 j49v0_1 j49x0_0 j49x0_1 r61 u52 us0_0 v0_0 v0_1 v62) X_ Y_ ?_
 refine al_nil ?_
 refine aq_show (m := Mem.plus (mm23 w0 Z0 a0 a1 bx0 g1 j49b0_2 j49v0_1 j49x0_0 j49x0_1 r61 u52 us0_0 v0_0 v0_1 v62) X_ Y_) ?_
 refine aq_next hK_ [0, 1, 2, 3] [] [(0, (pq bx0))] [] [] rfl rfl (by decide) rfl ⟨rfl, trivial⟩ trivial ?_
 clear hK_ K_ F_ X_ Y_
 refine ta_show (m := (mm23 w0 Z0 a0 a1 bx0 g1 j49b0_2 j49v0_1 j49x0_0 j49x0_1 r61 u52 us0_0 v0_0 v0_1 v62)) (S := _) ?_
 refine ta_end [] [] rfl rfl (by kernel_rfl) rfl trivial ?_
 refine aq_show (m := (mm23 w0 Z0 a0 a1 bx0 g1 j49b0_2 j49v0_1 j49x0_0 j49x0_1 r61 u52 us0_0 v0_0 v0_1 v62)) (S := (tab [(0, (pq bx0))])) ?_
 refine aq_block ?_
 exact aq_join (v0_0, (j49x0_0.set (a1.From).toNat { (u52 : S_api_Thing) with Kids := r61 }), (us0_0.set (a1.From).toNat v62), j49v0_1, j49x0_1, j49b0_2) h (nm_ [0, 1, 2] [] (by decide) ⟨rfl, trivial⟩)
 clear hkk50
 refine aw_region_open [(sp_ 0 62 (pq bx0)), (sp_ 1 63 (ptr g1 1)), (sp_ 2 64 (iq a1.From))] (tab [(0, (pq bx0)), (3, (pq g1))]) mixed (fun a hs => hs.tab _ (allT_mem ⟨rfl, rfl, trivial⟩)) ?_
 refine ta_show (m := (mm24 w0 Z0 a0 a1 bx0 g1 us0_0 v0_0 v0_1)) (S := _) ?_
 refine ta_step 3 _ [0, 1, 2] [62, 63, 64] [0, 1, 2] [4, 5, 6, 7, 8, 9, 10, 11, 12, 13, 14, 15, 16, 17, 18, 19, 20, 21, 22, 23, 24, 25] [(sp_ 0 62 (pq bx0)), (sp_ 1 63 (ptr g1 1)), (sp_ 2 64 (iq a1.From))] [] rfl rfl rfl (by kernel_rfl) rfl rfl rfl ⟨⟨_, rfl, [], rfl, by
  intro X_ Y_ F_ K_ hK_
  refine sh_ (mm24 w0 Z0 a0 a1 bx0 g1 us0_0 v0_0 v0_1) X_ Y_ ?_
  refine mv_ ?_
  refine al_nil ?_
  exact fr_fin hK_ ()⟩, ⟨_, rfl, [], rfl, by
  intro X_ Y_ F_ K_ hK_
  refine sh_ (mm24 w0 Z0 a0 a1 bx0 g1 us0_0 v0_0 v0_1) X_ Y_ ?_
  refine al_val (ov_fieldA (p := 1) rfl Try.underlying40 rfl sz3 rfl rfl rfl) ?_
  refine al_nil ?_
  exact fr_fin hK_ ()⟩, ⟨_, rfl, [1], rfl, by
  intro _
  intro X_ Y_ F_ K_ hK_
  refine sh_ (mm24 w0 Z0 a0 a1 bx0 g1 us0_0 v0_0 v0_1) X_ Y_ ?_
  refine al_val (ov_load (i := 0) (v := (iq a1.From)) rfl rfl Try.underlying3 sz3 rfl rfl rfl rfl) ?_
  refine al_nil ?_
  exact fr_fin hK_ ()⟩, trivial⟩ ?_
 intro _
 intro _
 intro _
 intro X_ Y_ F_ K_ hK_
 refine sh_ (mm24 w0 Z0 a0 a1 bx0 g1 us0_0 v0_0 v0_1) X_ Y_ ?_
 obtain ⟨r66, hc65, h⟩ := opt_some h
 refine al_callX (vs := [(pq bx0), (iq a1.From)]) (f___sweep_heap__isLive_ok fu bx0 v0_0 us0_0 v0_1 a0 a1.From hc65) [] [1, 2, 3] [0] pre_nil rfl (by simp) (by decide) rfl (.inl rfl) rfl Try.func68 rfl rfl rfl (fun v67 => ?_)
 refine al_nil ?_
 rcases Bool.eq_false_or_eq_true (!r66.1) with hb68 | hb68
 replace h := bif_t hb68 h
 refine aq_show (m := Mem.plus (mm25 w0 Z0 a0 a1 bx0 g1 r66 us0_0 v0_0 v0_1 v67) X_ Y_) ?_
 refine aq_next hK_ [0, 1, 2, 3] [] [(0, (pq bx0)), (3, (pq g1)), (65, (bool r66.1))] [] [(sp_ 4 66 (bool (!r66.1))), (sp_ 5 67 (bool true)), (sp_ 6 68 undef), (sp_ 7 69 undef), (sp_ 8 70 undef), (sp_ 9 71 (bool true)), (sp_ 10 72 (bool true)), (sp_ 11 73 undef), (sp_ 12 74 undef), (sp_ 13 75 undef), (sp_ 14 76 undef), (sp_ 15 77 undef), (sp_ 16 78 undef), (sp_ 17 79 undef), (sp_ 18 80 undef), (sp_ 19 81 undef), (sp_ 20 82 undef), (sp_ 21 83 undef), (sp_ 22 84 undef), (sp_ 23 85 undef), (sp_ 24 86 undef), (sp_ 25 87 (bool true))] rfl rfl (by decide) rfl ⟨rfl, rfl, rfl, trivial⟩ trivial ?_
 clear hK_ K_ F_ X_ Y_
 refine ta_show (m := (mm25 w0 Z0 a0 a1 bx0 g1 r66 us0_0 v0_0 v0_1 v67)) (S := _) ?_
 refine ta_end [4, 5, 6, 7, 8, 9, 10, 11, 12, 13, 14, 15, 16, 17, 18, 19, 20, 21, 22, 23, 24, 25] [66, 67, 68, 69, 70, 71, 72, 73, 74, 75, 76, 77, 78, 79, 80, 81, 82, 83, 84, 85, 86, 87] rfl rfl (by kernel_rfl) rfl ⟨⟨_, rfl, [], rfl, by
  intro X_ Y_ F_ K_ hK_
  refine sh_ (mm25 w0 Z0 a0 a1 bx0 g1 r66 us0_0 v0_0 v0_1 v67) X_ Y_ ?_
  refine al_val (ov_not rfl rfl) ?_
  refine al_nil ?_
  exact fr_fin hK_ ()⟩, ⟨_, rfl, [0], rfl, by
  intro _
  intro X_ Y_ F_ K_ hK_
  refine sh_ (mm25 w0 Z0 a0 a1 bx0 g1 r66 us0_0 v0_0 v0_1 v67) X_ Y_ ?_
  refine al_val (ov_cast (by first | rw [hb68] | rfl) (ov_move rfl rfl)) ?_
  refine al_nil ?_
  exact fr_fin hK_ ()⟩, ⟨_, rfl, [1], rfl, by
  intro _
  intro X_ Y_ F_ K_ hK_
  refine sh_ (mm25 w0 Z0 a0 a1 bx0 g1 r66 us0_0 v0_0 v0_1 v67) X_ Y_ ?_
  refine al_skip ?_
  refine al_nil ?_
  exact fr_fin hK_ ()⟩, ⟨_, rfl, [1, 2], rfl, by
  intro _
  intro _
  intro X_ Y_ F_ K_ hK_
  refine sh_ (mm25 w0 Z0 a0 a1 bx0 g1 r66 us0_0 v0_0 v0_1 v67) X_ Y_ ?_
  refine al_skip ?_
  refine al_nil ?_
  exact fr_fin hK_ ()⟩, ⟨_, rfl, [1, 3], rfl, by
  intro _
  intro _
  intro X_ Y_ F_ K_ hK_
  refine sh_ (mm25 w0 Z0 a0 a1 bx0 g1 r66 us0_0 v0_0 v0_1 v67) X_ Y_ ?_
  refine al_skip ?_
  refine al_nil ?_
  exact fr_fin hK_ ()⟩, ⟨_, rfl, [1, 4], rfl, by
  intro _
  intro _
  intro X_ Y_ F_ K_ hK_
  refine sh_ (mm25 w0 Z0 a0 a1 bx0 g1 r66 us0_0 v0_0 v0_1 v67) X_ Y_ ?_
  refine al_val (ov_pick_t rfl rfl rfl) ?_
  refine al_nil ?_
  exact fr_fin hK_ ()⟩, ⟨_, rfl, [1, 5], rfl, by
  intro _
  intro _
  intro X_ Y_ F_ K_ hK_
  refine sh_ (mm25 w0 Z0 a0 a1 bx0 g1 r66 us0_0 v0_0 v0_1 v67) X_ Y_ ?_
  refine mv_ ?_
  refine al_nil ?_
  exact fr_fin hK_ ()⟩, ⟨_, rfl, [6], rfl, by
  intro _
  intro X_ Y_ F_ K_ hK_
  refine sh_ (mm25 w0 Z0 a0 a1 bx0 g1 r66 us0_0 v0_0 v0_1 v67) X_ Y_ ?_
  refine al_skip ?_
  refine al_nil ?_
  exact fr_fin hK_ ()⟩, ⟨_, rfl, [6, 7], rfl, by
  intro _
  intro _
  intro X_ Y_ F_ K_ hK_
  refine sh_ (mm25 w0 Z0 a0 a1 bx0 g1 r66 us0_0 v0_0 v0_1 v67) X_ Y_ ?_
  refine al_skip ?_
  refine al_nil ?_
  exact fr_fin hK_ ()⟩, ⟨_, rfl, [6], rfl, by
  intro _
  intro X_ Y_ F_ K_ hK_
  refine sh_ (mm25 w0 Z0 a0 a1 bx0 g1 r66 us0_0 v0_0 v0_1 v67) X_ Y_ ?_
  refine al_skip ?_
  refine al_nil ?_
  exact fr_fin hK_ ()⟩, ⟨_, rfl, [6, 9], rfl, by
  intro _
  intro _
  intro X_ Y_ F_ K_ hK_
  refine sh_ (mm25 w0 Z0 a0 a1 bx0 g1 r66 us0_0 v0_0 v0_1 v67) X_ Y_ ?_
  refine al_skip ?_
  refine al_nil ?_
  exact fr_fin hK_ ()⟩, ⟨_, rfl, [6, 10], rfl, by
  intro _
  intro _
  intro X_ Y_ F_ K_ hK_
  refine sh_ (mm25 w0 Z0 a0 a1 bx0 g1 r66 us0_0 v0_0 v0_1 v67) X_ Y_ ?_
  refine al_skip ?_
  refine al_nil ?_
  exact fr_fin hK_ ()⟩, ⟨_, rfl, [6, 11], rfl, by
  intro _
  intro _
  intro X_ Y_ F_ K_ hK_
  refine sh_ (mm25 w0 Z0 a0 a1 bx0 g1 r66 us0_0 v0_0 v0_1 v67) X_ Y_ ?_
  refine al_skip ?_
  refine al_nil ?_
  exact fr_fin hK_ ()⟩, ⟨_, rfl, [6, 12], rfl, by
  intro _
  intro _
  intro X_ Y_ F_ K_ hK_
  refine sh_ (mm25 w0 Z0 a0 a1 bx0 g1 r66 us0_0 v0_0 v0_1 v67) X_ Y_ ?_
  refine al_skip ?_
  refine al_nil ?_
  exact fr_fin hK_ ()⟩, ⟨_, rfl, [6], rfl, by
  intro _
  intro X_ Y_ F_ K_ hK_
  refine sh_ (mm25 w0 Z0 a0 a1 bx0 g1 r66 us0_0 v0_0 v0_1 v67) X_ Y_ ?_
  refine al_skip ?_
  refine al_nil ?_
  exact fr_fin hK_ ()⟩, ⟨_, rfl, [6, 14], rfl, by
  intro _
  intro _
  intro X_ Y_ F_ K_ hK_
  refine sh_ (mm25 w0 Z0 a0 a1 bx0 g1 r66 us0_0 v0_0 v0_1 v67) X_ Y_ ?_
  refine al_skip ?_
  refine al_nil ?_
  exact fr_fin hK_ ()⟩, ⟨_, rfl, [6, 13, 15], rfl, by
  intro _
  intro _
  intro _
  intro X_ Y_ F_ K_ hK_
  refine sh_ (mm25 w0 Z0 a0 a1 bx0 g1 r66 us0_0 v0_0 v0_1 v67) X_ Y_ ?_
  refine al_skip ?_
  refine al_nil ?_
  exact fr_fin hK_ ()⟩, ⟨_, rfl, [6, 16], rfl, by
  intro _
  intro _
  intro X_ Y_ F_ K_ hK_
  refine sh_ (mm25 w0 Z0 a0 a1 bx0 g1 r66 us0_0 v0_0 v0_1 v67) X_ Y_ ?_
  refine al_skip ?_
  refine al_nil ?_
  exact fr_fin hK_ ()⟩, ⟨_, rfl, [6, 17], rfl, by
  intro _
  intro _
  intro X_ Y_ F_ K_ hK_
  refine sh_ (mm25 w0 Z0 a0 a1 bx0 g1 r66 us0_0 v0_0 v0_1 v67) X_ Y_ ?_
  refine al_skip ?_
  refine al_nil ?_
  exact fr_fin hK_ ()⟩, ⟨_, rfl, [6, 18], rfl, by
  intro _
  intro _
  intro X_ Y_ F_ K_ hK_
  refine sh_ (mm25 w0 Z0 a0 a1 bx0 g1 r66 us0_0 v0_0 v0_1 v67) X_ Y_ ?_
  refine al_skip ?_
  refine al_nil ?_
  exact fr_fin hK_ ()⟩, ⟨_, rfl, [6, 8, 19], rfl, by
  intro _
  intro _
  intro _
  intro X_ Y_ F_ K_ hK_
  refine sh_ (mm25 w0 Z0 a0 a1 bx0 g1 r66 us0_0 v0_0 v0_1 v67) X_ Y_ ?_
  refine al_skip ?_
  refine al_nil ?_
  exact fr_fin hK_ ()⟩, ⟨_, rfl, [6, 20], rfl, by
  intro _
  intro _
  intro X_ Y_ F_ K_ hK_
  refine sh_ (mm25 w0 Z0 a0 a1 bx0 g1 r66 us0_0 v0_0 v0_1 v67) X_ Y_ ?_
  refine al_val (ov_pick_t rfl rfl rfl) ?_
  refine al_nil ?_
  exact fr_fin hK_ ()⟩, trivial⟩ ?_
 intro _
 intro _
 intro _
 intro _
 intro _
 intro _
 intro _
 intro _
 intro _
 intro _
 intro _
 intro _
 intro _
 intro _
 intro _
 intro _
 intro _
 intro _
 intro _
 intro _
 intro _
 intro _
 refine aq_show (m := (mm25 w0 Z0 a0 a1 bx0 g1 r66 us0_0 v0_0 v0_1 v67)) (S := (put (put (put (put (put (put (put (put (put (put (put (put (put (put (put (put (put (put (put (put (put (put (tab [(0, (pq bx0)), (3, (pq g1)), (65, (bool r66.1))]) 66 (bool (!r66.1))) 67 (bool true)) 68 undef) 69 undef) 70 undef) 71 (bool true)) 72 (bool true)) 73 undef) 74 undef) 75 undef) 76 undef) 77 undef) 78 undef) 79 undef) 80 undef) 81 undef) 82 undef) 83 undef) 84 undef) 85 undef) 86 undef) 87 (bool true))) ?_
 exact aq_join (r66.2.Things, v67, r66.2.Roots, r66.2.Busy, true) h (nm_ [1, 2, 0, 3] [] (by decide) ⟨rfl, rfl, rfl, trivial⟩)
 replace h := bif_f hb68 h
 rcases Bool.eq_false_or_eq_true (decide (a1.To < (0 : Int))) with hb69 | hb69
 replace h := bif_t hb69 h
 refine aq_show (m := Mem.plus (mm25 w0 Z0 a0 a1 bx0 g1 r66 us0_0 v0_0 v0_1 v67) X_ Y_) ?_
 refine aq_next hK_ [0, 1, 2, 3] [] [(0, (pq bx0)), (3, (pq g1)), (65, (bool r66.1))] [] [(sp_ 4 66 (bool (!r66.1))), (sp_ 5 67 (bool false)), (sp_ 6 68 (ptr g1 2)), (sp_ 7 69 (iq a1.To)), (sp_ 8 70 (bool (decide (a1.To < (0 : Int))))), (sp_ 9 71 (bool (decide (a1.To < (0 : Int))))), (sp_ 10 72 (bool true)), (sp_ 11 73 undef), (sp_ 12 74 undef), (sp_ 13 75 undef), (sp_ 14 76 undef), (sp_ 15 77 undef), (sp_ 16 78 undef), (sp_ 17 79 undef), (sp_ 18 80 undef), (sp_ 19 81 undef), (sp_ 20 82 undef), (sp_ 21 83 undef), (sp_ 22 84 undef), (sp_ 23 85 undef), (sp_ 24 86 undef), (sp_ 25 87 (bool true))] rfl rfl (by decide) rfl ⟨rfl, rfl, rfl, trivial⟩ trivial ?_
 clear hK_ K_ F_ X_ Y_
 refine ta_show (m := (mm25 w0 Z0 a0 a1 bx0 g1 r66 us0_0 v0_0 v0_1 v67)) (S := _) ?_
 refine ta_end [4, 5, 6, 7, 8, 9, 10, 11, 12, 13, 14, 15, 16, 17, 18, 19, 20, 21, 22, 23, 24, 25] [66, 67, 68, 69, 70, 71, 72, 73, 74, 75, 76, 77, 78, 79, 80, 81, 82, 83, 84, 85, 86, 87] rfl rfl (by kernel_rfl) rfl ⟨⟨_, rfl, [], rfl, by
  intro X_ Y_ F_ K_ hK_
  refine sh_ (mm25 w0 Z0 a0 a1 bx0 g1 r66 us0_0 v0_0 v0_1 v67) X_ Y_ ?_
  refine al_val (ov_not rfl rfl) ?_
  refine al_nil ?_
  exact fr_fin hK_ ()⟩, ⟨_, rfl, [0], rfl, by
  intro _
  intro X_ Y_ F_ K_ hK_
  refine sh_ (mm25 w0 Z0 a0 a1 bx0 g1 r66 us0_0 v0_0 v0_1 v67) X_ Y_ ?_
  refine al_val (ov_cast (by first | rw [hb68] | rfl) (ov_move rfl rfl)) ?_
  refine al_nil ?_
  exact fr_fin hK_ ()⟩, ⟨_, rfl, [1], rfl, by
  intro _
  intro X_ Y_ F_ K_ hK_
  refine sh_ (mm25 w0 Z0 a0 a1 bx0 g1 r66 us0_0 v0_0 v0_1 v67) X_ Y_ ?_
  refine al_val (ov_fieldA (p := 2) rfl Try.underlying40 rfl sz3 rfl rfl rfl) ?_
  refine al_nil ?_
  exact fr_fin hK_ ()⟩, ⟨_, rfl, [1, 2], rfl, by
  intro _
  intro _
  intro X_ Y_ F_ K_ hK_
  refine sh_ (mm25 w0 Z0 a0 a1 bx0 g1 r66 us0_0 v0_0 v0_1 v67) X_ Y_ ?_
  refine al_val (ov_load (i := 3) (v := (iq a1.To)) rfl rfl Try.underlying3 sz3 rfl rfl rfl rfl) ?_
  refine al_nil ?_
  exact fr_fin hK_ ()⟩, ⟨_, rfl, [1, 3], rfl, by
  intro _
  intro _
  intro X_ Y_ F_ K_ hK_
  refine sh_ (mm25 w0 Z0 a0 a1 bx0 g1 r66 us0_0 v0_0 v0_1 v67) X_ Y_ ?_
  refine in_ ?_
  refine al_nil ?_
  exact fr_fin hK_ ()⟩, ⟨_, rfl, [1, 4], rfl, by
  intro _
  intro _
  intro X_ Y_ F_ K_ hK_
  refine sh_ (mm25 w0 Z0 a0 a1 bx0 g1 r66 us0_0 v0_0 v0_1 v67) X_ Y_ ?_
  refine al_val (ov_pick_f rfl rfl rfl) ?_
  refine al_nil ?_
  exact fr_fin hK_ ()⟩, ⟨_, rfl, [1, 5], rfl, by
  intro _
  intro _
  intro X_ Y_ F_ K_ hK_
  refine sh_ (mm25 w0 Z0 a0 a1 bx0 g1 r66 us0_0 v0_0 v0_1 v67) X_ Y_ ?_
  refine al_val (ov_cast (by first | rw [hb69] | rfl) (ov_move rfl rfl)) ?_
  refine al_nil ?_
  exact fr_fin hK_ ()⟩, ⟨_, rfl, [6], rfl, by
  intro _
  intro X_ Y_ F_ K_ hK_
  refine sh_ (mm25 w0 Z0 a0 a1 bx0 g1 r66 us0_0 v0_0 v0_1 v67) X_ Y_ ?_
  refine al_skip ?_
  refine al_nil ?_
  exact fr_fin hK_ ()⟩, ⟨_, rfl, [6, 7], rfl, by
  intro _
  intro _
  intro X_ Y_ F_ K_ hK_
  refine sh_ (mm25 w0 Z0 a0 a1 bx0 g1 r66 us0_0 v0_0 v0_1 v67) X_ Y_ ?_
  refine al_skip ?_
  refine al_nil ?_
  exact fr_fin hK_ ()⟩, ⟨_, rfl, [6], rfl, by
  intro _
  intro X_ Y_ F_ K_ hK_
  refine sh_ (mm25 w0 Z0 a0 a1 bx0 g1 r66 us0_0 v0_0 v0_1 v67) X_ Y_ ?_
  refine al_skip ?_
  refine al_nil ?_
  exact fr_fin hK_ ()⟩, ⟨_, rfl, [6, 9], rfl, by
  intro _
  intro _
  intro X_ Y_ F_ K_ hK_
  refine sh_ (mm25 w0 Z0 a0 a1 bx0 g1 r66 us0_0 v0_0 v0_1 v67) X_ Y_ ?_
  refine al_skip ?_
  refine al_nil ?_
  exact fr_fin hK_ ()⟩, ⟨_, rfl, [6, 10], rfl, by
  intro _
  intro _
  intro X_ Y_ F_ K_ hK_
  refine sh_ (mm25 w0 Z0 a0 a1 bx0 g1 r66 us0_0 v0_0 v0_1 v67) X_ Y_ ?_
  refine al_skip ?_
  refine al_nil ?_
  exact fr_fin hK_ ()⟩, ⟨_, rfl, [6, 11], rfl, by
  intro _
  intro _
  intro X_ Y_ F_ K_ hK_
  refine sh_ (mm25 w0 Z0 a0 a1 bx0 g1 r66 us0_0 v0_0 v0_1 v67) X_ Y_ ?_
  refine al_skip ?_
  refine al_nil ?_
  exact fr_fin hK_ ()⟩, ⟨_, rfl, [6, 12], rfl, by
  intro _
  intro _
  intro X_ Y_ F_ K_ hK_
  refine sh_ (mm25 w0 Z0 a0 a1 bx0 g1 r66 us0_0 v0_0 v0_1 v67) X_ Y_ ?_
  refine al_skip ?_
  refine al_nil ?_
  exact fr_fin hK_ ()⟩, ⟨_, rfl, [6], rfl, by
  intro _
  intro X_ Y_ F_ K_ hK_
  refine sh_ (mm25 w0 Z0 a0 a1 bx0 g1 r66 us0_0 v0_0 v0_1 v67) X_ Y_ ?_
  refine al_skip ?_
  refine al_nil ?_
  exact fr_fin hK_ ()⟩, ⟨_, rfl, [6, 14], rfl, by
  intro _
  intro _
  intro X_ Y_ F_ K_ hK_
  refine sh_ (mm25 w0 Z0 a0 a1 bx0 g1 r66 us0_0 v0_0 v0_1 v67) X_ Y_ ?_
  refine al_skip ?_
  refine al_nil ?_
  exact fr_fin hK_ ()⟩, ⟨_, rfl, [6, 13, 15], rfl, by
  intro _
  intro _
  intro _
  intro X_ Y_ F_ K_ hK_
  refine sh_ (mm25 w0 Z0 a0 a1 bx0 g1 r66 us0_0 v0_0 v0_1 v67) X_ Y_ ?_
  refine al_skip ?_
  refine al_nil ?_
  exact fr_fin hK_ ()⟩, ⟨_, rfl, [6, 16], rfl, by
  intro _
  intro _
  intro X_ Y_ F_ K_ hK_
  refine sh_ (mm25 w0 Z0 a0 a1 bx0 g1 r66 us0_0 v0_0 v0_1 v67) X_ Y_ ?_
  refine al_skip ?_
  refine al_nil ?_
  exact fr_fin hK_ ()⟩, ⟨_, rfl, [6, 17], rfl, by
  intro _
  intro _
  intro X_ Y_ F_ K_ hK_
  refine sh_ (mm25 w0 Z0 a0 a1 bx0 g1 r66 us0_0 v0_0 v0_1 v67) X_ Y_ ?_
  refine al_skip ?_
  refine al_nil ?_
  exact fr_fin hK_ ()⟩, ⟨_, rfl, [6, 18], rfl, by
  intro _
  intro _
  intro X_ Y_ F_ K_ hK_
  refine sh_ (mm25 w0 Z0 a0 a1 bx0 g1 r66 us0_0 v0_0 v0_1 v67) X_ Y_ ?_
  refine al_skip ?_
  refine al_nil ?_
  exact fr_fin hK_ ()⟩, ⟨_, rfl, [6, 8, 19], rfl, by
  intro _
  intro _
  intro _
  intro X_ Y_ F_ K_ hK_
  refine sh_ (mm25 w0 Z0 a0 a1 bx0 g1 r66 us0_0 v0_0 v0_1 v67) X_ Y_ ?_
  refine al_skip ?_
  refine al_nil ?_
  exact fr_fin hK_ ()⟩, ⟨_, rfl, [6, 20], rfl, by
  intro _
  intro _
  intro X_ Y_ F_ K_ hK_
  refine sh_ (mm25 w0 Z0 a0 a1 bx0 g1 r66 us0_0 v0_0 v0_1 v67) X_ Y_ ?_
  refine al_val (ov_pick_t rfl rfl rfl) ?_
  refine al_nil ?_
  exact fr_fin hK_ ()⟩, trivial⟩ ?_
 intro _
 intro _
 intro _
 intro _
 intro _
 intro _
 intro _
 intro _
 intro _
 intro _
 intro _
 intro _
 intro _
 intro _
 intro _
 intro _
 intro _
 intro _
 intro _
 intro _
 intro _
 intro _
 refine aq_show (m := (mm25 w0 Z0 a0 a1 bx0 g1 r66 us0_0 v0_0 v0_1 v67)) (S := (put (put (put (put (put (put (put (put (put (put (put (put (put (put (put (put (put (put (put (put (put (put (tab [(0, (pq bx0)), (3, (pq g1)), (65, (bool r66.1))]) 66 (bool (!r66.1))) 67 (bool false)) 68 (ptr g1 2)) 69 (iq a1.To)) 70 (bool (decide (a1.To < (0 : Int))))) 71 (bool (decide (a1.To < (0 : Int))))) 72 (bool true)) 73 undef) 74 undef) 75 undef) 76 undef) 77 undef) 78 undef) 79 undef) 80 undef) 81 undef) 82 undef) 83 undef) 84 undef) 85 undef) 86 undef) 87 (bool true))) ?_
 exact aq_join (r66.2.Things, v67, r66.2.Roots, r66.2.Busy, true) h (nm_ [1, 2, 0, 3] [] (by decide) ⟨rfl, rfl, rfl, trivial⟩)
 replace h := bif_f hb69 h
 obtain ⟨u70, hu71, h⟩ := opt_some h
 refine aq_show (m := Mem.plus (mm25 w0 Z0 a0 a1 bx0 g1 r66 us0_0 v0_0 v0_1 v67) X_ Y_) ?_
 refine aq_next hK_ [0, 1, 2, 3] [] [(0, (pq bx0)), (3, (pq g1)), (65, (bool r66.1))] [] [(sp_ 4 66 (bool (!r66.1))), (sp_ 5 67 (bool false)), (sp_ 6 68 (ptr g1 2)), (sp_ 7 69 (iq a1.To)), (sp_ 8 70 (bool (decide (a1.To < (0 : Int))))), (sp_ 9 71 (bool (decide (a1.To < (0 : Int))))), (sp_ 10 72 (bool false)), (sp_ 11 73 (ptr g1 2)), (sp_ 12 74 (iq a1.To)), (sp_ 13 75 (pq bx0)), (sp_ 14 76 (pq bx0)), (sp_ 15 77 (pq bx0)), (sp_ 16 78 (pq bx0)), (sp_ 17 79 v0_0), (sp_ 18 80 (ptr g1 1)), (sp_ 19 81 (iq a1.From)), ⟨20, 82, {p : Value // EltOf v0_0 p ((a1.From).toNat * Ty.size tyhS_api_Thing)}, fun p => { val := p.1 }⟩, ⟨21, 83, {p : Value // EltOf v0_0 p ((a1.From).toNat * Ty.size tyhS_api_Thing + 0)}, fun p => { val := p.1 }⟩, ⟨22, 84, {u : Value // us0_0[(a1.From).toNat]? = some u}, fun u => { val := u.1 }⟩, (sp_ 23 85 (iq (u70.Kids.length : Int))), (sp_ 24 86 (bool (decide (a1.To ≥ (u70.Kids.length : Int))))), (sp_ 25 87 (bool (decide (a1.To ≥ (u70.Kids.length : Int)))))] rfl rfl (by decide) rfl ⟨rfl, rfl, rfl, trivial⟩ trivial ?_
 clear hK_ K_ F_ X_ Y_
 refine ta_show (m := (mm25 w0 Z0 a0 a1 bx0 g1 r66 us0_0 v0_0 v0_1 v67)) (S := _) ?_
 refine ta_end [4, 5, 6, 7, 8, 9, 10, 11, 12, 13, 14, 15, 16, 17, 18, 19, 20, 21, 22, 23, 24, 25] [66, 67, 68, 69, 70, 71, 72, 73, 74, 75, 76, 77, 78, 79, 80, 81, 82, 83, 84, 85, 86, 87] rfl rfl (by kernel_rfl) rfl ⟨⟨_, rfl, [], rfl, by
  intro X_ Y_ F_ K_ hK_
  refine sh_ (mm25 w0 Z0 a0 a1 bx0 g1 r66 us0_0 v0_0 v0_1 v67) X_ Y_ ?_
  refine al_val (ov_not rfl rfl) ?_
  refine al_nil ?_
  exact fr_fin hK_ ()⟩, ⟨_, rfl, [0], rfl, by
  intro _
  intro X_ Y_ F_ K_ hK_
  refine sh_ (mm25 w0 Z0 a0 a1 bx0 g1 r66 us0_0 v0_0 v0_1 v67) X_ Y_ ?_
  refine al_val (ov_cast (by first | rw [hb68] | rfl) (ov_move rfl rfl)) ?_
  refine al_nil ?_
  exact fr_fin hK_ ()⟩, ⟨_, rfl, [1], rfl, by
  intro _
  intro X_ Y_ F_ K_ hK_
  refine sh_ (mm25 w0 Z0 a0 a1 bx0 g1 r66 us0_0 v0_0 v0_1 v67) X_ Y_ ?_
  refine al_val (ov_fieldA (p := 2) rfl Try.underlying40 rfl sz3 rfl rfl rfl) ?_
  refine al_nil ?_
  exact fr_fin hK_ ()⟩, ⟨_, rfl, [1, 2], rfl, by
  intro _
  intro _
  intro X_ Y_ F_ K_ hK_
  refine sh_ (mm25 w0 Z0 a0 a1 bx0 g1 r66 us0_0 v0_0 v0_1 v67) X_ Y_ ?_
  refine al_val (ov_load (i := 3) (v := (iq a1.To)) rfl rfl Try.underlying3 sz3 rfl rfl rfl rfl) ?_
  refine al_nil ?_
  exact fr_fin hK_ ()⟩, ⟨_, rfl, [1, 3], rfl, by
  intro _
  intro _
  intro X_ Y_ F_ K_ hK_
  refine sh_ (mm25 w0 Z0 a0 a1 bx0 g1 r66 us0_0 v0_0 v0_1 v67) X_ Y_ ?_
  refine in_ ?_
  refine al_nil ?_
  exact fr_fin hK_ ()⟩, ⟨_, rfl, [1, 4], rfl, by
  intro _
  intro _
  intro X_ Y_ F_ K_ hK_
  refine sh_ (mm25 w0 Z0 a0 a1 bx0 g1 r66 us0_0 v0_0 v0_1 v67) X_ Y_ ?_
  refine al_val (ov_pick_f rfl rfl rfl) ?_
  refine al_nil ?_
  exact fr_fin hK_ ()⟩, ⟨_, rfl, [1, 5], rfl, by
  intro _
  intro _
  intro X_ Y_ F_ K_ hK_
  refine sh_ (mm25 w0 Z0 a0 a1 bx0 g1 r66 us0_0 v0_0 v0_1 v67) X_ Y_ ?_
  refine al_val (ov_cast (by first | rw [hb69] | rfl) (ov_move rfl rfl)) ?_
  refine al_nil ?_
  exact fr_fin hK_ ()⟩, ⟨_, rfl, [6], rfl, by
  intro _
  intro X_ Y_ F_ K_ hK_
  refine sh_ (mm25 w0 Z0 a0 a1 bx0 g1 r66 us0_0 v0_0 v0_1 v67) X_ Y_ ?_
  refine al_val (ov_fieldA (p := 2) rfl Try.underlying40 rfl sz3 rfl rfl rfl) ?_
  refine al_nil ?_
  exact fr_fin hK_ ()⟩, ⟨_, rfl, [6, 7], rfl, by
  intro _
  intro _
  intro X_ Y_ F_ K_ hK_
  refine sh_ (mm25 w0 Z0 a0 a1 bx0 g1 r66 us0_0 v0_0 v0_1 v67) X_ Y_ ?_
  refine al_val (ov_load (i := 3) (v := (iq a1.To)) rfl rfl Try.underlying3 sz3 rfl rfl rfl rfl) ?_
  refine al_nil ?_
  exact fr_fin hK_ ()⟩, ⟨_, rfl, [6], rfl, by
  intro _
  intro X_ Y_ F_ K_ hK_
  refine sh_ (mm25 w0 Z0 a0 a1 bx0 g1 r66 us0_0 v0_0 v0_1 v67) X_ Y_ ?_
  refine mv_ ?_
  refine al_nil ?_
  exact fr_fin hK_ ()⟩, ⟨_, rfl, [6, 9], rfl, by
  intro _
  intro _
  intro X_ Y_ F_ K_ hK_
  refine sh_ (mm25 w0 Z0 a0 a1 bx0 g1 r66 us0_0 v0_0 v0_1 v67) X_ Y_ ?_
  refine al_val (ov_nilCheck rfl rfl) ?_
  refine al_nil ?_
  exact fr_fin hK_ ()⟩, ⟨_, rfl, [6, 10], rfl, by
  intro _
  intro _
  intro X_ Y_ F_ K_ hK_
  refine sh_ (mm25 w0 Z0 a0 a1 bx0 g1 r66 us0_0 v0_0 v0_1 v67) X_ Y_ ?_
  refine al_val (ov_fieldA (p := 0) rfl Try.underlying77 rfl sz38 rfl rfl rfl) ?_
  refine al_nil ?_
  exact fr_fin hK_ ()⟩, ⟨_, rfl, [6, 11], rfl, by
  intro _
  intro _
  intro X_ Y_ F_ K_ hK_
  refine sh_ (mm25 w0 Z0 a0 a1 bx0 g1 r66 us0_0 v0_0 v0_1 v67) X_ Y_ ?_
  refine al_val (ov_fieldA (p := 0) rfl Try.underlying38 rfl sz36 rfl rfl rfl) ?_
  refine al_nil ?_
  exact fr_fin hK_ ()⟩, ⟨_, rfl, [6, 12], rfl, by
  intro _
  intro _
  intro X_ Y_ F_ K_ hK_
  refine sh_ (mm25 w0 Z0 a0 a1 bx0 g1 r66 us0_0 v0_0 v0_1 v67) X_ Y_ ?_
  refine al_val (ov_load (i := 0) (v := v0_0) rfl rfl Try.underlying36 sz36 rfl rfl rfl rfl) ?_
  refine al_nil ?_
  exact fr_fin hK_ ()⟩, ⟨_, rfl, [6], rfl, by
  intro _
  intro X_ Y_ F_ K_ hK_
  refine sh_ (mm25 w0 Z0 a0 a1 bx0 g1 r66 us0_0 v0_0 v0_1 v67) X_ Y_ ?_
  refine al_val (ov_fieldA (p := 1) rfl Try.underlying40 rfl sz3 rfl rfl rfl) ?_
  refine al_nil ?_
  exact fr_fin hK_ ()⟩, ⟨_, rfl, [6, 14], rfl, by
  intro _
  intro _
  intro X_ Y_ F_ K_ hK_
  refine sh_ (mm25 w0 Z0 a0 a1 bx0 g1 r66 us0_0 v0_0 v0_1 v67) X_ Y_ ?_
  refine al_val (ov_load (i := 3) (v := (iq a1.From)) rfl rfl Try.underlying3 sz3 rfl rfl rfl rfl) ?_
  refine al_nil ?_
  exact fr_fin hK_ ()⟩, ⟨_, rfl, [6, 13, 15], rfl, by
  intro _
  intro _
  intro _
  intro X_ Y_ F_ K_ hK_
  refine sh_ (mm25 w0 Z0 a0 a1 bx0 g1 r66 us0_0 v0_0 v0_1 v67) X_ Y_ ?_
  refine al_idxK (at_some hu71).1 (at_some hu71).2.1 (i := 1) rfl rfl rfl Try.underlying36 sz71 rfl (fun p72 hp73 => ?_)
  refine al_nil ?_
  exact fr_fin hK_ ⟨p72, hp73⟩⟩, ⟨_, rfl, [6, 16], rfl, by
  intro _
  rintro ⟨p72, hp73⟩
  intro X_ Y_ F_ K_ hK_
  refine sh_ (mm25 w0 Z0 a0 a1 bx0 g1 r66 us0_0 v0_0 v0_1 v67) X_ Y_ ?_
  refine al_fieldR hp73 rfl Try.underlying71 rfl sz30 rfl rfl (fun p74 hp75 => ?_)
  refine al_nil ?_
  exact fr_fin hK_ ⟨p74, hp75⟩⟩, ⟨_, rfl, [6, 17], rfl, by
  intro _
  rintro ⟨p74, hp75⟩
  intro X_ Y_ F_ K_ hK_
  refine sh_ (mm25 w0 Z0 a0 a1 bx0 g1 r66 us0_0 v0_0 v0_1 v67) X_ Y_ ?_
  refine al_loadKu 1 rfl hp75 (at_some hu71).2.2 subhS_api_Thing_0 rfl Try.underlying30 sz30 rfl rfl (fun s76 hs77 => ?_)
  refine al_nil ?_
  exact fr_fin hK_ ⟨s76, hs77⟩⟩, ⟨_, rfl, [6, 18], rfl, by
  intro _
  rintro ⟨s76, hs77⟩
  intro X_ Y_ F_ K_ hK_
  refine sh_ (mm25 w0 Z0 a0 a1 bx0 g1 r66 us0_0 v0_0 v0_1 v67) X_ Y_ ?_
  refine al_val (v := (iq (u70.Kids.length : Int))) (ov_lenKu 1 rfl hs77 (at_some hu71).2.2 rfl Try.underlying30 rfl) ?_
  refine al_nil ?_
  exact fr_fin hK_ ()⟩, ⟨_, rfl, [6, 8, 19], rfl, by
  intro _
  intro _
  intro _
  intro X_ Y_ F_ K_ hK_
  refine sh_ (mm25 w0 Z0 a0 a1 bx0 g1 r66 us0_0 v0_0 v0_1 v67) X_ Y_ ?_
  refine in_ ?_
  refine al_nil ?_
  exact fr_fin hK_ ()⟩, ⟨_, rfl, [6, 20], rfl, by
  intro _
  intro _
  intro X_ Y_ F_ K_ hK_
  refine sh_ (mm25 w0 Z0 a0 a1 bx0 g1 r66 us0_0 v0_0 v0_1 v67) X_ Y_ ?_
  refine al_val (ov_pick_f rfl rfl rfl) ?_
  refine al_nil ?_
  exact fr_fin hK_ ()⟩, trivial⟩ ?_
 intro _
 intro _
 intro _
 intro _
 intro _
 intro _
 intro _
 intro _
 intro _
 intro _
 intro _
 intro _
 intro _
 intro _
 intro _
 intro _
 rintro ⟨p72, hp73⟩
 rintro ⟨p74, hp75⟩
 rintro ⟨s76, hs77⟩
 intro _
 intro _
 intro _
 refine aq_show (m := (mm25 w0 Z0 a0 a1 bx0 g1 r66 us0_0 v0_0 v0_1 v67)) (S := (put (put (put (put (put (put (put (put (put (put (put (put (put (put (put (put (put (put (put (put (put (put (tab [(0, (pq bx0)), (3, (pq g1)), (65, (bool r66.1))]) 66 (bool (!r66.1))) 67 (bool false)) 68 (ptr g1 2)) 69 (iq a1.To)) 70 (bool (decide (a1.To < (0 : Int))))) 71 (bool (decide (a1.To < (0 : Int))))) 72 (bool false)) 73 (ptr g1 2)) 74 (iq a1.To)) 75 (pq bx0)) 76 (pq bx0)) 77 (pq bx0)) 78 (pq bx0)) 79 v0_0) 80 (ptr g1 1)) 81 (iq a1.From)) 82 p72) 83 p74) 84 s76) 85 (iq (u70.Kids.length : Int))) 86 (bool (decide (a1.To ≥ (u70.Kids.length : Int))))) 87 (bool (decide (a1.To ≥ (u70.Kids.length : Int)))))) ?_
 exact aq_join (r66.2.Things, v67, r66.2.Roots, r66.2.Busy, (decide (a1.To ≥ (u70.Kids.length : Int)))) h (nm_ [1, 2, 0, 3] [] (by decide) ⟨rfl, rfl, rfl, trivial⟩)
 replace h := bif_f hb48 h
 refine aw_sr ?_
 refine in_ ?_
 refine an_ ?_
 refine aw_cond rfl (fun hb78 => ?_) (fun hb78 => ?_)
 replace h := bif_t hb78 h
 refine aw_seq ?_
 refine sm_ ?_
 refine al_val (ov_fieldA (p := 2) rfl Try.underlying40 rfl sz3 rfl rfl rfl) ?_
 refine al_val (ov_load (i := 0) (v := (iq a1.To)) rfl rfl Try.underlying3 sz3 rfl rfl rfl rfl) ?_
 obtain ⟨r80, hc79, h⟩ := opt_some h
 refine al_call (vs := [(pq bx0), (iq a1.To)]) (f___sweep_heap__isLive_ok fu bx0 v0_0 us0_0 v0_1 a0 a1.To hc79) [] [1, 2, 3] [0] pre_nil rfl (by simp) (by decide) (.inl rfl) rfl Try.func68 rfl rfl rfl (fun v81 => ?_)
 refine al_val (ov_not rfl rfl) ?_
 refine al_nt ?_
 refine aw_cond rfl (fun hb82 => ?_) (fun hb82 => ?_)
 replace h := bif_t hb82 h
 refine aw_sr ?_
 refine an_ ?_
 refine aw_ret ?_
 refine aq_then_ret ?_
 refine aq_block_ret ?_
 refine aq_then_ret ?_
 cases h
 exact fn_ret (v0_0, us0_0, v81) [0, 1, 2] [] rfl rfl rfl rfl (res1 rfl rfl) rfl rfl rfl (by decide)
 replace h := bif_f hb82 h
 refine aw_skip ?_
 refine aq_tr ?_
 refine mv_ ?_
 refine al_val (ov_fieldA (p := 2) rfl Try.underlying40 rfl sz3 rfl rfl rfl) ?_
 refine al_val (ov_load (i := 3) (v := (iq a1.To)) rfl rfl Try.underlying3 sz3 rfl rfl rfl rfl) ?_
 obtain ⟨r84, hc83, h⟩ := opt_some h
 refine al_call (vs := [(pq bx0), (iq a1.To)]) (f___sweep_heap__root_ok fu bx0 v0_0 us0_0 v81 r80.2 a1.To hc83) [] [0, 1, 2] [3] pre_nil rfl (by simp) (by decide) (.inl rfl) rfl Try.func71 rfl rfl rfl (fun ⟨v85, us86, v87⟩ => ?_)
 refine an_ ?_
 refine aw_ret ?_
 refine aq_block_ret ?_
 refine aq_then_ret ?_
 cases h
 exact fn_ret (v85, us86, v87) [0, 1, 2] [] rfl rfl rfl rfl (res1 rfl rfl) rfl rfl rfl (by decide)
 replace h := bif_f hb78 h
 refine aw_sr ?_
 refine in_ ?_
 refine an_ ?_
 refine aw_cond rfl (fun hb88 => ?_) (fun hb88 => ?_)
 replace h := bif_t hb88 h
 refine aw_seq ?_
 obtain ⟨kk90, hkk90, h⟩ := lt_some h
 refine aw_seq_join (ι := Bool) (fun i => (mm26 w0 Z0 a0 a1 bx0 g1 us0_0 v0_0 v0_1)) (fun i => (tab [(0, (pq bx0)), (3, (pq g1)), (135, (bool i))])) (fun i => kk90 i = some r) ?_ ?_
 rintro j89b135 h
 have h : kk90 j89b135 = some r := h
 rw [hkk90] at h
 dsimp only at h
 clear hkk90
 refine aw_show (m := (mm26 w0 Z0 a0 a1 bx0 g1 us0_0 v0_0 v0_1)) (S := _) ?_
 refine aw_cond rfl (fun hb91 => ?_) (fun hb91 => ?_)
 replace h := bif_t hb91 h
 refine aw_sr ?_
 refine an_ ?_
 refine aw_ret ?_
 refine aq_then_ret ?_
 refine aq_block_ret ?_
 refine aq_then_ret ?_
 cases h
 exact fn_ret (v0_0, us0_0, v0_1) [2, 0, 1] [] rfl rfl rfl rfl (res1 rfl rfl) rfl rfl rfl (by decide)
 replace h := bif_f hb91 h
 refine aw_skip ?_
 refine aq_then ?_
 refine aw_region_open [(sp_ 0 136 (pq bx0)), (sp_ 1 137 (pq bx0)), (sp_ 2 138 (pq bx0)), (sp_ 3 139 (pq bx0)), (sp_ 4 140 (ptr bx0 1)), (sp_ 5 141 v0_1), (sp_ 6 142 (ptr g1 2)), (sp_ 7 143 (iq a1.To)), (sp_ 8 144 (ptr g1 2)), (sp_ 9 145 (iq a1.To)), (sp_ 10 146 (iq (wq (a1.To + (1 : Int)))))] (tab [(0, (pq bx0)), (3, (pq g1))]) mixed (fun a hs => hs.tab _ (allT_mem ⟨rfl, rfl, trivial⟩)) ?_
 refine ta_show (m := (mm26 w0 Z0 a0 a1 bx0 g1 us0_0 v0_0 v0_1)) (S := _) ?_
 refine ta_step 11 _ [0, 1, 2, 3, 4, 5, 6, 7, 8, 9, 10] [136, 137, 138, 139, 140, 141, 142, 143, 144, 145, 146] [1, 2, 3, 4, 5, 6, 7, 8, 9, 10] [12, 13, 14] [(sp_ 1 137 (pq bx0)), (sp_ 2 138 (pq bx0)), (sp_ 3 139 (pq bx0)), (sp_ 4 140 (ptr bx0 1)), (sp_ 5 141 v0_1), (sp_ 6 142 (ptr g1 2)), (sp_ 7 143 (iq a1.To)), (sp_ 8 144 (ptr g1 2)), (sp_ 9 145 (iq a1.To)), (sp_ 10 146 (iq (wq (a1.To + (1 : Int)))))] [(sp_ 0 136 (pq bx0))] rfl rfl rfl (by kernel_rfl) rfl rfl rfl ⟨⟨_, rfl, [], rfl, by
  intro X_ Y_ F_ K_ hK_
  refine sh_ (mm26 w0 Z0 a0 a1 bx0 g1 us0_0 v0_0 v0_1) X_ Y_ ?_
  refine mv_ ?_
  refine al_nil ?_
  exact fr_fin hK_ ()⟩, ⟨_, rfl, [], rfl, by
  intro X_ Y_ F_ K_ hK_
  refine sh_ (mm26 w0 Z0 a0 a1 bx0 g1 us0_0 v0_0 v0_1) X_ Y_ ?_
  refine mv_ ?_
  refine al_nil ?_
  exact fr_fin hK_ ()⟩, ⟨_, rfl, [1], rfl, by
  intro _
  intro X_ Y_ F_ K_ hK_
  refine sh_ (mm26 w0 Z0 a0 a1 bx0 g1 us0_0 v0_0 v0_1) X_ Y_ ?_
  refine al_val (ov_nilCheck rfl rfl) ?_
  refine al_nil ?_
  exact fr_fin hK_ ()⟩, ⟨_, rfl, [2], rfl, by
  intro _
  intro X_ Y_ F_ K_ hK_
  refine sh_ (mm26 w0 Z0 a0 a1 bx0 g1 us0_0 v0_0 v0_1) X_ Y_ ?_
  refine al_val (ov_fieldA (p := 0) rfl Try.underlying77 rfl sz38 rfl rfl rfl) ?_
  refine al_nil ?_
  exact fr_fin hK_ ()⟩, ⟨_, rfl, [3], rfl, by
  intro _
  intro X_ Y_ F_ K_ hK_
  refine sh_ (mm26 w0 Z0 a0 a1 bx0 g1 us0_0 v0_0 v0_1) X_ Y_ ?_
  refine al_val (ov_fieldA (p := 1) rfl Try.underlying38 rfl sz30 rfl rfl rfl) ?_
  refine al_nil ?_
  exact fr_fin hK_ ()⟩, ⟨_, rfl, [4], rfl, by
  intro _
  intro X_ Y_ F_ K_ hK_
  refine sh_ (mm26 w0 Z0 a0 a1 bx0 g1 us0_0 v0_0 v0_1) X_ Y_ ?_
  refine al_val (ov_load (i := 2) (v := v0_1) rfl rfl Try.underlying30 sz30 rfl rfl rfl rfl) ?_
  refine al_nil ?_
  exact fr_fin hK_ ()⟩, ⟨_, rfl, [], rfl, by
  intro X_ Y_ F_ K_ hK_
  refine sh_ (mm26 w0 Z0 a0 a1 bx0 g1 us0_0 v0_0 v0_1) X_ Y_ ?_
  refine al_val (ov_fieldA (p := 2) rfl Try.underlying40 rfl sz3 rfl rfl rfl) ?_
  refine al_nil ?_
  exact fr_fin hK_ ()⟩, ⟨_, rfl, [6], rfl, by
  intro _
  intro X_ Y_ F_ K_ hK_
  refine sh_ (mm26 w0 Z0 a0 a1 bx0 g1 us0_0 v0_0 v0_1) X_ Y_ ?_
  refine al_val (ov_load (i := 3) (v := (iq a1.To)) rfl rfl Try.underlying3 sz3 rfl rfl rfl rfl) ?_
  refine al_nil ?_
  exact fr_fin hK_ ()⟩, ⟨_, rfl, [], rfl, by
  intro X_ Y_ F_ K_ hK_
  refine sh_ (mm26 w0 Z0 a0 a1 bx0 g1 us0_0 v0_0 v0_1) X_ Y_ ?_
  refine al_val (ov_fieldA (p := 2) rfl Try.underlying40 rfl sz3 rfl rfl rfl) ?_
  refine al_nil ?_
  exact fr_fin hK_ ()⟩, ⟨_, rfl, [8], rfl, by
  intro _
  intro X_ Y_ F_ K_ hK_
  refine sh_ (mm26 w0 Z0 a0 a1 bx0 g1 us0_0 v0_0 v0_1) X_ Y_ ?_
  refine al_val (ov_load (i := 3) (v := (iq a1.To)) rfl rfl Try.underlying3 sz3 rfl rfl rfl rfl) ?_
  refine al_nil ?_
  exact fr_fin hK_ ()⟩, ⟨_, rfl, [9], rfl, by
  intro _
  intro X_ Y_ F_ K_ hK_
  refine sh_ (mm26 w0 Z0 a0 a1 bx0 g1 us0_0 v0_0 v0_1) X_ Y_ ?_
  refine in_ ?_
  refine al_nil ?_
  exact fr_fin hK_ ()⟩, trivial⟩ ?_
 intro _
 intro _
 intro _
 intro _
 intro _
 intro _
 intro _
 intro _
 intro _
 intro _
 intro X_ Y_ F_ K_ hK_
 refine sh_ (mm26 w0 Z0 a0 a1 bx0 g1 us0_0 v0_0 v0_1) X_ Y_ ?_
 obtain ⟨r93, hc92, h⟩ := opt_some h
 refine al_callX (vs := [v0_1, (iq a1.To), (iq (wq (a1.To + (1 : Int))))]) (f_slices_Delete_I_ok fu v0_1 a0.Roots a1.To (wq (a1.To + (1 : Int))) hc92) [] [1] [0, 2, 3] pre_nil rfl (by simp) (by decide) rfl (.inl rfl) rfl Try.func70 rfl rfl rfl (fun v94 => ?_)
 refine al_nil ?_
 refine aq_show (m := Mem.plus (mm27 w0 Z0 a0 a1 bx0 g1 r93 us0_0 v0_0 v0_1 v94) X_ Y_) ?_
 refine aq_next hK_ [0, 1, 2, 3] [] [(0, (pq bx0)), (147, v94)] [136] [(sp_ 12 148 (pq bx0)), (sp_ 13 149 (pq bx0)), (sp_ 14 150 (ptr bx0 1))] rfl rfl (by decide) rfl ⟨rfl, rfl, trivial⟩ ⟨rfl, trivial⟩ ?_
 clear hK_ K_ F_ X_ Y_
 refine ta_show (m := (mm27 w0 Z0 a0 a1 bx0 g1 r93 us0_0 v0_0 v0_1 v94)) (S := _) ?_
 refine ta_step 15 _ [0, 12, 13, 14] [136, 148, 149, 150] [0, 12, 13, 14] [] [(sp_ 0 136 (pq bx0)), (sp_ 12 148 (pq bx0)), (sp_ 13 149 (pq bx0)), (sp_ 14 150 (ptr bx0 1))] [] rfl rfl rfl (by kernel_rfl) rfl rfl rfl ⟨⟨_, rfl, [], rfl, by
  intro X_ Y_ F_ K_ hK_
  refine sh_ (mm27 w0 Z0 a0 a1 bx0 g1 r93 us0_0 v0_0 v0_1 v94) X_ Y_ ?_
  refine mv_ ?_
  refine al_nil ?_
  exact fr_fin hK_ ()⟩, ⟨_, rfl, [0], rfl, by
  intro _
  intro X_ Y_ F_ K_ hK_
  refine sh_ (mm27 w0 Z0 a0 a1 bx0 g1 r93 us0_0 v0_0 v0_1 v94) X_ Y_ ?_
  refine al_val (ov_nilCheck rfl rfl) ?_
  refine al_nil ?_
  exact fr_fin hK_ ()⟩, ⟨_, rfl, [0, 1], rfl, by
  intro _
  intro _
  intro X_ Y_ F_ K_ hK_
  refine sh_ (mm27 w0 Z0 a0 a1 bx0 g1 r93 us0_0 v0_0 v0_1 v94) X_ Y_ ?_
  refine al_val (ov_fieldA (p := 0) rfl Try.underlying77 rfl sz38 rfl rfl rfl) ?_
  refine al_nil ?_
  exact fr_fin hK_ ()⟩, ⟨_, rfl, [0, 2], rfl, by
  intro _
  intro _
  intro X_ Y_ F_ K_ hK_
  refine sh_ (mm27 w0 Z0 a0 a1 bx0 g1 r93 us0_0 v0_0 v0_1 v94) X_ Y_ ?_
  refine al_val (ov_fieldA (p := 1) rfl Try.underlying38 rfl sz30 rfl rfl rfl) ?_
  refine al_nil ?_
  exact fr_fin hK_ ()⟩, trivial⟩ ?_
 intro _
 intro _
 intro _
 intro _
 intro X_ Y_ F_ K_ hK_
 refine sh_ (mm27 w0 Z0 a0 a1 bx0 g1 r93 us0_0 v0_0 v0_1 v94) X_ Y_ ?_
 refine al_store (i := 2) (vs := [v94]) (cs' := [v0_0, v94, (bool a0.Busy)]) rfl rfl rfl sz30 (cv_own 0 rfl) rfl (co_own 0 rfl co_nil) (Nat.le_of_ble_eq_true rfl) rfl rfl ?_
 refine al_nil ?_
 refine aq_show (m := Mem.plus (mm28 w0 Z0 a0 a1 bx0 g1 r93 us0_0 v0_0 v0_1 v94) X_ Y_) ?_
 refine aq_next hK_ [0, 1, 2, 3] [] [(0, (pq bx0))] [] [] rfl rfl (by decide) rfl ⟨rfl, trivial⟩ trivial ?_
 clear hK_ K_ F_ X_ Y_
 refine ta_show (m := (mm28 w0 Z0 a0 a1 bx0 g1 r93 us0_0 v0_0 v0_1 v94)) (S := _) ?_
 refine ta_end [] [] rfl rfl (by kernel_rfl) rfl trivial ?_
 refine aq_show (m := (mm28 w0 Z0 a0 a1 bx0 g1 r93 us0_0 v0_0 v0_1 v94)) (S := (tab [(0, (pq bx0))])) ?_
 refine aq_block ?_
 exact aq_join (v0_0, a0.Things, us0_0, v94, r93, a0.Busy) h (nm_ [1, 0, 2] [] (by decide) ⟨rfl, trivial⟩)
 clear hkk90
 rcases Bool.eq_false_or_eq_true (decide (a1.To < (0 : Int))) with hb95 | hb95
 replace h := bif_t hb95 h
 refine aw_region_open [(sp_ 0 122 (ptr g1 2)), (sp_ 1 123 (iq a1.To)), (sp_ 2 124 (bool (decide (a1.To < (0 : Int))))), (sp_ 3 125 (bool true)), (sp_ 4 126 undef), (sp_ 5 127 undef), (sp_ 6 128 undef), (sp_ 7 129 undef), (sp_ 8 130 undef), (sp_ 9 131 undef), (sp_ 10 132 undef), (sp_ 11 133 undef), (sp_ 12 134 undef), (sp_ 13 135 (bool true))] (tab [(0, (pq bx0)), (3, (pq g1))]) mixed (fun a hs => hs.tab _ (allT_mem ⟨rfl, rfl, trivial⟩)) ?_
 refine ta_show (m := (mm24 w0 Z0 a0 a1 bx0 g1 us0_0 v0_0 v0_1)) (S := _) ?_
 refine ta_end [0, 1, 2, 3, 4, 5, 6, 7, 8, 9, 10, 11, 12, 13] [122, 123, 124, 125, 126, 127, 128, 129, 130, 131, 132, 133, 134, 135] rfl rfl (by kernel_rfl) rfl ⟨⟨_, rfl, [], rfl, by
  intro X_ Y_ F_ K_ hK_
  refine sh_ (mm24 w0 Z0 a0 a1 bx0 g1 us0_0 v0_0 v0_1) X_ Y_ ?_
  refine al_val (ov_fieldA (p := 2) rfl Try.underlying40 rfl sz3 rfl rfl rfl) ?_
  refine al_nil ?_
  exact fr_fin hK_ ()⟩, ⟨_, rfl, [0], rfl, by
  intro _
  intro X_ Y_ F_ K_ hK_
  refine sh_ (mm24 w0 Z0 a0 a1 bx0 g1 us0_0 v0_0 v0_1) X_ Y_ ?_
  refine al_val (ov_load (i := 0) (v := (iq a1.To)) rfl rfl Try.underlying3 sz3 rfl rfl rfl rfl) ?_
  refine al_nil ?_
  exact fr_fin hK_ ()⟩, ⟨_, rfl, [1], rfl, by
  intro _
  intro X_ Y_ F_ K_ hK_
  refine sh_ (mm24 w0 Z0 a0 a1 bx0 g1 us0_0 v0_0 v0_1) X_ Y_ ?_
  refine in_ ?_
  refine al_nil ?_
  exact fr_fin hK_ ()⟩, ⟨_, rfl, [2], rfl, by
  intro _
  intro X_ Y_ F_ K_ hK_
  refine sh_ (mm24 w0 Z0 a0 a1 bx0 g1 us0_0 v0_0 v0_1) X_ Y_ ?_
  refine al_val (ov_cast (by first | rw [hb95] | rfl) (ov_move rfl rfl)) ?_
  refine al_nil ?_
  exact fr_fin hK_ ()⟩, ⟨_, rfl, [3], rfl, by
  intro _
  intro X_ Y_ F_ K_ hK_
  refine sh_ (mm24 w0 Z0 a0 a1 bx0 g1 us0_0 v0_0 v0_1) X_ Y_ ?_
  refine al_skip ?_
  refine al_nil ?_
  exact fr_fin hK_ ()⟩, ⟨_, rfl, [3, 4], rfl, by
  intro _
  intro _
  intro X_ Y_ F_ K_ hK_
  refine sh_ (mm24 w0 Z0 a0 a1 bx0 g1 us0_0 v0_0 v0_1) X_ Y_ ?_
  refine al_skip ?_
  refine al_nil ?_
  exact fr_fin hK_ ()⟩, ⟨_, rfl, [3], rfl, by
  intro _
  intro X_ Y_ F_ K_ hK_
  refine sh_ (mm24 w0 Z0 a0 a1 bx0 g1 us0_0 v0_0 v0_1) X_ Y_ ?_
  refine al_skip ?_
  refine al_nil ?_
  exact fr_fin hK_ ()⟩, ⟨_, rfl, [3, 6], rfl, by
  intro _
  intro _
  intro X_ Y_ F_ K_ hK_
  refine sh_ (mm24 w0 Z0 a0 a1 bx0 g1 us0_0 v0_0 v0_1) X_ Y_ ?_
  refine al_skip ?_
  refine al_nil ?_
  exact fr_fin hK_ ()⟩, ⟨_, rfl, [3, 7], rfl, by
  intro _
  intro _
  intro X_ Y_ F_ K_ hK_
  refine sh_ (mm24 w0 Z0 a0 a1 bx0 g1 us0_0 v0_0 v0_1) X_ Y_ ?_
  refine al_skip ?_
  refine al_nil ?_
  exact fr_fin hK_ ()⟩, ⟨_, rfl, [3, 8], rfl, by
  intro _
  intro _
  intro X_ Y_ F_ K_ hK_
  refine sh_ (mm24 w0 Z0 a0 a1 bx0 g1 us0_0 v0_0 v0_1) X_ Y_ ?_
  refine al_skip ?_
  refine al_nil ?_
  exact fr_fin hK_ ()⟩, ⟨_, rfl, [3, 9], rfl, by
  intro _
  intro _
  intro X_ Y_ F_ K_ hK_
  refine sh_ (mm24 w0 Z0 a0 a1 bx0 g1 us0_0 v0_0 v0_1) X_ Y_ ?_
  refine al_skip ?_
  refine al_nil ?_
  exact fr_fin hK_ ()⟩, ⟨_, rfl, [3, 10], rfl, by
  intro _
  intro _
  intro X_ Y_ F_ K_ hK_
  refine sh_ (mm24 w0 Z0 a0 a1 bx0 g1 us0_0 v0_0 v0_1) X_ Y_ ?_
  refine al_skip ?_
  refine al_nil ?_
  exact fr_fin hK_ ()⟩, ⟨_, rfl, [3, 5, 11], rfl, by
  intro _
  intro _
  intro _
  intro X_ Y_ F_ K_ hK_
  refine sh_ (mm24 w0 Z0 a0 a1 bx0 g1 us0_0 v0_0 v0_1) X_ Y_ ?_
  refine al_skip ?_
  refine al_nil ?_
  exact fr_fin hK_ ()⟩, ⟨_, rfl, [3, 12], rfl, by
  intro _
  intro _
  intro X_ Y_ F_ K_ hK_
  refine sh_ (mm24 w0 Z0 a0 a1 bx0 g1 us0_0 v0_0 v0_1) X_ Y_ ?_
  refine al_val (ov_pick_t rfl rfl rfl) ?_
  refine al_nil ?_
  exact fr_fin hK_ ()⟩, trivial⟩ ?_
 intro _
 intro _
 intro _
 intro _
 intro _
 intro _
 intro _
 intro _
 intro _
 intro _
 intro _
 intro _
 intro _
 intro _
 refine aq_show (m := (mm24 w0 Z0 a0 a1 bx0 g1 us0_0 v0_0 v0_1)) (S := (put (put (put (put (put (put (put (put (put (put (put (put (put (put (tab [(0, (pq bx0)), (3, (pq g1))]) 122 (ptr g1 2)) 123 (iq a1.To)) 124 (bool (decide (a1.To < (0 : Int))))) 125 (bool true)) 126 undef) 127 undef) 128 undef) 129 undef) 130 undef) 131 undef) 132 undef) 133 undef) 134 undef) 135 (bool true))) ?_
 exact aq_join true h (nm_ [2, 3, 1, 0] [] (by decide) ⟨rfl, rfl, rfl, trivial⟩)
 replace h := bif_f hb95 h
 refine aw_region_open [(sp_ 0 122 (ptr g1 2)), (sp_ 1 123 (iq a1.To)), (sp_ 2 124 (bool (decide (a1.To < (0 : Int))))), (sp_ 3 125 (bool false)), (sp_ 4 126 (ptr g1 2)), (sp_ 5 127 (iq a1.To)), (sp_ 6 128 (pq bx0)), (sp_ 7 129 (pq bx0)), (sp_ 8 130 (pq bx0)), (sp_ 9 131 (ptr bx0 1)), (sp_ 10 132 v0_1), (sp_ 11 133 (iq (a0.Roots.length : Int))), (sp_ 12 134 (bool (decide (a1.To ≥ (a0.Roots.length : Int))))), (sp_ 13 135 (bool (decide (a1.To ≥ (a0.Roots.length : Int)))))] (tab [(0, (pq bx0)), (3, (pq g1))]) mixed (fun a hs => hs.tab _ (allT_mem ⟨rfl, rfl, trivial⟩)) ?_
 refine ta_show (m := (mm24 w0 Z0 a0 a1 bx0 g1 us0_0 v0_0 v0_1)) (S := _) ?_
 refine ta_end [0, 1, 2, 3, 4, 5, 6, 7, 8, 9, 10, 11, 12, 13] [122, 123, 124, 125, 126, 127, 128, 129, 130, 131, 132, 133, 134, 135] rfl rfl (by kernel_rfl) rfl ⟨⟨_, rfl, [], rfl, by
  intro X_ Y_ F_ K_ hK_
  refine sh_ (mm24 w0 Z0 a0 a1 bx0 g1 us0_0 v0_0 v0_1) X_ Y_ ?_
  refine al_val (ov_fieldA (p := 2) rfl Try.underlying40 rfl sz3 rfl rfl rfl) ?_
  refine al_nil ?_
  exact fr_fin hK_ ()⟩, ⟨_, rfl, [0], rfl, by
  intro _
  intro X_ Y_ F_ K_ hK_
  refine sh_ (mm24 w0 Z0 a0 a1 bx0 g1 us0_0 v0_0 v0_1) X_ Y_ ?_
  refine al_val (ov_load (i := 0) (v := (iq a1.To)) rfl rfl Try.underlying3 sz3 rfl rfl rfl rfl) ?_
  refine al_nil ?_
  exact fr_fin hK_ ()⟩, ⟨_, rfl, [1], rfl, by
  intro _
  intro X_ Y_ F_ K_ hK_
  refine sh_ (mm24 w0 Z0 a0 a1 bx0 g1 us0_0 v0_0 v0_1) X_ Y_ ?_
  refine in_ ?_
  refine al_nil ?_
  exact fr_fin hK_ ()⟩, ⟨_, rfl, [2], rfl, by
  intro _
  intro X_ Y_ F_ K_ hK_
  refine sh_ (mm24 w0 Z0 a0 a1 bx0 g1 us0_0 v0_0 v0_1) X_ Y_ ?_
  refine al_val (ov_cast (by first | rw [hb95] | rfl) (ov_move rfl rfl)) ?_
  refine al_nil ?_
  exact fr_fin hK_ ()⟩, ⟨_, rfl, [3], rfl, by
  intro _
  intro X_ Y_ F_ K_ hK_
  refine sh_ (mm24 w0 Z0 a0 a1 bx0 g1 us0_0 v0_0 v0_1) X_ Y_ ?_
  refine al_val (ov_fieldA (p := 2) rfl Try.underlying40 rfl sz3 rfl rfl rfl) ?_
  refine al_nil ?_
  exact fr_fin hK_ ()⟩, ⟨_, rfl, [3, 4], rfl, by
  intro _
  intro _
  intro X_ Y_ F_ K_ hK_
  refine sh_ (mm24 w0 Z0 a0 a1 bx0 g1 us0_0 v0_0 v0_1) X_ Y_ ?_
  refine al_val (ov_load (i := 0) (v := (iq a1.To)) rfl rfl Try.underlying3 sz3 rfl rfl rfl rfl) ?_
  refine al_nil ?_
  exact fr_fin hK_ ()⟩, ⟨_, rfl, [3], rfl, by
  intro _
  intro X_ Y_ F_ K_ hK_
  refine sh_ (mm24 w0 Z0 a0 a1 bx0 g1 us0_0 v0_0 v0_1) X_ Y_ ?_
  refine mv_ ?_
  refine al_nil ?_
  exact fr_fin hK_ ()⟩, ⟨_, rfl, [3, 6], rfl, by
  intro _
  intro _
  intro X_ Y_ F_ K_ hK_
  refine sh_ (mm24 w0 Z0 a0 a1 bx0 g1 us0_0 v0_0 v0_1) X_ Y_ ?_
  refine al_val (ov_nilCheck rfl rfl) ?_
  refine al_nil ?_
  exact fr_fin hK_ ()⟩, ⟨_, rfl, [3, 7], rfl, by
  intro _
  intro _
  intro X_ Y_ F_ K_ hK_
  refine sh_ (mm24 w0 Z0 a0 a1 bx0 g1 us0_0 v0_0 v0_1) X_ Y_ ?_
  refine al_val (ov_fieldA (p := 0) rfl Try.underlying77 rfl sz38 rfl rfl rfl) ?_
  refine al_nil ?_
  exact fr_fin hK_ ()⟩, ⟨_, rfl, [3, 8], rfl, by
  intro _
  intro _
  intro X_ Y_ F_ K_ hK_
  refine sh_ (mm24 w0 Z0 a0 a1 bx0 g1 us0_0 v0_0 v0_1) X_ Y_ ?_
  refine al_val (ov_fieldA (p := 1) rfl Try.underlying38 rfl sz30 rfl rfl rfl) ?_
  refine al_nil ?_
  exact fr_fin hK_ ()⟩, ⟨_, rfl, [3, 9], rfl, by
  intro _
  intro _
  intro X_ Y_ F_ K_ hK_
  refine sh_ (mm24 w0 Z0 a0 a1 bx0 g1 us0_0 v0_0 v0_1) X_ Y_ ?_
  refine al_val (ov_load (i := 1) (v := v0_1) rfl rfl Try.underlying30 sz30 rfl rfl rfl rfl) ?_
  refine al_nil ?_
  exact fr_fin hK_ ()⟩, ⟨_, rfl, [3, 10], rfl, by
  intro _
  intro _
  intro X_ Y_ F_ K_ hK_
  refine sh_ (mm24 w0 Z0 a0 a1 bx0 g1 us0_0 v0_0 v0_1) X_ Y_ ?_
  refine al_val (ov_lenR 3 rfl rfl Try.underlying30 rfl) ?_
  refine al_nil ?_
  exact fr_fin hK_ ()⟩, ⟨_, rfl, [3, 5, 11], rfl, by
  intro _
  intro _
  intro _
  intro X_ Y_ F_ K_ hK_
  refine sh_ (mm24 w0 Z0 a0 a1 bx0 g1 us0_0 v0_0 v0_1) X_ Y_ ?_
  refine in_ ?_
  refine al_nil ?_
  exact fr_fin hK_ ()⟩, ⟨_, rfl, [3, 12], rfl, by
  intro _
  intro _
  intro X_ Y_ F_ K_ hK_
  refine sh_ (mm24 w0 Z0 a0 a1 bx0 g1 us0_0 v0_0 v0_1) X_ Y_ ?_
  refine al_val (ov_pick_f rfl rfl rfl) ?_
  refine al_nil ?_
  exact fr_fin hK_ ()⟩, trivial⟩ ?_
 intro _
 intro _
 intro _
 intro _
 intro _
 intro _
 intro _
 intro _
 intro _
 intro _
 intro _
 intro _
 intro _
 intro _
 refine aq_show (m := (mm24 w0 Z0 a0 a1 bx0 g1 us0_0 v0_0 v0_1)) (S := (put (put (put (put (put (put (put (put (put (put (put (put (put (put (tab [(0, (pq bx0)), (3, (pq g1))]) 122 (ptr g1 2)) 123 (iq a1.To)) 124 (bool (decide (a1.To < (0 : Int))))) 125 (bool false)) 126 (ptr g1 2)) 127 (iq a1.To)) 128 (pq bx0)) 129 (pq bx0)) 130 (pq bx0)) 131 (ptr bx0 1)) 132 v0_1) 133 (iq (a0.Roots.length : Int))) 134 (bool (decide (a1.To ≥ (a0.Roots.length : Int))))) 135 (bool (decide (a1.To ≥ (a0.Roots.length : Int)))))) ?_
 exact aq_join (decide (a1.To ≥ (a0.Roots.length : Int))) h (nm_ [2, 3, 1, 0] [] (by decide) ⟨rfl, rfl, rfl, trivial⟩)
 replace h := bif_f hb88 h
 refine aw_sr ?_
 refine an_ ?_
 refine aw_ret ?_
 refine aq_block_ret ?_
 refine aq_then_ret ?_
 cases h
 exact fn_ret (v0_0, us0_0, v0_1) [1, 2, 3] [] rfl rfl rfl rfl (res1 rfl rfl) rfl rfl rfl (by decide)
def f_sweep_Do (fu : Nat) (a0 : S_api_Heap) (a1 : S_api_Act) : Option (S_api_Heap × Int) := (opt (f_sweep_Check fu a0) fun (r5 : Int) => (bif (r5 != (0 : Int)) then (some ((S_api_Heap.mk ([] : (List S_api_Thing)) ([] : (List Int)) false), r5)) else (opt (f_sweep_copyOf fu a0) fun (r8 : D_sweep_heap) => (opt (f___sweep_heap__act fu r8 a1) fun (r14 : (Int × D_sweep_heap)) => (bif (r14.1 != (0 : Int)) then (some ((S_api_Heap.mk ([] : (List S_api_Thing)) ([] : (List Int)) false), r14.1)) else (some ((S_api_Heap.mk r14.2.Things r14.2.Roots r14.2.Busy), (0 : Int))))))))
set_option maxHeartbeats 2000000 in
set_option maxRecDepth 100000 in
theorem f_sweep_Do_ok (fu : Nat) (v0_0 : Value) (v0_1 : Value) (a0 : S_api_Heap) (a1 : S_api_Act) {r : (S_api_Heap × Int)} (h : f_sweep_Do fu a0 a1 = some r) : FnOk Try.prog 11 [(ag [v0_0, v0_1, (bool a0.Busy)]), (ag [(int .i64 a1.Kind), (int .i64 a1.From), (int .i64 a1.To)])] [(fDat (tyList tyS_api_Thing) [v0_0] a0.Things), (fDat (tyList (tyInt .i64)) [v0_1] a0.Roots)] [] (fun (i : Value × Value) => { val := (Value.tuple #[(ag [i.1, i.2, (bool r.1.Busy)]), (int .i64 r.2)]), fz := [(fDat (tyList tyS_api_Thing) [i.1] r.1.Things), (fDat (tyList (tyInt .i64)) [i.2] r.1.Roots)] }) := by
 unfold f_sweep_Do at h
 refine fn_enter Try.func11 rfl Try.ntmps11 rfl (fun w0 Z0 => ?_)
 refine aw_sr ?_
 refine al_box (vs := [v0_0, v0_1, (bool a0.Busy)]) rfl (cv_rfl rfl) rfl (fun g1 => ?_)
 refine al_box (vs := [(iq a1.Kind), (iq a1.From), (iq a1.To)]) rfl (cv_rfl rfl) rfl (fun g2 => ?_)
 refine al_alloc (zs := [nS, nS, (bool false)]) (zeroOf_to to38) rfl rfl (fun g3 => ?_)
 refine an_ ?_
 refine aw_seq ?_
 refine aw_sr ?_
 refine al_val (ov_load (i := 2) (v := (ag [v0_0, v0_1, (bool a0.Busy)])) rfl rfl Try.underlying38 sz38 rfl rfl rfl rfl) ?_
 obtain ⟨r5, hc4, h⟩ := opt_some h
 refine al_call (vs := [(ag [v0_0, v0_1, (bool a0.Busy)])]) (f_sweep_Check_ok fu v0_0 v0_1 a0 hc4) [] [] [0, 1, 2] (pre_fz 0 rfl (pre_fz 1 rfl pre_nil)) rfl (by simp) (by decide) (.inl rfl) rfl Try.func13 rfl rfl rfl (fun _ => ?_)
 refine an_ ?_
 refine sm_ ?_
 refine im_ ?_
 refine aw_cond rfl (fun hb6 => ?_) (fun hb6 => ?_)
 replace h := bif_t hb6 h
 refine aw_sr ?_
 refine al_val (ov_build (cells := ([nS, nS, (bool false)] : List Value).toArray) (cs := [nS, nS, (bool false)]) rfl (fun w a hm hs => by simp only [List.map_toArray, List.map_cons, List.map_nil, List.toList_toArray]; kernel_rfl)) ?_
 refine mv_ ?_
 refine al_store (i := 0) (vs := [nS, nS, (bool false)]) (cs' := [nS, nS, (bool false)]) rfl rfl rfl sz38 (cv_rfl rfl) rfl (co_val rfl (co_val rfl (co_val rfl co_nil))) (Nat.le_of_ble_eq_true rfl) rfl rfl ?_
 refine an_ ?_
 refine aw_ret ?_
 refine aq_then_ret ?_
 refine aq_nilD tyS_api_Thing ?_
 refine aq_nilD tq ?_
 cases h
 exact fn_ret (nS, nS) [] [1, 0] rfl rfl rfl rfl (resC rfl (resB (i := 0) rfl rfl Try.underlying38 sz38 rfl rfl rfl (resT rfl (resN))) rfl) rfl rfl rfl (by decide)
 replace h := bif_f hb6 h
 refine aw_skip ?_
 refine aq_tr ?_
 refine al_val (ov_load (i := 2) (v := (ag [v0_0, v0_1, (bool a0.Busy)])) rfl rfl Try.underlying38 sz38 rfl rfl rfl rfl) ?_
 obtain ⟨r8, hc7, h⟩ := opt_some h
 refine al_call (vs := [(ag [v0_0, v0_1, (bool a0.Busy)])]) (f_sweep_copyOf_ok fu v0_0 v0_1 a0 hc7) [] [] [0, 1, 2] (pre_fz 0 rfl (pre_fz 1 rfl pre_nil)) rfl (by simp) (by decide) (.inl rfl) rfl Try.func35 rfl rfl rfl (fun ⟨g9, v10, us11, v12⟩ => ?_)
 refine an_ ?_
 refine aw_seq ?_
 refine sm_ ?_
 refine al_val (ov_load (i := 4) (v := (ag [(iq a1.Kind), (iq a1.From), (iq a1.To)])) rfl rfl Try.underlying40 sz40 rfl rfl rfl rfl) ?_
 obtain ⟨r14, hc13, h⟩ := opt_some h
 refine al_call (vs := [(pq g9), (ag [(iq a1.Kind), (iq a1.From), (iq a1.To)])]) (f___sweep_heap__act_ok fu g9 v10 us11 v12 r8 a1 hc13) [] [0, 1, 2] [3, 4, 5] pre_nil rfl (by simp) (by decide) (.inl rfl) rfl Try.func36 rfl rfl rfl (fun ⟨v15, us16, v17⟩ => ?_)
 refine an_ ?_
 refine sm_ ?_
 refine im_ ?_
 refine aw_cond rfl (fun hb18 => ?_) (fun hb18 => ?_)
 replace h := bif_t hb18 h
 refine aw_sr ?_
 refine al_val (ov_build (cells := ([nS, nS, (bool false)] : List Value).toArray) (cs := [nS, nS, (bool false)]) rfl (fun w a hm hs => by simp only [List.map_toArray, List.map_cons, List.map_nil, List.toList_toArray]; kernel_rfl)) ?_
 refine mv_ ?_
 refine al_store (i := 3) (vs := [nS, nS, (bool false)]) (cs' := [nS, nS, (bool false)]) rfl rfl rfl sz38 (cv_rfl rfl) rfl (co_val rfl (co_val rfl (co_val rfl co_nil))) (Nat.le_of_ble_eq_true rfl) rfl rfl ?_
 refine an_ ?_
 refine aw_ret ?_
 refine aq_then_ret ?_
 refine aq_nilD tyS_api_Thing ?_
 refine aq_nilD tq ?_
 cases h
 exact fn_ret (nS, nS) [] [1, 0] rfl rfl rfl rfl (resC rfl (resB (i := 3) rfl rfl Try.underlying38 sz38 rfl rfl rfl (resT rfl (resN))) rfl) rfl rfl rfl (by decide)
 replace h := bif_f hb18 h
 refine aw_skip ?_
 refine aq_tr ?_
 refine mv_ ?_
 refine al_val (ov_nilCheck rfl rfl) ?_
 refine al_val (ov_fieldA (p := 0) rfl Try.underlying77 rfl sz38 rfl rfl rfl) ?_
 refine al_val (ov_load (i := 0) (v := (ag [v15, v17, (bool r14.2.Busy)])) rfl rfl Try.underlying38 sz38 rfl rfl rfl rfl) ?_
 refine al_store (i := 3) (vs := [v15, v17, (bool r14.2.Busy)]) (cs' := [v15, v17, (bool r14.2.Busy)]) rfl rfl rfl sz38 (cv_rfl rfl) rfl (co_kids 1 rfl (co_own 2 rfl (co_val rfl co_nil))) (Nat.le_of_ble_eq_true rfl) rfl rfl ?_
 refine an_ ?_
 refine aw_ret ?_
 refine aq_reo [1, 0, 2, 3, 4, 5] (by decide) ?_
 refine aq_freezeK [] rfl (fun p q => shS_api_Thing p q) rfl rfl rfl ?_
 refine aq_freeze 1 rfl rfl ?_
 cases h
 exact fn_ret (v15, v17) [] [1, 0] rfl rfl rfl rfl (resC rfl (resB (i := 1) rfl rfl Try.underlying38 sz38 rfl rfl rfl (resT rfl (resN))) rfl) rfl rfl rfl (by decide)
def f_lumref_reached_L27 (l14i31 : Int) (kk20 : ((List Bool) → Option (List Bool))) (u21 : (List Int)) : Nat → (List Bool) → Int → Option (List Bool)
  | 0, _, _ => none
  | k26 + 1, l25x5, l25i38 => (bif (decide (l25i38 < (u21.length : Int))) then (lt (fun (j29x5 : (List Bool)) => (f_lumref_reached_L27 l14i31 kk20 u21 k26 j29x5 (IntKind.i64.wrap (l25i38 + (1 : Int))))) fun (kk30 : (List Bool) → Option (List Bool)) => (opt (at? u21 l25i38) fun (u31 : Int) => (opt (at? l25x5 l14i31) fun (u34 : Bool) => (bif u34 then (opt (at? l25x5 u31) fun (u39 : Bool) => (kk30 (l25x5.set (u31).toNat true))) else (kk30 l25x5))))) else (kk20 l25x5))
def f_lumref_reached_L16 (a0 : (List (List Int))) (kk13 : ((List Bool) → Option (List Bool))) (fu : Nat) : Nat → (List Bool) → Int → Option (List Bool)
  | 0, _, _ => none
  | k15 + 1, l14x5, l14i31 => (lt (fun (l14x5 : (List Bool)) (l14i31 : Int) => (f_lumref_reached_L16 a0 kk13 fu k15 l14x5 l14i31)) fun (kk17 : (List Bool) → Int → Option (List Bool)) => (bif (decide (l14i31 < (a0.length : Int))) then (lt (fun (j19x5 : (List Bool)) => (kk17 j19x5 (IntKind.i64.wrap (l14i31 + (1 : Int))))) fun (kk20 : (List Bool) → Option (List Bool)) => (opt (at? a0 l14i31) fun (u21 : (List Int)) => (f_lumref_reached_L27 l14i31 kk20 u21 fu l14x5 (0 : Int)))) else (kk13 l14x5)))
def f_lumref_reached_L9 (a0 : (List (List Int))) (kk6 : ((List Bool) → Option (List Bool))) (fu : Nat) : Nat → (List Bool) → Int → Option (List Bool)
  | 0, _, _ => none
  | k8 + 1, l7x5, l7i27 => (lt (fun (l7x5 : (List Bool)) (l7i27 : Int) => (f_lumref_reached_L9 a0 kk6 fu k8 l7x5 l7i27)) fun (kk10 : (List Bool) → Int → Option (List Bool)) => (bif (decide (l7i27 < (a0.length : Int))) then (lt (fun (j12x5 : (List Bool)) => (kk10 j12x5 (IntKind.i64.wrap (l7i27 + (1 : Int))))) fun (kk13 : (List Bool) → Option (List Bool)) => (f_lumref_reached_L16 a0 kk13 fu fu l7x5 (0 : Int))) else (kk6 l7x5)))
def f_lumref_reached_L45 (a1 : (List Int)) (kk4 : ((List Bool) → Option (List Bool))) : Nat → (List Bool) → Int → Option (List Bool)
  | 0, _, _ => none
  | k44 + 1, l43x5, l43i17 => (bif (decide (l43i17 < (a1.length : Int))) then (opt (at? a1 l43i17) fun (u47 : Int) => (opt (at? l43x5 u47) fun (u50 : Bool) => (f_lumref_reached_L45 a1 kk4 k44 (l43x5.set (u47).toNat true) (IntKind.i64.wrap (l43i17 + (1 : Int)))))) else (kk4 l43x5))
def f_lumref_reached (fu : Nat) (a0 : (List (List Int))) (a1 : (List Int)) : Option (List Bool) := (req (0 ≤ (a0.length : Int) ∧ 1 * (a0.length : Int) ≤ 281474976710656 ∧ (a0.length : Int) ≤ 9223372036854775807) (lt (fun (j3x5 : (List Bool)) => (lt (fun (j5x5 : (List Bool)) => (some j5x5)) fun (kk6 : (List Bool) → Option (List Bool)) => (f_lumref_reached_L9 a0 kk6 fu fu j3x5 (0 : Int)))) fun (kk4 : (List Bool) → Option (List Bool)) => (f_lumref_reached_L45 a1 kk4 fu (List.replicate ((a0.length : Int)).toNat false) (0 : Int))))
set_option maxRecDepth 100000 in
set_option maxHeartbeats 2000000 in
set_option maxHeartbeats 2000000 in
theorem f_lumref_reached_ok (fu : Nat) (v0_0 : Value) (a0 : (List (List Int))) (v1_0 : Value) (a1 : (List Int)) {r : (List Bool)} (h : f_lumref_reached fu a0 a1 = some r) : FnOk Try.prog 51 [v0_0, v1_0] [(fDat (tyList (tyList (tyInt .i64))) [v0_0] a0), (fDat (tyList (tyInt .i64)) [v1_0] a1)] [] (fun (i : Value) => { val := i, own := [(oRow i 4 tyBool r)] }) := by
 unfold f_lumref_reached at h
 refine fn_enter Try.func51 rfl Try.ntmps51 rfl (fun w0 Z0 => ?_)
 refine aw_sr ?_
 refine an_ ?_
 refine sm_ ?_
 refine al_val (ov_lenD 0 rfl rfl Try.underlying90 rfl) ?_
 obtain ⟨hc1, h⟩ := req_some h
 refine al_make (τ := tyBool) (x0 := false) hc1.1 hc1.2.1 hc1.2.2 rfl rfl Try.underlying42 to4 (fun _ _ => rfl) rfl rfl (fun v2 => ?_)
 refine an_ ?_
 obtain ⟨kk4, hkk4, h⟩ := lt_some h
 refine aw_seq_join (ι := (List Bool)) (fun i => (memOf w0 Z0 [] [(oRow v2 4 tyBool i)] [(fDat (tyList (tyList tq)) [v0_0] a0), (fDat (tyList tq) [v1_0] a1)])) (fun i => (tab [(0, v0_0), (5, v2)])) (fun i => kk4 i = some r) ?_ ?_
 rintro j3x5 h
 have h : kk4 j3x5 = some r := h
 rw [hkk4] at h
 dsimp only at h
 clear hkk4
 refine aw_show (m := (memOf w0 Z0 [] [(oRow v2 4 tyBool j3x5)] [(fDat (tyList (tyList tq)) [v0_0] a0), (fDat (tyList tq) [v1_0] a1)])) (S := _) ?_
 obtain ⟨kk6, hkk6, h⟩ := lt_some h
 refine aw_seq_join (ι := (List Bool)) (fun i => (memOf w0 Z0 [] [(oRow v2 4 tyBool i)] [(fDat (tyList (tyList tq)) [v0_0] a0), (fDat (tyList tq) [v1_0] a1)])) (fun i => (tab [(5, v2)])) (fun i => kk6 i = some r) ?_ ?_
 rintro j5x5 h
 have h : kk6 j5x5 = some r := h
 rw [hkk6] at h
 dsimp only at h
 clear hkk6
 refine aw_show (m := (memOf w0 Z0 [] [(oRow v2 4 tyBool j5x5)] [(fDat (tyList (tyList tq)) [v0_0] a0), (fDat (tyList tq) [v1_0] a1)])) (S := _) ?_
 refine sm_ ?_
 refine an_ ?_
 refine aw_ret ?_
 cases h
 exact fn_ret v2 [0] [] rfl rfl rfl rfl (res1 rfl rfl) rfl rfl rfl (by decide)
 clear hkk6
 refine sm_ ?_
 refine al_val (ov_lenD 0 rfl rfl Try.underlying90 rfl) ?_
 refine mv_ ?_
 refine al_nt ?_
 refine aw_block ?_
 refine aw_state (aw_loop (ι := (List Bool) × Int) (fun i => (memOf w0 Z0 [] [(oRow v2 4 tyBool i.1)] [(fDat (tyList (tyList tq)) [v0_0] a0), (fDat (tyList tq) [v1_0] a1)])) (fun i => (tab [(0, v0_0), (5, v2), (26, (iq (a0.length : Int))), (27, (iq i.2))])) (fun q i => f_lumref_reached_L9 a0 kk6 fu q i.1 i.2 = some r) ?_ fu (j3x5, (0 : Int)) h) (nm_ [0] [0, 1] (by decide) ⟨rfl, rfl, rfl, rfl, trivial⟩)
 clear h
 rintro k8 ⟨l7x5, l7i27⟩ h
 have h : f_lumref_reached_L9 a0 kk6 fu k8 l7x5 l7i27 = some r := h
 obtain _ | k8 := k8
 rw [f_lumref_reached_L9] at h; cases h
 rw [f_lumref_reached_L9] at h
 refine aw_show (m := (memOf w0 Z0 [] [(oRow v2 4 tyBool l7x5)] [(fDat (tyList (tyList tq)) [v0_0] a0), (fDat (tyList tq) [v1_0] a1)])) (S := _) ?_
 obtain ⟨kk10, hkk10, h⟩ := lt_some h
 refine aw_body_join (ι := (List Bool) × Int) (fun i => (memOf w0 Z0 [] [(oRow v2 4 tyBool i.1)] [(fDat (tyList (tyList tq)) [v0_0] a0), (fDat (tyList tq) [v1_0] a1)])) (fun i => (tab [(0, v0_0), (5, v2), (26, (iq (a0.length : Int))), (27, (iq i.2))])) (fun i => kk10 i.1 i.2 = some r) (fun i h => aq_again k8 i (Nat.lt_succ_self _) (by rw [hkk10] at h; exact h) (fun w a hm hs => ⟨hm, hs⟩)) ?_
 clear hkk10
 refine aw_sr ?_
 refine im_ ?_
 refine aw_seq ?_
 refine aw_cond rfl (fun hb11 => ?_) (fun hb11 => ?_)
 replace h := bif_t hb11 h
 refine aw_skip ?_
 refine aq_then ?_
 obtain ⟨kk13, hkk13, h⟩ := lt_some h
 refine aw_seq_join (ι := (List Bool)) (fun i => (memOf w0 Z0 [] [(oRow v2 4 tyBool i)] [(fDat (tyList (tyList tq)) [v0_0] a0), (fDat (tyList tq) [v1_0] a1)])) (fun i => (tab [(0, v0_0), (5, v2), (26, (iq (a0.length : Int))), (27, (iq l7i27))])) (fun i => kk13 i = some r) ?_ ?_
 rintro j12x5 h
 have h : kk13 j12x5 = some r := h
 rw [hkk13] at h
 dsimp only at h
 clear hkk13
 refine aw_show (m := (memOf w0 Z0 [] [(oRow v2 4 tyBool j12x5)] [(fDat (tyList (tyList tq)) [v0_0] a0), (fDat (tyList tq) [v1_0] a1)])) (S := _) ?_
 refine aw_region ?_
 refine in_ ?_
 refine mv_ ?_
 refine al_nil ?_
 exact aq_join (j12x5, (wq (l7i27 + (1 : Int)))) h (nm_ [0] [0, 1] (by decide) ⟨rfl, rfl, rfl, rfl, trivial⟩)
 clear hkk13
 refine aw_block ?_
 refine sm_ ?_
 refine al_val (ov_lenD 0 rfl rfl Try.underlying90 rfl) ?_
 refine mv_ ?_
 refine al_nt ?_
 refine aw_block ?_
 refine aw_state (aw_loop (ι := (List Bool) × Int) (fun i => (memOf w0 Z0 [] [(oRow v2 4 tyBool i.1)] [(fDat (tyList (tyList tq)) [v0_0] a0), (fDat (tyList tq) [v1_0] a1)])) (fun i => (tab [(0, v0_0), (5, v2), (26, (iq (a0.length : Int))), (27, (iq l7i27)), (29, v0_0), (30, (iq (a0.length : Int))), (31, (iq i.2))])) (fun q i => f_lumref_reached_L16 a0 kk13 fu q i.1 i.2 = some r) ?_ fu (l7x5, (0 : Int)) h) (nm_ [0] [0, 1] (by decide) ⟨rfl, rfl, rfl, rfl, rfl, rfl, rfl, trivial⟩)
 clear h
 rintro k15 ⟨l14x5, l14i31⟩ h
 have h : f_lumref_reached_L16 a0 kk13 fu k15 l14x5 l14i31 = some r := h
 obtain _ | k15 := k15
 rw [f_lumref_reached_L16] at h; cases h
 rw [f_lumref_reached_L16] at h
 refine aw_show (m := (memOf w0 Z0 [] [(oRow v2 4 tyBool l14x5)] [(fDat (tyList (tyList tq)) [v0_0] a0), (fDat (tyList tq) [v1_0] a1)])) (S := _) ?_
 obtain ⟨kk17, hkk17, h⟩ := lt_some h
 refine aw_body_join (ι := (List Bool) × Int) (fun i => (memOf w0 Z0 [] [(oRow v2 4 tyBool i.1)] [(fDat (tyList (tyList tq)) [v0_0] a0), (fDat (tyList tq) [v1_0] a1)])) (fun i => (tab [(0, v0_0), (5, v2), (26, (iq (a0.length : Int))), (27, (iq l7i27)), (29, v0_0), (30, (iq (a0.length : Int))), (31, (iq i.2))])) (fun i => kk17 i.1 i.2 = some r) (fun i h => aq_again k15 i (Nat.lt_succ_self _) (by rw [hkk17] at h; exact h) (fun w a hm hs => ⟨hm, hs⟩)) ?_
 clear hkk17
 refine aw_sr ?_
 refine im_ ?_
 refine aw_seq ?_
 refine aw_cond rfl (fun hb18 => ?_) (fun hb18 => ?_)
 replace h := bif_t hb18 h
 refine aw_skip ?_
 refine aq_then ?_
 obtain ⟨kk20, hkk20, h⟩ := lt_some h
 refine aw_seq_join (ι := (List Bool)) (fun i => (memOf w0 Z0 [] [(oRow v2 4 tyBool i)] [(fDat (tyList (tyList tq)) [v0_0] a0), (fDat (tyList tq) [v1_0] a1)])) (fun i => (tab [(0, v0_0), (5, v2), (26, (iq (a0.length : Int))), (27, (iq l7i27)), (29, v0_0), (30, (iq (a0.length : Int))), (31, (iq l14i31))])) (fun i => kk20 i = some r) ?_ ?_
 rintro j19x5 h
 have h : kk20 j19x5 = some r := h
 rw [hkk20] at h
 dsimp only at h
 clear hkk20
 refine aw_show (m := (memOf w0 Z0 [] [(oRow v2 4 tyBool j19x5)] [(fDat (tyList (tyList tq)) [v0_0] a0), (fDat (tyList tq) [v1_0] a1)])) (S := _) ?_
 refine aw_region ?_
 refine in_ ?_
 refine mv_ ?_
 refine al_nil ?_
 exact aq_join (j19x5, (wq (l14i31 + (1 : Int)))) h (nm_ [0] [0, 1] (by decide) ⟨rfl, rfl, rfl, rfl, rfl, rfl, rfl, trivial⟩)
 clear hkk20
 refine aw_block ?_
 refine sm_ ?_
 obtain ⟨u21, hu22, h⟩ := opt_some h
 refine al_idxD 0 hu22 rfl rfl rfl Try.underlying90 sz30 rfl (fun p23 => ?_)
 refine al_loadP1 0 rfl rfl Try.underlying30 sz30 rfl rfl rfl (fun s24 => ?_)
 refine as_ ?_
 refine an_ ?_
 refine sm_ ?_
 refine al_val (ov_lenD 0 rfl rfl Try.underlying30 rfl) ?_
 refine mv_ ?_
 refine al_nt ?_
 refine aw_block ?_
 refine aw_state (aw_loop (ι := (List Bool) × Int) (fun i => (memOf w0 Z0 [] [(oRow v2 4 tyBool i.1)] [(fDat (tyList (tyList tq)) [v0_0] a0), (fDat (tyList tq) [s24] u21), (fPtr (tyList tq) p23 u21), (fDat (tyList tq) [v1_0] a1)])) (fun i => (tab [(0, v0_0), (5, v2), (8, (iq l14i31)), (26, (iq (a0.length : Int))), (27, (iq l7i27)), (29, v0_0), (30, (iq (a0.length : Int))), (31, (iq l14i31)), (36, s24), (37, (iq (u21.length : Int))), (38, (iq i.2))])) (fun q i => f_lumref_reached_L27 l14i31 kk20 u21 q i.1 i.2 = some r) ?_ fu (l14x5, (0 : Int)) h) (nm_ [0] [2, 0, 1, 3] (by decide) ⟨rfl, rfl, rfl, rfl, rfl, rfl, rfl, rfl, rfl, rfl, rfl, trivial⟩)
 clear h
 rintro k26 ⟨l25x5, l25i38⟩ h
 have h : f_lumref_reached_L27 l14i31 kk20 u21 k26 l25x5 l25i38 = some r := h
 obtain _ | k26 := k26
 rw [f_lumref_reached_L27] at h; cases h
 rw [f_lumref_reached_L27] at h
 refine aw_show (m := (memOf w0 Z0 [] [(oRow v2 4 tyBool l25x5)] [(fDat (tyList (tyList tq)) [v0_0] a0), (fDat (tyList tq) [s24] u21), (fPtr (tyList tq) p23 u21), (fDat (tyList tq) [v1_0] a1)])) (S := _) ?_
 refine aw_sr ?_
 refine im_ ?_
 refine aw_seq ?_
 refine aw_cond rfl (fun hb28 => ?_) (fun hb28 => ?_)
 replace h := bif_t hb28 h
 refine aw_skip ?_
 refine aq_then ?_
 obtain ⟨kk30, hkk30, h⟩ := lt_some h
 refine aw_seq_join (ι := (List Bool)) (fun i => (memOf w0 Z0 [] [(oRow v2 4 tyBool i)] [(fDat (tyList (tyList tq)) [v0_0] a0), (fDat (tyList tq) [s24] u21), (fPtr (tyList tq) p23 u21), (fDat (tyList tq) [v1_0] a1)])) (fun i => (tab [(0, v0_0), (5, v2), (8, (iq l14i31)), (26, (iq (a0.length : Int))), (27, (iq l7i27)), (29, v0_0), (30, (iq (a0.length : Int))), (31, (iq l14i31)), (36, s24), (37, (iq (u21.length : Int))), (38, (iq l25i38))])) (fun i => kk30 i = some r) ?_ ?_
 rintro j29x5 h
 have h : kk30 j29x5 = some r := h
 rw [hkk30] at h
 dsimp only at h
 clear hkk30
 refine aw_show (m := (memOf w0 Z0 [] [(oRow v2 4 tyBool j29x5)] [(fDat (tyList (tyList tq)) [v0_0] a0), (fDat (tyList tq) [s24] u21), (fPtr (tyList tq) p23 u21), (fDat (tyList tq) [v1_0] a1)])) (S := _) ?_
 refine aw_region ?_
 refine in_ ?_
 refine mv_ ?_
 refine al_nil ?_
 exact aq_again k26 (j29x5, (wq (l25i38 + (1 : Int)))) (Nat.lt_succ_self _) h (nm_ [0] [0, 1, 2, 3] (by decide) ⟨rfl, rfl, rfl, rfl, rfl, rfl, rfl, rfl, rfl, rfl, rfl, trivial⟩)
 clear hkk30
 refine aw_block ?_
 refine aw_sr ?_
 obtain ⟨u31, hu32, h⟩ := opt_some h
 refine al_idxD 1 hu32 rfl rfl rfl Try.underlying30 sz3 rfl (fun p33 => ?_)
 refine al_val (ov_loadP (ds := [(iq u31)]) 0 rfl (fun h => h) rfl Try.underlying3 sz3 rfl rfl rfl) ?_
 refine an_ ?_
 refine sm_ ?_
 refine mv_ ?_
 obtain ⟨u34, hu35, h⟩ := opt_some h
 refine al_idxR 0 (at_some hu35).1 (at_some hu35).2.1 rfl rfl rfl Try.underlying42 sz4 rfl (fun p36 hp37 => ?_)
 refine al_val (ov_loadR (ds := [(bool u34)]) 0 rfl hp37 (at_some hu35).2.2 (fun h => h) rfl Try.underlying4 sz4 rfl rfl rfl) ?_
 refine al_nt ?_
 refine aw_cond rfl (fun hb38 => ?_) (fun hb38 => ?_)
 replace h := bif_t hb38 h
 refine aw_region ?_
 refine mv_ ?_
 refine mv_ ?_
 obtain ⟨u39, hu40, h⟩ := opt_some h
 refine al_idxR 0 (at_some hu40).1 (at_some hu40).2.1 rfl rfl rfl Try.underlying42 sz4 rfl (fun p41 hp42 => ?_)
 refine al_storeR (k := (u31).toNat) (x := true) (vs := [(bool true)]) 0 rfl hp42 (idx_lt hu40) rfl rfl (cv_rfl rfl) (fun _ => rfl) sz4 rfl ?_
 refine al_nil ?_
 refine aq_block ?_
 exact aq_join (l25x5.set (u31).toNat true) h (nm_ [0] [1, 2, 3, 4] (by decide) ⟨rfl, rfl, rfl, rfl, rfl, rfl, rfl, rfl, rfl, rfl, rfl, trivial⟩)
 replace h := bif_f hb38 h
 refine aw_skip ?_
 refine aq_block ?_
 exact aq_join l25x5 h (nm_ [0] [1, 2, 3, 4] (by decide) ⟨rfl, rfl, rfl, rfl, rfl, rfl, rfl, rfl, rfl, rfl, rfl, trivial⟩)
 replace h := bif_f hb28 h
 refine aw_exit ?_
 refine aq_then_exit ?_
 refine aq_then_exit ?_
 refine aq_block_exit ?_
 refine aq_block ?_
 exact aq_join l25x5 h (nm_ [0] [0, 3] (by decide) ⟨rfl, rfl, rfl, rfl, rfl, rfl, rfl, trivial⟩)
 replace h := bif_f hb18 h
 refine aw_exit ?_
 refine aq_then_exit ?_
 refine aq_then_exit ?_
 refine aq_block_exit ?_
 refine aq_block ?_
 exact aq_join l14x5 h (nm_ [0] [0, 1] (by decide) ⟨rfl, rfl, rfl, rfl, trivial⟩)
 replace h := bif_f hb11 h
 refine aw_exit ?_
 refine aq_then_exit ?_
 refine aq_then_exit ?_
 refine aq_block_exit ?_
 exact aq_join l7x5 h (nm_ [0] [0, 1] (by decide) ⟨rfl, trivial⟩)
 clear hkk4
 refine sm_ ?_
 refine al_val (ov_lenD 1 rfl rfl Try.underlying30 rfl) ?_
 refine mv_ ?_
 refine al_nt ?_
 refine aw_block ?_
 refine aw_state (aw_loop (ι := (List Bool) × Int) (fun i => (memOf w0 Z0 [] [(oRow v2 4 tyBool i.1)] [(fDat (tyList (tyList tq)) [v0_0] a0), (fDat (tyList tq) [v1_0] a1)])) (fun i => (tab [(0, v0_0), (5, v2), (15, v1_0), (16, (iq (a1.length : Int))), (17, (iq i.2))])) (fun q i => f_lumref_reached_L45 a1 kk4 q i.1 i.2 = some r) ?_ fu ((List.replicate ((a0.length : Int)).toNat false), (0 : Int)) h) (nm_ [0] [0, 1] (by decide) ⟨rfl, rfl, rfl, rfl, rfl, trivial⟩)
 clear h
 rintro k44 ⟨l43x5, l43i17⟩ h
 have h : f_lumref_reached_L45 a1 kk4 k44 l43x5 l43i17 = some r := h
 obtain _ | k44 := k44
 rw [f_lumref_reached_L45] at h; cases h
 rw [f_lumref_reached_L45] at h
 refine aw_show (m := (memOf w0 Z0 [] [(oRow v2 4 tyBool l43x5)] [(fDat (tyList (tyList tq)) [v0_0] a0), (fDat (tyList tq) [v1_0] a1)])) (S := _) ?_
 refine aw_sr ?_
 refine im_ ?_
 refine aw_seq ?_
 refine aw_cond rfl (fun hb46 => ?_) (fun hb46 => ?_)
 replace h := bif_t hb46 h
 refine aw_skip ?_
 refine aq_then ?_
 refine aw_seq ?_
 refine aw_block ?_
 refine aw_sr ?_
 obtain ⟨u47, hu48, h⟩ := opt_some h
 refine al_idxD 1 hu48 rfl rfl rfl Try.underlying30 sz3 rfl (fun p49 => ?_)
 refine al_val (ov_loadP (ds := [(iq u47)]) 0 rfl (fun h => h) rfl Try.underlying3 sz3 rfl rfl rfl) ?_
 refine an_ ?_
 refine aw_region ?_
 refine mv_ ?_
 refine mv_ ?_
 obtain ⟨u50, hu51, h⟩ := opt_some h
 refine al_idxR 0 (at_some hu51).1 (at_some hu51).2.1 rfl rfl rfl Try.underlying42 sz4 rfl (fun p52 hp53 => ?_)
 refine al_storeR (k := (u47).toNat) (x := true) (vs := [(bool true)]) 0 rfl hp53 (idx_lt hu51) rfl rfl (cv_rfl rfl) (fun _ => rfl) sz4 rfl ?_
 refine al_nil ?_
 refine aq_block ?_
 refine aq_then ?_
 refine aw_region ?_
 refine in_ ?_
 refine mv_ ?_
 refine al_nil ?_
 exact aq_again k44 ((l43x5.set (u47).toNat true), (wq (l43i17 + (1 : Int)))) (Nat.lt_succ_self _) h (nm_ [0] [1, 2] (by decide) ⟨rfl, rfl, rfl, rfl, rfl, trivial⟩)
 replace h := bif_f hb46 h
 refine aw_exit ?_
 refine aq_then_exit ?_
 refine aq_then_exit ?_
 refine aq_block_exit ?_
 exact aq_join l43x5 h (nm_ [0] [0, 1] (by decide) ⟨rfl, rfl, trivial⟩)
def f_lumref_Live_L9 (a0 : S_api_Heap) (kk3 : ((List (List Int)) → Option (List Bool))) : Nat → (List (List Int)) → Int → Option (List Bool)
  | 0, _, _ => none
  | k8 + 1, l7x3, l7i9 => (bif (decide (l7i9 < (a0.Things.length : Int))) then (opt (at? a0.Things l7i9) fun (u11 : S_api_Thing) => (req (((l7x3.length + ([u11.Kids]).length) * 24 : Nat) ≤ 140737488355328 ∧ l7x3.length + ([u11.Kids]).length ≤ 9223372036854775807) (f_lumref_Live_L9 a0 kk3 k8 (l7x3 ++ ([u11.Kids])) (IntKind.i64.wrap (l7i9 + (1 : Int)))))) else (kk3 l7x3))
def f_lumref_Live (fu : Nat) (a0 : S_api_Heap) : Option (List Bool) := (lt (fun (j2x3 : (List (List Int))) => (opt (f_lumref_reached fu j2x3 a0.Roots) fun (r5 : (List Bool)) => (some r5))) fun (kk3 : (List (List Int)) → Option (List Bool)) => (f_lumref_Live_L9 a0 kk3 fu ([] : List (List Int)) (0 : Int)))
set_option maxHeartbeats 2000000 in
set_option maxRecDepth 100000 in
theorem f_lumref_Live_ok (fu : Nat) (v0_0 : Value) (v0_1 : Value) (a0 : S_api_Heap) {r : (List Bool)} (h : f_lumref_Live fu a0 = some r) : FnOk Try.prog 16 [(ag [v0_0, v0_1, (bool a0.Busy)])] [(fDat (tyList tyS_api_Thing) [v0_0] a0.Things), (fDat (tyList (tyInt .i64)) [v0_1] a0.Roots)] [] (fun (i : Value) => { val := i, own := [(oRow i 4 tyBool r)] }) := by
 unfold f_lumref_Live at h
 refine fn_enter Try.func16 rfl Try.ntmps16 rfl (fun w0 Z0 => ?_)
 refine aw_sr ?_
 refine al_box (vs := [v0_0, v0_1, (bool a0.Busy)]) rfl (cv_rfl rfl) rfl (fun g1 => ?_)
 refine an_ ?_
 refine aw_sr ?_
 refine an_ ?_
 obtain ⟨kk3, hkk3, h⟩ := lt_some h
 refine aw_seq_join (ι := Value × (List (List Int))) (fun i => (memOf w0 Z0 [] [(oBox g1 38 [v0_0, v0_1, (bool a0.Busy)]), (oRow i.1 30 (tyList tq) i.2)] [(fDat (tyList tyS_api_Thing) [v0_0] a0.Things), (fDat (tyList tq) [v0_1] a0.Roots)])) (fun i => (tab [(1, (pq g1)), (3, i.1)])) (fun i => kk3 i.2 = some r) ?_ ?_
 rintro ⟨j2v3, j2x3⟩ h
 have h : kk3 j2x3 = some r := h
 rw [hkk3] at h
 dsimp only at h
 clear hkk3
 refine aw_show (m := (memOf w0 Z0 [] [(oBox g1 38 [v0_0, v0_1, (bool a0.Busy)]), (oRow j2v3 30 (tyList tq) j2x3)] [(fDat (tyList tyS_api_Thing) [v0_0] a0.Things), (fDat (tyList tq) [v0_1] a0.Roots)])) (S := _) ?_
 refine sm_ ?_
 refine al_val (ov_fieldA (p := 1) rfl Try.underlying38 rfl sz30 rfl rfl rfl) ?_
 refine al_val (ov_load (i := 0) (v := v0_1) rfl rfl Try.underlying30 sz30 rfl rfl rfl rfl) ?_
 obtain ⟨r5, hc4, h⟩ := opt_some h
 refine al_call (vs := [j2v3, v0_1]) (f_lumref_reached_ok fu j2v3 j2x3 v0_1 a0.Roots hc4) [1] [] [0, 1] (pre_own 1 rfl rfl (pre_fz 1 rfl pre_nil)) rfl (by simp) (by decide) (.inr (flat_res1 (fun _ => flat_row flat_enc))) rfl Try.func51 rfl rfl rfl (fun v6 => ?_)
 refine an_ ?_
 refine aw_ret ?_
 cases h
 exact fn_ret v6 [0] [] rfl rfl rfl rfl (res1 rfl rfl) rfl rfl rfl (by decide)
 clear hkk3
 refine aw_sr ?_
 refine al_val (ov_fieldA (p := 0) rfl Try.underlying38 rfl sz36 rfl rfl rfl) ?_
 refine al_val (ov_load (i := 0) (v := v0_0) rfl rfl Try.underlying36 sz36 rfl rfl rfl rfl) ?_
 refine al_val (ov_lenD 0 rfl rfl Try.underlying36 rfl) ?_
 refine mv_ ?_
 refine al_nt ?_
 refine aw_block ?_
 refine aw_nilR 30 (tyList tq) ?_
 refine aw_state (aw_loop (ι := Value × (List (List Int)) × Int) (fun i => (memOf w0 Z0 [] [(oBox g1 38 [v0_0, v0_1, (bool a0.Busy)]), (oRow i.1 30 (tyList tq) i.2.1)] [(fDat (tyList tyS_api_Thing) [v0_0] a0.Things), (fDat (tyList tq) [v0_1] a0.Roots)])) (fun i => (tab [(1, (pq g1)), (3, i.1), (7, v0_0), (8, (iq (a0.Things.length : Int))), (9, (iq i.2.2))])) (fun q i => f_lumref_Live_L9 a0 kk3 q i.2.1 i.2.2 = some r) ?_ fu (nS, ([] : List (List Int)), (0 : Int)) h) (nm_ [1, 0] [0, 1] (by decide) ⟨rfl, rfl, rfl, rfl, rfl, trivial⟩)
 clear h
 rintro k8 ⟨l7v3, l7x3, l7i9⟩ h
 have h : f_lumref_Live_L9 a0 kk3 k8 l7x3 l7i9 = some r := h
 obtain _ | k8 := k8
 rw [f_lumref_Live_L9] at h; cases h
 rw [f_lumref_Live_L9] at h
 refine aw_show (m := (memOf w0 Z0 [] [(oBox g1 38 [v0_0, v0_1, (bool a0.Busy)]), (oRow l7v3 30 (tyList tq) l7x3)] [(fDat (tyList tyS_api_Thing) [v0_0] a0.Things), (fDat (tyList tq) [v0_1] a0.Roots)])) (S := _) ?_
 refine aw_sr ?_
 refine im_ ?_
 refine aw_seq ?_
 refine aw_cond rfl (fun hb10 => ?_) (fun hb10 => ?_)
 replace h := bif_t hb10 h
 refine aw_skip ?_
 refine aq_then ?_
 refine aw_seq ?_
 refine aw_block ?_
 refine aw_sr ?_
 obtain ⟨u11, hu12, h⟩ := opt_some h
 refine al_idxD 0 hu12 rfl rfl rfl Try.underlying36 sz71 rfl (fun p13 => ?_)
 refine al_loadPA 0 rfl rfl Try.underlying71 sz71 rfl rfl (fun cs15 => ?_)
 refine al_use (ι := Value) 0 rfl (fun j => cs15 = [j, (iq u11.Colour), (bool u11.Free)]) (fun j => [(fDat (tyList tq) [j] u11.Kids)]) encnS_api_Thing (fun s14 hq => ?_)
 subst hq
 refine al_alloc (zs := [nS, (iq (0 : Int)), (bool false)]) (zeroOf_to to71) rfl rfl (fun g16 => ?_)
 refine al_store (i := 0) (vs := [s14, (iq u11.Colour), (bool u11.Free)]) (cs' := [s14, (iq u11.Colour), (bool u11.Free)]) rfl rfl rfl sz71 (cv_rfl rfl) rfl (co_fz 0 rfl (co_val rfl (co_val rfl co_nil))) (Nat.le_of_ble_eq_true rfl) rfl rfl ?_
 refine al_nt ?_
 refine aw_region ?_
 refine mv_ ?_
 refine al_val (ov_fieldA (p := 0) rfl Try.underlying71 rfl sz30 rfl rfl rfl) ?_
 refine al_val (ov_load (i := 0) (v := s14) rfl rfl Try.underlying30 sz30 rfl rfl rfl rfl) ?_
 refine al_buildSlice (τ := (tyList tq)) (e := 30) (k := 1) (sz := 0) (by_ := 0) (z := undef) (cs := [s14]) (xs := [u11.Kids]) rfl (by decide) (fun w a hm hs => ⟨([s14]).toArray, rfl, by simp only [List.map_toArray, List.map_cons, List.map_nil, hs.ev (x := .tmp 15) rfl]; exact run_bs [s14] [s14] Try.underlying90 to30 rfl rfl (bs_cons (l := [s14]) (cs := []) (cv_fz 0 rfl) rfl bs_nil) hm⟩) (fun hm => ⟨_, _, rfl, (fun hm => fz_at (i := 0) hm rfl) hm, rfl⟩) rfl (fun v17 => ?_)
 obtain ⟨hc18, h⟩ := req_some h
 refine al_append 3 hc18.1 hc18.2 rfl (src_own (i := 3) 0 rfl) rfl rfl Try.underlying90 to30 rfl rfl rfl (fun v19 => ?_)
 refine as_ ?_
 refine al_nil ?_
 refine aq_block ?_
 refine aq_then ?_
 refine aw_region ?_
 refine in_ ?_
 refine mv_ ?_
 refine al_nil ?_
 exact aq_again k8 (v19, (l7x3 ++ ([u11.Kids])), (wq (l7i9 + (1 : Int)))) (Nat.lt_succ_self _) h (nm_ [2, 3] [3, 4] (by decide) ⟨rfl, rfl, rfl, rfl, rfl, trivial⟩)
 replace h := bif_f hb10 h
 refine aw_exit ?_
 refine aq_then_exit ?_
 refine aq_then_exit ?_
 refine aq_block_exit ?_
 exact aq_join (l7v3, l7x3) h (nm_ [0, 1] [0, 1] (by decide) ⟨rfl, rfl, trivial⟩)
def f_lumref_Sweep_1 (fu : Nat) (a0 : Int) (a1 : (List Bool)) : Option Bool := (lt (fun (j1b3 : Bool) => (some j1b3)) fun (kk2 : Bool → Option Bool) => (bif (decide (a0 ≥ (0 : Int))) then (bif (decide (a0 < (a1.length : Int))) then (opt (at? a1 a0) fun (u7 : Bool) => (kk2 u7)) else (kk2 false)) else (kk2 false)))
set_option maxHeartbeats 2000000 in
set_option maxRecDepth 100000 in
theorem f_lumref_Sweep_1_ok (fu : Nat) (a0 : Int) (c1 : Value) (a1 : (List Bool)) {r : Bool} (h : f_lumref_Sweep_1 fu a0 a1 = some r) : FnOk Try.prog 37 [(int .i64 a0), c1] [(fPtr (tyList tyBool) c1 a1)] [] (fun (i : Unit) => { val := (bool r) }) := by
 unfold f_lumref_Sweep_1 at h
 refine fn_enter Try.func37 rfl Try.ntmps37 rfl (fun w0 Z0 => ?_)
 refine aw_sr ?_
 refine an_ ?_
 obtain ⟨kk2, hkk2, h⟩ := lt_some h
 refine aw_seq_join (ι := Bool) (fun i => (memOf w0 Z0 [] [] [(fPtr (tyList tyBool) c1 a1)])) (fun i => (tab [(3, (bool i))])) (fun i => kk2 i = some r) ?_ ?_
 rintro j1b3 h
 have h : kk2 j1b3 = some r := h
 rw [hkk2] at h
 dsimp only at h
 clear hkk2
 refine aw_show (m := (memOf w0 Z0 [] [] [(fPtr (tyList tyBool) c1 a1)])) (S := _) ?_
 refine aw_ret ?_
 cases h
 exact fr1_
 clear hkk2
 refine aw_region ?_
 refine mv_ ?_
 refine in_ ?_
 refine mv_ ?_
 refine al_caseB 6 rfl (fun hb3 => ?_) (fun hb3 => ?_)
 replace h := bif_t hb3 h
 refine mv_ ?_
 refine al_loadP1 0 rfl rfl Try.underlying42 sz42 rfl rfl rfl (fun s4 => ?_)
 refine al_val (ov_lenD 0 rfl rfl Try.underlying42 rfl) ?_
 refine in_ ?_
 refine al_val (ov_pick_t rfl rfl rfl) ?_
 refine mv_ ?_
 refine al_caseB 12 rfl (fun hb5 => ?_) (fun hb5 => ?_)
 replace h := bif_t hb5 h
 refine al_loadP1 1 rfl rfl Try.underlying42 sz42 rfl rfl rfl (fun s6 => ?_)
 refine mv_ ?_
 obtain ⟨u7, hu8, h⟩ := opt_some h
 refine al_idxD 0 hu8 rfl rfl rfl Try.underlying42 sz4 rfl (fun p9 => ?_)
 refine al_val (ov_loadP (ds := [(bool u7)]) 0 rfl (fun h => h) rfl Try.underlying4 sz4 rfl rfl rfl) ?_
 refine al_val (ov_pick_t rfl rfl rfl) ?_
 refine as_ ?_
 refine al_nil ?_
 exact aq_join u7 h (nm_ [] [3] (by decide) ⟨rfl, trivial⟩)
 replace h := bif_f hb5 h
 iterate 4 refine al_skip ?_
 refine al_val (ov_pick_f rfl rfl rfl) ?_
 refine as_ ?_
 refine al_nil ?_
 exact aq_join false h (nm_ [] [1] (by decide) ⟨rfl, trivial⟩)
 replace h := bif_f hb3 h
 iterate 4 refine al_skip ?_
 refine al_val (ov_pick_f rfl rfl rfl) ?_
 refine mv_ ?_
 iterate 4 refine al_skip ?_
 refine al_val (ov_pick_f rfl rfl rfl) ?_
 refine as_ ?_
 refine al_nil ?_
 exact aq_join false h (nm_ [] [0] (by decide) ⟨rfl, trivial⟩)
def f_slices_Clone___api_Thing_api_Thing_ (fu : Nat) (a0 : (List S_api_Thing)) : Option (List S_api_Thing) := (amb (a0.isEmpty) (some ([] : List S_api_Thing)) (req (((([] : List S_api_Thing).length + a0.length) * 40 : Nat) ≤ 140737488355328 ∧ ([] : List S_api_Thing).length + a0.length ≤ 9223372036854775807) (some (([] : List S_api_Thing) ++ a0))))
set_option maxHeartbeats 2000000 in
set_option maxRecDepth 100000 in
theorem f_slices_Clone___api_Thing_api_Thing__ok (fu : Nat) (v0_0 : Value) (a0 : (List S_api_Thing)) {r : (List S_api_Thing)} (h : f_slices_Clone___api_Thing_api_Thing_ fu a0 = some r) : FnOk Try.prog 39 [v0_0] [(fDat (tyList tyS_api_Thing) [v0_0] a0)] [] (fun (i : Value) => { val := i, own := [(oRow i 71 tyS_api_Thing r)] }) := by
 unfold f_slices_Clone___api_Thing_api_Thing_ at h
 refine fn_enter Try.func39 rfl Try.ntmps39 rfl (fun w0 Z0 => ?_)
 refine aw_sr ?_
 refine an_ ?_
 refine aw_seq ?_
 refine sm_ ?_
 refine al_isNilD 0 rfl rfl rfl Try.underlying36 rfl (fun nb1 hn2 => ?_)
 refine al_nt ?_
 refine aw_cond rfl (fun hb3 => ?_) (fun hb3 => ?_)
 replace h := (amb_some h).2 (isEmpty_of (hn2 hb3))
 refine aw_sr ?_
 refine an_ ?_
 refine aw_ret ?_
 refine aq_then_ret ?_
 refine aq_nilR 71 tyS_api_Thing ?_
 cases h
 exact fn_ret nS [0] [] rfl rfl rfl rfl (res1 rfl rfl) rfl rfl rfl (by decide)
 replace h := (amb_some h).1
 refine aw_skip ?_
 refine aq_tr ?_
 refine al_buildSlice (τ := tyS_api_Thing) (e := 71) (k := 0) (sz := 0) (by_ := 0) (z := undef) (cs := []) (xs := ([] : List S_api_Thing)) rfl (by decide) (fun w a hm hs => ⟨([]).toArray, rfl, by simp only [List.map_toArray, List.map_cons, List.map_nil]; exact run_bs [] [] Try.underlying36 to71 rfl rfl bs_nil hm⟩) (fun hm => rfl) rfl (fun v4 => ?_)
 refine mv_ ?_
 obtain ⟨hc5, h⟩ := req_some h
 refine al_append 0 hc5.1 hc5.2 rfl (src_dat (i := 0) 0 rfl) rfl rfl Try.underlying36 to71 rfl rfl rfl (fun v6 => ?_)
 refine an_ ?_
 refine aw_ret ?_
 cases h
 exact fn_ret v6 [0] [] rfl rfl rfl rfl (res1 rfl rfl) rfl rfl rfl (by decide)
def f_lumref_Sweep_2 (fu : Nat) (a0 : Int) (a1 : (List Int)) (a2 : S_api_Heap) : Option S_api_Heap := (opt (f_slices_Clone___api_Thing_api_Thing_ fu a2.Things) fun (r9 : (List S_api_Thing)) => (opt (at? r9 a0) fun (u11 : S_api_Thing) => (some (S_api_Heap.mk (r9.set (a0).toNat { (u11 : S_api_Thing) with Kids := a1 }) a2.Roots a2.Busy))))
set_option maxHeartbeats 2000000 in
set_option maxRecDepth 100000 in
theorem f_lumref_Sweep_2_ok (fu : Nat) (a0 : Int) (v1_0 : Value) (a1 : (List Int)) (c2 : Value) (a2 : S_api_Heap) {r : S_api_Heap} (h : f_lumref_Sweep_2 fu a0 a1 a2 = some r) : FnOk Try.prog 38 [(int .i64 a0), v1_0, c2] [(fDat (tyList (tyInt .i64)) [v1_0] a1), (fPtr tyS_api_Heap c2 a2)] [] (fun (i : Value × Value) => { val := (ag [i.1, i.2, (bool r.Busy)]), fz := [(fDat (tyList tyS_api_Thing) [i.1] r.Things), (fDat (tyList (tyInt .i64)) [i.2] r.Roots)] }) := by
 unfold f_lumref_Sweep_2 at h
 refine fn_enter Try.func38 rfl Try.ntmps38 rfl (fun w0 Z0 => ?_)
 refine aw_sr ?_
 refine al_alloc (zs := [nS, nS, (bool false)]) (zeroOf_to to38) rfl rfl (fun g1 => ?_)
 refine al_nt ?_
 refine aw_sr ?_
 refine al_loadPA 1 rfl rfl Try.underlying38 sz38 rfl rfl (fun cs4 => ?_)
 refine al_use (ι := Value × Value) 0 rfl (fun j => cs4 = [j.1, j.2, (bool a2.Busy)]) (fun j => [(fDat (tyList tyS_api_Thing) [j.1] a2.Things), (fDat (tyList tq) [j.2] a2.Roots)]) encnS_api_Heap (fun (s2, s3) hq => ?_)
 subst hq
 refine al_alloc (zs := [nS, nS, (bool false)]) (zeroOf_to to38) rfl rfl (fun g5 => ?_)
 refine al_store (i := 0) (vs := [s2, s3, (bool a2.Busy)]) (cs' := [s2, s3, (bool a2.Busy)]) rfl rfl rfl sz38 (cv_rfl rfl) rfl (co_fz 0 rfl (co_fz 1 rfl (co_val rfl co_nil))) (Nat.le_of_ble_eq_true rfl) rfl rfl ?_
 refine al_nt ?_
 refine aw_sr ?_
 refine al_fieldD (pr := fun (y : S_api_Heap) => y.Things) 4 rfl subS_api_Heap_0 rfl Try.underlying38 rfl sz36 rfl rfl (fun p6 => ?_)
 refine al_loadP1 0 rfl rfl Try.underlying36 sz36 rfl rfl rfl (fun s7 => ?_)
 obtain ⟨r9, hc8, h⟩ := opt_some h
 refine al_call (vs := [s7]) (f_slices_Clone___api_Thing_api_Thing__ok fu s7 a2.Things hc8) [] [] [0, 1] (pre_fz 0 rfl pre_nil) rfl (by simp) (by decide) (.inl rfl) rfl Try.func39 rfl rfl rfl (fun v10 => ?_)
 refine al_val (ov_fieldA (p := 0) rfl Try.underlying38 rfl sz36 rfl rfl rfl) ?_
 refine al_store (i := 1) (vs := [v10]) (cs' := [v10, s3, (bool a2.Busy)]) rfl rfl rfl sz36 (cv_own 0 rfl) rfl (co_own 0 rfl co_nil) (Nat.le_of_ble_eq_true rfl) rfl rfl ?_
 refine al_nt ?_
 refine aw_sr ?_
 refine al_val (ov_fieldA (p := 0) rfl Try.underlying38 rfl sz36 rfl rfl rfl) ?_
 refine al_val (ov_load (i := 1) (v := v10) rfl rfl Try.underlying36 sz36 rfl rfl rfl rfl) ?_
 refine mv_ ?_
 refine mv_ ?_
 obtain ⟨u11, hu12, h⟩ := opt_some h
 refine al_idxR 0 (at_some hu12).1 (at_some hu12).2.1 rfl rfl rfl Try.underlying36 sz71 rfl (fun p13 hp14 => ?_)
 refine al_fieldR hp14 rfl Try.underlying71 rfl sz30 rfl rfl (fun p15 hp16 => ?_)
 refine al_storeF (k := (a0).toNat) (x := u11) (y := a1) (vs := [v1_0]) 0 rfl hp16 (at_some hu12).2.2 ssetS_api_Thing_0 rfl rfl rfl (cv_fz 5 rfl) (fun hm => fz_at (i := 5) hm rfl) sz30 rfl ?_
 refine al_nt ?_
 refine aw_sr ?_
 refine al_val (ov_load (i := 1) (v := (ag [v10, s3, (bool a2.Busy)])) rfl rfl Try.underlying38 sz38 rfl rfl rfl rfl) ?_
 refine al_store (i := 2) (vs := [v10, s3, (bool a2.Busy)]) (cs' := [v10, s3, (bool a2.Busy)]) rfl rfl rfl sz38 (cv_rfl rfl) rfl (co_own 0 rfl (co_fz 3 rfl (co_val rfl co_nil))) (Nat.le_of_ble_eq_true rfl) rfl rfl ?_
 refine nr_ ?_
 refine aq_freeze 0 rfl rfl ?_
 cases h
 exact fn_ret (v10, s3) [] [0, 4] rfl rfl rfl rfl (resC rfl (resB (i := 1) rfl rfl Try.underlying38 sz38 rfl rfl rfl (resN)) rfl) rfl rfl rfl (by decide)
def f_lumref_greyed_L8 (a1 : (List Int)) (kk5 : ((List S_api_Thing) → Option (List S_api_Thing))) : Nat → (List S_api_Thing) → Int → Option (List S_api_Thing)
  | 0, _, _ => none
  | k7 + 1, l6x5, l6i12 => (bif (decide (l6i12 < (a1.length : Int))) then (lt (fun (j10x5 : (List S_api_Thing)) => (f_lumref_greyed_L8 a1 kk5 k7 j10x5 (IntKind.i64.wrap (l6i12 + (1 : Int))))) fun (kk11 : (List S_api_Thing) → Option (List S_api_Thing)) => (opt (at? a1 l6i12) fun (u12 : Int) => (opt (at? l6x5 u12) fun (u15 : S_api_Thing) => (bif (u15.Colour == (0 : Int)) then (opt (at? l6x5 u12) fun (u22 : S_api_Thing) => (kk11 (l6x5.set (u12).toNat { (u22 : S_api_Thing) with Colour := (1 : Int) }))) else (kk11 l6x5))))) else (kk5 l6x5))
def f_lumref_greyed (fu : Nat) (a0 : (List S_api_Thing)) (a1 : (List Int)) : Option (List S_api_Thing) := (opt (f_slices_Clone___api_Thing_api_Thing_ fu a0) fun (r2 : (List S_api_Thing)) => (lt (fun (j4x5 : (List S_api_Thing)) => (some j4x5)) fun (kk5 : (List S_api_Thing) → Option (List S_api_Thing)) => (f_lumref_greyed_L8 a1 kk5 fu r2 (0 : Int))))
set_option maxHeartbeats 2000000 in
set_option maxRecDepth 100000 in
theorem f_lumref_greyed_ok (fu : Nat) (v0_0 : Value) (a0 : (List S_api_Thing)) (v1_0 : Value) (a1 : (List Int)) {r : (List S_api_Thing)} (h : f_lumref_greyed fu a0 a1 = some r) : FnOk Try.prog 72 [v0_0, v1_0] [(fDat (tyList tyS_api_Thing) [v0_0] a0), (fDat (tyList (tyInt .i64)) [v1_0] a1)] [] (fun (i : Value) => { val := i, own := [(oRow i 71 tyS_api_Thing r)] }) := by
 unfold f_lumref_greyed at h
 refine fn_enter Try.func72 rfl Try.ntmps72 rfl (fun w0 Z0 => ?_)
 refine aw_sr ?_
 refine an_ ?_
 refine sm_ ?_
 obtain ⟨r2, hc1, h⟩ := opt_some h
 refine al_call (vs := [v0_0]) (f_slices_Clone___api_Thing_api_Thing__ok fu v0_0 a0 hc1) [] [] [] (pre_fz 0 rfl pre_nil) rfl (by simp) (by decide) (.inl rfl) rfl Try.func39 rfl rfl rfl (fun v3 => ?_)
 refine an_ ?_
 obtain ⟨kk5, hkk5, h⟩ := lt_some h
 refine aw_seq_join (ι := (List S_api_Thing)) (fun i => (memOf w0 Z0 [] [(oRow v3 71 tyS_api_Thing i)] [(fDat (tyList tyS_api_Thing) [v0_0] a0), (fDat (tyList tq) [v1_0] a1)])) (fun i => (tab [(5, v3)])) (fun i => kk5 i = some r) ?_ ?_
 rintro j4x5 h
 have h : kk5 j4x5 = some r := h
 rw [hkk5] at h
 dsimp only at h
 clear hkk5
 refine aw_show (m := (memOf w0 Z0 [] [(oRow v3 71 tyS_api_Thing j4x5)] [(fDat (tyList tyS_api_Thing) [v0_0] a0), (fDat (tyList tq) [v1_0] a1)])) (S := _) ?_
 refine sm_ ?_
 refine an_ ?_
 refine aw_ret ?_
 cases h
 exact fn_ret v3 [0] [] rfl rfl rfl rfl (res1 rfl rfl) rfl rfl rfl (by decide)
 clear hkk5
 refine sm_ ?_
 refine al_val (ov_lenD 1 rfl rfl Try.underlying30 rfl) ?_
 refine mv_ ?_
 refine al_nt ?_
 refine aw_block ?_
 refine aw_state (aw_loop (ι := (List S_api_Thing) × Int) (fun i => (memOf w0 Z0 [] [(oRow v3 71 tyS_api_Thing i.1)] [(fDat (tyList tq) [v1_0] a1), (fDat (tyList tyS_api_Thing) [v0_0] a0)])) (fun i => (tab [(5, v3), (10, v1_0), (11, (iq (a1.length : Int))), (12, (iq i.2))])) (fun q i => f_lumref_greyed_L8 a1 kk5 q i.1 i.2 = some r) ?_ fu (r2, (0 : Int)) h) (nm_ [0] [1, 0] (by decide) ⟨rfl, rfl, rfl, rfl, trivial⟩)
 clear h
 rintro k7 ⟨l6x5, l6i12⟩ h
 have h : f_lumref_greyed_L8 a1 kk5 k7 l6x5 l6i12 = some r := h
 obtain _ | k7 := k7
 rw [f_lumref_greyed_L8] at h; cases h
 rw [f_lumref_greyed_L8] at h
 refine aw_show (m := (memOf w0 Z0 [] [(oRow v3 71 tyS_api_Thing l6x5)] [(fDat (tyList tq) [v1_0] a1), (fDat (tyList tyS_api_Thing) [v0_0] a0)])) (S := _) ?_
 refine aw_sr ?_
 refine im_ ?_
 refine aw_seq ?_
 refine aw_cond rfl (fun hb9 => ?_) (fun hb9 => ?_)
 replace h := bif_t hb9 h
 refine aw_skip ?_
 refine aq_then ?_
 obtain ⟨kk11, hkk11, h⟩ := lt_some h
 refine aw_seq_join (ι := (List S_api_Thing)) (fun i => (memOf w0 Z0 [] [(oRow v3 71 tyS_api_Thing i)] [(fDat (tyList tq) [v1_0] a1), (fDat (tyList tyS_api_Thing) [v0_0] a0)])) (fun i => (tab [(5, v3), (10, v1_0), (11, (iq (a1.length : Int))), (12, (iq l6i12))])) (fun i => kk11 i = some r) ?_ ?_
 rintro j10x5 h
 have h : kk11 j10x5 = some r := h
 rw [hkk11] at h
 dsimp only at h
 clear hkk11
 refine aw_show (m := (memOf w0 Z0 [] [(oRow v3 71 tyS_api_Thing j10x5)] [(fDat (tyList tq) [v1_0] a1), (fDat (tyList tyS_api_Thing) [v0_0] a0)])) (S := _) ?_
 refine aw_region ?_
 refine in_ ?_
 refine mv_ ?_
 refine al_nil ?_
 exact aq_again k7 (j10x5, (wq (l6i12 + (1 : Int)))) (Nat.lt_succ_self _) h (nm_ [0] [0, 1] (by decide) ⟨rfl, rfl, rfl, rfl, trivial⟩)
 clear hkk11
 refine aw_block ?_
 refine aw_sr ?_
 obtain ⟨u12, hu13, h⟩ := opt_some h
 refine al_idxD 0 hu13 rfl rfl rfl Try.underlying30 sz3 rfl (fun p14 => ?_)
 refine al_val (ov_loadP (ds := [(iq u12)]) 0 rfl (fun h => h) rfl Try.underlying3 sz3 rfl rfl rfl) ?_
 refine an_ ?_
 refine sm_ ?_
 refine mv_ ?_
 obtain ⟨u15, hu16, h⟩ := opt_some h
 refine al_idxR 0 (at_some hu16).1 (at_some hu16).2.1 rfl rfl rfl Try.underlying36 sz71 rfl (fun p17 hp18 => ?_)
 refine al_fieldR hp18 rfl Try.underlying71 rfl sz3 rfl rfl (fun p19 hp20 => ?_)
 refine al_val (ov_loadF (ds := [(iq u15.Colour)]) 0 rfl hp20 (at_some hu16).2.2 subS_api_Thing_1 (fun h => h) rfl Try.underlying3 sz3 rfl rfl rfl) ?_
 refine im_ ?_
 refine aw_cond rfl (fun hb21 => ?_) (fun hb21 => ?_)
 replace h := bif_t hb21 h
 refine aw_region ?_
 refine mv_ ?_
 refine mv_ ?_
 obtain ⟨u22, hu23, h⟩ := opt_some h
 refine al_idxR 0 (at_some hu23).1 (at_some hu23).2.1 rfl rfl rfl Try.underlying36 sz71 rfl (fun p24 hp25 => ?_)
 refine al_fieldR hp25 rfl Try.underlying71 rfl sz3 rfl rfl (fun p26 hp27 => ?_)
 refine al_storeF (k := (u12).toNat) (x := u22) (y := (1 : Int)) (vs := [(iq (1 : Int))]) 0 rfl hp27 (at_some hu23).2.2 ssetS_api_Thing_1 rfl rfl rfl (cv_rfl rfl) (fun _ => rfl) sz3 rfl ?_
 refine al_nil ?_
 refine aq_block ?_
 exact aq_join (l6x5.set (u12).toNat { (u22 : S_api_Thing) with Colour := (1 : Int) }) h (nm_ [0] [1, 2] (by decide) ⟨rfl, rfl, rfl, rfl, trivial⟩)
 replace h := bif_f hb21 h
 refine aw_skip ?_
 refine aq_block ?_
 exact aq_join l6x5 h (nm_ [0] [1, 2] (by decide) ⟨rfl, rfl, rfl, rfl, trivial⟩)
 replace h := bif_f hb9 h
 refine aw_exit ?_
 refine aq_then_exit ?_
 refine aq_then_exit ?_
 refine aq_block_exit ?_
 exact aq_join l6x5 h (nm_ [0] [1, 0] (by decide) ⟨rfl, trivial⟩)
def f_lumref_marked_L15 (a0 : S_api_Heap) (kk12 : ((List S_api_Thing) → Option S_api_Heap)) : Nat → (List S_api_Thing) → Int → Option S_api_Heap
  | 0, _, _ => none
  | k14 + 1, l13x3_0, l13i64 => (bif (decide (l13i64 < (a0.Things.length : Int))) then (opt (at? a0.Things l13i64) fun (u17 : S_api_Thing) => (lt (fun (j23x3_0 : (List S_api_Thing)) => (opt (at? j23x3_0 l13i64) fun (u25 : S_api_Thing) => (f_lumref_marked_L15 a0 kk12 k14 (j23x3_0.set (l13i64).toNat { (u25 : S_api_Thing) with Colour := (0 : Int) }) (IntKind.i64.wrap (l13i64 + (1 : Int)))))) fun (kk24 : (List S_api_Thing) → Option S_api_Heap) => (bif (u17.Colour == (0 : Int)) then (opt (at? l13x3_0 l13i64) fun (u32 : S_api_Thing) => (kk24 (l13x3_0.set (l13i64).toNat (S_api_Thing.mk ([] : (List Int)) (0 : Int) true)))) else (kk24 l13x3_0)))) else (kk12 l13x3_0))
def f_lumref_marked_L38 (a0 : S_api_Heap) (r5 : (List S_api_Thing)) (kk10 : (Unit → Option S_api_Heap)) (fu : Nat) : Nat → Int → Option S_api_Heap
  | 0, _ => none
  | k37 + 1, l36i40 => (bif (decide (l36i40 < (a0.Things.length : Int))) then (opt (at? a0.Things l36i40) fun (u40 : S_api_Thing) => (bif (u40.Colour == (1 : Int)) then (opt (at? r5 l36i40) fun (u47 : S_api_Thing) => (opt (f_lumref_greyed fu (r5.set (l36i40).toNat { (u47 : S_api_Thing) with Colour := (2 : Int) }) u40.Kids) fun (r54 : (List S_api_Thing)) => (some (S_api_Heap.mk r54 a0.Roots true)))) else (f_lumref_marked_L38 a0 r5 kk10 fu k37 (IntKind.i64.wrap (l36i40 + (1 : Int)))))) else (kk10 ()))
def f_lumref_marked_L64 (r5 : (List S_api_Thing)) (kk58 : ((List S_api_Thing) → Option S_api_Heap)) : Nat → (List S_api_Thing) → Int → Option S_api_Heap
  | 0, _, _ => none
  | k63 + 1, l62x3_0, l62i21 => (bif (decide (l62i21 < (r5.length : Int))) then (opt (at? l62x3_0 l62i21) fun (u66 : S_api_Thing) => (f_lumref_marked_L64 r5 kk58 k63 (l62x3_0.set (l62i21).toNat { (u66 : S_api_Thing) with Colour := (0 : Int) }) (IntKind.i64.wrap (l62i21 + (1 : Int))))) else (kk58 l62x3_0))
def f_lumref_marked (fu : Nat) (a0 : S_api_Heap) : Option S_api_Heap := (opt (f_slices_Clone___api_Thing_api_Thing_ fu a0.Things) fun (r5 : (List S_api_Thing)) => (lt (fun (_ : Unit) => (lt (fun (_ : Unit) => (lt (fun (j11x3_0 : (List S_api_Thing)) => (some (S_api_Heap.mk j11x3_0 a0.Roots false))) fun (kk12 : (List S_api_Thing) → Option S_api_Heap) => (f_lumref_marked_L15 a0 kk12 fu r5 (0 : Int)))) fun (kk10 : Unit → Option S_api_Heap) => (f_lumref_marked_L38 a0 r5 kk10 fu fu (0 : Int)))) fun (kk8 : Unit → Option S_api_Heap) => (bif (!a0.Busy) then (lt (fun (j57x3_0 : (List S_api_Thing)) => (opt (f_lumref_greyed fu j57x3_0 a0.Roots) fun (r60 : (List S_api_Thing)) => (some (S_api_Heap.mk r60 a0.Roots true)))) fun (kk58 : (List S_api_Thing) → Option S_api_Heap) => (f_lumref_marked_L64 r5 kk58 fu r5 (0 : Int))) else (kk8 ()))))
abbrev mm29 (w0 : World) (Z0 : Nat → Prop) (a0 : S_api_Heap) (g1 : Nat) (g2 : Nat) (v0_0 : Value) (v0_1 : Value) : Mem := memOf w0 Z0 [] [(oBox g2 38 [(Value.slice none 0 0), (Value.slice none 0 0), (bool false)]), (oBox g1 38 [v0_0, v0_1, (bool a0.Busy)])] [(fDat (tyList tyS_api_Thing) [v0_0] a0.Things), (fDat (tyList (tyInt .i64)) [v0_1] a0.Roots)]
abbrev mm30 (w0 : World) (Z0 : Nat → Prop) (a0 : S_api_Heap) (g1 : Nat) (g2 : Nat) (r5 : (List S_api_Thing)) (v0_0 : Value) (v0_1 : Value) (v6 : Value) : Mem := memOf w0 Z0 [] [(oRow v6 71 tyS_api_Thing r5), (oBox g2 38 [(Value.slice none 0 0), (Value.slice none 0 0), (bool false)]), (oBox g1 38 [v0_0, v0_1, (bool a0.Busy)])] [(fDat (tyList tyS_api_Thing) [v0_0] a0.Things), (fDat (tyList (tyInt .i64)) [v0_1] a0.Roots)]
abbrev mm31 (w0 : World) (Z0 : Nat → Prop) (a0 : S_api_Heap) (g1 : Nat) (g2 : Nat) (g3 : Nat) (r5 : (List S_api_Thing)) (v0_0 : Value) (v0_1 : Value) (v6 : Value) : Mem := memOf w0 Z0 [] [(oBox g3 38 [v6, v0_1, (bool true)]), (oRow v6 71 tyS_api_Thing r5), (oBox g2 38 [(Value.slice none 0 0), (Value.slice none 0 0), (bool false)]), (oBox g1 38 [v0_0, v0_1, (bool a0.Busy)])] [(fDat (tyList tyS_api_Thing) [v0_0] a0.Things), (fDat (tyList (tyInt .i64)) [v0_1] a0.Roots)]
abbrev mm32 (w0 : World) (Z0 : Nat → Prop) (a0 : S_api_Heap) (g1 : Nat) (g2 : Nat) (g3 : Nat) (r5 : (List S_api_Thing)) (v0_0 : Value) (v0_1 : Value) (v6 : Value) : Mem := memOf w0 Z0 [] [(oBox g1 38 [v0_0, v0_1, (bool a0.Busy)]), (oBox g2 38 [(Value.slice none 0 0), (Value.slice none 0 0), (bool false)]), (oRow v6 71 tyS_api_Thing r5), (oBox g3 38 [v6, v0_1, (bool true)])] [(fDat (tyList tyS_api_Thing) [v0_0] a0.Things), (fDat (tyList (tyInt .i64)) [v0_1] a0.Roots)]
abbrev mm33 (w0 : World) (Z0 : Nat → Prop) (a0 : S_api_Heap) (g2 : Nat) (g3 : Nat) (j11x3_0 : (List S_api_Thing)) (v0_0 : Value) (v0_1 : Value) (v6 : Value) : Mem := memOf w0 Z0 [] [(oBox g2 38 [(Value.slice none 0 0), (Value.slice none 0 0), (bool false)]), (oRow v6 71 tyS_api_Thing j11x3_0), (oBox g3 38 [v6, v0_1, (bool true)])] [(fDat (tyList (tyInt .i64)) [v0_1] a0.Roots), (fDat (tyList tyS_api_Thing) [v0_0] a0.Things)]
abbrev mm34 (w0 : World) (Z0 : Nat → Prop) (a0 : S_api_Heap) (g2 : Nat) (g3 : Nat) (l13x3_0 : (List S_api_Thing)) (v0_0 : Value) (v0_1 : Value) (v6 : Value) : Mem := memOf w0 Z0 [] [(oBox g2 38 [(Value.slice none 0 0), (Value.slice none 0 0), (bool false)]), (oRow v6 71 tyS_api_Thing l13x3_0), (oBox g3 38 [v6, v0_1, (bool true)])] [(fDat (tyList (tyInt .i64)) [v0_1] a0.Roots), (fDat (tyList tyS_api_Thing) [v0_0] a0.Things)]
abbrev mm35 (w0 : World) (Z0 : Nat → Prop) (a0 : S_api_Heap) (g2 : Nat) (g3 : Nat) (j23x3_0 : (List S_api_Thing)) (p19 : Value) (s20 : Value) (u17 : S_api_Thing) (v0_0 : Value) (v0_1 : Value) (v6 : Value) : Mem := memOf w0 Z0 [] [(oBox g2 38 [(Value.slice none 0 0), (Value.slice none 0 0), (bool false)]), (oRow v6 71 tyS_api_Thing j23x3_0), (oBox g3 38 [v6, v0_1, (bool true)])] [(fDat (tyList (tyInt .i64)) [v0_1] a0.Roots), (fDat (tyList tyS_api_Thing) [v0_0] a0.Things), (fDat (tyList (tyInt .i64)) [s20] u17.Kids), (fDat tyS_api_Thing [s20, (int .i64 u17.Colour), (bool u17.Free)] u17), (fPtr tyS_api_Thing p19 u17)]
abbrev mm36 (w0 : World) (Z0 : Nat → Prop) (a0 : S_api_Heap) (g1 : Nat) (g2 : Nat) (g3 : Nat) (j57x3_0 : (List S_api_Thing)) (v0_0 : Value) (v0_1 : Value) (v6 : Value) : Mem := memOf w0 Z0 [] [(oBox g1 38 [v0_0, v0_1, (bool a0.Busy)]), (oBox g2 38 [(Value.slice none 0 0), (Value.slice none 0 0), (bool false)]), (oRow v6 71 tyS_api_Thing j57x3_0), (oBox g3 38 [v6, v0_1, (bool true)])] [(fDat (tyList tyS_api_Thing) [v0_0] a0.Things), (fDat (tyList (tyInt .i64)) [v0_1] a0.Roots)]
abbrev mm37 (w0 : World) (Z0 : Nat → Prop) (a0 : S_api_Heap) (g1 : Nat) (g2 : Nat) (g3 : Nat) (l62x3_0 : (List S_api_Thing)) (v0_0 : Value) (v0_1 : Value) (v6 : Value) : Mem := memOf w0 Z0 [] [(oBox g1 38 [v0_0, v0_1, (bool a0.Busy)]), (oBox g2 38 [(Value.slice none 0 0), (Value.slice none 0 0), (bool false)]), (oRow v6 71 tyS_api_Thing l62x3_0), (oBox g3 38 [v6, v0_1, (bool true)])] [(fDat (tyList tyS_api_Thing) [v0_0] a0.Things), (fDat (tyList (tyInt .i64)) [v0_1] a0.Roots)]
set_option maxRecDepth 100000 in
set_option maxHeartbeats 2000000 in
set_option maxHeartbeats 2000000 in
theorem f_lumref_marked_ok (fu : Nat) (v0_0 : Value) (v0_1 : Value) (a0 : S_api_Heap) {r : S_api_Heap} (h : f_lumref_marked fu a0 = some r) : FnOk Try.prog 40 [(ag [v0_0, v0_1, (bool a0.Busy)])] [(fDat (tyList tyS_api_Thing) [v0_0] a0.Things), (fDat (tyList (tyInt .i64)) [v0_1] a0.Roots)] [] (fun (i : Value × Value) => { val := (ag [i.1, i.2, (bool r.Busy)]), fz := [(fDat (tyList tyS_api_Thing) [i.1] r.Things), (fDat (tyList (tyInt .i64)) [i.2] r.Roots)] }) := by
 unfold f_lumref_marked at h
 refine fn_enter Try.func40 rfl Try.ntmps40 rfl (fun w0 Z0 => ?_)
 refine aw_sr ?_
 refine al_box (vs := [v0_0, v0_1, (bool a0.Busy)]) rfl (cv_rfl rfl) rfl (fun g1 => ?_)
 refine al_alloc (zs := [nS, nS, (bool false)]) (zeroOf_to to38) rfl rfl (fun g2 => ?_)
 refine al_nt ?_
 refine aw_seq ?_
 refine aw_region_open [(sp_ 0 9 (pq g1)), (sp_ 1 10 v0_0), (sp_ 3 12 (ptr g1 1)), (sp_ 4 13 v0_1), ⟨6, 3, Nat, fun (i : Nat) => { val := (pq i), own := [(oBox i 38 [nS, nS, (bool false)])] }⟩] (tab [(1, (pq g1)), (2, (pq g2))]) mixed (fun a hs => hs.tab _ (allT_mem ⟨rfl, rfl, trivial⟩)) ?_
 refine ta_show (m := (mm29 w0 Z0 a0 g1 g2 v0_0 v0_1)) (S := _) ?_
 refine ta_step 2 _ [0, 1, 3, 4, 6] [9, 10, 12, 13, 3] [0, 1] [5] [(sp_ 0 9 (pq g1)), (sp_ 1 10 v0_0)] [(sp_ 3 12 (ptr g1 1)), (sp_ 4 13 v0_1), ⟨6, 3, Nat, fun (i : Nat) => { val := (pq i), own := [(oBox i 38 [nS, nS, (bool false)])] }⟩] rfl rfl rfl (by kernel_rfl) rfl rfl rfl ⟨⟨_, rfl, [], rfl, by
  intro X_ Y_ F_ K_ hK_
  refine sh_ (mm29 w0 Z0 a0 g1 g2 v0_0 v0_1) X_ Y_ ?_
  refine al_val (ov_fieldA (p := 0) rfl Try.underlying38 rfl sz36 rfl rfl rfl) ?_
  refine al_nil ?_
  exact fr_fin hK_ ()⟩, ⟨_, rfl, [0], rfl, by
  intro _
  intro X_ Y_ F_ K_ hK_
  refine sh_ (mm29 w0 Z0 a0 g1 g2 v0_0 v0_1) X_ Y_ ?_
  refine al_val (ov_load (i := 1) (v := v0_0) rfl rfl Try.underlying36 sz36 rfl rfl rfl rfl) ?_
  refine al_nil ?_
  exact fr_fin hK_ ()⟩, ⟨_, rfl, [], rfl, by
  intro X_ Y_ F_ K_ hK_
  refine sh_ (mm29 w0 Z0 a0 g1 g2 v0_0 v0_1) X_ Y_ ?_
  refine al_val (ov_fieldA (p := 1) rfl Try.underlying38 rfl sz30 rfl rfl rfl) ?_
  refine al_nil ?_
  exact fr_fin hK_ ()⟩, ⟨_, rfl, [2], rfl, by
  intro _
  intro X_ Y_ F_ K_ hK_
  refine sh_ (mm29 w0 Z0 a0 g1 g2 v0_0 v0_1) X_ Y_ ?_
  refine al_val (ov_load (i := 1) (v := v0_1) rfl rfl Try.underlying30 sz30 rfl rfl rfl rfl) ?_
  refine al_nil ?_
  exact fr_fin hK_ ()⟩, ⟨_, rfl, [], rfl, by
  intro X_ Y_ F_ K_ hK_
  refine sh_ (mm29 w0 Z0 a0 g1 g2 v0_0 v0_1) X_ Y_ ?_
  refine al_alloc (zs := [nS, nS, (bool false)]) (zeroOf_to to38) rfl rfl (fun g3 => ?_)
  refine al_nil ?_
  exact fr_fin hK_ g3⟩, trivial⟩ ?_
 intro _
 intro _
 intro X_ Y_ F_ K_ hK_
 refine sh_ (mm29 w0 Z0 a0 g1 g2 v0_0 v0_1) X_ Y_ ?_
 obtain ⟨r5, hc4, h⟩ := opt_some h
 refine al_callX (vs := [v0_0]) (f_slices_Clone___api_Thing_api_Thing__ok fu v0_0 a0.Things hc4) [] [] [0, 1] (pre_fz 0 rfl pre_nil) rfl (by simp) (by decide) rfl (.inl rfl) rfl Try.func39 rfl rfl rfl (fun v6 => ?_)
 refine al_nil ?_
 refine aq_show (m := Mem.plus (mm30 w0 Z0 a0 g1 g2 r5 v0_0 v0_1 v6) X_ Y_) ?_
 refine aq_next hK_ [0, 1, 2] [0, 1] [(1, (pq g1)), (2, (pq g2)), (11, v6)] [12, 13, 3] [(sp_ 5 14 (ag [v6, v0_1, (bool true)]))] rfl rfl (by decide) rfl ⟨rfl, rfl, rfl, trivial⟩ ⟨rfl, rfl, rfl, trivial⟩ ?_
 clear hK_ K_ F_ X_ Y_
 refine ta_show (m := (mm30 w0 Z0 a0 g1 g2 r5 v0_0 v0_1 v6)) (S := _) ?_
 refine ta_step 7 _ [3, 4, 6, 5] [12, 13, 3, 14] [3, 4, 6, 5] [] [(sp_ 3 12 (ptr g1 1)), (sp_ 4 13 v0_1), ⟨6, 3, Nat, fun (i : Nat) => { val := (pq i), own := [(oBox i 38 [nS, nS, (bool false)])] }⟩, (sp_ 5 14 (ag [v6, v0_1, (bool true)]))] [] rfl rfl rfl (by kernel_rfl) rfl rfl rfl ⟨⟨_, rfl, [], rfl, by
  intro X_ Y_ F_ K_ hK_
  refine sh_ (mm30 w0 Z0 a0 g1 g2 r5 v0_0 v0_1 v6) X_ Y_ ?_
  refine al_val (ov_fieldA (p := 1) rfl Try.underlying38 rfl sz30 rfl rfl rfl) ?_
  refine al_nil ?_
  exact fr_fin hK_ ()⟩, ⟨_, rfl, [0], rfl, by
  intro _
  intro X_ Y_ F_ K_ hK_
  refine sh_ (mm30 w0 Z0 a0 g1 g2 r5 v0_0 v0_1 v6) X_ Y_ ?_
  refine al_val (ov_load (i := 2) (v := v0_1) rfl rfl Try.underlying30 sz30 rfl rfl rfl rfl) ?_
  refine al_nil ?_
  exact fr_fin hK_ ()⟩, ⟨_, rfl, [], rfl, by
  intro X_ Y_ F_ K_ hK_
  refine sh_ (mm30 w0 Z0 a0 g1 g2 r5 v0_0 v0_1 v6) X_ Y_ ?_
  refine al_alloc (zs := [nS, nS, (bool false)]) (zeroOf_to to38) rfl rfl (fun g3 => ?_)
  refine al_nil ?_
  exact fr_fin hK_ g3⟩, ⟨_, rfl, [1], rfl, by
  intro _
  intro X_ Y_ F_ K_ hK_
  refine sh_ (mm30 w0 Z0 a0 g1 g2 r5 v0_0 v0_1 v6) X_ Y_ ?_
  refine al_val (ov_build (cells := ([v6, v0_1, (bool true)] : List Value).toArray) (cs := [v6, v0_1, (bool true)]) rfl (fun w a hm hs => by simp only [List.map_toArray, List.map_cons, List.map_nil, List.toList_toArray, hs.ev (x := .tmp 11) rfl, hs.ev (x := .tmp 13) rfl, hs.ev (x := .const (bool true)) rfl]; obtain ⟨A0, l0, c0, e0⟩ := sl_own 0 rfl hm; rw [e0]; obtain ⟨A1, l1, c1, e1⟩ := sl_fz 1 rfl hm; rw [e1]; kernel_rfl)) ?_
  refine al_nil ?_
  exact fr_fin hK_ ()⟩, trivial⟩ ?_
 intro _
 intro _
 intro g3
 intro _
 intro X_ Y_ F_ K_ hK_
 refine sh_ (memOf w0 Z0 [] [(oBox g3 38 [nS, nS, (bool false)]), (oRow v6 71 tyS_api_Thing r5), (oBox g2 38 [nS, nS, (bool false)]), (oBox g1 38 [v0_0, v0_1, (bool a0.Busy)])] [(fDat (tyList tyS_api_Thing) [v0_0] a0.Things), (fDat (tyList tq) [v0_1] a0.Roots)]) X_ Y_ ?_
 refine al_store (i := 0) (vs := [v6, v0_1, (bool true)]) (cs' := [v6, v0_1, (bool true)]) rfl rfl rfl sz38 (cv_rfl rfl) rfl (co_own 1 rfl (co_fz 1 rfl (co_val rfl co_nil))) (Nat.le_of_ble_eq_true rfl) rfl rfl ?_
 refine al_nil ?_
 refine aq_show (m := Mem.plus (mm31 w0 Z0 a0 g1 g2 g3 r5 v0_0 v0_1 v6) X_ Y_) ?_
 refine aq_next hK_ [0, 1, 2, 3] [0, 1] [(1, (pq g1)), (2, (pq g2)), (3, (pq g3))] [] [] rfl rfl (by decide) rfl ⟨rfl, rfl, rfl, trivial⟩ trivial ?_
 clear hK_ K_ F_ X_ Y_
 refine ta_show (m := (mm31 w0 Z0 a0 g1 g2 g3 r5 v0_0 v0_1 v6)) (S := _) ?_
 refine ta_end [] [] rfl rfl (by kernel_rfl) rfl trivial ?_
 refine aq_show (m := (mm31 w0 Z0 a0 g1 g2 g3 r5 v0_0 v0_1 v6)) (S := (tab [(1, (pq g1)), (2, (pq g2)), (3, (pq g3))])) ?_
 refine aq_then ?_
 obtain ⟨kk8, hkk8, h⟩ := lt_some h
 refine aw_seq_join (ι := Unit) (fun i => (mm32 w0 Z0 a0 g1 g2 g3 r5 v0_0 v0_1 v6)) (fun i => (tab [(1, (pq g1)), (2, (pq g2)), (3, (pq g3))])) (fun i => kk8 () = some r) ?_ ?_
 rintro _ h
 have h : kk8 () = some r := h
 rw [hkk8] at h
 dsimp only at h
 clear hkk8
 refine aw_show (m := (mm32 w0 Z0 a0 g1 g2 g3 r5 v0_0 v0_1 v6)) (S := _) ?_
 obtain ⟨kk10, hkk10, h⟩ := lt_some h
 refine aw_seq_join (ι := Unit) (fun i => (mm32 w0 Z0 a0 g1 g2 g3 r5 v0_0 v0_1 v6)) (fun i => (tab [(1, (pq g1)), (2, (pq g2)), (3, (pq g3))])) (fun i => kk10 () = some r) ?_ ?_
 rintro _ h
 have h : kk10 () = some r := h
 rw [hkk10] at h
 dsimp only at h
 clear hkk10
 refine aw_show (m := (mm32 w0 Z0 a0 g1 g2 g3 r5 v0_0 v0_1 v6)) (S := _) ?_
 obtain ⟨kk12, hkk12, h⟩ := lt_some h
 refine aw_seq_join (ι := (List S_api_Thing)) (fun i => (mm33 w0 Z0 a0 g2 g3 i v0_0 v0_1 v6)) (fun i => (tab [(2, (pq g2)), (3, (pq g3))])) (fun i => kk12 i = some r) ?_ ?_
 rintro j11x3_0 h
 have h : kk12 j11x3_0 = some r := h
 rw [hkk12] at h
 dsimp only at h
 clear hkk12
 refine aw_show (m := (mm33 w0 Z0 a0 g2 g3 j11x3_0 v0_0 v0_1 v6)) (S := _) ?_
 refine aw_sr ?_
 refine al_val (ov_fieldA (p := 2) rfl Try.underlying38 rfl sz4 rfl rfl rfl) ?_
 refine al_store (i := 2) (vs := [(bool false)]) (cs' := [v6, v0_1, (bool false)]) rfl rfl rfl sz4 (cv_rfl rfl) rfl (co_val rfl co_nil) (Nat.le_of_ble_eq_true rfl) rfl rfl ?_
 refine al_nt ?_
 refine aw_sr ?_
 refine al_val (ov_load (i := 2) (v := (ag [v6, v0_1, (bool false)])) rfl rfl Try.underlying38 sz38 rfl rfl rfl rfl) ?_
 refine al_store (i := 0) (vs := [v6, v0_1, (bool false)]) (cs' := [v6, v0_1, (bool false)]) rfl rfl rfl sz38 (cv_rfl rfl) rfl (co_own 1 rfl (co_fz 0 rfl (co_val rfl co_nil))) (Nat.le_of_ble_eq_true rfl) rfl rfl ?_
 refine nr_ ?_
 refine aq_freeze 1 rfl rfl ?_
 cases h
 exact fn_ret (v6, v0_1) [] [0, 1] rfl rfl rfl rfl (resC rfl (resB (i := 0) rfl rfl Try.underlying38 sz38 rfl rfl rfl (resN)) rfl) rfl rfl rfl (by decide)
 clear hkk12
 refine aw_sr ?_
 refine al_val (ov_fieldA (p := 0) rfl Try.underlying38 rfl sz36 rfl rfl rfl) ?_
 refine al_val (ov_load (i := 0) (v := v0_0) rfl rfl Try.underlying36 sz36 rfl rfl rfl rfl) ?_
 refine al_val (ov_lenD 0 rfl rfl Try.underlying36 rfl) ?_
 refine mv_ ?_
 refine al_nt ?_
 refine aw_block ?_
 refine aw_state (aw_loop (ι := (List S_api_Thing) × Int) (fun i => (mm34 w0 Z0 a0 g2 g3 i.1 v0_0 v0_1 v6)) (fun i => (tab [(2, (pq g2)), (3, (pq g3)), (62, v0_0), (63, (iq (a0.Things.length : Int))), (64, (iq i.2))])) (fun q i => f_lumref_marked_L15 a0 kk12 q i.1 i.2 = some r) ?_ fu (r5, (0 : Int)) h) (nm_ [1, 2, 3] [1, 0] (by decide) ⟨rfl, rfl, rfl, rfl, rfl, trivial⟩)
 clear h
 rintro k14 ⟨l13x3_0, l13i64⟩ h
 have h : f_lumref_marked_L15 a0 kk12 k14 l13x3_0 l13i64 = some r := h
 obtain _ | k14 := k14
 rw [f_lumref_marked_L15] at h; cases h
 rw [f_lumref_marked_L15] at h
 refine aw_show (m := (mm34 w0 Z0 a0 g2 g3 l13x3_0 v0_0 v0_1 v6)) (S := _) ?_
 refine aw_sr ?_
 refine im_ ?_
 refine aw_seq ?_
 refine aw_cond rfl (fun hb16 => ?_) (fun hb16 => ?_)
 replace h := bif_t hb16 h
 refine aw_skip ?_
 refine aq_then ?_
 refine aw_seq ?_
 refine aw_block ?_
 refine sm_ ?_
 obtain ⟨u17, hu18, h⟩ := opt_some h
 refine al_idxD 1 hu18 rfl rfl rfl Try.underlying36 sz71 rfl (fun p19 => ?_)
 refine al_loadPA 0 rfl rfl Try.underlying71 sz71 rfl rfl (fun cs21 => ?_)
 refine al_use (ι := Value) 0 rfl (fun j => cs21 = [j, (iq u17.Colour), (bool u17.Free)]) (fun j => [(fDat (tyList tq) [j] u17.Kids)]) encnS_api_Thing (fun s20 hq => ?_)
 subst hq
 refine al_alloc (zs := [nS, (iq (0 : Int)), (bool false)]) (zeroOf_to to71) rfl rfl (fun g22 => ?_)
 refine as_ ?_
 refine al_store (i := 0) (vs := [s20, (iq u17.Colour), (bool u17.Free)]) (cs' := [s20, (iq u17.Colour), (bool u17.Free)]) rfl rfl rfl sz71 (cv_rfl rfl) rfl (co_fz 0 rfl (co_val rfl (co_val rfl co_nil))) (Nat.le_of_ble_eq_true rfl) rfl rfl ?_
 refine al_nt ?_
 obtain ⟨kk24, hkk24, h⟩ := lt_some h
 refine aw_seq_join (ι := (List S_api_Thing)) (fun i => (mm35 w0 Z0 a0 g2 g3 i p19 s20 u17 v0_0 v0_1 v6)) (fun i => (tab [(2, (pq g2)), (3, (pq g3)), (7, (iq l13i64)), (62, v0_0), (63, (iq (a0.Things.length : Int))), (64, (iq l13i64))])) (fun i => kk24 i = some r) ?_ ?_
 rintro j23x3_0 h
 have h : kk24 j23x3_0 = some r := h
 rw [hkk24] at h
 dsimp only at h
 clear hkk24
 refine aw_show (m := (mm35 w0 Z0 a0 g2 g3 j23x3_0 p19 s20 u17 v0_0 v0_1 v6)) (S := _) ?_
 refine aw_region ?_
 refine al_val (ov_fieldA (p := 0) rfl Try.underlying38 rfl sz36 rfl rfl rfl) ?_
 refine al_val (ov_load (i := 2) (v := v6) rfl rfl Try.underlying36 sz36 rfl rfl rfl rfl) ?_
 refine mv_ ?_
 obtain ⟨u25, hu26, h⟩ := opt_some h
 refine al_idxR 1 (at_some hu26).1 (at_some hu26).2.1 rfl rfl rfl Try.underlying36 sz71 rfl (fun p27 hp28 => ?_)
 refine al_fieldR hp28 rfl Try.underlying71 rfl sz3 rfl rfl (fun p29 hp30 => ?_)
 refine al_storeF (k := (l13i64).toNat) (x := u25) (y := (0 : Int)) (vs := [(iq (0 : Int))]) 1 rfl hp30 (at_some hu26).2.2 ssetS_api_Thing_1 rfl rfl rfl (cv_rfl rfl) (fun _ => rfl) sz3 rfl ?_
 refine al_nil ?_
 refine aq_block ?_
 refine aq_then ?_
 refine aw_region ?_
 refine in_ ?_
 refine mv_ ?_
 refine al_nil ?_
 exact aq_again k14 ((j23x3_0.set (l13i64).toNat { (u25 : S_api_Thing) with Colour := (0 : Int) }), (wq (l13i64 + (1 : Int)))) (Nat.lt_succ_self _) h (nm_ [0, 1, 2] [0, 1] (by decide) ⟨rfl, rfl, rfl, rfl, rfl, trivial⟩)
 clear hkk24
 refine aw_sr ?_
 refine al_val (ov_fieldA (p := 1) rfl Try.underlying71 rfl sz3 rfl rfl rfl) ?_
 refine al_val (ov_load (i := 0) (v := (iq u17.Colour)) rfl rfl Try.underlying3 sz3 rfl rfl rfl rfl) ?_
 refine im_ ?_
 refine aw_cond rfl (fun hb31 => ?_) (fun hb31 => ?_)
 replace h := bif_t hb31 h
 refine aw_region ?_
 refine al_val (ov_fieldA (p := 0) rfl Try.underlying38 rfl sz36 rfl rfl rfl) ?_
 refine al_val (ov_load (i := 3) (v := v6) rfl rfl Try.underlying36 sz36 rfl rfl rfl rfl) ?_
 refine mv_ ?_
 refine al_val (ov_build (cells := ([nS, (iq (0 : Int)), (bool true)] : List Value).toArray) (cs := [nS, (iq (0 : Int)), (bool true)]) rfl (fun w a hm hs => by simp only [List.map_toArray, List.map_cons, List.map_nil, List.toList_toArray, hs.ev (x := .const (bool true)) rfl]; kernel_rfl)) ?_
 obtain ⟨u32, hu33, h⟩ := opt_some h
 refine al_idxR 2 (at_some hu33).1 (at_some hu33).2.1 rfl rfl rfl Try.underlying36 sz71 rfl (fun p34 hp35 => ?_)
 refine al_storeR (k := (l13i64).toNat) (x := (S_api_Thing.mk ([] : (List Int)) (0 : Int) true)) (vs := [nS, (iq (0 : Int)), (bool true)]) 2 rfl hp35 (idx_lt hu33) rfl rfl (cv_rfl rfl) (fun hm => mknS_api_Thing (x := (S_api_Thing.mk ([] : (List Int)) (0 : Int) true)) rfl (nil_dat _ _ _)) sz71 rfl ?_
 refine al_nil ?_
 exact aq_join (l13x3_0.set (l13i64).toNat (S_api_Thing.mk ([] : (List Int)) (0 : Int) true)) h (nm_ [1, 2, 3] [3, 4, 0, 1, 2] (by decide) ⟨rfl, rfl, rfl, rfl, rfl, rfl, trivial⟩)
 replace h := bif_f hb31 h
 refine aw_skip ?_
 exact aq_join l13x3_0 h (nm_ [1, 2, 3] [3, 4, 0, 1, 2] (by decide) ⟨rfl, rfl, rfl, rfl, rfl, rfl, trivial⟩)
 replace h := bif_f hb16 h
 refine aw_exit ?_
 refine aq_then_exit ?_
 refine aq_then_exit ?_
 refine aq_block_exit ?_
 exact aq_join l13x3_0 h (nm_ [0, 1, 2] [0, 1] (by decide) ⟨rfl, rfl, trivial⟩)
 clear hkk10
 refine aw_sr ?_
 refine al_val (ov_fieldA (p := 0) rfl Try.underlying38 rfl sz36 rfl rfl rfl) ?_
 refine al_val (ov_load (i := 0) (v := v0_0) rfl rfl Try.underlying36 sz36 rfl rfl rfl rfl) ?_
 refine al_val (ov_lenD 0 rfl rfl Try.underlying36 rfl) ?_
 refine mv_ ?_
 refine al_nt ?_
 refine aw_block ?_
 refine aw_state (aw_loop (ι := Int) (fun i => (mm32 w0 Z0 a0 g1 g2 g3 r5 v0_0 v0_1 v6)) (fun i => (tab [(1, (pq g1)), (2, (pq g2)), (3, (pq g3)), (38, v0_0), (39, (iq (a0.Things.length : Int))), (40, (iq i))])) (fun q i => f_lumref_marked_L38 a0 r5 kk10 fu q i = some r) ?_ fu (0 : Int) h) (nm_ [0, 1, 2, 3] [0, 1] (by decide) ⟨rfl, rfl, rfl, rfl, rfl, rfl, trivial⟩)
 clear h
 rintro k37 l36i40 h
 have h : f_lumref_marked_L38 a0 r5 kk10 fu k37 l36i40 = some r := h
 obtain _ | k37 := k37
 rw [f_lumref_marked_L38] at h; cases h
 rw [f_lumref_marked_L38] at h
 refine aw_show (m := (mm32 w0 Z0 a0 g1 g2 g3 r5 v0_0 v0_1 v6)) (S := _) ?_
 refine aw_sr ?_
 refine im_ ?_
 refine aw_seq ?_
 refine aw_cond rfl (fun hb39 => ?_) (fun hb39 => ?_)
 replace h := bif_t hb39 h
 refine aw_skip ?_
 refine aq_then ?_
 refine aw_seq ?_
 refine aw_block ?_
 refine sm_ ?_
 obtain ⟨u40, hu41, h⟩ := opt_some h
 refine al_idxD 0 hu41 rfl rfl rfl Try.underlying36 sz71 rfl (fun p42 => ?_)
 refine al_loadPA 0 rfl rfl Try.underlying71 sz71 rfl rfl (fun cs44 => ?_)
 refine al_use (ι := Value) 0 rfl (fun j => cs44 = [j, (iq u40.Colour), (bool u40.Free)]) (fun j => [(fDat (tyList tq) [j] u40.Kids)]) encnS_api_Thing (fun s43 hq => ?_)
 subst hq
 refine al_alloc (zs := [nS, (iq (0 : Int)), (bool false)]) (zeroOf_to to71) rfl rfl (fun g45 => ?_)
 refine as_ ?_
 refine al_store (i := 0) (vs := [s43, (iq u40.Colour), (bool u40.Free)]) (cs' := [s43, (iq u40.Colour), (bool u40.Free)]) rfl rfl rfl sz71 (cv_rfl rfl) rfl (co_fz 0 rfl (co_val rfl (co_val rfl co_nil))) (Nat.le_of_ble_eq_true rfl) rfl rfl ?_
 refine al_nt ?_
 refine aw_sr ?_
 refine al_val (ov_fieldA (p := 1) rfl Try.underlying71 rfl sz3 rfl rfl rfl) ?_
 refine al_val (ov_load (i := 0) (v := (iq u40.Colour)) rfl rfl Try.underlying3 sz3 rfl rfl rfl rfl) ?_
 refine im_ ?_
 refine aw_cond rfl (fun hb46 => ?_) (fun hb46 => ?_)
 replace h := bif_t hb46 h
 refine aw_sr ?_
 refine al_val (ov_fieldA (p := 0) rfl Try.underlying38 rfl sz36 rfl rfl rfl) ?_
 refine al_val (ov_load (i := 4) (v := v6) rfl rfl Try.underlying36 sz36 rfl rfl rfl rfl) ?_
 refine mv_ ?_
 obtain ⟨u47, hu48, h⟩ := opt_some h
 refine al_idxR 3 (at_some hu48).1 (at_some hu48).2.1 rfl rfl rfl Try.underlying36 sz71 rfl (fun p49 hp50 => ?_)
 refine al_fieldR hp50 rfl Try.underlying71 rfl sz3 rfl rfl (fun p51 hp52 => ?_)
 refine al_storeF (k := (l36i40).toNat) (x := u47) (y := (2 : Int)) (vs := [(iq (2 : Int))]) 3 rfl hp52 (at_some hu48).2.2 ssetS_api_Thing_1 rfl rfl rfl (cv_rfl rfl) (fun _ => rfl) sz3 rfl ?_
 refine al_nt ?_
 refine aw_sr ?_
 refine al_val (ov_fieldA (p := 0) rfl Try.underlying38 rfl sz36 rfl rfl rfl) ?_
 refine al_val (ov_load (i := 4) (v := v6) rfl rfl Try.underlying36 sz36 rfl rfl rfl rfl) ?_
 refine al_val (ov_fieldA (p := 0) rfl Try.underlying71 rfl sz30 rfl rfl rfl) ?_
 refine al_val (ov_load (i := 0) (v := s43) rfl rfl Try.underlying30 sz30 rfl rfl rfl rfl) ?_
 refine al_freeze 3 rfl rfl ?_
 obtain ⟨r54, hc53, h⟩ := opt_some h
 refine al_call (vs := [v6, s43]) (f_lumref_greyed_ok fu v6 (r5.set (l36i40).toNat { (u47 : S_api_Thing) with Colour := (2 : Int) }) s43 u40.Kids hc53) [] [] [0, 1, 2, 3] (pre_fz 0 rfl (pre_fz 1 rfl pre_nil)) rfl (by simp) (by decide) (.inl rfl) rfl Try.func72 rfl rfl rfl (fun v55 => ?_)
 refine al_val (ov_fieldA (p := 0) rfl Try.underlying38 rfl sz36 rfl rfl rfl) ?_
 refine al_store (i := 4) (vs := [v55]) (cs' := [v55, v0_1, (bool true)]) rfl rfl rfl sz36 (cv_own 0 rfl) rfl (co_own 0 rfl co_nil) (Nat.le_of_ble_eq_true rfl) rfl rfl ?_
 refine al_nt ?_
 refine aw_sr ?_
 refine al_val (ov_load (i := 4) (v := (ag [v55, v0_1, (bool true)])) rfl rfl Try.underlying38 sz38 rfl rfl rfl rfl) ?_
 refine al_store (i := 3) (vs := [v55, v0_1, (bool true)]) (cs' := [v55, v0_1, (bool true)]) rfl rfl rfl sz38 (cv_rfl rfl) rfl (co_own 0 rfl (co_fz 5 rfl (co_val rfl co_nil))) (Nat.le_of_ble_eq_true rfl) rfl rfl ?_
 refine nr_ ?_
 refine aq_block_ret ?_
 refine aq_then_ret ?_
 refine aq_then_ret ?_
 refine aq_block_ret ?_
 refine aq_then_ret ?_
 refine aq_freeze 0 rfl rfl ?_
 cases h
 exact fn_ret (v55, v0_1) [] [0, 6] rfl rfl rfl rfl (resC rfl (resB (i := 2) rfl rfl Try.underlying38 sz38 rfl rfl rfl (resN)) rfl) rfl rfl rfl (by decide)
 replace h := bif_f hb46 h
 refine aw_skip ?_
 refine aq_block ?_
 refine aq_then ?_
 refine aw_region ?_
 refine in_ ?_
 refine mv_ ?_
 refine al_nil ?_
 exact aq_again k37 (wq (l36i40 + (1 : Int))) (Nat.lt_succ_self _) h (nm_ [1, 2, 3, 4] [3, 4] (by decide) ⟨rfl, rfl, rfl, rfl, rfl, rfl, trivial⟩)
 replace h := bif_f hb39 h
 refine aw_exit ?_
 refine aq_then_exit ?_
 refine aq_then_exit ?_
 refine aq_block_exit ?_
 exact aq_join () h (nm_ [0, 1, 2, 3] [0, 1] (by decide) ⟨rfl, rfl, rfl, trivial⟩)
 clear hkk8
 refine aw_sr ?_
 refine al_val (ov_fieldA (p := 2) rfl Try.underlying38 rfl sz4 rfl rfl rfl) ?_
 refine al_val (ov_load (i := 3) (v := (bool a0.Busy)) rfl rfl Try.underlying4 sz4 rfl rfl rfl rfl) ?_
 refine al_val (ov_not rfl rfl) ?_
 refine al_nt ?_
 refine aw_cond rfl (fun hb56 => ?_) (fun hb56 => ?_)
 replace h := bif_t hb56 h
 obtain ⟨kk58, hkk58, h⟩ := lt_some h
 refine aw_seq_join (ι := (List S_api_Thing)) (fun i => (mm36 w0 Z0 a0 g1 g2 g3 i v0_0 v0_1 v6)) (fun i => (tab [(1, (pq g1)), (2, (pq g2)), (3, (pq g3))])) (fun i => kk58 i = some r) ?_ ?_
 rintro j57x3_0 h
 have h : kk58 j57x3_0 = some r := h
 rw [hkk58] at h
 dsimp only at h
 clear hkk58
 refine aw_show (m := (mm36 w0 Z0 a0 g1 g2 g3 j57x3_0 v0_0 v0_1 v6)) (S := _) ?_
 refine aw_sr ?_
 refine al_val (ov_fieldA (p := 0) rfl Try.underlying38 rfl sz36 rfl rfl rfl) ?_
 refine al_val (ov_load (i := 3) (v := v6) rfl rfl Try.underlying36 sz36 rfl rfl rfl rfl) ?_
 refine al_val (ov_fieldA (p := 1) rfl Try.underlying38 rfl sz30 rfl rfl rfl) ?_
 refine al_val (ov_load (i := 0) (v := v0_1) rfl rfl Try.underlying30 sz30 rfl rfl rfl rfl) ?_
 refine al_freeze 2 rfl rfl ?_
 obtain ⟨r60, hc59, h⟩ := opt_some h
 refine al_call (vs := [v6, v0_1]) (f_lumref_greyed_ok fu v6 j57x3_0 v0_1 a0.Roots hc59) [] [] [0, 1, 2] (pre_fz 0 rfl (pre_fz 2 rfl pre_nil)) rfl (by simp) (by decide) (.inl rfl) rfl Try.func72 rfl rfl rfl (fun v61 => ?_)
 refine al_val (ov_fieldA (p := 0) rfl Try.underlying38 rfl sz36 rfl rfl rfl) ?_
 refine al_store (i := 3) (vs := [v61]) (cs' := [v61, v0_1, (bool true)]) rfl rfl rfl sz36 (cv_own 0 rfl) rfl (co_own 0 rfl co_nil) (Nat.le_of_ble_eq_true rfl) rfl rfl ?_
 refine al_nt ?_
 refine aw_sr ?_
 refine al_val (ov_load (i := 3) (v := (ag [v61, v0_1, (bool true)])) rfl rfl Try.underlying38 sz38 rfl rfl rfl rfl) ?_
 refine al_store (i := 2) (vs := [v61, v0_1, (bool true)]) (cs' := [v61, v0_1, (bool true)]) rfl rfl rfl sz38 (cv_rfl rfl) rfl (co_own 0 rfl (co_fz 2 rfl (co_val rfl co_nil))) (Nat.le_of_ble_eq_true rfl) rfl rfl ?_
 refine nr_ ?_
 refine aq_then_ret ?_
 refine aq_freeze 0 rfl rfl ?_
 cases h
 exact fn_ret (v61, v0_1) [] [0, 3] rfl rfl rfl rfl (resC rfl (resB (i := 1) rfl rfl Try.underlying38 sz38 rfl rfl rfl (resN)) rfl) rfl rfl rfl (by decide)
 clear hkk58
 refine aw_sr ?_
 refine al_val (ov_fieldA (p := 0) rfl Try.underlying38 rfl sz36 rfl rfl rfl) ?_
 refine al_val (ov_load (i := 0) (v := v6) rfl rfl Try.underlying36 sz36 rfl rfl rfl rfl) ?_
 refine al_val (ov_lenR 1 rfl rfl Try.underlying36 rfl) ?_
 refine mv_ ?_
 refine al_nt ?_
 refine aw_block ?_
 refine aw_state (aw_loop (ι := (List S_api_Thing) × Int) (fun i => (mm37 w0 Z0 a0 g1 g2 g3 i.1 v0_0 v0_1 v6)) (fun i => (tab [(1, (pq g1)), (2, (pq g2)), (3, (pq g3)), (20, (iq (r5.length : Int))), (21, (iq i.2))])) (fun q i => f_lumref_marked_L64 r5 kk58 q i.1 i.2 = some r) ?_ fu (r5, (0 : Int)) h) (nm_ [3, 2, 1, 0] [0, 1] (by decide) ⟨rfl, rfl, rfl, rfl, rfl, trivial⟩)
 clear h
 rintro k63 ⟨l62x3_0, l62i21⟩ h
 have h : f_lumref_marked_L64 r5 kk58 k63 l62x3_0 l62i21 = some r := h
 obtain _ | k63 := k63
 rw [f_lumref_marked_L64] at h; cases h
 rw [f_lumref_marked_L64] at h
 refine aw_show (m := (mm37 w0 Z0 a0 g1 g2 g3 l62x3_0 v0_0 v0_1 v6)) (S := _) ?_
 refine aw_sr ?_
 refine im_ ?_
 refine aw_seq ?_
 refine aw_cond rfl (fun hb65 => ?_) (fun hb65 => ?_)
 replace h := bif_t hb65 h
 refine aw_skip ?_
 refine aq_then ?_
 refine aw_seq ?_
 refine aw_block ?_
 refine sm_ ?_
 refine an_ ?_
 refine aw_region ?_
 refine al_val (ov_fieldA (p := 0) rfl Try.underlying38 rfl sz36 rfl rfl rfl) ?_
 refine al_val (ov_load (i := 3) (v := v6) rfl rfl Try.underlying36 sz36 rfl rfl rfl rfl) ?_
 refine mv_ ?_
 obtain ⟨u66, hu67, h⟩ := opt_some h
 refine al_idxR 2 (at_some hu67).1 (at_some hu67).2.1 rfl rfl rfl Try.underlying36 sz71 rfl (fun p68 hp69 => ?_)
 refine al_fieldR hp69 rfl Try.underlying71 rfl sz3 rfl rfl (fun p70 hp71 => ?_)
 refine al_storeF (k := (l62i21).toNat) (x := u66) (y := (0 : Int)) (vs := [(iq (0 : Int))]) 2 rfl hp71 (at_some hu67).2.2 ssetS_api_Thing_1 rfl rfl rfl (cv_rfl rfl) (fun _ => rfl) sz3 rfl ?_
 refine al_nil ?_
 refine aq_block ?_
 refine aq_then ?_
 refine aw_region ?_
 refine in_ ?_
 refine mv_ ?_
 refine al_nil ?_
 exact aq_again k63 ((l62x3_0.set (l62i21).toNat { (u66 : S_api_Thing) with Colour := (0 : Int) }), (wq (l62i21 + (1 : Int)))) (Nat.lt_succ_self _) h (nm_ [0, 1, 2, 3] [0, 1] (by decide) ⟨rfl, rfl, rfl, rfl, rfl, trivial⟩)
 replace h := bif_f hb65 h
 refine aw_exit ?_
 refine aq_then_exit ?_
 refine aq_then_exit ?_
 refine aq_block_exit ?_
 exact aq_join l62x3_0 h (nm_ [0, 1, 2, 3] [0, 1] (by decide) ⟨rfl, rfl, rfl, trivial⟩)
 replace h := bif_f hb56 h
 refine aw_skip ?_
 exact aq_join () h (nm_ [3, 2, 1, 0] [0, 1] (by decide) ⟨rfl, rfl, rfl, trivial⟩)
def f_lumref_with (fu : Nat) (a0 : (List Int)) (a1 : Int) : Option (List Int) := (opt (f_slices_Clone___int_int_ fu a0) fun (r2 : (List Int)) => (req (((r2.length + ([a1]).length) * 8 : Nat) ≤ 140737488355328 ∧ r2.length + ([a1]).length ≤ 9223372036854775807) (some (r2 ++ ([a1])))))
set_option maxRecDepth 100000 in
theorem f_lumref_with_ok (fu : Nat) (v0_0 : Value) (a0 : (List Int)) (a1 : Int) {r : (List Int)} (h : f_lumref_with fu a0 a1 = some r) : FnOk Try.prog 41 [v0_0, (int .i64 a1)] [(fDat (tyList (tyInt .i64)) [v0_0] a0)] [] (fun (i : Value) => { val := i, own := [(oRow i 3 (tyInt .i64) r)] }) := by
 unfold f_lumref_with at h
 refine fn_enter Try.func41 rfl Try.ntmps41 rfl (fun w0 Z0 => ?_)
 refine aw_sr ?_
 refine an_ ?_
 refine sm_ ?_
 obtain ⟨r2, hc1, h⟩ := opt_some h
 refine al_call (vs := [v0_0]) (f_slices_Clone___int_int__ok fu v0_0 a0 hc1) [] [] [] (pre_fz 0 rfl pre_nil) rfl (by simp) (by decide) (.inl rfl) rfl Try.func65 rfl rfl rfl (fun v3 => ?_)
 refine mv_ ?_
 refine al_buildSlice (τ := tq) (e := 3) (k := 1) (sz := 0) (by_ := 0) (z := undef) (cs := [(iq a1)]) (xs := [a1]) rfl (by decide) (fun w a hm hs => ⟨([(iq a1)]).toArray, rfl, by simp only [List.map_toArray, List.map_cons, List.map_nil, hs.ev (x := .tmp 7) rfl]; exact run_bs [(iq a1)] [(iq a1)] Try.underlying30 to3 rfl rfl (bs_cons (l := [(iq a1)]) (cs := []) (cv_rfl rfl) rfl bs_nil) hm⟩) (fun hm => ⟨_, _, rfl, (fun _ => rfl) hm, rfl⟩) rfl (fun v4 => ?_)
 obtain ⟨hc5, h⟩ := req_some h
 refine al_append 1 hc5.1 hc5.2 rfl (src_own (i := 1) 0 rfl) rfl rfl Try.underlying30 to3 rfl rfl rfl (fun v6 => ?_)
 refine an_ ?_
 refine aw_ret ?_
 cases h
 exact fn_ret v6 [1] [] rfl rfl rfl rfl (res1 rfl rfl) rfl rfl rfl (by decide)
def f_lumref_shaded (fu : Nat) (a0 : S_api_Heap) (a1 : Int) : Option S_api_Heap := (bif a0.Busy then (opt (f_lumref_greyed fu a0.Things ([a1])) fun (r7 : (List S_api_Thing)) => (some (S_api_Heap.mk r7 a0.Roots a0.Busy))) else (some a0))
set_option maxHeartbeats 2000000 in
set_option maxRecDepth 100000 in
theorem f_lumref_shaded_ok (fu : Nat) (v0_0 : Value) (v0_1 : Value) (a0 : S_api_Heap) (a1 : Int) {r : S_api_Heap} (h : f_lumref_shaded fu a0 a1 = some r) : FnOk Try.prog 42 [(ag [v0_0, v0_1, (bool a0.Busy)]), (int .i64 a1)] [(fDat (tyList tyS_api_Thing) [v0_0] a0.Things), (fDat (tyList (tyInt .i64)) [v0_1] a0.Roots)] [] (fun (i : Value × Value) => { val := (ag [i.1, i.2, (bool r.Busy)]), fz := [(fDat (tyList tyS_api_Thing) [i.1] r.Things), (fDat (tyList (tyInt .i64)) [i.2] r.Roots)] }) := by
 unfold f_lumref_shaded at h
 refine fn_enter Try.func42 rfl Try.ntmps42 rfl (fun w0 Z0 => ?_)
 refine aw_sr ?_
 refine al_box (vs := [v0_0, v0_1, (bool a0.Busy)]) rfl (cv_rfl rfl) rfl (fun g1 => ?_)
 refine al_alloc (zs := [nS, nS, (bool false)]) (zeroOf_to to38) rfl rfl (fun g2 => ?_)
 refine al_nt ?_
 refine aw_seq ?_
 refine aw_sr ?_
 refine al_val (ov_fieldA (p := 2) rfl Try.underlying38 rfl sz4 rfl rfl rfl) ?_
 refine al_val (ov_load (i := 1) (v := (bool a0.Busy)) rfl rfl Try.underlying4 sz4 rfl rfl rfl rfl) ?_
 refine al_nt ?_
 refine aw_cond rfl (fun hb4 => ?_) (fun hb4 => ?_)
 replace h := bif_t hb4 h
 refine aw_region ?_
 refine al_val (ov_fieldA (p := 0) rfl Try.underlying38 rfl sz36 rfl rfl rfl) ?_
 refine al_val (ov_load (i := 1) (v := v0_0) rfl rfl Try.underlying36 sz36 rfl rfl rfl rfl) ?_
 refine mv_ ?_
 refine al_buildSlice (τ := tq) (e := 3) (k := 1) (sz := 0) (by_ := 0) (z := undef) (cs := [(iq a1)]) (xs := [a1]) rfl (by decide) (fun w a hm hs => ⟨([(iq a1)]).toArray, rfl, by simp only [List.map_toArray, List.map_cons, List.map_nil, hs.ev (x := .tmp 9) rfl]; exact run_bs [(iq a1)] [(iq a1)] Try.underlying30 to3 rfl rfl (bs_cons (l := [(iq a1)]) (cs := []) (cv_rfl rfl) rfl bs_nil) hm⟩) (fun hm => ⟨_, _, rfl, (fun _ => rfl) hm, rfl⟩) rfl (fun v5 => ?_)
 refine al_freeze 0 rfl rfl ?_
 obtain ⟨r7, hc6, h⟩ := opt_some h
 refine al_call (vs := [v0_0, v5]) (f_lumref_greyed_ok fu v0_0 a0.Things v5 ([a1]) hc6) [] [] [0, 1] (pre_fz 1 rfl (pre_fz 0 rfl pre_nil)) rfl (by simp) (by decide) (.inl rfl) rfl Try.func72 rfl rfl rfl (fun v8 => ?_)
 refine al_val (ov_fieldA (p := 0) rfl Try.underlying38 rfl sz36 rfl rfl rfl) ?_
 refine al_store (i := 2) (vs := [v8]) (cs' := [v8, v0_1, (bool a0.Busy)]) rfl rfl rfl sz36 (cv_own 0 rfl) rfl (co_own 0 rfl co_nil) (Nat.le_of_ble_eq_true rfl) rfl rfl ?_
 refine al_nt ?_
 refine aw_sr ?_
 refine al_val (ov_load (i := 2) (v := (ag [v8, v0_1, (bool a0.Busy)])) rfl rfl Try.underlying38 sz38 rfl rfl rfl rfl) ?_
 refine al_store (i := 1) (vs := [v8, v0_1, (bool a0.Busy)]) (cs' := [v8, v0_1, (bool a0.Busy)]) rfl rfl rfl sz38 (cv_rfl rfl) rfl (co_own 0 rfl (co_fz 2 rfl (co_val rfl co_nil))) (Nat.le_of_ble_eq_true rfl) rfl rfl ?_
 refine nr_ ?_
 refine aq_freeze 0 rfl rfl ?_
 cases h
 exact fn_ret (v8, v0_1) [] [0, 3] rfl rfl rfl rfl (resC rfl (resB (i := 0) rfl rfl Try.underlying38 sz38 rfl rfl rfl (resN)) rfl) rfl rfl rfl (by decide)
 replace h := bif_f hb4 h
 refine aw_skip ?_
 refine aq_tr ?_
 refine al_val (ov_load (i := 1) (v := (ag [v0_0, v0_1, (bool a0.Busy)])) rfl rfl Try.underlying38 sz38 rfl rfl rfl rfl) ?_
 refine al_store (i := 0) (vs := [v0_0, v0_1, (bool a0.Busy)]) (cs' := [v0_0, v0_1, (bool a0.Busy)]) rfl rfl rfl sz38 (cv_rfl rfl) rfl (co_fz 0 rfl (co_fz 1 rfl (co_val rfl co_nil))) (Nat.le_of_ble_eq_true rfl) rfl rfl ?_
 refine nr_ ?_
 cases h
 exact fn_ret (v0_0, v0_1) [] [0, 1] rfl rfl rfl rfl (resC rfl (resB (i := 0) rfl rfl Try.underlying38 sz38 rfl rfl rfl (resN)) rfl) rfl rfl rfl (by decide)
def f_lumref_without (fu : Nat) (a0 : (List Int)) (a1 : Int) : Option (List Int) := (req (0 ≤ a1 ∧ a1 ≤ (a0.length : Int)) (req (0 ≤ (IntKind.i64.wrap (a1 + (1 : Int))) ∧ (IntKind.i64.wrap (a1 + (1 : Int))) ≤ (a0.length : Int)) (opt (f_slices_Clone___int_int_ fu (a0.take (a1).toNat)) fun (r6 : (List Int)) => (req (((r6.length + (a0.drop ((IntKind.i64.wrap (a1 + (1 : Int)))).toNat).length) * 8 : Nat) ≤ 140737488355328 ∧ r6.length + (a0.drop ((IntKind.i64.wrap (a1 + (1 : Int)))).toNat).length ≤ 9223372036854775807) (some (r6 ++ (a0.drop ((IntKind.i64.wrap (a1 + (1 : Int)))).toNat)))))))
set_option maxHeartbeats 2000000 in
set_option maxRecDepth 100000 in
theorem f_lumref_without_ok (fu : Nat) (v0_0 : Value) (a0 : (List Int)) (a1 : Int) {r : (List Int)} (h : f_lumref_without fu a0 a1 = some r) : FnOk Try.prog 43 [v0_0, (int .i64 a1)] [(fDat (tyList (tyInt .i64)) [v0_0] a0)] [] (fun (i : Value) => { val := i, own := [(oRow i 3 (tyInt .i64) r)] }) := by
 unfold f_lumref_without at h
 refine fn_enter Try.func43 rfl Try.ntmps43 rfl (fun w0 Z0 => ?_)
 refine aw_sr ?_
 refine an_ ?_
 refine aw_seq ?_
 obtain ⟨hc1, h⟩ := req_some h
 obtain ⟨hc3, h⟩ := req_some h
 refine aw_region_open [(sp_ 0 5 v0_0), (sp_ 1 6 (iq a1)), ⟨2, 7, Value, fun (i : Value) => { val := i, fz := [(fDat (tyList tq) [i] (a0.take (a1).toNat))] }⟩, (sp_ 4 9 v0_0), (sp_ 5 10 (iq a1)), (sp_ 6 11 (iq (wq (a1 + (1 : Int))))), ⟨7, 12, Value, fun (i : Value) => { val := i, fz := [(fDat (tyList tq) [i] (a0.drop ((wq (a1 + (1 : Int)))).toNat))] }⟩] (tab [(0, v0_0), (1, (iq a1)), (4, nS)]) mixed (fun a hs => hs.tab _ (allT_mem ⟨rfl, rfl, rfl, trivial⟩)) ?_
 refine ta_show (m := (memOf w0 Z0 [] [] [(fDat (tyList tq) [v0_0] a0)])) (S := _) ?_
 refine ta_step 3 _ [0, 1, 2, 4, 5, 6, 7] [5, 6, 7, 9, 10, 11, 12] [0, 1, 2] [] [(sp_ 0 5 v0_0), (sp_ 1 6 (iq a1)), ⟨2, 7, Value, fun (i : Value) => { val := i, fz := [(fDat (tyList tq) [i] (a0.take (a1).toNat))] }⟩] [(sp_ 4 9 v0_0), (sp_ 5 10 (iq a1)), (sp_ 6 11 (iq (wq (a1 + (1 : Int))))), ⟨7, 12, Value, fun (i : Value) => { val := i, fz := [(fDat (tyList tq) [i] (a0.drop ((wq (a1 + (1 : Int)))).toNat))] }⟩] rfl rfl rfl (by kernel_rfl) rfl rfl rfl ⟨⟨_, rfl, [], rfl, by
  intro X_ Y_ F_ K_ hK_
  refine sh_ (memOf w0 Z0 [] [] [(fDat (tyList tq) [v0_0] a0)]) X_ Y_ ?_
  refine mv_ ?_
  refine al_nil ?_
  exact fr_fin hK_ ()⟩, ⟨_, rfl, [], rfl, by
  intro X_ Y_ F_ K_ hK_
  refine sh_ (memOf w0 Z0 [] [] [(fDat (tyList tq) [v0_0] a0)]) X_ Y_ ?_
  refine mv_ ?_
  refine al_nil ?_
  exact fr_fin hK_ ()⟩, ⟨_, rfl, [0, 1], rfl, by
  intro _
  intro _
  intro X_ Y_ F_ K_ hK_
  refine sh_ (memOf w0 Z0 [] [] [(fDat (tyList tq) [v0_0] a0)]) X_ Y_ ?_
  refine al_sliceDT 0 hc1.1 hc1.2 rfl rfl rfl Try.underlying30 sz3 rfl (fun s2 => ?_)
  refine al_nil ?_
  exact fr_fin hK_ s2⟩, ⟨_, rfl, [], rfl, by
  intro X_ Y_ F_ K_ hK_
  refine sh_ (memOf w0 Z0 [] [] [(fDat (tyList tq) [v0_0] a0)]) X_ Y_ ?_
  refine mv_ ?_
  refine al_nil ?_
  exact fr_fin hK_ ()⟩, ⟨_, rfl, [], rfl, by
  intro X_ Y_ F_ K_ hK_
  refine sh_ (memOf w0 Z0 [] [] [(fDat (tyList tq) [v0_0] a0)]) X_ Y_ ?_
  refine mv_ ?_
  refine al_nil ?_
  exact fr_fin hK_ ()⟩, ⟨_, rfl, [4], rfl, by
  intro _
  intro X_ Y_ F_ K_ hK_
  refine sh_ (memOf w0 Z0 [] [] [(fDat (tyList tq) [v0_0] a0)]) X_ Y_ ?_
  refine in_ ?_
  refine al_nil ?_
  exact fr_fin hK_ ()⟩, ⟨_, rfl, [3, 5], rfl, by
  intro _
  intro _
  intro X_ Y_ F_ K_ hK_
  refine sh_ (memOf w0 Z0 [] [] [(fDat (tyList tq) [v0_0] a0)]) X_ Y_ ?_
  refine al_sliceDF 0 hc3.1 hc3.2 rfl rfl rfl Try.underlying30 sz3 rfl (fun s4 => ?_)
  refine al_nil ?_
  exact fr_fin hK_ s4⟩, trivial⟩ ?_
 intro _
 intro _
 intro s2
 intro X_ Y_ F_ K_ hK_
 refine sh_ (memOf w0 Z0 [] [] [(fDat (tyList tq) [s2] (a0.take (a1).toNat)), (fDat (tyList tq) [v0_0] a0)]) X_ Y_ ?_
 obtain ⟨r6, hc5, h⟩ := opt_some h
 refine al_callX (vs := [s2]) (f_slices_Clone___int_int__ok fu s2 (a0.take (a1).toNat) hc5) [] [] [] (pre_fz 0 rfl pre_nil) rfl (by simp) (by decide) rfl (.inl rfl) rfl Try.func65 rfl rfl rfl (fun v7 => ?_)
 refine al_nil ?_
 refine aq_show (m := Mem.plus (memOf w0 Z0 [] [(oRow v7 3 tq r6)] [(fDat (tyList tq) [s2] (a0.take (a1).toNat)), (fDat (tyList tq) [v0_0] a0)]) X_ Y_) ?_
 refine aq_next hK_ [0] [1] [(0, v0_0), (1, (iq a1)), (4, nS), (8, v7)] [9, 10, 11, 12] [] rfl rfl (by decide) rfl ⟨rfl, rfl, rfl, rfl, trivial⟩ ⟨rfl, rfl, rfl, rfl, trivial⟩ ?_
 clear hK_ K_ F_ X_ Y_
 refine ta_show (m := (memOf w0 Z0 [] [(oRow v7 3 tq r6)] [(fDat (tyList tq) [v0_0] a0)])) (S := _) ?_
 refine ta_step 8 _ [4, 5, 6, 7] [9, 10, 11, 12] [4, 5, 6, 7] [] [(sp_ 4 9 v0_0), (sp_ 5 10 (iq a1)), (sp_ 6 11 (iq (wq (a1 + (1 : Int))))), ⟨7, 12, Value, fun (i : Value) => { val := i, fz := [(fDat (tyList tq) [i] (a0.drop ((wq (a1 + (1 : Int)))).toNat))] }⟩] [] rfl rfl rfl (by kernel_rfl) rfl rfl rfl ⟨⟨_, rfl, [], rfl, by
  intro X_ Y_ F_ K_ hK_
  refine sh_ (memOf w0 Z0 [] [(oRow v7 3 tq r6)] [(fDat (tyList tq) [v0_0] a0)]) X_ Y_ ?_
  refine mv_ ?_
  refine al_nil ?_
  exact fr_fin hK_ ()⟩, ⟨_, rfl, [], rfl, by
  intro X_ Y_ F_ K_ hK_
  refine sh_ (memOf w0 Z0 [] [(oRow v7 3 tq r6)] [(fDat (tyList tq) [v0_0] a0)]) X_ Y_ ?_
  refine mv_ ?_
  refine al_nil ?_
  exact fr_fin hK_ ()⟩, ⟨_, rfl, [1], rfl, by
  intro _
  intro X_ Y_ F_ K_ hK_
  refine sh_ (memOf w0 Z0 [] [(oRow v7 3 tq r6)] [(fDat (tyList tq) [v0_0] a0)]) X_ Y_ ?_
  refine in_ ?_
  refine al_nil ?_
  exact fr_fin hK_ ()⟩, ⟨_, rfl, [0, 2], rfl, by
  intro _
  intro _
  intro X_ Y_ F_ K_ hK_
  refine sh_ (memOf w0 Z0 [] [(oRow v7 3 tq r6)] [(fDat (tyList tq) [v0_0] a0)]) X_ Y_ ?_
  refine al_sliceDF 0 hc3.1 hc3.2 rfl rfl rfl Try.underlying30 sz3 rfl (fun s4 => ?_)
  refine al_nil ?_
  exact fr_fin hK_ s4⟩, trivial⟩ ?_
 intro _
 intro _
 intro _
 intro s4
 intro X_ Y_ F_ K_ hK_
 refine sh_ (memOf w0 Z0 [] [(oRow v7 3 tq r6)] [(fDat (tyList tq) [s4] (a0.drop ((wq (a1 + (1 : Int)))).toNat)), (fDat (tyList tq) [v0_0] a0)]) X_ Y_ ?_
 obtain ⟨hc8, h⟩ := req_some h
 refine al_append 0 hc8.1 hc8.2 rfl (src_dat (i := 0) 0 rfl) rfl rfl Try.underlying30 to3 rfl rfl rfl (fun v9 => ?_)
 refine al_nil ?_
 refine aq_show (m := Mem.plus (memOf w0 Z0 [] [(oRow v9 3 tq (r6 ++ (a0.drop ((wq (a1 + (1 : Int)))).toNat)))] [(fDat (tyList tq) [s4] (a0.drop ((wq (a1 + (1 : Int)))).toNat)), (fDat (tyList tq) [v0_0] a0)]) X_ Y_) ?_
 refine aq_next hK_ [0] [1] [(4, nS), (13, v9)] [] [] rfl rfl (by decide) rfl ⟨rfl, rfl, trivial⟩ trivial ?_
 clear hK_ K_ F_ X_ Y_
 refine ta_show (m := (memOf w0 Z0 [] [(oRow v9 3 tq (r6 ++ (a0.drop ((wq (a1 + (1 : Int)))).toNat)))] [(fDat (tyList tq) [v0_0] a0)])) (S := _) ?_
 refine ta_step 9 _ [] [] [] [] [] [] rfl rfl rfl (by kernel_rfl) rfl rfl rfl trivial ?_
 intro X_ Y_ F_ K_ hK_
 refine sh_ (memOf w0 Z0 [] [(oRow v9 3 tq (r6 ++ (a0.drop ((wq (a1 + (1 : Int)))).toNat)))] [(fDat (tyList tq) [v0_0] a0)]) X_ Y_ ?_
 refine as_ ?_
 refine al_nil ?_
 refine aq_show (m := Mem.plus (memOf w0 Z0 [] [(oRow v9 3 tq (r6 ++ (a0.drop ((wq (a1 + (1 : Int)))).toNat)))] [(fDat (tyList tq) [v0_0] a0)]) X_ Y_) ?_
 refine aq_next hK_ [0] [0] [(4, v9)] [] [] rfl rfl (by decide) rfl ⟨rfl, trivial⟩ trivial ?_
 clear hK_ K_ F_ X_ Y_
 refine ta_show (m := (memOf w0 Z0 [] [(oRow v9 3 tq (r6 ++ (a0.drop ((wq (a1 + (1 : Int)))).toNat)))] [(fDat (tyList tq) [v0_0] a0)])) (S := _) ?_
 refine ta_end [] [] rfl rfl (by kernel_rfl) rfl trivial ?_
 refine aq_show (m := (memOf w0 Z0 [] [(oRow v9 3 tq (r6 ++ (a0.drop ((wq (a1 + (1 : Int)))).toNat)))] [(fDat (tyList tq) [v0_0] a0)])) (S := (tab [(4, v9)])) ?_
 refine aq_then ?_
 refine aw_ret ?_
 cases h
 exact fn_ret v9 [0] [] rfl rfl rfl rfl (res1 rfl rfl) rfl rfl rfl (by decide)
def f_lumref_Sweep_L58 (a0 : S_api_Heap) (kk23 : (Int → Option (S_api_Heap × Int))) : Nat → Int → Option (S_api_Heap × Int)
  | 0, _ => none
  | k57 + 1, l56i10 => (lt (fun (j59b43 : Bool) => (bif j59b43 then (f_lumref_Sweep_L58 a0 kk23 k57 (IntKind.i64.wrap (l56i10 + (1 : Int)))) else (kk23 l56i10))) fun (kk60 : Bool → Option (S_api_Heap × Int)) => (bif (decide (l56i10 < (a0.Things.length : Int))) then (opt (at? a0.Things l56i10) fun (u67 : S_api_Thing) => (kk60 (!u67.Free))) else (kk60 false)))
def f_lumref_Sweep (fu : Nat) (a0 : S_api_Heap) (a1 : S_api_Act) : Option (S_api_Heap × Int) := (opt (f_lumref_Heap fu a0) fun (r5 : Int) => (bif (r5 != (0 : Int)) then (some ((S_api_Heap.mk ([] : (List S_api_Thing)) ([] : (List Int)) false), r5)) else (opt (f_lumref_Live fu a0) fun (r8 : (List Bool)) => (lt (fun (_ : Unit) => (some ((S_api_Heap.mk ([] : (List S_api_Thing)) ([] : (List Int)) false), (5 : Int)))) fun (kk12 : Unit → Option (S_api_Heap × Int)) => (bif (a1.Kind == (1 : Int)) then (opt (f_lumref_marked fu a0) fun (r18 : S_api_Heap) => (some (r18, (0 : Int)))) else (bif (a1.Kind == (2 : Int)) then (lt (fun (j22i10 : Int) => (bif (j22i10 == (40 : Int)) then (some ((S_api_Heap.mk ([] : (List S_api_Thing)) ([] : (List Int)) false), (12 : Int))) else (bif (decide ((a0.Roots.length : Int) ≥ (64 : Int))) then (some ((S_api_Heap.mk ([] : (List S_api_Thing)) ([] : (List Int)) false), (2 : Int))) else (opt (f_slices_Clone___api_Thing_api_Thing_ fu a0.Things) fun (r35 : (List S_api_Thing)) => (opt (f_lumref_with fu a0.Roots j22i10) fun (r38 : (List Int)) => (lt (fun (j40x11_0 : (List S_api_Thing)) => (opt (at? j40x11_0 j22i10) fun (u42 : S_api_Thing) => (opt (f_lumref_shaded fu (S_api_Heap.mk (j40x11_0.set (j22i10).toNat { (u42 : S_api_Thing) with Free := false }) r38 a0.Busy) j22i10) fun (r49 : S_api_Heap) => (some (r49, (0 : Int)))))) fun (kk41 : (List S_api_Thing) → Option (S_api_Heap × Int)) => (bif (j22i10 == (r35.length : Int)) then (req (((r35.length + ([(S_api_Thing.mk ([] : (List Int)) (0 : Int) false)]).length) * 40 : Nat) ≤ 140737488355328 ∧ r35.length + ([(S_api_Thing.mk ([] : (List Int)) (0 : Int) false)]).length ≤ 9223372036854775807) (kk41 (r35 ++ ([(S_api_Thing.mk ([] : (List Int)) (0 : Int) false)])))) else (kk41 r35)))))))) fun (kk23 : Int → Option (S_api_Heap × Int)) => (f_lumref_Sweep_L58 a0 kk23 fu (0 : Int))) else (bif (a1.Kind == (3 : Int)) then (lt (fun (j72b96 : Bool) => (bif j72b96 then (some ((S_api_Heap.mk ([] : (List S_api_Thing)) ([] : (List Int)) false), (9 : Int))) else (opt (at? a0.Things a1.From) fun (u77 : S_api_Thing) => (bif (decide ((u77.Kids.length : Int) ≥ (64 : Int))) then (some ((S_api_Heap.mk ([] : (List S_api_Thing)) ([] : (List Int)) false), (2 : Int))) else (opt (at? a0.Things a1.From) fun (u85 : S_api_Thing) => (opt (f_lumref_with fu u85.Kids a1.To) fun (r91 : (List Int)) => (opt (f_lumref_Sweep_2 fu a1.From r91 a0) fun (r94 : S_api_Heap) => (opt (f_lumref_shaded fu r94 a1.To) fun (r98 : S_api_Heap) => (some (r98, (0 : Int))))))))))) fun (kk73 : Bool → Option (S_api_Heap × Int)) => (opt (f_lumref_Sweep_1 fu a1.From r8) fun (r102 : Bool) => (bif (!r102) then (kk73 true) else (opt (f_lumref_Sweep_1 fu a1.To r8) fun (r105 : Bool) => (kk73 (!r105)))))) else (bif (a1.Kind == (4 : Int)) then (lt (fun (j107b149 : Bool) => (bif j107b149 then (some ((S_api_Heap.mk ([] : (List S_api_Thing)) ([] : (List Int)) false), (9 : Int))) else (opt (at? a0.Things a1.From) fun (u112 : S_api_Thing) => (opt (f_lumref_without fu u112.Kids a1.To) fun (r118 : (List Int)) => (opt (f_lumref_Sweep_2 fu a1.From r118 a0) fun (r121 : S_api_Heap) => (some (r121, (0 : Int)))))))) fun (kk108 : Bool → Option (S_api_Heap × Int)) => (opt (f_lumref_Sweep_1 fu a1.From r8) fun (r125 : Bool) => (bif (!r125) then (kk108 true) else (bif (decide (a1.To < (0 : Int))) then (kk108 true) else (opt (at? a0.Things a1.From) fun (u130 : S_api_Thing) => (kk108 (decide (a1.To ≥ (u130.Kids.length : Int))))))))) else (bif (a1.Kind == (5 : Int)) then (opt (f_lumref_Sweep_1 fu a1.To r8) fun (r137 : Bool) => (bif (!r137) then (some ((S_api_Heap.mk ([] : (List S_api_Thing)) ([] : (List Int)) false), (9 : Int))) else (bif (decide ((a0.Roots.length : Int) ≥ (64 : Int))) then (some ((S_api_Heap.mk ([] : (List S_api_Thing)) ([] : (List Int)) false), (2 : Int))) else (opt (f_lumref_with fu a0.Roots a1.To) fun (r148 : (List Int)) => (opt (f_lumref_shaded fu (S_api_Heap.mk a0.Things r148 a0.Busy) a1.To) fun (r151 : S_api_Heap) => (some (r151, (0 : Int)))))))) else (bif (a1.Kind == (6 : Int)) then (lt (fun (j155b203 : Bool) => (bif j155b203 then (some ((S_api_Heap.mk ([] : (List S_api_Thing)) ([] : (List Int)) false), (9 : Int))) else (opt (f_lumref_without fu a0.Roots a1.To) fun (r163 : (List Int)) => (some ((S_api_Heap.mk a0.Things r163 a0.Busy), (0 : Int)))))) fun (kk156 : Bool → Option (S_api_Heap × Int)) => (bif (decide (a1.To < (0 : Int))) then (kk156 true) else (kk156 (decide (a1.To ≥ (a0.Roots.length : Int)))))) else (kk12 ())))))))))))
abbrev mm38 (w0 : World) (Z0 : Nat → Prop) (a0 : S_api_Heap) (g1 : Nat) (g10 : Nat) (g3 : Nat) (r8 : (List Bool)) (v0_0 : Value) (v0_1 : Value) (v9 : Value) : Mem := memOf w0 Z0 [] [(oBox g3 38 [(Value.slice none 0 0), (Value.slice none 0 0), (bool false)])] [(fPtr tyS_api_Heap (ptr g1 0) a0), (fPtr (tyList tyBool) (ptr g10 0) r8), (fDat (tyList tyBool) [v9] r8), (fDat (tyList tyS_api_Thing) [v0_0] a0.Things), (fDat (tyList (tyInt .i64)) [v0_1] a0.Roots)]
abbrev mm39 (w0 : World) (Z0 : Nat → Prop) (a0 : S_api_Heap) (g1 : Nat) (g10 : Nat) (g3 : Nat) (p25 : Value) (r8 : (List Bool)) (s26 : Value) (v0_0 : Value) (v0_1 : Value) (v9 : Value) : Mem := memOf w0 Z0 [] [(oBox g3 38 [(Value.slice none 0 0), (Value.slice none 0 0), (bool false)])] [(fDat (tyList (tyInt .i64)) [s26] a0.Roots), (fPtr (tyList (tyInt .i64)) p25 a0.Roots), (fPtr tyS_api_Heap (ptr g1 0) a0), (fPtr (tyList tyBool) (ptr g10 0) r8), (fDat (tyList tyBool) [v9] r8), (fDat (tyList tyS_api_Thing) [v0_0] a0.Things), (fDat (tyList (tyInt .i64)) [v0_1] a0.Roots)]
abbrev mm40 (w0 : World) (Z0 : Nat → Prop) (a0 : S_api_Heap) (g1 : Nat) (g10 : Nat) (g3 : Nat) (p25 : Value) (r35 : (List S_api_Thing)) (r8 : (List Bool)) (s26 : Value) (v0_0 : Value) (v0_1 : Value) (v36 : Value) (v9 : Value) : Mem := memOf w0 Z0 [] [(oRow v36 71 tyS_api_Thing r35), (oBox g3 38 [(Value.slice none 0 0), (Value.slice none 0 0), (bool false)])] [(fDat (tyList (tyInt .i64)) [s26] a0.Roots), (fPtr (tyList (tyInt .i64)) p25 a0.Roots), (fPtr tyS_api_Heap (ptr g1 0) a0), (fPtr (tyList tyBool) (ptr g10 0) r8), (fDat (tyList tyBool) [v9] r8), (fDat (tyList tyS_api_Thing) [v0_0] a0.Things), (fDat (tyList (tyInt .i64)) [v0_1] a0.Roots)]
abbrev mm41 (w0 : World) (Z0 : Nat → Prop) (a0 : S_api_Heap) (g1 : Nat) (g10 : Nat) (g3 : Nat) (p25 : Value) (r35 : (List S_api_Thing)) (r38 : (List Int)) (r8 : (List Bool)) (s26 : Value) (v0_0 : Value) (v0_1 : Value) (v36 : Value) (v39 : Value) (v9 : Value) : Mem := memOf w0 Z0 [] [(oRow v39 3 (tyInt .i64) r38), (oRow v36 71 tyS_api_Thing r35), (oBox g3 38 [(Value.slice none 0 0), (Value.slice none 0 0), (bool false)])] [(fDat (tyList (tyInt .i64)) [s26] a0.Roots), (fPtr (tyList (tyInt .i64)) p25 a0.Roots), (fPtr tyS_api_Heap (ptr g1 0) a0), (fPtr (tyList tyBool) (ptr g10 0) r8), (fDat (tyList tyBool) [v9] r8), (fDat (tyList tyS_api_Thing) [v0_0] a0.Things), (fDat (tyList (tyInt .i64)) [v0_1] a0.Roots)]
abbrev mm42 (w0 : World) (Z0 : Nat → Prop) (a0 : S_api_Heap) (g1 : Nat) (g10 : Nat) (g3 : Nat) (g33 : Nat) (p25 : Value) (r35 : (List S_api_Thing)) (r38 : (List Int)) (r8 : (List Bool)) (s26 : Value) (v0_0 : Value) (v0_1 : Value) (v36 : Value) (v39 : Value) (v9 : Value) : Mem := memOf w0 Z0 [] [(oBox g33 38 [v36, v39, (bool a0.Busy)]), (oRow v39 3 (tyInt .i64) r38), (oRow v36 71 tyS_api_Thing r35), (oBox g3 38 [(Value.slice none 0 0), (Value.slice none 0 0), (bool false)])] [(fDat (tyList (tyInt .i64)) [s26] a0.Roots), (fPtr (tyList (tyInt .i64)) p25 a0.Roots), (fPtr tyS_api_Heap (ptr g1 0) a0), (fPtr (tyList tyBool) (ptr g10 0) r8), (fDat (tyList tyBool) [v9] r8), (fDat (tyList tyS_api_Thing) [v0_0] a0.Things), (fDat (tyList (tyInt .i64)) [v0_1] a0.Roots)]
abbrev mm43 (w0 : World) (Z0 : Nat → Prop) (a0 : S_api_Heap) (g1 : Nat) (g10 : Nat) (g3 : Nat) (g33 : Nat) (j40v11_0 : Value) (j40x11_0 : (List S_api_Thing)) (p25 : Value) (r38 : (List Int)) (r8 : (List Bool)) (s26 : Value) (v0_0 : Value) (v0_1 : Value) (v39 : Value) (v9 : Value) : Mem := memOf w0 Z0 [] [(oBox g3 38 [(Value.slice none 0 0), (Value.slice none 0 0), (bool false)]), (oRow j40v11_0 71 tyS_api_Thing j40x11_0), (oRow v39 3 (tyInt .i64) r38), (oBox g33 38 [j40v11_0, v39, (bool a0.Busy)])] [(fDat (tyList (tyInt .i64)) [s26] a0.Roots), (fPtr (tyList (tyInt .i64)) p25 a0.Roots), (fPtr tyS_api_Heap (ptr g1 0) a0), (fPtr (tyList tyBool) (ptr g10 0) r8), (fDat (tyList tyBool) [v9] r8), (fDat (tyList tyS_api_Thing) [v0_0] a0.Things), (fDat (tyList (tyInt .i64)) [v0_1] a0.Roots)]
abbrev mm44 (w0 : World) (Z0 : Nat → Prop) (a0 : S_api_Heap) (a1 : S_api_Act) (g1 : Nat) (g10 : Nat) (g2 : Nat) (g3 : Nat) (r8 : (List Bool)) (v0_0 : Value) (v0_1 : Value) (v9 : Value) : Mem := memOf w0 Z0 [] [(oBox g2 40 [(int .i64 a1.Kind), (int .i64 a1.From), (int .i64 a1.To)]), (oBox g3 38 [(Value.slice none 0 0), (Value.slice none 0 0), (bool false)])] [(fPtr tyS_api_Heap (ptr g1 0) a0), (fPtr (tyList tyBool) (ptr g10 0) r8), (fDat (tyList tyBool) [v9] r8), (fDat (tyList tyS_api_Thing) [v0_0] a0.Things), (fDat (tyList (tyInt .i64)) [v0_1] a0.Roots)]
abbrev mm45 (w0 : World) (Z0 : Nat → Prop) (a0 : S_api_Heap) (a1 : S_api_Act) (g1 : Nat) (g10 : Nat) (g2 : Nat) (g3 : Nat) (p75 : Value) (p79 : Value) (p80 : Value) (r8 : (List Bool)) (s76 : Value) (s81 : Value) (u77 : S_api_Thing) (v0_0 : Value) (v0_1 : Value) (v9 : Value) : Mem := memOf w0 Z0 [] [(oBox g2 40 [(int .i64 a1.Kind), (int .i64 a1.From), (int .i64 a1.To)]), (oBox g3 38 [(Value.slice none 0 0), (Value.slice none 0 0), (bool false)])] [(fDat (tyList (tyInt .i64)) [s81] u77.Kids), (fPtr (tyList (tyInt .i64)) p80 u77.Kids), (fPtr tyS_api_Thing p79 u77), (fDat (tyList tyS_api_Thing) [s76] a0.Things), (fPtr (tyList tyS_api_Thing) p75 a0.Things), (fPtr tyS_api_Heap (ptr g1 0) a0), (fPtr (tyList tyBool) (ptr g10 0) r8), (fDat (tyList tyBool) [v9] r8), (fDat (tyList tyS_api_Thing) [v0_0] a0.Things), (fDat (tyList (tyInt .i64)) [v0_1] a0.Roots)]
abbrev mm46 (w0 : World) (Z0 : Nat → Prop) (a0 : S_api_Heap) (a1 : S_api_Act) (g1 : Nat) (g10 : Nat) (g2 : Nat) (g3 : Nat) (p75 : Value) (p79 : Value) (p80 : Value) (r8 : (List Bool)) (r91 : (List Int)) (s76 : Value) (s81 : Value) (u77 : S_api_Thing) (v0_0 : Value) (v0_1 : Value) (v9 : Value) (v92 : Value) : Mem := memOf w0 Z0 [] [(oRow v92 3 (tyInt .i64) r91), (oBox g2 40 [(int .i64 a1.Kind), (int .i64 a1.From), (int .i64 a1.To)]), (oBox g3 38 [(Value.slice none 0 0), (Value.slice none 0 0), (bool false)])] [(fDat (tyList (tyInt .i64)) [s81] u77.Kids), (fPtr (tyList (tyInt .i64)) p80 u77.Kids), (fPtr tyS_api_Thing p79 u77), (fDat (tyList tyS_api_Thing) [s76] a0.Things), (fPtr (tyList tyS_api_Thing) p75 a0.Things), (fPtr tyS_api_Heap (ptr g1 0) a0), (fPtr (tyList tyBool) (ptr g10 0) r8), (fDat (tyList tyBool) [v9] r8), (fDat (tyList tyS_api_Thing) [v0_0] a0.Things), (fDat (tyList (tyInt .i64)) [v0_1] a0.Roots)]
abbrev mm47 (w0 : World) (Z0 : Nat → Prop) (a0 : S_api_Heap) (a1 : S_api_Act) (g1 : Nat) (g10 : Nat) (g2 : Nat) (g3 : Nat) (p75 : Value) (p79 : Value) (p80 : Value) (r8 : (List Bool)) (r94 : S_api_Heap) (s76 : Value) (s81 : Value) (u77 : S_api_Thing) (v0_0 : Value) (v0_1 : Value) (v9 : Value) (v95 : Value) (v96 : Value) : Mem := memOf w0 Z0 [] [(oBox g2 40 [(int .i64 a1.Kind), (int .i64 a1.From), (int .i64 a1.To)]), (oBox g3 38 [(Value.slice none 0 0), (Value.slice none 0 0), (bool false)])] [(fDat (tyList tyS_api_Thing) [v95] r94.Things), (fDat (tyList (tyInt .i64)) [v96] r94.Roots), (fDat (tyList (tyInt .i64)) [s81] u77.Kids), (fPtr (tyList (tyInt .i64)) p80 u77.Kids), (fPtr tyS_api_Thing p79 u77), (fDat (tyList tyS_api_Thing) [s76] a0.Things), (fPtr (tyList tyS_api_Thing) p75 a0.Things), (fPtr tyS_api_Heap (ptr g1 0) a0), (fPtr (tyList tyBool) (ptr g10 0) r8), (fDat (tyList tyBool) [v9] r8), (fDat (tyList tyS_api_Thing) [v0_0] a0.Things), (fDat (tyList (tyInt .i64)) [v0_1] a0.Roots)]
abbrev mm48 (w0 : World) (Z0 : Nat → Prop) (a0 : S_api_Heap) (a1 : S_api_Act) (g1 : Nat) (g10 : Nat) (g2 : Nat) (g3 : Nat) (p75 : Value) (p79 : Value) (p80 : Value) (r8 : (List Bool)) (r94 : S_api_Heap) (r98 : S_api_Heap) (s76 : Value) (s81 : Value) (u77 : S_api_Thing) (v0_0 : Value) (v0_1 : Value) (v100 : Value) (v9 : Value) (v95 : Value) (v96 : Value) (v99 : Value) : Mem := memOf w0 Z0 [] [(oBox g2 40 [(int .i64 a1.Kind), (int .i64 a1.From), (int .i64 a1.To)]), (oBox g3 38 [(Value.slice none 0 0), (Value.slice none 0 0), (bool false)])] [(fDat (tyList tyS_api_Thing) [v99] r98.Things), (fDat (tyList (tyInt .i64)) [v100] r98.Roots), (fDat (tyList tyS_api_Thing) [v95] r94.Things), (fDat (tyList (tyInt .i64)) [v96] r94.Roots), (fDat (tyList (tyInt .i64)) [s81] u77.Kids), (fPtr (tyList (tyInt .i64)) p80 u77.Kids), (fPtr tyS_api_Thing p79 u77), (fDat (tyList tyS_api_Thing) [s76] a0.Things), (fPtr (tyList tyS_api_Thing) p75 a0.Things), (fPtr tyS_api_Heap (ptr g1 0) a0), (fPtr (tyList tyBool) (ptr g10 0) r8), (fDat (tyList tyBool) [v9] r8), (fDat (tyList tyS_api_Thing) [v0_0] a0.Things), (fDat (tyList (tyInt .i64)) [v0_1] a0.Roots)]
abbrev mm49 (w0 : World) (Z0 : Nat → Prop) (a0 : S_api_Heap) (a1 : S_api_Act) (g1 : Nat) (g10 : Nat) (g2 : Nat) (g3 : Nat) (p75 : Value) (p79 : Value) (p80 : Value) (r8 : (List Bool)) (r94 : S_api_Heap) (r98 : S_api_Heap) (s76 : Value) (s81 : Value) (u77 : S_api_Thing) (v0_0 : Value) (v0_1 : Value) (v100 : Value) (v9 : Value) (v95 : Value) (v96 : Value) (v99 : Value) : Mem := memOf w0 Z0 [] [(oBox g2 40 [(int .i64 a1.Kind), (int .i64 a1.From), (int .i64 a1.To)]), (oBox g3 38 [v99, v100, (bool r98.Busy)])] [(fDat (tyList tyS_api_Thing) [v99] r98.Things), (fDat (tyList (tyInt .i64)) [v100] r98.Roots), (fDat (tyList tyS_api_Thing) [v95] r94.Things), (fDat (tyList (tyInt .i64)) [v96] r94.Roots), (fDat (tyList (tyInt .i64)) [s81] u77.Kids), (fPtr (tyList (tyInt .i64)) p80 u77.Kids), (fPtr tyS_api_Thing p79 u77), (fDat (tyList tyS_api_Thing) [s76] a0.Things), (fPtr (tyList tyS_api_Thing) p75 a0.Things), (fPtr tyS_api_Heap (ptr g1 0) a0), (fPtr (tyList tyBool) (ptr g10 0) r8), (fDat (tyList tyBool) [v9] r8), (fDat (tyList tyS_api_Thing) [v0_0] a0.Things), (fDat (tyList (tyInt .i64)) [v0_1] a0.Roots)]
abbrev mm50 (w0 : World) (Z0 : Nat → Prop) (a0 : S_api_Heap) (a1 : S_api_Act) (g1 : Nat) (g10 : Nat) (g2 : Nat) (g3 : Nat) (r118 : (List Int)) (r8 : (List Bool)) (v0_0 : Value) (v0_1 : Value) (v119 : Value) (v9 : Value) : Mem := memOf w0 Z0 [] [(oRow v119 3 (tyInt .i64) r118), (oBox g2 40 [(int .i64 a1.Kind), (int .i64 a1.From), (int .i64 a1.To)]), (oBox g3 38 [(Value.slice none 0 0), (Value.slice none 0 0), (bool false)])] [(fPtr tyS_api_Heap (ptr g1 0) a0), (fPtr (tyList tyBool) (ptr g10 0) r8), (fDat (tyList tyBool) [v9] r8), (fDat (tyList tyS_api_Thing) [v0_0] a0.Things), (fDat (tyList (tyInt .i64)) [v0_1] a0.Roots)]
abbrev mm51 (w0 : World) (Z0 : Nat → Prop) (a0 : S_api_Heap) (a1 : S_api_Act) (g1 : Nat) (g10 : Nat) (g2 : Nat) (g3 : Nat) (r121 : S_api_Heap) (r8 : (List Bool)) (v0_0 : Value) (v0_1 : Value) (v122 : Value) (v123 : Value) (v9 : Value) : Mem := memOf w0 Z0 [] [(oBox g2 40 [(int .i64 a1.Kind), (int .i64 a1.From), (int .i64 a1.To)]), (oBox g3 38 [(Value.slice none 0 0), (Value.slice none 0 0), (bool false)])] [(fDat (tyList tyS_api_Thing) [v122] r121.Things), (fDat (tyList (tyInt .i64)) [v123] r121.Roots), (fPtr tyS_api_Heap (ptr g1 0) a0), (fPtr (tyList tyBool) (ptr g10 0) r8), (fDat (tyList tyBool) [v9] r8), (fDat (tyList tyS_api_Thing) [v0_0] a0.Things), (fDat (tyList (tyInt .i64)) [v0_1] a0.Roots)]
abbrev mm52 (w0 : World) (Z0 : Nat → Prop) (a0 : S_api_Heap) (a1 : S_api_Act) (g1 : Nat) (g10 : Nat) (g2 : Nat) (g3 : Nat) (r121 : S_api_Heap) (r8 : (List Bool)) (v0_0 : Value) (v0_1 : Value) (v122 : Value) (v123 : Value) (v9 : Value) : Mem := memOf w0 Z0 [] [(oBox g2 40 [(int .i64 a1.Kind), (int .i64 a1.From), (int .i64 a1.To)]), (oBox g3 38 [v122, v123, (bool r121.Busy)])] [(fDat (tyList tyS_api_Thing) [v122] r121.Things), (fDat (tyList (tyInt .i64)) [v123] r121.Roots), (fPtr tyS_api_Heap (ptr g1 0) a0), (fPtr (tyList tyBool) (ptr g10 0) r8), (fDat (tyList tyBool) [v9] r8), (fDat (tyList tyS_api_Thing) [v0_0] a0.Things), (fDat (tyList (tyInt .i64)) [v0_1] a0.Roots)]
abbrev mm53 (w0 : World) (Z0 : Nat → Prop) (a0 : S_api_Heap) (a1 : S_api_Act) (g1 : Nat) (g10 : Nat) (g2 : Nat) (g3 : Nat) (p139 : Value) (r8 : (List Bool)) (s140 : Value) (v0_0 : Value) (v0_1 : Value) (v9 : Value) : Mem := memOf w0 Z0 [] [(oBox g3 38 [(Value.slice none 0 0), (Value.slice none 0 0), (bool false)]), (oBox g2 40 [(int .i64 a1.Kind), (int .i64 a1.From), (int .i64 a1.To)])] [(fDat (tyList (tyInt .i64)) [s140] a0.Roots), (fPtr (tyList (tyInt .i64)) p139 a0.Roots), (fPtr tyS_api_Heap (ptr g1 0) a0), (fPtr (tyList tyBool) (ptr g10 0) r8), (fDat (tyList tyBool) [v9] r8), (fDat (tyList tyS_api_Thing) [v0_0] a0.Things), (fDat (tyList (tyInt .i64)) [v0_1] a0.Roots)]
abbrev mm54 (w0 : World) (Z0 : Nat → Prop) (a0 : S_api_Heap) (a1 : S_api_Act) (g1 : Nat) (g10 : Nat) (g2 : Nat) (g3 : Nat) (p139 : Value) (r148 : (List Int)) (r8 : (List Bool)) (s140 : Value) (v0_0 : Value) (v0_1 : Value) (v149 : Value) (v9 : Value) : Mem := memOf w0 Z0 [] [(oRow v149 3 (tyInt .i64) r148), (oBox g3 38 [(Value.slice none 0 0), (Value.slice none 0 0), (bool false)]), (oBox g2 40 [(int .i64 a1.Kind), (int .i64 a1.From), (int .i64 a1.To)])] [(fDat (tyList (tyInt .i64)) [s140] a0.Roots), (fPtr (tyList (tyInt .i64)) p139 a0.Roots), (fPtr tyS_api_Heap (ptr g1 0) a0), (fPtr (tyList tyBool) (ptr g10 0) r8), (fDat (tyList tyBool) [v9] r8), (fDat (tyList tyS_api_Thing) [v0_0] a0.Things), (fDat (tyList (tyInt .i64)) [v0_1] a0.Roots)]
abbrev mm55 (w0 : World) (Z0 : Nat → Prop) (a0 : S_api_Heap) (a1 : S_api_Act) (g1 : Nat) (g10 : Nat) (g2 : Nat) (g3 : Nat) (p139 : Value) (r148 : (List Int)) (r8 : (List Bool)) (s140 : Value) (s143 : Value) (v0_0 : Value) (v0_1 : Value) (v149 : Value) (v9 : Value) : Mem := memOf w0 Z0 [] [(oRow v149 3 (tyInt .i64) r148), (oBox g3 38 [(Value.slice none 0 0), (Value.slice none 0 0), (bool false)]), (oBox g2 40 [(int .i64 a1.Kind), (int .i64 a1.From), (int .i64 a1.To)])] [(fDat (tyList tyS_api_Thing) [s143] a0.Things), (fDat (tyList (tyInt .i64)) [s140] a0.Roots), (fPtr (tyList (tyInt .i64)) p139 a0.Roots), (fPtr tyS_api_Heap (ptr g1 0) a0), (fPtr (tyList tyBool) (ptr g10 0) r8), (fDat (tyList tyBool) [v9] r8), (fDat (tyList tyS_api_Thing) [v0_0] a0.Things), (fDat (tyList (tyInt .i64)) [v0_1] a0.Roots)]
abbrev mm56 (w0 : World) (Z0 : Nat → Prop) (a0 : S_api_Heap) (a1 : S_api_Act) (g1 : Nat) (g10 : Nat) (g2 : Nat) (g3 : Nat) (p139 : Value) (r151 : S_api_Heap) (r8 : (List Bool)) (s140 : Value) (v0_0 : Value) (v0_1 : Value) (v152 : Value) (v153 : Value) (v9 : Value) : Mem := memOf w0 Z0 [] [(oBox g3 38 [(Value.slice none 0 0), (Value.slice none 0 0), (bool false)]), (oBox g2 40 [(int .i64 a1.Kind), (int .i64 a1.From), (int .i64 a1.To)])] [(fDat (tyList tyS_api_Thing) [v152] r151.Things), (fDat (tyList (tyInt .i64)) [v153] r151.Roots), (fDat (tyList (tyInt .i64)) [s140] a0.Roots), (fPtr (tyList (tyInt .i64)) p139 a0.Roots), (fPtr tyS_api_Heap (ptr g1 0) a0), (fPtr (tyList tyBool) (ptr g10 0) r8), (fDat (tyList tyBool) [v9] r8), (fDat (tyList tyS_api_Thing) [v0_0] a0.Things), (fDat (tyList (tyInt .i64)) [v0_1] a0.Roots)]
abbrev mm57 (w0 : World) (Z0 : Nat → Prop) (a0 : S_api_Heap) (a1 : S_api_Act) (g1 : Nat) (g10 : Nat) (g2 : Nat) (g3 : Nat) (p139 : Value) (r151 : S_api_Heap) (r8 : (List Bool)) (s140 : Value) (v0_0 : Value) (v0_1 : Value) (v152 : Value) (v153 : Value) (v9 : Value) : Mem := memOf w0 Z0 [] [(oBox g3 38 [v152, v153, (bool r151.Busy)]), (oBox g2 40 [(int .i64 a1.Kind), (int .i64 a1.From), (int .i64 a1.To)])] [(fDat (tyList tyS_api_Thing) [v152] r151.Things), (fDat (tyList (tyInt .i64)) [v153] r151.Roots), (fDat (tyList (tyInt .i64)) [s140] a0.Roots), (fPtr (tyList (tyInt .i64)) p139 a0.Roots), (fPtr tyS_api_Heap (ptr g1 0) a0), (fPtr (tyList tyBool) (ptr g10 0) r8), (fDat (tyList tyBool) [v9] r8), (fDat (tyList tyS_api_Thing) [v0_0] a0.Things), (fDat (tyList (tyInt .i64)) [v0_1] a0.Roots)]
end Go.Proofs.Ytiioclkiapbjnaa
