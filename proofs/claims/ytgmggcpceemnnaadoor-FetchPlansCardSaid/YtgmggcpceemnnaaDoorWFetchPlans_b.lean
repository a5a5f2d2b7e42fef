/- Walks by program. No condition. -/
import Derived.Test.YtgmggcpceemnnaaDoorEn21
import Derived.Test.YtgmggcpceemnnaaDoorChecked
import Derived.Test.YtgmggcpceemnnaaDoorShBEPut
import Derived.Test.YtgmggcpceemnnaaDoorEn23
import Derived.Test.YtgmggcpceemnnaaDoorEnU
import Derived.Test.YtgmggcpceemnnaaDoorEn25
import Derived.Test.YtgmggcpceemnnaaDoorShRepeat
import Derived.Test.YtgmggcpceemnnaaDoorWFetchPlans_a
namespace Go.Proofs.YtgmggcpceemnnaaDoor
open Go.RowKit YtgmggcpceemnnaaDoor.En
set_option linter.unusedVariables false
set_option linter.unusedSimpArgs false
open Go.Value (int bool)
set_option maxRecDepth 100000 in
theorem f_tree_Read_ok (fu : Nat) (a0 : (List UInt8)) {r : ((List S_api_Node) × Int)} (h : f_tree_Read fu a0 = some r) : FnOk Tryd.prog 107 [(str a0)] [uTabs] [] (fun (i : Value) => { val := (Value.tuple #[i, (int .i64 r.2)]), own := [(oRow i 168 tyS_api_Node r.1)] }) := by
 unfold f_tree_Read at h
 refine fn_enter Tryd.func107 rfl Tryd.ntmps107 rfl (fun w0 Z0 => ?_)
 refine aw_sr ?_
 refine al_as rfl rfl ?_
 refine al_as rfl rfl ?_
 refine al_nt ?_
 refine aw_seq ?_
 refine aw_sr ?_
 refine al_mv rfl rfl ?_
 refine al_val (ov_strLen Tryd.underlying9 rfl rfl) ?_
 refine al_in rfl rfl rfl rfl ?_
 refine al_nt ?_
 refine aw_cond rfl (fun hb1 => ?_) (fun hb1 => ?_)
 ·replace h := bif_t hb1 h
  refine aw_sr ?_
  refine al_as rfl rfl ?_
  refine al_as rfl rfl ?_
  refine al_nt ?_
  refine aw_ret ?_
  refine aq_then_ret ?_
  refine aq_nilR 168 tyS_api_Node ?_
  obtain rfl := Option.some.inj h
  exact fn_ret (Value.slice none 0 0) [0] [] rfl rfl rfl rfl (res2 rfl rfl rfl) rfl rfl rfl (by decide)
 ·replace h := bif_f hb1 h
  refine aw_skip ?_
  refine aq_tr ?_
  refine al_mv rfl rfl ?_
  refine al_val (ov_build (cells := ([(str a0), (int .i64 (0 : Int))]).toArray) (cs := [(str a0), (int .i64 (0 : Int))]) rfl (fun w a hm hs => by simp only [List.map_toArray, List.map_cons, List.map_nil, List.toList_toArray, hs.ev (x := .tmp 9) rfl]; kernel_rfl)) ?_
  refine al_box (vs := [(str a0), (int .i64 (0 : Int))]) rfl (cv_rfl rfl) rfl (fun g2 => ?_)
  refine al_as rfl rfl ?_
  refine al_nt ?_
  refine aw_sr ?_
  refine al_as rfl rfl ?_
  refine al_nt ?_
  obtain ⟨kk4, hkk4, h⟩ := lt_some h
  refine aw_seq_join (ι := (List UInt8) × Int × Value × (List S_api_Node)) (fun i => (memOf w0 Z0 [] [(oBox g2 244 [(str i.1), (int .i64 i.2.1)]), (oRow i.2.2.1 168 tyS_api_Node i.2.2.2)] [uTabs])) (fun i => (tab [(4, (ptr g2 0)), (5, i.2.2.1)])) (fun i => kk4 i.1 i.2.1 i.2.2.2 = some r) ?_ ?_
  ·rintro ⟨j3s4_0, j3i4_1, j3v5, j3x5⟩ h
   have h : kk4 j3s4_0 j3i4_1 j3x5 = some r := h
   rw [hkk4] at h
   dsimp only at h
   clear hkk4
   refine aw_show (m := (memOf w0 Z0 [] [(oBox g2 244 [(str j3s4_0), (int .i64 j3i4_1)]), (oRow j3v5 168 tyS_api_Node j3x5)] [uTabs])) (S := (tab [(4, (ptr g2 0)), (5, j3v5)])) ?_
   obtain ⟨kk6, hkk6, h⟩ := lt_some h
   refine aw_seq_join (ι := (List UInt8) × Int) (fun i => (memOf w0 Z0 [] [(oBox g2 244 [(str i.1), (int .i64 i.2)]), (oRow j3v5 168 tyS_api_Node j3x5)] [uTabs])) (fun i => (tab [(4, (ptr g2 0)), (5, j3v5)])) (fun i => kk6 i.1 i.2 = some r) ?_ ?_
   ·rintro ⟨j5s4_0, j5i4_1⟩ h
    have h : kk6 j5s4_0 j5i4_1 = some r := h
    rw [hkk6] at h
    dsimp only at h
    clear hkk6
    refine aw_show (m := (memOf w0 Z0 [] [(oBox g2 244 [(str j5s4_0), (int .i64 j5i4_1)]), (oRow j3v5 168 tyS_api_Node j3x5)] [uTabs])) (S := (tab [(4, (ptr g2 0)), (5, j3v5)])) ?_
    obtain ⟨kk8, hkk8, h⟩ := lt_some h
    refine aw_seq_join (ι := (List UInt8) × Int) (fun i => (memOf w0 Z0 [] [(oBox g2 244 [(str i.1), (int .i64 i.2)]), (oRow j3v5 168 tyS_api_Node j3x5)] [uTabs])) (fun i => (tab [(4, (ptr g2 0)), (5, j3v5)])) (fun i => kk8 i.1 i.2 = some r) ?_ ?_
    ·rintro ⟨j7s4_0, j7i4_1⟩ h
     have h : kk8 j7s4_0 j7i4_1 = some r := h
     rw [hkk8] at h
     dsimp only at h
     clear hkk8
     refine aw_show (m := (memOf w0 Z0 [] [(oBox g2 244 [(str j7s4_0), (int .i64 j7i4_1)]), (oRow j3v5 168 tyS_api_Node j3x5)] [uTabs])) (S := (tab [(4, (ptr g2 0)), (5, j3v5)])) ?_
     refine aw_seq ?_
     refine aw_sr ?_
     refine al_mv rfl rfl ?_
     refine al_val (ov_nilCheck rfl rfl) ?_
     refine al_val (ov_fieldA (p := 1) rfl Tryd.underlying244 rfl sz23 rfl rfl rfl) ?_
     refine al_val (ov_load (i := 0) (v := (int .i64 j7i4_1)) rfl rfl Tryd.underlying23 sz23 rfl rfl rfl rfl) ?_
     refine al_in rfl rfl rfl rfl ?_
     refine al_nt ?_
     refine aw_cond rfl (fun hb9 => ?_) (fun hb9 => ?_)
     ·replace h := bif_t hb9 h
      refine aw_seq ?_
      refine aw_region_open [⟨0, 43, Unit, fun _ => { val := (ptr g2 0) }⟩, ⟨1, 44, Unit, fun _ => { val := (ptr g2 0) }⟩, ⟨2, 45, Unit, fun _ => { val := (ptr g2 1) }⟩, ⟨3, 46, Unit, fun _ => { val := (int .i64 j7i4_1) }⟩] (tab [(4, (ptr g2 0))]) mixed (fun a hs => hs.tab _ (allT_mem ⟨rfl, trivial⟩)) ?_
      refine ta_show (m := (memOf w0 Z0 [] [(oBox g2 244 [(str j7s4_0), (int .i64 j7i4_1)]), (oRow j3v5 168 tyS_api_Node j3x5)] [uTabs])) (S := (tab [(4, (ptr g2 0))])) ?_
      refine ta_step 4 _ [0, 1, 2, 3] [43, 44, 45, 46] [] [] [] [⟨0, 43, Unit, fun _ => { val := (ptr g2 0) }⟩, ⟨1, 44, Unit, fun _ => { val := (ptr g2 0) }⟩, ⟨2, 45, Unit, fun _ => { val := (ptr g2 1) }⟩, ⟨3, 46, Unit, fun _ => { val := (int .i64 j7i4_1) }⟩] rfl rfl rfl (by kernel_rfl) rfl rfl rfl ⟨⟨_, rfl, [], rfl, by
 intro X_ Y_ F_ K_ hK_
 refine al_show (m := Mem.plus (memOf w0 Z0 [] [(oBox g2 244 [(str j7s4_0), (int .i64 j7i4_1)]), (oRow j3v5 168 tyS_api_Node j3x5)] [uTabs]) X_ Y_) (S := over (tab [(4, (ptr g2 0))]) F_) ?_
 refine al_mv rfl rfl ?_
 refine al_nil ?_
 exact fr_fin hK_ ()⟩, ⟨_, rfl, [0], rfl, by
 intro _
 intro X_ Y_ F_ K_ hK_
 refine al_show (m := Mem.plus (memOf w0 Z0 [] [(oBox g2 244 [(str j7s4_0), (int .i64 j7i4_1)]), (oRow j3v5 168 tyS_api_Node j3x5)] [uTabs]) X_ Y_) (S := over (put (tab [(4, (ptr g2 0))]) 43 (ptr g2 0)) F_) ?_
 refine al_val (ov_nilCheck rfl rfl) ?_
 refine al_nil ?_
 exact fr_fin hK_ ()⟩, ⟨_, rfl, [1], rfl, by
 intro _
 intro X_ Y_ F_ K_ hK_
 refine al_show (m := Mem.plus (memOf w0 Z0 [] [(oBox g2 244 [(str j7s4_0), (int .i64 j7i4_1)]), (oRow j3v5 168 tyS_api_Node j3x5)] [uTabs]) X_ Y_) (S := over (put (tab [(4, (ptr g2 0))]) 44 (ptr g2 0)) F_) ?_
 refine al_val (ov_fieldA (p := 1) rfl Tryd.underlying244 rfl sz23 rfl rfl rfl) ?_
 refine al_nil ?_
 exact fr_fin hK_ ()⟩, ⟨_, rfl, [2], rfl, by
 intro _
 intro X_ Y_ F_ K_ hK_
 refine al_show (m := Mem.plus (memOf w0 Z0 [] [(oBox g2 244 [(str j7s4_0), (int .i64 j7i4_1)]), (oRow j3v5 168 tyS_api_Node j3x5)] [uTabs]) X_ Y_) (S := over (put (tab [(4, (ptr g2 0))]) 45 (ptr g2 1)) F_) ?_
 refine al_val (ov_load (i := 0) (v := (int .i64 j7i4_1)) rfl rfl Tryd.underlying23 sz23 rfl rfl rfl rfl) ?_
 refine al_nil ?_
 exact fr_fin hK_ ()⟩, trivial⟩ ?_
      intro X_ Y_ F_ K_ hK_
      refine al_show (m := Mem.plus (memOf w0 Z0 [] [(oBox g2 244 [(str j7s4_0), (int .i64 j7i4_1)]), (oRow j3v5 168 tyS_api_Node j3x5)] [uTabs]) X_ Y_) (S := over (tab [(4, (ptr g2 0))]) F_) ?_
      refine al_as rfl rfl ?_
      refine al_nil ?_
      refine aq_show (m := Mem.plus (memOf w0 Z0 [] [(oBox g2 244 [(str j7s4_0), (int .i64 j7i4_1)]), (oRow j3v5 168 tyS_api_Node j3x5)] [uTabs]) X_ Y_) ?_
      refine aq_next hK_ [0, 1] [0] [(2, (Value.slice none 0 0)), (4, (ptr g2 0))] [43, 44, 45, 46] [] rfl rfl (by decide) rfl ⟨rfl, rfl, trivial⟩ ⟨rfl, rfl, rfl, rfl, trivial⟩ ?_
      clear hK_ K_ F_ X_ Y_
      refine ta_show (m := (memOf w0 Z0 [] [(oBox g2 244 [(str j7s4_0), (int .i64 j7i4_1)]), (oRow j3v5 168 tyS_api_Node j3x5)] [uTabs])) (S := (tab [(2, (Value.slice none 0 0)), (4, (ptr g2 0))])) ?_
      refine ta_step 5 _ [0, 1, 2, 3] [43, 44, 45, 46] [0, 1, 2, 3] [] [⟨0, 43, Unit, fun _ => { val := (ptr g2 0) }⟩, ⟨1, 44, Unit, fun _ => { val := (ptr g2 0) }⟩, ⟨2, 45, Unit, fun _ => { val := (ptr g2 1) }⟩, ⟨3, 46, Unit, fun _ => { val := (int .i64 j7i4_1) }⟩] [] rfl rfl rfl (by kernel_rfl) rfl rfl rfl ⟨⟨_, rfl, [], rfl, by
 intro X_ Y_ F_ K_ hK_
 refine al_show (m := Mem.plus (memOf w0 Z0 [] [(oBox g2 244 [(str j7s4_0), (int .i64 j7i4_1)]), (oRow j3v5 168 tyS_api_Node j3x5)] [uTabs]) X_ Y_) (S := over (tab [(2, (Value.slice none 0 0)), (4, (ptr g2 0))]) F_) ?_
 refine al_mv rfl rfl ?_
 refine al_nil ?_
 exact fr_fin hK_ ()⟩, ⟨_, rfl, [0], rfl, by
 intro _
 intro X_ Y_ F_ K_ hK_
 refine al_show (m := Mem.plus (memOf w0 Z0 [] [(oBox g2 244 [(str j7s4_0), (int .i64 j7i4_1)]), (oRow j3v5 168 tyS_api_Node j3x5)] [uTabs]) X_ Y_) (S := over (put (tab [(2, (Value.slice none 0 0)), (4, (ptr g2 0))]) 43 (ptr g2 0)) F_) ?_
 refine al_val (ov_nilCheck rfl rfl) ?_
 refine al_nil ?_
 exact fr_fin hK_ ()⟩, ⟨_, rfl, [1], rfl, by
 intro _
 intro X_ Y_ F_ K_ hK_
 refine al_show (m := Mem.plus (memOf w0 Z0 [] [(oBox g2 244 [(str j7s4_0), (int .i64 j7i4_1)]), (oRow j3v5 168 tyS_api_Node j3x5)] [uTabs]) X_ Y_) (S := over (put (tab [(2, (Value.slice none 0 0)), (4, (ptr g2 0))]) 44 (ptr g2 0)) F_) ?_
 refine al_val (ov_fieldA (p := 1) rfl Tryd.underlying244 rfl sz23 rfl rfl rfl) ?_
 refine al_nil ?_
 exact fr_fin hK_ ()⟩, ⟨_, rfl, [2], rfl, by
 intro _
 intro X_ Y_ F_ K_ hK_
 refine al_show (m := Mem.plus (memOf w0 Z0 [] [(oBox g2 244 [(str j7s4_0), (int .i64 j7i4_1)]), (oRow j3v5 168 tyS_api_Node j3x5)] [uTabs]) X_ Y_) (S := over (put (tab [(2, (Value.slice none 0 0)), (4, (ptr g2 0))]) 45 (ptr g2 1)) F_) ?_
 refine al_val (ov_load (i := 0) (v := (int .i64 j7i4_1)) rfl rfl Tryd.underlying23 sz23 rfl rfl rfl rfl) ?_
 refine al_nil ?_
 exact fr_fin hK_ ()⟩, trivial⟩ ?_
      intro _
      intro _
      intro _
      intro _
      intro X_ Y_ F_ K_ hK_
      refine al_show (m := Mem.plus (memOf w0 Z0 [] [(oBox g2 244 [(str j7s4_0), (int .i64 j7i4_1)]), (oRow j3v5 168 tyS_api_Node j3x5)] [uTabs]) X_ Y_) (S := over (put (put (put (put (tab [(2, (Value.slice none 0 0)), (4, (ptr g2 0))]) 43 (ptr g2 0)) 44 (ptr g2 0)) 45 (ptr g2 1)) 46 (int .i64 j7i4_1)) F_) ?_
      refine al_as rfl rfl ?_
      refine al_nil ?_
      refine aq_show (m := Mem.plus (memOf w0 Z0 [] [(oBox g2 244 [(str j7s4_0), (int .i64 j7i4_1)]), (oRow j3v5 168 tyS_api_Node j3x5)] [uTabs]) X_ Y_) ?_
      refine aq_next hK_ [0, 1] [0] [(2, (Value.slice none 0 0)), (3, (int .i64 j7i4_1))] [] [] rfl rfl (by decide) rfl ⟨rfl, rfl, trivial⟩ trivial ?_
      clear hK_ K_ F_ X_ Y_
      refine ta_show (m := (memOf w0 Z0 [] [(oBox g2 244 [(str j7s4_0), (int .i64 j7i4_1)]), (oRow j3v5 168 tyS_api_Node j3x5)] [uTabs])) (S := (tab [(2, (Value.slice none 0 0)), (3, (int .i64 j7i4_1))])) ?_
      refine ta_end [] [] rfl rfl (by kernel_rfl) rfl trivial ?_
      refine aq_show (m := (memOf w0 Z0 [] [(oBox g2 244 [(str j7s4_0), (int .i64 j7i4_1)]), (oRow j3v5 168 tyS_api_Node j3x5)] [uTabs])) (S := (tab [(2, (Value.slice none 0 0)), (3, (int .i64 j7i4_1))])) ?_
      refine aq_then ?_
      refine aw_ret ?_
      refine aq_then_ret ?_
      refine aq_nilR 168 tyS_api_Node ?_
      obtain rfl := Option.some.inj h
      exact fn_ret (Value.slice none 0 0) [0] [] rfl rfl rfl rfl (res2 rfl rfl rfl) rfl rfl rfl (by decide)
     ·replace h := bif_f hb9 h
      refine aw_skip ?_
      refine aq_tr ?_
      refine al_mv rfl rfl ?_
      refine al_as rfl rfl ?_
      refine al_as rfl rfl ?_
      refine al_nt ?_
      refine aw_ret ?_
      obtain rfl := Option.some.inj h
      exact fn_ret j3v5 [1] [] rfl rfl rfl rfl (res2 rfl rfl rfl) rfl rfl rfl (by decide)
    ·clear hkk8
     refine aw_sr ?_
     refine al_mv rfl rfl ?_
     refine al_val (ov_nilCheck rfl rfl) ?_
     refine al_val (ov_fieldA (p := 1) rfl Tryd.underlying244 rfl sz23 rfl rfl rfl) ?_
     refine al_val (ov_load (i := 0) (v := (int .i64 j5i4_1)) rfl rfl Tryd.underlying23 sz23 rfl rfl rfl rfl) ?_
     refine al_in rfl rfl rfl rfl ?_
     refine al_nt ?_
     refine aw_cond rfl (fun hb10 => ?_) (fun hb10 => ?_)
     ·replace h := bif_t hb10 h
      refine aw_region ?_
      refine al_mv rfl rfl ?_
      refine al_mv rfl rfl ?_
      obtain ⟨r12, hc11, h⟩ := opt_some h
      refine al_call (vs := [j3v5]) (f_tree_Check_ok fu j3v5 j3x5 hc11) [1] [] [0, 1] (pre_own 1 rfl rfl (pre_fz 0 rfl pre_nil)) rfl (by simp) (by decide) (.inr flat_res0) rfl Tryd.func167 rfl rfl rfl (fun _ => ?_)
      obtain ⟨r14, hc13, h⟩ := opt_some h
      refine al_call (vs := [(ptr g2 0), (int .i64 r12)]) (f___tree_reader__fail_ok fu g2 (S_tree_reader.mk j5s4_0 j5i4_1) r12 hc13) [] [0] [1] pre_nil rfl (by simp) (by decide) (.inl rfl) rfl Tryd.func166 rfl rfl rfl (fun _ => ?_)
      refine al_nil ?_
      exact aq_join (r14.s, r14.e) h (fun w a hm hs => norm hm hs [0, 1] [0] [(4, (ptr g2 0)), (5, j3v5)] (by decide) ⟨rfl, rfl, trivial⟩)
     ·replace h := bif_f hb10 h
      refine aw_skip ?_
      exact aq_join (j5s4_0, j5i4_1) h (fun w a hm hs => norm hm hs [0, 1] [0] [(4, (ptr g2 0)), (5, j3v5)] (by decide) ⟨rfl, rfl, trivial⟩)
   ·clear hkk6
    refine aw_sr ?_
    refine al_mv rfl rfl ?_
    refine al_val (ov_nilCheck rfl rfl) ?_
    refine al_val (ov_fieldA (p := 0) rfl Tryd.underlying244 rfl sz9 rfl rfl rfl) ?_
    refine al_val (ov_load (i := 0) (v := (str j3s4_0)) rfl rfl Tryd.underlying9 sz9 rfl rfl rfl rfl) ?_
    refine al_val (ov_strCmp rfl rfl rfl rfl) ?_
    refine al_nt ?_
    refine aw_cond rfl (fun hb15 => ?_) (fun hb15 => ?_)
    ·replace h := bif_t hb15 h
     refine aw_region ?_
     refine al_mv rfl rfl ?_
     obtain ⟨r17, hc16, h⟩ := opt_some h
     refine al_call (vs := [(ptr g2 0), (int .i64 (4 : Int))]) (f___tree_reader__fail_ok fu g2 (S_tree_reader.mk j3s4_0 j3i4_1) (4 : Int) hc16) [] [0] [1] pre_nil rfl (by simp) (by decide) (.inl rfl) rfl Tryd.func166 rfl rfl rfl (fun _ => ?_)
     refine al_nil ?_
     exact aq_join (r17.s, r17.e) h (fun w a hm hs => norm hm hs [0, 1] [0] [(4, (ptr g2 0)), (5, j3v5)] (by decide) ⟨rfl, rfl, trivial⟩)
    ·replace h := bif_f hb15 h
     refine aw_skip ?_
     exact aq_join (j3s4_0, j3i4_1) h (fun w a hm hs => norm hm hs [0, 1] [0] [(4, (ptr g2 0)), (5, j3v5)] (by decide) ⟨rfl, rfl, trivial⟩)
  ·clear hkk4
   refine aw_sr ?_
   refine al_mv rfl rfl ?_
   obtain ⟨r19, hc18, h⟩ := opt_some h
   refine al_call (vs := [(ptr g2 0), (int .u64 (64 : Int))]) (f___tree_reader__number_ok fu g2 (S_tree_reader.mk a0 (0 : Int)) (64 : Int) hc18) [] [0] [] pre_nil rfl (by simp) (by decide) (.inl rfl) rfl Tryd.func164 rfl rfl rfl (fun _ => ?_)
   refine al_mv rfl rfl ?_
   refine al_nt ?_
   refine aw_block ?_
   refine aw_nilR 168 tyS_api_Node ?_
   refine aw_state (aw_loop (ι := (List UInt8) × Int × Value × (List S_api_Node) × Int) (fun i => (memOf w0 Z0 [] [(oBox g2 244 [(str i.1), (int .i64 i.2.1)]), (oRow i.2.2.1 168 tyS_api_Node i.2.2.2.1)] [uTabs])) (fun i => (tab [(4, (ptr g2 0)), (5, i.2.2.1), (13, (int .i64 r19.1)), (14, (int .i64 i.2.2.2.2))])) (fun q i => f_tree_Read_L22 kk4 r19 fu q i.1 i.2.1 i.2.2.2.1 i.2.2.2.2 = some r) ?_ fu (r19.2.s, r19.2.e, (Value.slice none 0 0), ([] : List S_api_Node), (0 : Int)) h) (fun w a hm hs => norm hm hs [1, 0] [0] [(4, (ptr g2 0)), (5, (Value.slice none 0 0)), (13, (int .i64 r19.1)), (14, (int .i64 (0 : Int)))] (by decide) ⟨rfl, rfl, rfl, rfl, trivial⟩)
   clear h
   rintro k21 ⟨l20s4_0, l20i4_1, l20v5, l20x5, l20i14⟩ h
   have h : f_tree_Read_L22 kk4 r19 fu k21 l20s4_0 l20i4_1 l20x5 l20i14 = some r := h
   obtain _ | k21 := k21
   · rw [f_tree_Read_L22] at h; cases h
   rw [f_tree_Read_L22] at h
   refine aw_show (m := (memOf w0 Z0 [] [(oBox g2 244 [(str l20s4_0), (int .i64 l20i4_1)]), (oRow l20v5 168 tyS_api_Node l20x5)] [uTabs])) (S := (tab [(4, (ptr g2 0)), (5, l20v5), (13, (int .i64 r19.1)), (14, (int .i64 l20i14))])) ?_
   refine aw_sr ?_
   refine al_in rfl rfl rfl rfl ?_
   refine al_nt ?_
   refine aw_seq ?_
   refine aw_cond rfl (fun hb23 => ?_) (fun hb23 => ?_)
   ·replace h := bif_t hb23 h
    refine aw_skip ?_
    refine aq_then ?_
    refine aw_seq ?_
    refine aw_block ?_
    refine aw_region ?_
    refine al_mv rfl rfl ?_
    refine al_mv rfl rfl ?_
    obtain ⟨r25, hc24, h⟩ := opt_some h
    refine al_call (vs := [(ptr g2 0)]) (f___tree_reader__node_ok fu g2 (S_tree_reader.mk l20s4_0 l20i4_1) hc24) [] [0] [1] pre_nil rfl (by simp) (by decide) (.inl rfl) rfl Tryd.func165 rfl rfl rfl (fun v26 => ?_)
    refine al_buildSlice (τ := tyS_api_Node) (e := 168) (k := 1) (sz := 0) (by_ := 0) (z := undef) (cs := [(str r25.1.Name), (int .i64 r25.1.Kind), (int .i64 r25.1.Mode), (int .i64 r25.1.Time), (int .i64 r25.1.Size), v26, (str r25.1.Link)]) (xs := [(S_api_Node.mk r25.1.Name r25.1.Kind r25.1.Mode r25.1.Time r25.1.Size r25.1.Parts r25.1.Link)]) rfl (by decide) (fun w a hm hs => ⟨([(str r25.1.Name), (int .i64 r25.1.Kind), (int .i64 r25.1.Mode), (int .i64 r25.1.Time), (int .i64 r25.1.Size), v26, (str r25.1.Link)]).toArray, rfl, by simp only [List.map_toArray, List.map_cons, List.map_nil, hs.ev (x := .tmp 18) rfl]; exact run_bs [(ag [(str r25.1.Name), (int .i64 r25.1.Kind), (int .i64 r25.1.Mode), (int .i64 r25.1.Time), (int .i64 r25.1.Size), v26, (str r25.1.Link)])] [(str r25.1.Name), (int .i64 r25.1.Kind), (int .i64 r25.1.Mode), (int .i64 r25.1.Time), (int .i64 r25.1.Size), v26, (str r25.1.Link)] Tryd.underlying164 to168 rfl rfl (bs_cons (l := [(str r25.1.Name), (int .i64 r25.1.Kind), (int .i64 r25.1.Mode), (int .i64 r25.1.Time), (int .i64 r25.1.Size), v26, (str r25.1.Link)]) (cs := []) (cv_rfl rfl) rfl bs_nil) hm⟩) (fun hm => ⟨_, _, rfl, (fun hm => mknS_api_Node rfl (fz_at (i := 0) hm rfl)) hm, rfl⟩) rfl (fun v27 => ?_)
    obtain ⟨hc28, h⟩ := req_some h
    refine al_append 2 hc28.1 hc28.2 rfl (src_own (i := 2) 0 rfl) rfl rfl Tryd.underlying164 to168 rfl rfl rfl (fun v29 => ?_)
    refine al_as rfl rfl ?_
    refine al_nil ?_
    refine aq_block ?_
    refine aq_then ?_
    refine aw_region ?_
    refine al_in rfl rfl rfl rfl ?_
    refine al_mv rfl rfl ?_
    refine al_nil ?_
    exact aq_again k21 (r25.2.s, r25.2.e, v29, (l20x5 ++ ([(S_api_Node.mk r25.1.Name r25.1.Kind r25.1.Mode r25.1.Time r25.1.Size r25.1.Parts r25.1.Link)])), (IntKind.i64.wrap (l20i14 + (1 : Int)))) (Nat.lt_succ_self _) h (fun w a hm hs => norm hm hs [1, 2] [1] [(4, (ptr g2 0)), (5, v29), (13, (int .i64 r19.1)), (14, (int .i64 (IntKind.i64.wrap (l20i14 + (1 : Int)))))] (by decide) ⟨rfl, rfl, rfl, rfl, trivial⟩)
   ·replace h := bif_f hb23 h
    refine aw_exit ?_
    refine aq_then_exit ?_
    refine aq_then_exit ?_
    refine aq_block_exit ?_
    exact aq_join (l20s4_0, l20i4_1, l20v5, l20x5) h (fun w a hm hs => norm hm hs [0, 1] [0] [(4, (ptr g2 0)), (5, l20v5)] (by decide) ⟨rfl, rfl, trivial⟩)
def f_slices_Index___api_ID_api_ID__L6 (a0 : (List A8u8)) (a1 : A8u8) (kk3 : (Unit → Option Int)) : Nat → Int → Option Int
  | 0, _ => none
  | k5 + 1, l4i8 => (bif (decide (l4i8 < (a0.length : Int))) then (opt (at? a0 l4i8) fun (u8 : A8u8) => (bif (a1 == u8) then (some l4i8) else (f_slices_Index___api_ID_api_ID__L6 a0 a1 kk3 k5 (IntKind.i64.wrap (l4i8 + (1 : Int)))))) else (kk3 ()))
def f_slices_Index___api_ID_api_ID_ (fu : Nat) (a0 : (List A8u8)) (a1 : A8u8) : Option Int := (lt (fun (_ : Unit) => (some (-1 : Int))) fun (kk3 : Unit → Option Int) => (f_slices_Index___api_ID_api_ID__L6 a0 a1 kk3 fu (0 : Int)))
set_option maxRecDepth 100000 in
theorem f_slices_Index___api_ID_api_ID__ok (fu : Nat) (v0_0 : Value) (a0 : (List A8u8)) (a1 : A8u8) {r : Int} (h : f_slices_Index___api_ID_api_ID_ fu a0 a1 = some r) : FnOk Tryd.prog 99 [v0_0, (ag (cA8u8 a1))] [(fDat (tyList tyA8u8) [v0_0] a0)] [] (fun (i : Unit) => { val := (int .i64 r) }) := by
 unfold f_slices_Index___api_ID_api_ID_ at h
 refine fn_enter Tryd.func99 rfl Tryd.ntmps99 rfl (fun w0 Z0 => ?_)
 refine aw_sr ?_
 refine al_box (vs := (cA8u8 a1)) rfl (cv_rfl rfl) rfl (fun g1 => ?_)
 refine al_as rfl rfl ?_
 refine al_nt ?_
 obtain ⟨kk3, hkk3, h⟩ := lt_some h
 refine aw_seq_join (ι := Unit) (fun i => (memOf w0 Z0 [] [] [(fDat (tyList tyA8u8) [v0_0] a0)])) (fun i => (tab [])) (fun i => kk3 () = some r) ?_ ?_
 ·rintro _ h
  have h : kk3 () = some r := h
  rw [hkk3] at h
  dsimp only at h
  clear hkk3
  refine aw_show (m := (memOf w0 Z0 [] [] [(fDat (tyList tyA8u8) [v0_0] a0)])) (S := (tab [])) ?_
  refine aw_sr ?_
  refine al_as rfl rfl ?_
  refine al_nt ?_
  refine aw_ret ?_
  obtain rfl := Option.some.inj h
  exact fn_ret () [] [] rfl rfl rfl rfl (res1 rfl rfl) rfl rfl rfl (by decide)
 ·clear hkk3
  refine aw_sr ?_
  refine al_mv rfl rfl ?_
  refine al_val (ov_lenD 0 rfl rfl Tryd.underlying27 rfl) ?_
  refine al_mv rfl rfl ?_
  refine al_nt ?_
  refine aw_block ?_
  refine aw_state (aw_loop (ι := Int) (fun i => (memOf w0 Z0 [] [(oBox g1 47 (cA8u8 a1))] [(fDat (tyList tyA8u8) [v0_0] a0)])) (fun i => (tab [(0, v0_0), (3, (ptr g1 0)), (7, (int .i64 (a0.length : Int))), (8, (int .i64 i))])) (fun q i => f_slices_Index___api_ID_api_ID__L6 a0 a1 kk3 q i = some r) ?_ fu (0 : Int) h) (fun w a hm hs => norm hm hs [0] [0] [(0, v0_0), (3, (ptr g1 0)), (7, (int .i64 (a0.length : Int))), (8, (int .i64 (0 : Int)))] (by decide) ⟨rfl, rfl, rfl, rfl, trivial⟩)
  clear h
  rintro k5 l4i8 h
  have h : f_slices_Index___api_ID_api_ID__L6 a0 a1 kk3 k5 l4i8 = some r := h
  obtain _ | k5 := k5
  · rw [f_slices_Index___api_ID_api_ID__L6] at h; cases h
  rw [f_slices_Index___api_ID_api_ID__L6] at h
  refine aw_show (m := (memOf w0 Z0 [] [(oBox g1 47 (cA8u8 a1))] [(fDat (tyList tyA8u8) [v0_0] a0)])) (S := (tab [(0, v0_0), (3, (ptr g1 0)), (7, (int .i64 (a0.length : Int))), (8, (int .i64 l4i8))])) ?_
  refine aw_sr ?_
  refine al_in rfl rfl rfl rfl ?_
  refine al_nt ?_
  refine aw_seq ?_
  refine aw_cond rfl (fun hb7 => ?_) (fun hb7 => ?_)
  ·replace h := bif_t hb7 h
   refine aw_skip ?_
   refine aq_then ?_
   refine aw_seq ?_
   refine aw_block ?_
   refine aw_sr ?_
   refine al_mv rfl rfl ?_
   refine al_as rfl rfl ?_
   refine al_nt ?_
   refine aw_seq ?_
   obtain ⟨u8, hu9, h⟩ := opt_some h
   refine aw_region_draw 5 [(11, (fun u => fEq u (ag (cA8u8 a1)))), (12, (fun u => fEq u v0_0)), (13, (fun u => fEq u (int .i64 l4i8))), (14, (fun p10 => (fPtr tyA8u8 p10 u8))), (15, (fun u => fEq u (ag (cA8u8 u8))))] (tab [(0, v0_0), (3, (ptr g1 0)), (5, (int .i64 l4i8)), (7, (int .i64 (a0.length : Int))), (8, (int .i64 l4i8))]) mixed (by kernel_rfl) rfl rfl rfl (fun a hs => hs.tab _ (allT_mem ⟨rfl, rfl, rfl, rfl, rfl, trivial⟩)) ⟨⟨rfl, ld_val (ov_load (i := 0) (v := (ag (cA8u8 a1))) rfl rfl Tryd.underlying47 sz47 rfl rfl rfl rfl)⟩, ⟨rfl, ld_val (ov_move rfl rfl)⟩, ⟨rfl, ld_val (ov_move rfl rfl)⟩, ⟨rfl, ld_eq (j := 1) rfl rfl (ld_eq (j := 2) rfl rfl (ld_of (of_idxD 0 hu9 rfl rfl rfl Tryd.underlying27 sz47 rfl)))⟩, ⟨rfl, ld_fact (j := 3) rfl rfl (fun p10 => ld_val (ov_loadP (ds := (cA8u8 u8)) 0 rfl encA8u8 rfl Tryd.underlying47 sz47 rfl rfl rfl))⟩, trivial⟩ ?_
   refine tl_eq 0 rfl ?_
   refine tl_eq 4 rfl ?_
   refine tl_done ?_
   refine al_val (ov_eqlA (cs := (cA8u8 a1)) (ds := (cA8u8 u8)) (ls := [5, 5, 5, 5, 5, 5, 5, 5]) (p := (a1 == u8)) eg47 kt47 lv47 rfl rfl (by kernel_rfl) (by kernel_rfl) (fit_cons (fit_u8 Tryd.underlying5) (fit_cons (fit_u8 Tryd.underlying5) (fit_cons (fit_u8 Tryd.underlying5) (fit_cons (fit_u8 Tryd.underlying5) (fit_cons (fit_u8 Tryd.underlying5) (fit_cons (fit_u8 Tryd.underlying5) (fit_cons (fit_u8 Tryd.underlying5) (fit_cons (fit_u8 Tryd.underlying5) fit_nil)))))))) (fit_cons (fit_u8 Tryd.underlying5) (fit_cons (fit_u8 Tryd.underlying5) (fit_cons (fit_u8 Tryd.underlying5) (fit_cons (fit_u8 Tryd.underlying5) (fit_cons (fit_u8 Tryd.underlying5) (fit_cons (fit_u8 Tryd.underlying5) (fit_cons (fit_u8 Tryd.underlying5) (fit_cons (fit_u8 Tryd.underlying5) fit_nil)))))))) (injA8u8 (x := a1) (y := u8)) rfl) ?_
   refine al_nt ?_
   refine aw_cond rfl (fun hb11 => ?_) (fun hb11 => ?_)
   ·replace h := bif_t hb11 h
    refine aw_sr ?_
    refine al_mv rfl rfl ?_
    refine al_as rfl rfl ?_
    refine al_nt ?_
    refine aw_ret ?_
    refine aq_block_ret ?_
    refine aq_then_ret ?_
    refine aq_then_ret ?_
    refine aq_block_ret ?_
    refine aq_then_ret ?_
    obtain rfl := Option.some.inj h
    exact fn_ret () [] [] rfl rfl rfl rfl (res1 rfl rfl) rfl rfl rfl (by decide)
   ·replace h := bif_f hb11 h
    refine aw_skip ?_
    refine aq_block ?_
    refine aq_then ?_
    refine aw_region ?_
    refine al_in rfl rfl rfl rfl ?_
    refine al_mv rfl rfl ?_
    refine al_nil ?_
    exact aq_again k5 (IntKind.i64.wrap (l4i8 + (1 : Int))) (Nat.lt_succ_self _) h (fun w a hm hs => norm hm hs [0] [0] [(0, v0_0), (3, (ptr g1 0)), (7, (int .i64 (a0.length : Int))), (8, (int .i64 (IntKind.i64.wrap (l4i8 + (1 : Int)))))] (by decide) ⟨rfl, rfl, rfl, rfl, trivial⟩)
  ·replace h := bif_f hb7 h
   refine aw_exit ?_
   refine aq_then_exit ?_
   refine aq_then_exit ?_
   refine aq_block_exit ?_
   exact aq_join () h (fun w a hm hs => norm hm hs [] [0] [] (by decide) trivial)
def f_slices_Contains___api_ID_api_ID_ (fu : Nat) (a0 : (List A8u8)) (a1 : A8u8) : Option Bool := (opt (f_slices_Index___api_ID_api_ID_ fu a0 a1) fun (r3 : Int) => (some (decide (r3 ≥ (0 : Int)))))
set_option maxRecDepth 100000 in
theorem f_slices_Contains___api_ID_api_ID__ok (fu : Nat) (v0_0 : Value) (a0 : (List A8u8)) (a1 : A8u8) {r : Bool} (h : f_slices_Contains___api_ID_api_ID_ fu a0 a1 = some r) : FnOk Tryd.prog 98 [v0_0, (ag (cA8u8 a1))] [(fDat (tyList tyA8u8) [v0_0] a0)] [] (fun (i : Unit) => { val := (bool r) }) := by
 unfold f_slices_Contains___api_ID_api_ID_ at h
 refine fn_enter Tryd.func98 rfl Tryd.ntmps98 rfl (fun w0 Z0 => ?_)
 refine aw_sr ?_
 refine al_box (vs := (cA8u8 a1)) rfl (cv_rfl rfl) rfl (fun g1 => ?_)
 refine al_as rfl rfl ?_
 refine al_nt ?_
 refine aw_sr ?_
 refine al_mv rfl rfl ?_
 refine al_val (ov_load (i := 0) (v := (ag (cA8u8 a1))) rfl rfl Tryd.underlying47 sz47 rfl rfl rfl rfl) ?_
 obtain ⟨r3, hc2, h⟩ := opt_some h
 refine al_call (vs := [v0_0, (ag (cA8u8 a1))]) (f_slices_Index___api_ID_api_ID__ok fu v0_0 a0 a1 hc2) [] [] [0] (pre_fz 0 rfl pre_nil) rfl (by simp) (by decide) (.inl rfl) rfl Tryd.func99 rfl rfl rfl (fun _ => ?_)
 refine al_in rfl rfl rfl rfl ?_
 refine al_as rfl rfl ?_
 refine al_nt ?_
 refine aw_ret ?_
 obtain rfl := Option.some.inj h
 exact fn_ret () [] [] rfl rfl rfl rfl (res1 rfl rfl) rfl rfl rfl (by decide)
def f_walk_Needs_L29 (kk19 : ((List A8u8) → Option ((List A8u8) × Int))) (u20 : S_api_Node) (fu : Nat) : Nat → (List A8u8) → Int → Option ((List A8u8) × Int)
  | 0, _, _ => none
  | k28 + 1, l27x8, l27i42 => (bif (decide (l27i42 < (u20.Parts.length : Int))) then (lt (fun (j31x8 : (List A8u8)) => (f_walk_Needs_L29 kk19 u20 fu k28 j31x8 (IntKind.i64.wrap (l27i42 + (1 : Int))))) fun (kk32 : (List A8u8) → Option ((List A8u8) × Int)) => (opt (at? u20.Parts l27i42) fun (u33 : A8u8) => (opt (f_slices_Contains___api_ID_api_ID_ fu l27x8 u33) fun (r38 : Bool) => (bif (!r38) then (req (((l27x8.length + ([u33]).length) * 8 : Nat) ≤ 140737488355328 ∧ l27x8.length + ([u33]).length ≤ 9223372036854775807) (kk32 (l27x8 ++ ([u33])))) else (kk32 l27x8))))) else (kk19 l27x8))
def f_walk_Needs_L15 (r8 : ((List S_api_Node) × Int)) (kk12 : ((List A8u8) → Option ((List A8u8) × Int))) (fu : Nat) : Nat → (List A8u8) → Int → Option ((List A8u8) × Int)
  | 0, _, _ => none
  | k14 + 1, l13x8, l13i35 => (lt (fun (l13x8 : (List A8u8)) (l13i35 : Int) => (f_walk_Needs_L15 r8 kk12 fu k14 l13x8 l13i35)) fun (kk16 : (List A8u8) → Int → Option ((List A8u8) × Int)) => (bif (decide (l13i35 < (r8.1.length : Int))) then (lt (fun (j18x8 : (List A8u8)) => (kk16 j18x8 (IntKind.i64.wrap (l13i35 + (1 : Int))))) fun (kk19 : (List A8u8) → Option ((List A8u8) × Int)) => (opt (at? r8.1 l13i35) fun (u20 : S_api_Node) => (f_walk_Needs_L29 kk19 u20 fu fu l13x8 (0 : Int)))) else (kk12 l13x8)))
def f_walk_Needs (fu : Nat) (a0 : S_api_Blob) : Option ((List A8u8) × Int) := (opt (f_pack_ID fu a0) fun (r3 : (A8u8 × Int)) => (bif (r3.2 != (0 : Int)) then (some (([] : List A8u8), r3.2)) else (bif (a0.Kind != (2 : Int)) then (some (([] : List A8u8), (0 : Int))) else (opt (f_tree_Read fu a0.Bytes) fun (r8 : ((List S_api_Node) × Int)) => (bif (r8.2 != (0 : Int)) then (some (([] : List A8u8), r8.2)) else (lt (fun (j11x8 : (List A8u8)) => (some (j11x8, (0 : Int)))) fun (kk12 : (List A8u8) → Option ((List A8u8) × Int)) => (f_walk_Needs_L15 r8 kk12 fu fu ([] : List A8u8) (0 : Int))))))))
set_option maxRecDepth 100000 in
set_option maxHeartbeats 2000000 in
theorem f_walk_Needs_ok (fu : Nat) (a0 : S_api_Blob) {r : ((List A8u8) × Int)} (h : f_walk_Needs fu a0 = some r) : FnOk Tryd.prog 97 [(ag [(int .i64 a0.Kind), (str a0.Bytes)])] [uTabs] [] (fun (i : Value) => { val := (Value.tuple #[i, (int .i64 r.2)]), own := [(oRow i 47 tyA8u8 r.1)] }) := by
 unfold f_walk_Needs at h
 refine fn_enter Tryd.func97 rfl Tryd.ntmps97 rfl (fun w0 Z0 => ?_)
 refine aw_sr ?_
 refine al_box (vs := [(int .i64 a0.Kind), (str a0.Bytes)]) rfl (cv_rfl rfl) rfl (fun g1 => ?_)
 refine al_as rfl rfl ?_
 refine al_as rfl rfl ?_
 refine al_nt ?_
 refine aw_seq ?_
 refine aw_sr ?_
 refine al_val (ov_load (i := 0) (v := (ag [(int .i64 a0.Kind), (str a0.Bytes)])) rfl rfl Tryd.underlying34 sz34 rfl rfl rfl rfl) ?_
 obtain ⟨r3, hc2, h⟩ := opt_some h
 refine al_call (vs := [(ag [(int .i64 a0.Kind), (str a0.Bytes)])]) (f_pack_ID_ok fu a0 hc2) [] [] [0] pre_nil rfl (by simp) (by decide) (.inl rfl) rfl Tryd.func31 rfl rfl rfl (fun _ => ?_)
 refine al_mv rfl rfl ?_
 refine al_ex rfl rfl rfl ?_
 refine al_ex rfl rfl rfl ?_
 refine al_alloc (zs := (cA8u8 (A8u8.mk (0 : UInt8) (0 : UInt8) (0 : UInt8) (0 : UInt8) (0 : UInt8) (0 : UInt8) (0 : UInt8) (0 : UInt8)))) (zeroOf_to to47) rfl rfl (fun g4 => ?_)
 refine al_store (i := 0) (vs := (cA8u8 r3.1)) (cs' := (cA8u8 r3.1)) rfl rfl rfl sz47 (cv_rfl rfl) rfl (co_all (oneA8u8 r3.1)) (Nat.le_of_ble_eq_true rfl) rfl rfl ?_
 refine al_as rfl rfl ?_
 refine al_nt ?_
 refine aw_sr ?_
 refine al_mv rfl rfl ?_
 refine al_in rfl rfl rfl rfl ?_
 refine al_nt ?_
 refine aw_cond rfl (fun hb5 => ?_) (fun hb5 => ?_)
 ·replace h := bif_t hb5 h
  refine aw_sr ?_
  refine al_mv rfl rfl ?_
  refine al_as rfl rfl ?_
  refine al_as rfl rfl ?_
  refine al_nt ?_
  refine aw_ret ?_
  refine aq_then_ret ?_
  refine aq_nilR 47 tyA8u8 ?_
  obtain rfl := Option.some.inj h
  exact fn_ret (Value.slice none 0 0) [0] [] rfl rfl rfl rfl (res2 rfl rfl rfl) rfl rfl rfl (by decide)
 ·replace h := bif_f hb5 h
  refine aw_skip ?_
  refine aq_then ?_
  refine aw_seq ?_
  refine aw_sr ?_
  refine al_val (ov_fieldA (p := 0) rfl Tryd.underlying34 rfl sz3 rfl rfl rfl) ?_
  refine al_val (ov_load (i := 1) (v := (int .i64 a0.Kind)) rfl rfl Tryd.underlying3 sz3 rfl rfl rfl rfl) ?_
  refine al_in rfl rfl rfl rfl ?_
  refine al_nt ?_
  refine aw_cond rfl (fun hb6 => ?_) (fun hb6 => ?_)
  ·replace h := bif_t hb6 h
   refine aw_sr ?_
   refine al_as rfl rfl ?_
   refine al_as rfl rfl ?_
   refine al_nt ?_
   refine aw_ret ?_
   refine aq_then_ret ?_
   refine aq_nilR 47 tyA8u8 ?_
   obtain rfl := Option.some.inj h
   exact fn_ret (Value.slice none 0 0) [0] [] rfl rfl rfl rfl (res2 rfl rfl rfl) rfl rfl rfl (by decide)
  ·replace h := bif_f hb6 h
   refine aw_skip ?_
   refine aq_tr ?_
   refine al_val (ov_fieldA (p := 1) rfl Tryd.underlying34 rfl sz9 rfl rfl rfl) ?_
   refine al_val (ov_load (i := 1) (v := (str a0.Bytes)) rfl rfl Tryd.underlying9 sz9 rfl rfl rfl rfl) ?_
   obtain ⟨r8, hc7, h⟩ := opt_some h
   refine al_call (vs := [(str a0.Bytes)]) (f_tree_Read_ok fu a0.Bytes hc7) [] [] [0, 1] (pre_fz 0 rfl pre_nil) rfl (by simp) (by decide) (.inl rfl) rfl Tryd.func107 rfl rfl rfl (fun v9 => ?_)
   refine al_mv rfl rfl ?_
   refine al_ex rfl rfl rfl ?_
   refine al_ex rfl rfl rfl ?_
   refine al_as rfl rfl ?_
   refine al_as rfl rfl ?_
   refine al_nt ?_
   refine aw_seq ?_
   refine aw_sr ?_
   refine al_mv rfl rfl ?_
   refine al_in rfl rfl rfl rfl ?_
   refine al_nt ?_
   refine aw_cond rfl (fun hb10 => ?_) (fun hb10 => ?_)
   ·replace h := bif_t hb10 h
    refine aw_sr ?_
    refine al_mv rfl rfl ?_
    refine al_as rfl rfl ?_
    refine al_as rfl rfl ?_
    refine al_nt ?_
    refine aw_ret ?_
    refine aq_then_ret ?_
    refine aq_nilR 47 tyA8u8 ?_
    obtain rfl := Option.some.inj h
    exact fn_ret (Value.slice none 0 0) [0] [] rfl rfl rfl rfl (res2 rfl rfl rfl) rfl rfl rfl (by decide)
   ·replace h := bif_f hb10 h
    refine aw_skip ?_
    refine aq_tr ?_
    refine al_as rfl rfl ?_
    refine al_nt ?_
    obtain ⟨kk12, hkk12, h⟩ := lt_some h
    refine aw_seq_join (ι := Value × (List A8u8)) (fun i => (memOf w0 Z0 [] [(oRow i.1 47 tyA8u8 i.2)] [uTabs])) (fun i => (tab [(8, i.1)])) (fun i => kk12 i.2 = some r) ?_ ?_
    ·rintro ⟨j11v8, j11x8⟩ h
     have h : kk12 j11x8 = some r := h
     rw [hkk12] at h
     dsimp only at h
     clear hkk12
     refine aw_show (m := (memOf w0 Z0 [] [(oRow j11v8 47 tyA8u8 j11x8)] [uTabs])) (S := (tab [(8, j11v8)])) ?_
     refine aw_sr ?_
     refine al_mv rfl rfl ?_
     refine al_as rfl rfl ?_
     refine al_as rfl rfl ?_
     refine al_nt ?_
     refine aw_ret ?_
     obtain rfl := Option.some.inj h
     exact fn_ret j11v8 [0] [] rfl rfl rfl rfl (res2 rfl rfl rfl) rfl rfl rfl (by decide)
    ·clear hkk12
     refine aw_sr ?_
     refine al_mv rfl rfl ?_
     refine al_val (ov_lenR 0 rfl rfl Tryd.underlying164 rfl) ?_
     refine al_mv rfl rfl ?_
     refine al_nt ?_
     refine aw_block ?_
     refine aw_nilR 47 tyA8u8 ?_
     refine aw_state (aw_loop (ι := Value × (List A8u8) × Int) (fun i => (memOf w0 Z0 [] [(oRow i.1 47 tyA8u8 i.2.1), (oRow v9 168 tyS_api_Node r8.1)] [uTabs])) (fun i => (tab [(8, i.1), (33, v9), (34, (int .i64 (r8.1.length : Int))), (35, (int .i64 i.2.2))])) (fun q i => f_walk_Needs_L15 r8 kk12 fu q i.2.1 i.2.2 = some r) ?_ fu ((Value.slice none 0 0), ([] : List A8u8), (0 : Int)) h) (fun w a hm hs => norm hm hs [0, 1] [0] [(8, (Value.slice none 0 0)), (33, v9), (34, (int .i64 (r8.1.length : Int))), (35, (int .i64 (0 : Int)))] (by decide) ⟨rfl, rfl, rfl, rfl, trivial⟩)
     clear h
     rintro k14 ⟨l13v8, l13x8, l13i35⟩ h
     have h : f_walk_Needs_L15 r8 kk12 fu k14 l13x8 l13i35 = some r := h
     obtain _ | k14 := k14
     · rw [f_walk_Needs_L15] at h; cases h
     rw [f_walk_Needs_L15] at h
     refine aw_show (m := (memOf w0 Z0 [] [(oRow l13v8 47 tyA8u8 l13x8), (oRow v9 168 tyS_api_Node r8.1)] [uTabs])) (S := (tab [(8, l13v8), (33, v9), (34, (int .i64 (r8.1.length : Int))), (35, (int .i64 l13i35))])) ?_
     obtain ⟨kk16, hkk16, h⟩ := lt_some h
     refine aw_body_join (ι := Value × (List A8u8) × Int) (fun i => (memOf w0 Z0 [] [(oRow i.1 47 tyA8u8 i.2.1), (oRow v9 168 tyS_api_Node r8.1)] [uTabs])) (fun i => (tab [(8, i.1), (33, v9), (34, (int .i64 (r8.1.length : Int))), (35, (int .i64 i.2.2))])) (fun i => kk16 i.2.1 i.2.2 = some r) (fun i h => aq_again k14 i (Nat.lt_succ_self _) (by rw [hkk16] at h; exact h) (fun w a hm hs => ⟨hm, hs⟩)) ?_
     clear hkk16
     refine aw_sr ?_
     refine al_in rfl rfl rfl rfl ?_
     refine al_nt ?_
     refine aw_seq ?_
     refine aw_cond rfl (fun hb17 => ?_) (fun hb17 => ?_)
     ·replace h := bif_t hb17 h
      refine aw_skip ?_
      refine aq_then ?_
      obtain ⟨kk19, hkk19, h⟩ := lt_some h
      refine aw_seq_join (ι := Value × (List A8u8)) (fun i => (memOf w0 Z0 [] [(oRow i.1 47 tyA8u8 i.2), (oRow v9 168 tyS_api_Node r8.1)] [uTabs])) (fun i => (tab [(8, i.1), (33, v9), (34, (int .i64 (r8.1.length : Int))), (35, (int .i64 l13i35))])) (fun i => kk19 i.2 = some r) ?_ ?_
      ·rintro ⟨j18v8, j18x8⟩ h
       have h : kk19 j18x8 = some r := h
       rw [hkk19] at h
       dsimp only at h
       clear hkk19
       refine aw_show (m := (memOf w0 Z0 [] [(oRow j18v8 47 tyA8u8 j18x8), (oRow v9 168 tyS_api_Node r8.1)] [uTabs])) (S := (tab [(8, j18v8), (33, v9), (34, (int .i64 (r8.1.length : Int))), (35, (int .i64 l13i35))])) ?_
       refine aw_region ?_
       refine al_in rfl rfl rfl rfl ?_
       refine al_mv rfl rfl ?_
       refine al_nil ?_
       exact aq_join (j18v8, j18x8, (IntKind.i64.wrap (l13i35 + (1 : Int)))) h (fun w a hm hs => norm hm hs [0, 1] [0] [(8, j18v8), (33, v9), (34, (int .i64 (r8.1.length : Int))), (35, (int .i64 (IntKind.i64.wrap (l13i35 + (1 : Int)))))] (by decide) ⟨rfl, rfl, rfl, rfl, trivial⟩)
      ·clear hkk19
       refine aw_block ?_
       refine aw_sr ?_
       obtain ⟨u20, hu21, h⟩ := opt_some h
       refine al_idxR 1 (at_some hu21).1 (at_some hu21).2.1 rfl rfl rfl Tryd.underlying164 sz168 rfl (fun p22 hp23 => ?_)
       refine al_loadRA 1 rfl hp23 (at_some hu21).2.2 rfl Tryd.underlying168 sz168 rfl rfl (fun cs25 => ?_)
       refine al_use (ι := Value) 0 rfl (fun j => cs25 = [(str u20.Name), (int .i64 u20.Kind), (int .i64 u20.Mode), (int .i64 u20.Time), (int .i64 u20.Size), j, (str u20.Link)]) (fun j => [(fDat (tyList tyA8u8) [j] u20.Parts)]) encnS_api_Node (fun s24 hq => ?_)
       subst hq
       refine al_alloc (zs := [(str ([] : List UInt8)), (int .i64 (0 : Int)), (int .i64 (0 : Int)), (int .i64 (0 : Int)), (int .i64 (0 : Int)), (Value.slice none 0 0), (str ([] : List UInt8))]) (zeroOf_to to168) rfl rfl (fun g26 => ?_)
       refine al_store (i := 0) (vs := [(str u20.Name), (int .i64 u20.Kind), (int .i64 u20.Mode), (int .i64 u20.Time), (int .i64 u20.Size), s24, (str u20.Link)]) (cs' := [(str u20.Name), (int .i64 u20.Kind), (int .i64 u20.Mode), (int .i64 u20.Time), (int .i64 u20.Size), s24, (str u20.Link)]) rfl rfl rfl sz168 (cv_rfl rfl) rfl (co_val rfl (co_val rfl (co_val rfl (co_val rfl (co_val rfl (co_fz 0 rfl (co_val rfl co_nil))))))) (Nat.le_of_ble_eq_true rfl) rfl rfl ?_
       refine al_nt ?_
       refine aw_sr ?_
       refine al_val (ov_fieldA (p := 5) rfl Tryd.underlying168 rfl sz27 rfl rfl rfl) ?_
       refine al_val (ov_load (i := 0) (v := s24) rfl rfl Tryd.underlying27 sz27 rfl rfl rfl rfl) ?_
       refine al_val (ov_lenD 0 rfl rfl Tryd.underlying27 rfl) ?_
       refine al_mv rfl rfl ?_
       refine al_nt ?_
       refine aw_block ?_
       refine aw_state (aw_loop (ι := Value × (List A8u8) × Int) (fun i => (memOf w0 Z0 [] [(oRow i.1 47 tyA8u8 i.2.1), (oRow v9 168 tyS_api_Node r8.1)] [(fDat (tyList tyA8u8) [s24] u20.Parts), (fDat tyS_api_Node [(str u20.Name), (int .i64 u20.Kind), (int .i64 u20.Mode), (int .i64 u20.Time), (int .i64 u20.Size), s24, (str u20.Link)] u20), uTabs])) (fun i => (tab [(8, i.1), (33, v9), (34, (int .i64 (r8.1.length : Int))), (35, (int .i64 l13i35)), (40, s24), (41, (int .i64 (u20.Parts.length : Int))), (42, (int .i64 i.2.2))])) (fun q i => f_walk_Needs_L29 kk19 u20 fu q i.2.1 i.2.2 = some r) ?_ fu (l13v8, l13x8, (0 : Int)) h) (fun w a hm hs => norm hm hs [1, 2] [0, 1, 2] [(8, l13v8), (33, v9), (34, (int .i64 (r8.1.length : Int))), (35, (int .i64 l13i35)), (40, s24), (41, (int .i64 (u20.Parts.length : Int))), (42, (int .i64 (0 : Int)))] (by decide) ⟨rfl, rfl, rfl, rfl, rfl, rfl, rfl, trivial⟩)
       clear h
       rintro k28 ⟨l27v8, l27x8, l27i42⟩ h
       have h : f_walk_Needs_L29 kk19 u20 fu k28 l27x8 l27i42 = some r := h
       obtain _ | k28 := k28
       · rw [f_walk_Needs_L29] at h; cases h
       rw [f_walk_Needs_L29] at h
       refine aw_show (m := (memOf w0 Z0 [] [(oRow l27v8 47 tyA8u8 l27x8), (oRow v9 168 tyS_api_Node r8.1)] [(fDat (tyList tyA8u8) [s24] u20.Parts), (fDat tyS_api_Node [(str u20.Name), (int .i64 u20.Kind), (int .i64 u20.Mode), (int .i64 u20.Time), (int .i64 u20.Size), s24, (str u20.Link)] u20), uTabs])) (S := (tab [(8, l27v8), (33, v9), (34, (int .i64 (r8.1.length : Int))), (35, (int .i64 l13i35)), (40, s24), (41, (int .i64 (u20.Parts.length : Int))), (42, (int .i64 l27i42))])) ?_
       refine aw_sr ?_
       refine al_in rfl rfl rfl rfl ?_
       refine al_nt ?_
       refine aw_seq ?_
       refine aw_cond rfl (fun hb30 => ?_) (fun hb30 => ?_)
       ·replace h := bif_t hb30 h
        refine aw_skip ?_
        refine aq_then ?_
        obtain ⟨kk32, hkk32, h⟩ := lt_some h
        refine aw_seq_join (ι := Value × (List A8u8)) (fun i => (memOf w0 Z0 [] [(oRow i.1 47 tyA8u8 i.2), (oRow v9 168 tyS_api_Node r8.1)] [(fDat (tyList tyA8u8) [s24] u20.Parts), (fDat tyS_api_Node [(str u20.Name), (int .i64 u20.Kind), (int .i64 u20.Mode), (int .i64 u20.Time), (int .i64 u20.Size), s24, (str u20.Link)] u20), uTabs])) (fun i => (tab [(8, i.1), (33, v9), (34, (int .i64 (r8.1.length : Int))), (35, (int .i64 l13i35)), (40, s24), (41, (int .i64 (u20.Parts.length : Int))), (42, (int .i64 l27i42))])) (fun i => kk32 i.2 = some r) ?_ ?_
        ·rintro ⟨j31v8, j31x8⟩ h
         have h : kk32 j31x8 = some r := h
         rw [hkk32] at h
         dsimp only at h
         clear hkk32
         refine aw_show (m := (memOf w0 Z0 [] [(oRow j31v8 47 tyA8u8 j31x8), (oRow v9 168 tyS_api_Node r8.1)] [(fDat (tyList tyA8u8) [s24] u20.Parts), (fDat tyS_api_Node [(str u20.Name), (int .i64 u20.Kind), (int .i64 u20.Mode), (int .i64 u20.Time), (int .i64 u20.Size), s24, (str u20.Link)] u20), uTabs])) (S := (tab [(8, j31v8), (33, v9), (34, (int .i64 (r8.1.length : Int))), (35, (int .i64 l13i35)), (40, s24), (41, (int .i64 (u20.Parts.length : Int))), (42, (int .i64 l27i42))])) ?_
         refine aw_region ?_
         refine al_in rfl rfl rfl rfl ?_
         refine al_mv rfl rfl ?_
         refine al_nil ?_
         exact aq_again k28 (j31v8, j31x8, (IntKind.i64.wrap (l27i42 + (1 : Int)))) (Nat.lt_succ_self _) h (fun w a hm hs => norm hm hs [0, 1] [0, 1, 2] [(8, j31v8), (33, v9), (34, (int .i64 (r8.1.length : Int))), (35, (int .i64 l13i35)), (40, s24), (41, (int .i64 (u20.Parts.length : Int))), (42, (int .i64 (IntKind.i64.wrap (l27i42 + (1 : Int)))))] (by decide) ⟨rfl, rfl, rfl, rfl, rfl, rfl, rfl, trivial⟩)
        ·clear hkk32
         refine aw_block ?_
         refine aw_sr ?_
         obtain ⟨u33, hu34, h⟩ := opt_some h
         refine al_idxD 0 hu34 rfl rfl rfl Tryd.underlying27 sz47 rfl (fun p35 => ?_)
         refine al_val (ov_loadP (ds := (cA8u8 u33)) 0 rfl encA8u8 rfl Tryd.underlying47 sz47 rfl rfl rfl) ?_
         refine al_alloc (zs := (cA8u8 (A8u8.mk (0 : UInt8) (0 : UInt8) (0 : UInt8) (0 : UInt8) (0 : UInt8) (0 : UInt8) (0 : UInt8) (0 : UInt8)))) (zeroOf_to to47) rfl rfl (fun g36 => ?_)
         refine al_store (i := 0) (vs := (cA8u8 u33)) (cs' := (cA8u8 u33)) rfl rfl rfl sz47 (cv_rfl rfl) rfl (co_all (oneA8u8 u33)) (Nat.le_of_ble_eq_true rfl) rfl rfl ?_
         refine al_nt ?_
         refine aw_sr ?_
         refine al_mv rfl rfl ?_
         refine al_val (ov_load (i := 0) (v := (ag (cA8u8 u33))) rfl rfl Tryd.underlying47 sz47 rfl rfl rfl rfl) ?_
         obtain ⟨r38, hc37, h⟩ := opt_some h
         refine al_call (vs := [l27v8, (ag (cA8u8 u33))]) (f_slices_Contains___api_ID_api_ID__ok fu l27v8 l27x8 u33 hc37) [1] [] [0, 1, 2] (pre_own 1 rfl rfl pre_nil) rfl (by simp) (by decide) (.inr flat_res0) rfl Tryd.func98 rfl rfl rfl (fun _ => ?_)
         refine al_val (ov_not rfl rfl) ?_
         refine al_nt ?_
         refine aw_cond rfl (fun hb39 => ?_) (fun hb39 => ?_)
         ·replace h := bif_t hb39 h
          refine aw_region ?_
          refine al_mv rfl rfl ?_
          refine al_val (ov_load (i := 0) (v := (ag (cA8u8 u33))) rfl rfl Tryd.underlying47 sz47 rfl rfl rfl rfl) ?_
          refine al_buildSlice (τ := tyA8u8) (e := 47) (k := 1) (sz := 0) (by_ := 0) (z := undef) (cs := (cA8u8 u33)) (xs := [u33]) rfl (by decide) (fun w a hm hs => ⟨((cA8u8 u33)).toArray, rfl, by simp only [List.map_toArray, List.map_cons, List.map_nil, hs.ev (x := .tmp 51) rfl]; exact run_bs [(ag (cA8u8 u33))] (cA8u8 u33) Tryd.underlying27 to47 rfl rfl (bs_cons (l := (cA8u8 u33)) (cs := []) (cv_rfl rfl) rfl bs_nil) hm⟩) (fun hm => ⟨(cA8u8 u33), [], rfl, mkA8u8 rfl, rfl⟩) rfl (fun v40 => ?_)
          obtain ⟨hc41, h⟩ := req_some h
          refine al_append 2 hc41.1 hc41.2 rfl (src_own (i := 2) 0 rfl) rfl rfl Tryd.underlying27 to47 rfl rfl rfl (fun v42 => ?_)
          refine al_as rfl rfl ?_
          refine al_nil ?_
          refine aq_block ?_
          exact aq_join (v42, (l27x8 ++ ([u33]))) h (fun w a hm hs => norm hm hs [2, 3] [1, 2, 3] [(8, v42), (33, v9), (34, (int .i64 (r8.1.length : Int))), (35, (int .i64 l13i35)), (40, s24), (41, (int .i64 (u20.Parts.length : Int))), (42, (int .i64 l27i42))] (by decide) ⟨rfl, rfl, rfl, rfl, rfl, rfl, rfl, trivial⟩)
         ·replace h := bif_f hb39 h
          refine aw_skip ?_
          refine aq_block ?_
          exact aq_join (l27v8, l27x8) h (fun w a hm hs => norm hm hs [1, 2] [1, 2, 3] [(8, l27v8), (33, v9), (34, (int .i64 (r8.1.length : Int))), (35, (int .i64 l13i35)), (40, s24), (41, (int .i64 (u20.Parts.length : Int))), (42, (int .i64 l27i42))] (by decide) ⟨rfl, rfl, rfl, rfl, rfl, rfl, rfl, trivial⟩)
       ·replace h := bif_f hb30 h
        refine aw_exit ?_
        refine aq_then_exit ?_
        refine aq_then_exit ?_
        refine aq_block_exit ?_
        refine aq_block ?_
        exact aq_join (l27v8, l27x8) h (fun w a hm hs => norm hm hs [0, 1] [2] [(8, l27v8), (33, v9), (34, (int .i64 (r8.1.length : Int))), (35, (int .i64 l13i35))] (by decide) ⟨rfl, rfl, rfl, rfl, trivial⟩)
     ·replace h := bif_f hb17 h
      refine aw_exit ?_
      refine aq_then_exit ?_
      refine aq_then_exit ?_
      refine aq_block_exit ?_
      exact aq_join (l13v8, l13x8) h (fun w a hm hs => norm hm hs [0] [0] [(8, l13v8)] (by decide) ⟨rfl, trivial⟩)
-- STUCK (*lumberroom/fetch.planner).visit: lty ['pointer', 82]
def f___fetch_planner__visit_L16 (self : D_fetch_planner → A8u8 → Option (Int × D_fetch_planner)) (r6 : ((List A8u8) × Int)) (kk10 : ((List (A8u8 × S_api_Blob)) → (List (A8u8 × Bool)) → (List S_api_Blob) → Option (Int × D_fetch_planner))) : Nat → (List (A8u8 × S_api_Blob)) → (List (A8u8 × Bool)) → (List S_api_Blob) → Int → Option (Int × D_fetch_planner)
  | 0, _, _, _, _ => none
  | k15 + 1, l14xm0_0, l14xm0_1, l14x0_2, l14i44 => (bif (decide (l14i44 < (r6.1.length : Int))) then (opt (at? r6.1 l14i44) fun (u18 : A8u8) => (opt (self (D_fetch_planner.mk l14xm0_0 l14xm0_1 l14x0_2) u18) fun (r24 : (Int × D_fetch_planner)) => (bif (r24.1 != (0 : Int)) then (some (r24.1, r24.2)) else (f___fetch_planner__visit_L16 (self) r6 kk10 k15 r24.2.heap r24.2.seen r24.2.out (IntKind.i64.wrap (l14i44 + (1 : Int))))))) else (kk10 l14xm0_0 l14xm0_1 l14x0_2))
def f___fetch_planner__visit : Nat → D_fetch_planner → A8u8 → Option (Int × D_fetch_planner)
  | 0, _, _ => none
  | fu + 1, a0, a1 => (bif ((gget a0.seen a1).getD false) then (some ((0 : Int), a0)) else (bif (!((gget a0.heap a1).isSome)) then (some ((9 : Int), (D_fetch_planner.mk a0.heap (gset a0.seen a1 true) a0.out))) else (opt (f_walk_Needs fu (S_api_Blob.mk (((gget a0.heap a1).getD (S_api_Blob.mk (0 : Int) ([] : (List UInt8)))).Kind) (((gget a0.heap a1).getD (S_api_Blob.mk (0 : Int) ([] : (List UInt8)))).Bytes))) fun (r6 : ((List A8u8) × Int)) => (bif (r6.2 != (0 : Int)) then (some (r6.2, (D_fetch_planner.mk a0.heap (gset a0.seen a1 true) a0.out))) else (lt (fun (j9xm0_0 : (List (A8u8 × S_api_Blob))) (j9xm0_1 : (List (A8u8 × Bool))) (j9x0_2 : (List S_api_Blob)) => (req (((j9x0_2.length + ([(S_api_Blob.mk (((gget a0.heap a1).getD (S_api_Blob.mk (0 : Int) ([] : (List UInt8)))).Kind) (((gget a0.heap a1).getD (S_api_Blob.mk (0 : Int) ([] : (List UInt8)))).Bytes))]).length) * 24 : Nat) ≤ 140737488355328 ∧ j9x0_2.length + ([(S_api_Blob.mk (((gget a0.heap a1).getD (S_api_Blob.mk (0 : Int) ([] : (List UInt8)))).Kind) (((gget a0.heap a1).getD (S_api_Blob.mk (0 : Int) ([] : (List UInt8)))).Bytes))]).length ≤ 9223372036854775807) (some ((0 : Int), (D_fetch_planner.mk j9xm0_0 j9xm0_1 (j9x0_2 ++ ([(S_api_Blob.mk (((gget a0.heap a1).getD (S_api_Blob.mk (0 : Int) ([] : (List UInt8)))).Kind) (((gget a0.heap a1).getD (S_api_Blob.mk (0 : Int) ([] : (List UInt8)))).Bytes))]))))))) fun (kk10 : (List (A8u8 × S_api_Blob)) → (List (A8u8 × Bool)) → (List S_api_Blob) → Option (Int × D_fetch_planner)) => (f___fetch_planner__visit_L16 (f___fetch_planner__visit fu) r6 kk10 fu a0.heap (gset a0.seen a1 true) a0.out (0 : Int)))))))
set_option maxRecDepth 100000 in
set_option maxHeartbeats 2000000 in
theorem f___fetch_planner__visit_ok (fu : Nat) (bx0 : Nat) (gm0_0 : Nat) (gm0_1 : Nat) (v0_2 : Value) (a0 : D_fetch_planner) (a1 : A8u8) {r : (Int × D_fetch_planner)} (h : f___fetch_planner__visit fu a0 a1 = some r) : FnOk Tryd.prog 44 [(ptr bx0 0), (ag (cA8u8 a1))] [uTabs] [(oBox bx0 82 [(Value.map (some gm0_0)), (Value.map (some gm0_1)), v0_2]), (oMapK Tryd.prog 47 gm0_0 (fun x : A8u8 => ag (cA8u8 x)) (fun x : S_api_Blob => ag [(int .i64 x.Kind), (str x.Bytes)]) a0.heap), (oMapK Tryd.prog 47 gm0_1 (fun x : A8u8 => ag (cA8u8 x)) (fun x : Bool => bool x) a0.seen), (oRow v0_2 34 tyS_api_Blob a0.out)] (fun (i : Value) => { val := (int .i64 r.1), own := [(oBox bx0 82 [(Value.map (some gm0_0)), (Value.map (some gm0_1)), i]), (oMapK Tryd.prog 47 gm0_0 (fun x : A8u8 => ag (cA8u8 x)) (fun x : S_api_Blob => ag [(int .i64 x.Kind), (str x.Bytes)]) r.2.heap), (oMapK Tryd.prog 47 gm0_1 (fun x : A8u8 => ag (cA8u8 x)) (fun x : Bool => bool x) r.2.seen), (oRow i 34 tyS_api_Blob r.2.out)] }) := by
 cases fu with
 | zero => rw [f___fetch_planner__visit] at h; cases h
 | succ fu =>
  rw [f___fetch_planner__visit] at h
  refine fn_enter Tryd.func44 rfl Tryd.ntmps44 rfl (fun w0 Z0 => ?_)
  refine aw_sr ?_
  refine al_box (vs := (cA8u8 a1)) rfl (cv_rfl rfl) rfl (fun g1 => ?_)
  refine al_as rfl rfl ?_
  refine al_nt ?_
  refine aw_seq ?_
  refine aw_seq ?_
  refine aw_region_open [⟨0, 12, Unit, fun _ => { val := (ptr bx0 0) }⟩, ⟨1, 13, Unit, fun _ => { val := (ptr bx0 0) }⟩, ⟨2, 14, Unit, fun _ => { val := (ptr bx0 1) }⟩, ⟨3, 15, Unit, fun _ => { val := (Value.map (some gm0_1)) }⟩, ⟨4, 16, Unit, fun _ => { val := (ag (cA8u8 a1)) }⟩] (tab [(0, (ptr bx0 0)), (3, (ptr g1 0))]) mixed (fun a hs => hs.tab _ (allT_mem ⟨rfl, rfl, trivial⟩)) ?_
  refine ta_show (m := (memOf w0 Z0 [(oBox bx0 82 [(Value.map (some gm0_0)), (Value.map (some gm0_1)), v0_2]), (oMapK Tryd.prog 47 gm0_0 (fun x : A8u8 => ag (cA8u8 x)) (fun x : S_api_Blob => ag [(int .i64 x.Kind), (str x.Bytes)]) a0.heap), (oMapK Tryd.prog 47 gm0_1 (fun x : A8u8 => ag (cA8u8 x)) (fun x : Bool => bool x) a0.seen), (oRow v0_2 34 tyS_api_Blob a0.out)] [(oBox g1 47 (cA8u8 a1)), (oBox bx0 82 [(Value.map (some gm0_0)), (Value.map (some gm0_1)), v0_2]), (oMapK Tryd.prog 47 gm0_0 (fun x : A8u8 => ag (cA8u8 x)) (fun x : S_api_Blob => ag [(int .i64 x.Kind), (str x.Bytes)]) a0.heap), (oMapK Tryd.prog 47 gm0_1 (fun x : A8u8 => ag (cA8u8 x)) (fun x : Bool => bool x) a0.seen), (oRow v0_2 34 tyS_api_Blob a0.out)] [uTabs])) (S := (tab [(0, (ptr bx0 0)), (3, (ptr g1 0))])) ?_
  refine ta_step 5 _ [0, 1, 2, 3, 4] [12, 13, 14, 15, 16] [0, 1, 2, 3, 4] [] [⟨0, 12, Unit, fun _ => { val := (ptr bx0 0) }⟩, ⟨1, 13, Unit, fun _ => { val := (ptr bx0 0) }⟩, ⟨2, 14, Unit, fun _ => { val := (ptr bx0 1) }⟩, ⟨3, 15, Unit, fun _ => { val := (Value.map (some gm0_1)) }⟩, ⟨4, 16, Unit, fun _ => { val := (ag (cA8u8 a1)) }⟩] [] rfl rfl rfl (by kernel_rfl) rfl rfl rfl ⟨⟨_, rfl, [], rfl, by
 intro X_ Y_ F_ K_ hK_
 refine al_show (m := Mem.plus (memOf w0 Z0 [(oBox bx0 82 [(Value.map (some gm0_0)), (Value.map (some gm0_1)), v0_2]), (oMapK Tryd.prog 47 gm0_0 (fun x : A8u8 => ag (cA8u8 x)) (fun x : S_api_Blob => ag [(int .i64 x.Kind), (str x.Bytes)]) a0.heap), (oMapK Tryd.prog 47 gm0_1 (fun x : A8u8 => ag (cA8u8 x)) (fun x : Bool => bool x) a0.seen), (oRow v0_2 34 tyS_api_Blob a0.out)] [(oBox g1 47 (cA8u8 a1)), (oBox bx0 82 [(Value.map (some gm0_0)), (Value.map (some gm0_1)), v0_2]), (oMapK Tryd.prog 47 gm0_0 (fun x : A8u8 => ag (cA8u8 x)) (fun x : S_api_Blob => ag [(int .i64 x.Kind), (str x.Bytes)]) a0.heap), (oMapK Tryd.prog 47 gm0_1 (fun x : A8u8 => ag (cA8u8 x)) (fun x : Bool => bool x) a0.seen), (oRow v0_2 34 tyS_api_Blob a0.out)] [uTabs]) X_ Y_) (S := over (tab [(0, (ptr bx0 0)), (3, (ptr g1 0))]) F_) ?_
 refine al_mv rfl rfl ?_
 refine al_nil ?_
 exact fr_fin hK_ ()⟩, ⟨_, rfl, [0], rfl, by
 intro _
 intro X_ Y_ F_ K_ hK_
 refine al_show (m := Mem.plus (memOf w0 Z0 [(oBox bx0 82 [(Value.map (some gm0_0)), (Value.map (some gm0_1)), v0_2]), (oMapK Tryd.prog 47 gm0_0 (fun x : A8u8 => ag (cA8u8 x)) (fun x : S_api_Blob => ag [(int .i64 x.Kind), (str x.Bytes)]) a0.heap), (oMapK Tryd.prog 47 gm0_1 (fun x : A8u8 => ag (cA8u8 x)) (fun x : Bool => bool x) a0.seen), (oRow v0_2 34 tyS_api_Blob a0.out)] [(oBox g1 47 (cA8u8 a1)), (oBox bx0 82 [(Value.map (some gm0_0)), (Value.map (some gm0_1)), v0_2]), (oMapK Tryd.prog 47 gm0_0 (fun x : A8u8 => ag (cA8u8 x)) (fun x : S_api_Blob => ag [(int .i64 x.Kind), (str x.Bytes)]) a0.heap), (oMapK Tryd.prog 47 gm0_1 (fun x : A8u8 => ag (cA8u8 x)) (fun x : Bool => bool x) a0.seen), (oRow v0_2 34 tyS_api_Blob a0.out)] [uTabs]) X_ Y_) (S := over (put (tab [(0, (ptr bx0 0)), (3, (ptr g1 0))]) 12 (ptr bx0 0)) F_) ?_
 refine al_val (ov_nilCheck rfl rfl) ?_
 refine al_nil ?_
 exact fr_fin hK_ ()⟩, ⟨_, rfl, [1], rfl, by
 intro _
 intro X_ Y_ F_ K_ hK_
 refine al_show (m := Mem.plus (memOf w0 Z0 [(oBox bx0 82 [(Value.map (some gm0_0)), (Value.map (some gm0_1)), v0_2]), (oMapK Tryd.prog 47 gm0_0 (fun x : A8u8 => ag (cA8u8 x)) (fun x : S_api_Blob => ag [(int .i64 x.Kind), (str x.Bytes)]) a0.heap), (oMapK Tryd.prog 47 gm0_1 (fun x : A8u8 => ag (cA8u8 x)) (fun x : Bool => bool x) a0.seen), (oRow v0_2 34 tyS_api_Blob a0.out)] [(oBox g1 47 (cA8u8 a1)), (oBox bx0 82 [(Value.map (some gm0_0)), (Value.map (some gm0_1)), v0_2]), (oMapK Tryd.prog 47 gm0_0 (fun x : A8u8 => ag (cA8u8 x)) (fun x : S_api_Blob => ag [(int .i64 x.Kind), (str x.Bytes)]) a0.heap), (oMapK Tryd.prog 47 gm0_1 (fun x : A8u8 => ag (cA8u8 x)) (fun x : Bool => bool x) a0.seen), (oRow v0_2 34 tyS_api_Blob a0.out)] [uTabs]) X_ Y_) (S := over (put (tab [(0, (ptr bx0 0)), (3, (ptr g1 0))]) 13 (ptr bx0 0)) F_) ?_
 refine al_val (ov_fieldA (p := 1) rfl Tryd.underlying82 rfl sz80 rfl rfl rfl) ?_
 refine al_nil ?_
 exact fr_fin hK_ ()⟩, ⟨_, rfl, [2], rfl, by
 intro _
 intro X_ Y_ F_ K_ hK_
 refine al_show (m := Mem.plus (memOf w0 Z0 [(oBox bx0 82 [(Value.map (some gm0_0)), (Value.map (some gm0_1)), v0_2]), (oMapK Tryd.prog 47 gm0_0 (fun x : A8u8 => ag (cA8u8 x)) (fun x : S_api_Blob => ag [(int .i64 x.Kind), (str x.Bytes)]) a0.heap), (oMapK Tryd.prog 47 gm0_1 (fun x : A8u8 => ag (cA8u8 x)) (fun x : Bool => bool x) a0.seen), (oRow v0_2 34 tyS_api_Blob a0.out)] [(oBox g1 47 (cA8u8 a1)), (oBox bx0 82 [(Value.map (some gm0_0)), (Value.map (some gm0_1)), v0_2]), (oMapK Tryd.prog 47 gm0_0 (fun x : A8u8 => ag (cA8u8 x)) (fun x : S_api_Blob => ag [(int .i64 x.Kind), (str x.Bytes)]) a0.heap), (oMapK Tryd.prog 47 gm0_1 (fun x : A8u8 => ag (cA8u8 x)) (fun x : Bool => bool x) a0.seen), (oRow v0_2 34 tyS_api_Blob a0.out)] [uTabs]) X_ Y_) (S := over (put (tab [(0, (ptr bx0 0)), (3, (ptr g1 0))]) 14 (ptr bx0 1)) F_) ?_
 refine al_val (ov_load (i := 1) (v := (Value.map (some gm0_1))) rfl rfl Tryd.underlying80 sz80 rfl rfl rfl rfl) ?_
 refine al_nil ?_
 exact fr_fin hK_ ()⟩, ⟨_, rfl, [], rfl, by
 intro X_ Y_ F_ K_ hK_
 refine al_show (m := Mem.plus (memOf w0 Z0 [(oBox bx0 82 [(Value.map (some gm0_0)), (Value.map (some gm0_1)), v0_2]), (oMapK Tryd.prog 47 gm0_0 (fun x : A8u8 => ag (cA8u8 x)) (fun x : S_api_Blob => ag [(int .i64 x.Kind), (str x.Bytes)]) a0.heap), (oMapK Tryd.prog 47 gm0_1 (fun x : A8u8 => ag (cA8u8 x)) (fun x : Bool => bool x) a0.seen), (oRow v0_2 34 tyS_api_Blob a0.out)] [(oBox g1 47 (cA8u8 a1)), (oBox bx0 82 [(Value.map (some gm0_0)), (Value.map (some gm0_1)), v0_2]), (oMapK Tryd.prog 47 gm0_0 (fun x : A8u8 => ag (cA8u8 x)) (fun x : S_api_Blob => ag [(int .i64 x.Kind), (str x.Bytes)]) a0.heap), (oMapK Tryd.prog 47 gm0_1 (fun x : A8u8 => ag (cA8u8 x)) (fun x : Bool => bool x) a0.seen), (oRow v0_2 34 tyS_api_Blob a0.out)] [uTabs]) X_ Y_) (S := over (tab [(0, (ptr bx0 0)), (3, (ptr g1 0))]) F_) ?_
 refine al_val (ov_load (i := 0) (v := (ag (cA8u8 a1))) rfl rfl Tryd.underlying47 sz47 rfl rfl rfl rfl) ?_
 refine al_nil ?_
 exact fr_fin hK_ ()⟩, trivial⟩ ?_
  intro _
  intro _
  intro _
  intro _
  intro _
  intro X_ Y_ F_ K_ hK_
  refine al_show (m := Mem.plus (memOf w0 Z0 [(oBox bx0 82 [(Value.map (some gm0_0)), (Value.map (some gm0_1)), v0_2]), (oMapK Tryd.prog 47 gm0_0 (fun x : A8u8 => ag (cA8u8 x)) (fun x : S_api_Blob => ag [(int .i64 x.Kind), (str x.Bytes)]) a0.heap), (oMapK Tryd.prog 47 gm0_1 (fun x : A8u8 => ag (cA8u8 x)) (fun x : Bool => bool x) a0.seen), (oRow v0_2 34 tyS_api_Blob a0.out)] [(oBox g1 47 (cA8u8 a1)), (oBox bx0 82 [(Value.map (some gm0_0)), (Value.map (some gm0_1)), v0_2]), (oMapK Tryd.prog 47 gm0_0 (fun x : A8u8 => ag (cA8u8 x)) (fun x : S_api_Blob => ag [(int .i64 x.Kind), (str x.Bytes)]) a0.heap), (oMapK Tryd.prog 47 gm0_1 (fun x : A8u8 => ag (cA8u8 x)) (fun x : Bool => bool x) a0.seen), (oRow v0_2 34 tyS_api_Blob a0.out)] [uTabs]) X_ Y_) (S := over (put (put (put (put (put (tab [(0, (ptr bx0 0)), (3, (ptr g1 0))]) 12 (ptr bx0 0)) 13 (ptr bx0 0)) 14 (ptr bx0 1)) 15 (Value.map (some gm0_1))) 16 (ag (cA8u8 a1))) F_) ?_
  refine al_val (v := (bool ((gget a0.seen a1).getD false))) (ov_lookupK (k := a1) (ek := (fun x : A8u8 => ag (cA8u8 x))) (ew := (fun x : Bool => bool x)) (z := false) 3 kd47 ki47 (kw47 a1) rfl rfl rfl Tryd.underlying80 (zeroOf_to to4) rfl) ?_
  refine al_nil ?_
  refine aq_show (m := Mem.plus (memOf w0 Z0 [(oBox bx0 82 [(Value.map (some gm0_0)), (Value.map (some gm0_1)), v0_2]), (oMapK Tryd.prog 47 gm0_0 (fun x : A8u8 => ag (cA8u8 x)) (fun x : S_api_Blob => ag [(int .i64 x.Kind), (str x.Bytes)]) a0.heap), (oMapK Tryd.prog 47 gm0_1 (fun x : A8u8 => ag (cA8u8 x)) (fun x : Bool => bool x) a0.seen), (oRow v0_2 34 tyS_api_Blob a0.out)] [(oBox g1 47 (cA8u8 a1)), (oBox bx0 82 [(Value.map (some gm0_0)), (Value.map (some gm0_1)), v0_2]), (oMapK Tryd.prog 47 gm0_0 (fun x : A8u8 => ag (cA8u8 x)) (fun x : S_api_Blob => ag [(int .i64 x.Kind), (str x.Bytes)]) a0.heap), (oMapK Tryd.prog 47 gm0_1 (fun x : A8u8 => ag (cA8u8 x)) (fun x : Bool => bool x) a0.seen), (oRow v0_2 34 tyS_api_Blob a0.out)] [uTabs]) X_ Y_) ?_
  refine aq_next hK_ [0, 1, 2, 3, 4] [0] [(0, (ptr bx0 0)), (3, (ptr g1 0)), (17, (bool ((gget a0.seen a1).getD false)))] [] [] rfl rfl (by decide) rfl ⟨rfl, rfl, rfl, trivial⟩ trivial ?_
  clear hK_ K_ F_ X_ Y_
  refine ta_show (m := (memOf w0 Z0 [(oBox bx0 82 [(Value.map (some gm0_0)), (Value.map (some gm0_1)), v0_2]), (oMapK Tryd.prog 47 gm0_0 (fun x : A8u8 => ag (cA8u8 x)) (fun x : S_api_Blob => ag [(int .i64 x.Kind), (str x.Bytes)]) a0.heap), (oMapK Tryd.prog 47 gm0_1 (fun x : A8u8 => ag (cA8u8 x)) (fun x : Bool => bool x) a0.seen), (oRow v0_2 34 tyS_api_Blob a0.out)] [(oBox g1 47 (cA8u8 a1)), (oBox bx0 82 [(Value.map (some gm0_0)), (Value.map (some gm0_1)), v0_2]), (oMapK Tryd.prog 47 gm0_0 (fun x : A8u8 => ag (cA8u8 x)) (fun x : S_api_Blob => ag [(int .i64 x.Kind), (str x.Bytes)]) a0.heap), (oMapK Tryd.prog 47 gm0_1 (fun x : A8u8 => ag (cA8u8 x)) (fun x : Bool => bool x) a0.seen), (oRow v0_2 34 tyS_api_Blob a0.out)] [uTabs])) (S := (tab [(0, (ptr bx0 0)), (3, (ptr g1 0)), (17, (bool ((gget a0.seen a1).getD false)))])) ?_
  refine ta_end [] [] rfl rfl (by kernel_rfl) rfl trivial ?_
  refine aq_show (m := (memOf w0 Z0 [(oBox bx0 82 [(Value.map (some gm0_0)), (Value.map (some gm0_1)), v0_2]), (oMapK Tryd.prog 47 gm0_0 (fun x : A8u8 => ag (cA8u8 x)) (fun x : S_api_Blob => ag [(int .i64 x.Kind), (str x.Bytes)]) a0.heap), (oMapK Tryd.prog 47 gm0_1 (fun x : A8u8 => ag (cA8u8 x)) (fun x : Bool => bool x) a0.seen), (oRow v0_2 34 tyS_api_Blob a0.out)] [(oBox g1 47 (cA8u8 a1)), (oBox bx0 82 [(Value.map (some gm0_0)), (Value.map (some gm0_1)), v0_2]), (oMapK Tryd.prog 47 gm0_0 (fun x : A8u8 => ag (cA8u8 x)) (fun x : S_api_Blob => ag [(int .i64 x.Kind), (str x.Bytes)]) a0.heap), (oMapK Tryd.prog 47 gm0_1 (fun x : A8u8 => ag (cA8u8 x)) (fun x : Bool => bool x) a0.seen), (oRow v0_2 34 tyS_api_Blob a0.out)] [uTabs])) (S := (tab [(0, (ptr bx0 0)), (3, (ptr g1 0)), (17, (bool ((gget a0.seen a1).getD false)))])) ?_
  refine aq_then ?_
  refine aw_cond rfl (fun hb2 => ?_) (fun hb2 => ?_)
  ·replace h := bif_t hb2 h
   refine aw_sr ?_
   refine al_as rfl rfl ?_
   refine al_nt ?_
   refine aw_ret ?_
   refine aq_then_ret ?_
   obtain rfl := Option.some.inj h
   exact fn_ret v0_2 [1, 2, 3, 4] [] rfl rfl rfl rfl (res1 rfl rfl) rfl rfl rfl (by decide)
  ·replace h := bif_f hb2 h
   refine aw_skip ?_
   refine aq_then ?_
   refine aw_seq ?_
   refine aw_region_open [⟨0, 18, Unit, fun _ => { val := (ptr bx0 0) }⟩, ⟨1, 19, Unit, fun _ => { val := (ptr bx0 0) }⟩, ⟨2, 20, Unit, fun _ => { val := (ptr bx0 1) }⟩, ⟨3, 21, Unit, fun _ => { val := (Value.map (some gm0_1)) }⟩, ⟨4, 22, Unit, fun _ => { val := (ag (cA8u8 a1)) }⟩] (tab [(0, (ptr bx0 0)), (3, (ptr g1 0))]) mixed (fun a hs => hs.tab _ (allT_mem ⟨rfl, rfl, trivial⟩)) ?_
   refine ta_show (m := (memOf w0 Z0 [(oBox bx0 82 [(Value.map (some gm0_0)), (Value.map (some gm0_1)), v0_2]), (oMapK Tryd.prog 47 gm0_0 (fun x : A8u8 => ag (cA8u8 x)) (fun x : S_api_Blob => ag [(int .i64 x.Kind), (str x.Bytes)]) a0.heap), (oMapK Tryd.prog 47 gm0_1 (fun x : A8u8 => ag (cA8u8 x)) (fun x : Bool => bool x) a0.seen), (oRow v0_2 34 tyS_api_Blob a0.out)] [(oBox g1 47 (cA8u8 a1)), (oBox bx0 82 [(Value.map (some gm0_0)), (Value.map (some gm0_1)), v0_2]), (oMapK Tryd.prog 47 gm0_0 (fun x : A8u8 => ag (cA8u8 x)) (fun x : S_api_Blob => ag [(int .i64 x.Kind), (str x.Bytes)]) a0.heap), (oMapK Tryd.prog 47 gm0_1 (fun x : A8u8 => ag (cA8u8 x)) (fun x : Bool => bool x) a0.seen), (oRow v0_2 34 tyS_api_Blob a0.out)] [uTabs])) (S := (tab [(0, (ptr bx0 0)), (3, (ptr g1 0))])) ?_
   refine ta_step 5 _ [0, 1, 2, 3, 4] [18, 19, 20, 21, 22] [0, 1, 2, 3, 4] [] [⟨0, 18, Unit, fun _ => { val := (ptr bx0 0) }⟩, ⟨1, 19, Unit, fun _ => { val := (ptr bx0 0) }⟩, ⟨2, 20, Unit, fun _ => { val := (ptr bx0 1) }⟩, ⟨3, 21, Unit, fun _ => { val := (Value.map (some gm0_1)) }⟩, ⟨4, 22, Unit, fun _ => { val := (ag (cA8u8 a1)) }⟩] [] rfl rfl rfl (by kernel_rfl) rfl rfl rfl ⟨⟨_, rfl, [], rfl, by
 intro X_ Y_ F_ K_ hK_
 refine al_show (m := Mem.plus (memOf w0 Z0 [(oBox bx0 82 [(Value.map (some gm0_0)), (Value.map (some gm0_1)), v0_2]), (oMapK Tryd.prog 47 gm0_0 (fun x : A8u8 => ag (cA8u8 x)) (fun x : S_api_Blob => ag [(int .i64 x.Kind), (str x.Bytes)]) a0.heap), (oMapK Tryd.prog 47 gm0_1 (fun x : A8u8 => ag (cA8u8 x)) (fun x : Bool => bool x) a0.seen), (oRow v0_2 34 tyS_api_Blob a0.out)] [(oBox g1 47 (cA8u8 a1)), (oBox bx0 82 [(Value.map (some gm0_0)), (Value.map (some gm0_1)), v0_2]), (oMapK Tryd.prog 47 gm0_0 (fun x : A8u8 => ag (cA8u8 x)) (fun x : S_api_Blob => ag [(int .i64 x.Kind), (str x.Bytes)]) a0.heap), (oMapK Tryd.prog 47 gm0_1 (fun x : A8u8 => ag (cA8u8 x)) (fun x : Bool => bool x) a0.seen), (oRow v0_2 34 tyS_api_Blob a0.out)] [uTabs]) X_ Y_) (S := over (tab [(0, (ptr bx0 0)), (3, (ptr g1 0))]) F_) ?_
 refine al_mv rfl rfl ?_
 refine al_nil ?_
 exact fr_fin hK_ ()⟩, ⟨_, rfl, [0], rfl, by
 intro _
 intro X_ Y_ F_ K_ hK_
 refine al_show (m := Mem.plus (memOf w0 Z0 [(oBox bx0 82 [(Value.map (some gm0_0)), (Value.map (some gm0_1)), v0_2]), (oMapK Tryd.prog 47 gm0_0 (fun x : A8u8 => ag (cA8u8 x)) (fun x : S_api_Blob => ag [(int .i64 x.Kind), (str x.Bytes)]) a0.heap), (oMapK Tryd.prog 47 gm0_1 (fun x : A8u8 => ag (cA8u8 x)) (fun x : Bool => bool x) a0.seen), (oRow v0_2 34 tyS_api_Blob a0.out)] [(oBox g1 47 (cA8u8 a1)), (oBox bx0 82 [(Value.map (some gm0_0)), (Value.map (some gm0_1)), v0_2]), (oMapK Tryd.prog 47 gm0_0 (fun x : A8u8 => ag (cA8u8 x)) (fun x : S_api_Blob => ag [(int .i64 x.Kind), (str x.Bytes)]) a0.heap), (oMapK Tryd.prog 47 gm0_1 (fun x : A8u8 => ag (cA8u8 x)) (fun x : Bool => bool x) a0.seen), (oRow v0_2 34 tyS_api_Blob a0.out)] [uTabs]) X_ Y_) (S := over (put (tab [(0, (ptr bx0 0)), (3, (ptr g1 0))]) 18 (ptr bx0 0)) F_) ?_
 refine al_val (ov_nilCheck rfl rfl) ?_
 refine al_nil ?_
 exact fr_fin hK_ ()⟩, ⟨_, rfl, [1], rfl, by
 intro _
 intro X_ Y_ F_ K_ hK_
 refine al_show (m := Mem.plus (memOf w0 Z0 [(oBox bx0 82 [(Value.map (some gm0_0)), (Value.map (some gm0_1)), v0_2]), (oMapK Tryd.prog 47 gm0_0 (fun x : A8u8 => ag (cA8u8 x)) (fun x : S_api_Blob => ag [(int .i64 x.Kind), (str x.Bytes)]) a0.heap), (oMapK Tryd.prog 47 gm0_1 (fun x : A8u8 => ag (cA8u8 x)) (fun x : Bool => bool x) a0.seen), (oRow v0_2 34 tyS_api_Blob a0.out)] [(oBox g1 47 (cA8u8 a1)), (oBox bx0 82 [(Value.map (some gm0_0)), (Value.map (some gm0_1)), v0_2]), (oMapK Tryd.prog 47 gm0_0 (fun x : A8u8 => ag (cA8u8 x)) (fun x : S_api_Blob => ag [(int .i64 x.Kind), (str x.Bytes)]) a0.heap), (oMapK Tryd.prog 47 gm0_1 (fun x : A8u8 => ag (cA8u8 x)) (fun x : Bool => bool x) a0.seen), (oRow v0_2 34 tyS_api_Blob a0.out)] [uTabs]) X_ Y_) (S := over (put (tab [(0, (ptr bx0 0)), (3, (ptr g1 0))]) 19 (ptr bx0 0)) F_) ?_
 refine al_val (ov_fieldA (p := 1) rfl Tryd.underlying82 rfl sz80 rfl rfl rfl) ?_
 refine al_nil ?_
 exact fr_fin hK_ ()⟩, ⟨_, rfl, [2], rfl, by
 intro _
 intro X_ Y_ F_ K_ hK_
 refine al_show (m := Mem.plus (memOf w0 Z0 [(oBox bx0 82 [(Value.map (some gm0_0)), (Value.map (some gm0_1)), v0_2]), (oMapK Tryd.prog 47 gm0_0 (fun x : A8u8 => ag (cA8u8 x)) (fun x : S_api_Blob => ag [(int .i64 x.Kind), (str x.Bytes)]) a0.heap), (oMapK Tryd.prog 47 gm0_1 (fun x : A8u8 => ag (cA8u8 x)) (fun x : Bool => bool x) a0.seen), (oRow v0_2 34 tyS_api_Blob a0.out)] [(oBox g1 47 (cA8u8 a1)), (oBox bx0 82 [(Value.map (some gm0_0)), (Value.map (some gm0_1)), v0_2]), (oMapK Tryd.prog 47 gm0_0 (fun x : A8u8 => ag (cA8u8 x)) (fun x : S_api_Blob => ag [(int .i64 x.Kind), (str x.Bytes)]) a0.heap), (oMapK Tryd.prog 47 gm0_1 (fun x : A8u8 => ag (cA8u8 x)) (fun x : Bool => bool x) a0.seen), (oRow v0_2 34 tyS_api_Blob a0.out)] [uTabs]) X_ Y_) (S := over (put (tab [(0, (ptr bx0 0)), (3, (ptr g1 0))]) 20 (ptr bx0 1)) F_) ?_
 refine al_val (ov_load (i := 1) (v := (Value.map (some gm0_1))) rfl rfl Tryd.underlying80 sz80 rfl rfl rfl rfl) ?_
 refine al_nil ?_
 exact fr_fin hK_ ()⟩, ⟨_, rfl, [], rfl, by
 intro X_ Y_ F_ K_ hK_
 refine al_show (m := Mem.plus (memOf w0 Z0 [(oBox bx0 82 [(Value.map (some gm0_0)), (Value.map (some gm0_1)), v0_2]), (oMapK Tryd.prog 47 gm0_0 (fun x : A8u8 => ag (cA8u8 x)) (fun x : S_api_Blob => ag [(int .i64 x.Kind), (str x.Bytes)]) a0.heap), (oMapK Tryd.prog 47 gm0_1 (fun x : A8u8 => ag (cA8u8 x)) (fun x : Bool => bool x) a0.seen), (oRow v0_2 34 tyS_api_Blob a0.out)] [(oBox g1 47 (cA8u8 a1)), (oBox bx0 82 [(Value.map (some gm0_0)), (Value.map (some gm0_1)), v0_2]), (oMapK Tryd.prog 47 gm0_0 (fun x : A8u8 => ag (cA8u8 x)) (fun x : S_api_Blob => ag [(int .i64 x.Kind), (str x.Bytes)]) a0.heap), (oMapK Tryd.prog 47 gm0_1 (fun x : A8u8 => ag (cA8u8 x)) (fun x : Bool => bool x) a0.seen), (oRow v0_2 34 tyS_api_Blob a0.out)] [uTabs]) X_ Y_) (S := over (tab [(0, (ptr bx0 0)), (3, (ptr g1 0))]) F_) ?_
 refine al_val (ov_load (i := 0) (v := (ag (cA8u8 a1))) rfl rfl Tryd.underlying47 sz47 rfl rfl rfl rfl) ?_
 refine al_nil ?_
 exact fr_fin hK_ ()⟩, trivial⟩ ?_
   intro _
   intro _
   intro _
   intro _
   intro _
   intro X_ Y_ F_ K_ hK_
   refine al_show (m := Mem.plus (memOf w0 Z0 [(oBox bx0 82 [(Value.map (some gm0_0)), (Value.map (some gm0_1)), v0_2]), (oMapK Tryd.prog 47 gm0_0 (fun x : A8u8 => ag (cA8u8 x)) (fun x : S_api_Blob => ag [(int .i64 x.Kind), (str x.Bytes)]) a0.heap), (oMapK Tryd.prog 47 gm0_1 (fun x : A8u8 => ag (cA8u8 x)) (fun x : Bool => bool x) a0.seen), (oRow v0_2 34 tyS_api_Blob a0.out)] [(oBox g1 47 (cA8u8 a1)), (oBox bx0 82 [(Value.map (some gm0_0)), (Value.map (some gm0_1)), v0_2]), (oMapK Tryd.prog 47 gm0_0 (fun x : A8u8 => ag (cA8u8 x)) (fun x : S_api_Blob => ag [(int .i64 x.Kind), (str x.Bytes)]) a0.heap), (oMapK Tryd.prog 47 gm0_1 (fun x : A8u8 => ag (cA8u8 x)) (fun x : Bool => bool x) a0.seen), (oRow v0_2 34 tyS_api_Blob a0.out)] [uTabs]) X_ Y_) (S := over (put (put (put (put (put (tab [(0, (ptr bx0 0)), (3, (ptr g1 0))]) 18 (ptr bx0 0)) 19 (ptr bx0 0)) 20 (ptr bx0 1)) 21 (Value.map (some gm0_1))) 22 (ag (cA8u8 a1))) F_) ?_
   refine al_mapSetK (ek := (fun x : A8u8 => ag (cA8u8 x))) (ew := (fun x : Bool => bool x)) (k := a1) (v := true) 3 kd47 ki47 (kw47 a1) rfl rfl rfl rfl Tryd.underlying80 rfl ?_
   refine al_nil ?_
   refine aq_show (m := Mem.plus (memOf w0 Z0 [(oBox bx0 82 [(Value.map (some gm0_0)), (Value.map (some gm0_1)), v0_2]), (oMapK Tryd.prog 47 gm0_0 (fun x : A8u8 => ag (cA8u8 x)) (fun x : S_api_Blob => ag [(int .i64 x.Kind), (str x.Bytes)]) a0.heap), (oMapK Tryd.prog 47 gm0_1 (fun x : A8u8 => ag (cA8u8 x)) (fun x : Bool => bool x) a0.seen), (oRow v0_2 34 tyS_api_Blob a0.out)] [(oBox g1 47 (cA8u8 a1)), (oBox bx0 82 [(Value.map (some gm0_0)), (Value.map (some gm0_1)), v0_2]), (oMapK Tryd.prog 47 gm0_0 (fun x : A8u8 => ag (cA8u8 x)) (fun x : S_api_Blob => ag [(int .i64 x.Kind), (str x.Bytes)]) a0.heap), (oMapK Tryd.prog 47 gm0_1 (fun x : A8u8 => ag (cA8u8 x)) (fun x : Bool => bool x) (gset a0.seen a1 true)), (oRow v0_2 34 tyS_api_Blob a0.out)] [uTabs]) X_ Y_) ?_
   refine aq_next hK_ [0, 1, 2, 3, 4] [0] [(0, (ptr bx0 0)), (3, (ptr g1 0))] [] [] rfl rfl (by decide) rfl ⟨rfl, rfl, trivial⟩ trivial ?_
   clear hK_ K_ F_ X_ Y_
   refine ta_show (m := (memOf w0 Z0 [(oBox bx0 82 [(Value.map (some gm0_0)), (Value.map (some gm0_1)), v0_2]), (oMapK Tryd.prog 47 gm0_0 (fun x : A8u8 => ag (cA8u8 x)) (fun x : S_api_Blob => ag [(int .i64 x.Kind), (str x.Bytes)]) a0.heap), (oMapK Tryd.prog 47 gm0_1 (fun x : A8u8 => ag (cA8u8 x)) (fun x : Bool => bool x) a0.seen), (oRow v0_2 34 tyS_api_Blob a0.out)] [(oBox g1 47 (cA8u8 a1)), (oBox bx0 82 [(Value.map (some gm0_0)), (Value.map (some gm0_1)), v0_2]), (oMapK Tryd.prog 47 gm0_0 (fun x : A8u8 => ag (cA8u8 x)) (fun x : S_api_Blob => ag [(int .i64 x.Kind), (str x.Bytes)]) a0.heap), (oMapK Tryd.prog 47 gm0_1 (fun x : A8u8 => ag (cA8u8 x)) (fun x : Bool => bool x) (gset a0.seen a1 true)), (oRow v0_2 34 tyS_api_Blob a0.out)] [uTabs])) (S := (tab [(0, (ptr bx0 0)), (3, (ptr g1 0))])) ?_
   refine ta_end [] [] rfl rfl (by kernel_rfl) rfl trivial ?_
   refine aq_show (m := (memOf w0 Z0 [(oBox bx0 82 [(Value.map (some gm0_0)), (Value.map (some gm0_1)), v0_2]), (oMapK Tryd.prog 47 gm0_0 (fun x : A8u8 => ag (cA8u8 x)) (fun x : S_api_Blob => ag [(int .i64 x.Kind), (str x.Bytes)]) a0.heap), (oMapK Tryd.prog 47 gm0_1 (fun x : A8u8 => ag (cA8u8 x)) (fun x : Bool => bool x) a0.seen), (oRow v0_2 34 tyS_api_Blob a0.out)] [(oBox g1 47 (cA8u8 a1)), (oBox bx0 82 [(Value.map (some gm0_0)), (Value.map (some gm0_1)), v0_2]), (oMapK Tryd.prog 47 gm0_0 (fun x : A8u8 => ag (cA8u8 x)) (fun x : S_api_Blob => ag [(int .i64 x.Kind), (str x.Bytes)]) a0.heap), (oMapK Tryd.prog 47 gm0_1 (fun x : A8u8 => ag (cA8u8 x)) (fun x : Bool => bool x) (gset a0.seen a1 true)), (oRow v0_2 34 tyS_api_Blob a0.out)] [uTabs])) (S := (tab [(0, (ptr bx0 0)), (3, (ptr g1 0))])) ?_
   refine aq_then ?_
   refine aw_seq ?_
   refine aw_region_open [⟨0, 24, Unit, fun _ => { val := (ptr bx0 0) }⟩, ⟨1, 25, Unit, fun _ => { val := (ptr bx0 0) }⟩, ⟨2, 26, Unit, fun _ => { val := (ptr bx0 0) }⟩, ⟨3, 27, Unit, fun _ => { val := (Value.map (some gm0_0)) }⟩, ⟨4, 28, Unit, fun _ => { val := (ag (cA8u8 a1)) }⟩, ⟨9, 5, Nat, fun (i : Nat) => { val := (ptr i 0), own := [(oBox i 34 [(int .i64 (0 : Int)), (str ([] : List UInt8))])] }⟩] (tab [(0, (ptr bx0 0)), (3, (ptr g1 0))]) mixed (fun a hs => hs.tab _ (allT_mem ⟨rfl, rfl, trivial⟩)) ?_
   refine ta_show (m := (memOf w0 Z0 [(oBox bx0 82 [(Value.map (some gm0_0)), (Value.map (some gm0_1)), v0_2]), (oMapK Tryd.prog 47 gm0_0 (fun x : A8u8 => ag (cA8u8 x)) (fun x : S_api_Blob => ag [(int .i64 x.Kind), (str x.Bytes)]) a0.heap), (oMapK Tryd.prog 47 gm0_1 (fun x : A8u8 => ag (cA8u8 x)) (fun x : Bool => bool x) a0.seen), (oRow v0_2 34 tyS_api_Blob a0.out)] [(oBox g1 47 (cA8u8 a1)), (oBox bx0 82 [(Value.map (some gm0_0)), (Value.map (some gm0_1)), v0_2]), (oMapK Tryd.prog 47 gm0_0 (fun x : A8u8 => ag (cA8u8 x)) (fun x : S_api_Blob => ag [(int .i64 x.Kind), (str x.Bytes)]) a0.heap), (oMapK Tryd.prog 47 gm0_1 (fun x : A8u8 => ag (cA8u8 x)) (fun x : Bool => bool x) (gset a0.seen a1 true)), (oRow v0_2 34 tyS_api_Blob a0.out)] [uTabs])) (S := (tab [(0, (ptr bx0 0)), (3, (ptr g1 0))])) ?_
   refine ta_step 5 _ [0, 1, 2, 3, 4, 9] [24, 25, 26, 27, 28, 5] [0, 1, 2, 3, 4] [6, 7, 8] [⟨0, 24, Unit, fun _ => { val := (ptr bx0 0) }⟩, ⟨1, 25, Unit, fun _ => { val := (ptr bx0 0) }⟩, ⟨2, 26, Unit, fun _ => { val := (ptr bx0 0) }⟩, ⟨3, 27, Unit, fun _ => { val := (Value.map (some gm0_0)) }⟩, ⟨4, 28, Unit, fun _ => { val := (ag (cA8u8 a1)) }⟩] [⟨9, 5, Nat, fun (i : Nat) => { val := (ptr i 0), own := [(oBox i 34 [(int .i64 (0 : Int)), (str ([] : List UInt8))])] }⟩] rfl rfl rfl (by kernel_rfl) rfl rfl rfl ⟨⟨_, rfl, [], rfl, by
 intro X_ Y_ F_ K_ hK_
 refine al_show (m := Mem.plus (memOf w0 Z0 [(oBox bx0 82 [(Value.map (some gm0_0)), (Value.map (some gm0_1)), v0_2]), (oMapK Tryd.prog 47 gm0_0 (fun x : A8u8 => ag (cA8u8 x)) (fun x : S_api_Blob => ag [(int .i64 x.Kind), (str x.Bytes)]) a0.heap), (oMapK Tryd.prog 47 gm0_1 (fun x : A8u8 => ag (cA8u8 x)) (fun x : Bool => bool x) a0.seen), (oRow v0_2 34 tyS_api_Blob a0.out)] [(oBox g1 47 (cA8u8 a1)), (oBox bx0 82 [(Value.map (some gm0_0)), (Value.map (some gm0_1)), v0_2]), (oMapK Tryd.prog 47 gm0_0 (fun x : A8u8 => ag (cA8u8 x)) (fun x : S_api_Blob => ag [(int .i64 x.Kind), (str x.Bytes)]) a0.heap), (oMapK Tryd.prog 47 gm0_1 (fun x : A8u8 => ag (cA8u8 x)) (fun x : Bool => bool x) (gset a0.seen a1 true)), (oRow v0_2 34 tyS_api_Blob a0.out)] [uTabs]) X_ Y_) (S := over (tab [(0, (ptr bx0 0)), (3, (ptr g1 0))]) F_) ?_
 refine al_mv rfl rfl ?_
 refine al_nil ?_
 exact fr_fin hK_ ()⟩, ⟨_, rfl, [0], rfl, by
 intro _
 intro X_ Y_ F_ K_ hK_
 refine al_show (m := Mem.plus (memOf w0 Z0 [(oBox bx0 82 [(Value.map (some gm0_0)), (Value.map (some gm0_1)), v0_2]), (oMapK Tryd.prog 47 gm0_0 (fun x : A8u8 => ag (cA8u8 x)) (fun x : S_api_Blob => ag [(int .i64 x.Kind), (str x.Bytes)]) a0.heap), (oMapK Tryd.prog 47 gm0_1 (fun x : A8u8 => ag (cA8u8 x)) (fun x : Bool => bool x) a0.seen), (oRow v0_2 34 tyS_api_Blob a0.out)] [(oBox g1 47 (cA8u8 a1)), (oBox bx0 82 [(Value.map (some gm0_0)), (Value.map (some gm0_1)), v0_2]), (oMapK Tryd.prog 47 gm0_0 (fun x : A8u8 => ag (cA8u8 x)) (fun x : S_api_Blob => ag [(int .i64 x.Kind), (str x.Bytes)]) a0.heap), (oMapK Tryd.prog 47 gm0_1 (fun x : A8u8 => ag (cA8u8 x)) (fun x : Bool => bool x) (gset a0.seen a1 true)), (oRow v0_2 34 tyS_api_Blob a0.out)] [uTabs]) X_ Y_) (S := over (put (tab [(0, (ptr bx0 0)), (3, (ptr g1 0))]) 24 (ptr bx0 0)) F_) ?_
 refine al_val (ov_nilCheck rfl rfl) ?_
 refine al_nil ?_
 exact fr_fin hK_ ()⟩, ⟨_, rfl, [1], rfl, by
 intro _
 intro X_ Y_ F_ K_ hK_
 refine al_show (m := Mem.plus (memOf w0 Z0 [(oBox bx0 82 [(Value.map (some gm0_0)), (Value.map (some gm0_1)), v0_2]), (oMapK Tryd.prog 47 gm0_0 (fun x : A8u8 => ag (cA8u8 x)) (fun x : S_api_Blob => ag [(int .i64 x.Kind), (str x.Bytes)]) a0.heap), (oMapK Tryd.prog 47 gm0_1 (fun x : A8u8 => ag (cA8u8 x)) (fun x : Bool => bool x) a0.seen), (oRow v0_2 34 tyS_api_Blob a0.out)] [(oBox g1 47 (cA8u8 a1)), (oBox bx0 82 [(Value.map (some gm0_0)), (Value.map (some gm0_1)), v0_2]), (oMapK Tryd.prog 47 gm0_0 (fun x : A8u8 => ag (cA8u8 x)) (fun x : S_api_Blob => ag [(int .i64 x.Kind), (str x.Bytes)]) a0.heap), (oMapK Tryd.prog 47 gm0_1 (fun x : A8u8 => ag (cA8u8 x)) (fun x : Bool => bool x) (gset a0.seen a1 true)), (oRow v0_2 34 tyS_api_Blob a0.out)] [uTabs]) X_ Y_) (S := over (put (tab [(0, (ptr bx0 0)), (3, (ptr g1 0))]) 25 (ptr bx0 0)) F_) ?_
 refine al_val (ov_fieldA (p := 0) rfl Tryd.underlying82 rfl sz76 rfl rfl rfl) ?_
 refine al_nil ?_
 exact fr_fin hK_ ()⟩, ⟨_, rfl, [2], rfl, by
 intro _
 intro X_ Y_ F_ K_ hK_
 refine al_show (m := Mem.plus (memOf w0 Z0 [(oBox bx0 82 [(Value.map (some gm0_0)), (Value.map (some gm0_1)), v0_2]), (oMapK Tryd.prog 47 gm0_0 (fun x : A8u8 => ag (cA8u8 x)) (fun x : S_api_Blob => ag [(int .i64 x.Kind), (str x.Bytes)]) a0.heap), (oMapK Tryd.prog 47 gm0_1 (fun x : A8u8 => ag (cA8u8 x)) (fun x : Bool => bool x) a0.seen), (oRow v0_2 34 tyS_api_Blob a0.out)] [(oBox g1 47 (cA8u8 a1)), (oBox bx0 82 [(Value.map (some gm0_0)), (Value.map (some gm0_1)), v0_2]), (oMapK Tryd.prog 47 gm0_0 (fun x : A8u8 => ag (cA8u8 x)) (fun x : S_api_Blob => ag [(int .i64 x.Kind), (str x.Bytes)]) a0.heap), (oMapK Tryd.prog 47 gm0_1 (fun x : A8u8 => ag (cA8u8 x)) (fun x : Bool => bool x) (gset a0.seen a1 true)), (oRow v0_2 34 tyS_api_Blob a0.out)] [uTabs]) X_ Y_) (S := over (put (tab [(0, (ptr bx0 0)), (3, (ptr g1 0))]) 26 (ptr bx0 0)) F_) ?_
 refine al_val (ov_load (i := 1) (v := (Value.map (some gm0_0))) rfl rfl Tryd.underlying76 sz76 rfl rfl rfl rfl) ?_
 refine al_nil ?_
 exact fr_fin hK_ ()⟩, ⟨_, rfl, [], rfl, by
 intro X_ Y_ F_ K_ hK_
 refine al_show (m := Mem.plus (memOf w0 Z0 [(oBox bx0 82 [(Value.map (some gm0_0)), (Value.map (some gm0_1)), v0_2]), (oMapK Tryd.prog 47 gm0_0 (fun x : A8u8 => ag (cA8u8 x)) (fun x : S_api_Blob => ag [(int .i64 x.Kind), (str x.Bytes)]) a0.heap), (oMapK Tryd.prog 47 gm0_1 (fun x : A8u8 => ag (cA8u8 x)) (fun x : Bool => bool x) a0.seen), (oRow v0_2 34 tyS_api_Blob a0.out)] [(oBox g1 47 (cA8u8 a1)), (oBox bx0 82 [(Value.map (some gm0_0)), (Value.map (some gm0_1)), v0_2]), (oMapK Tryd.prog 47 gm0_0 (fun x : A8u8 => ag (cA8u8 x)) (fun x : S_api_Blob => ag [(int .i64 x.Kind), (str x.Bytes)]) a0.heap), (oMapK Tryd.prog 47 gm0_1 (fun x : A8u8 => ag (cA8u8 x)) (fun x : Bool => bool x) (gset a0.seen a1 true)), (oRow v0_2 34 tyS_api_Blob a0.out)] [uTabs]) X_ Y_) (S := over (tab [(0, (ptr bx0 0)), (3, (ptr g1 0))]) F_) ?_
 refine al_val (ov_load (i := 0) (v := (ag (cA8u8 a1))) rfl rfl Tryd.underlying47 sz47 rfl rfl rfl rfl) ?_
 refine al_nil ?_
 exact fr_fin hK_ ()⟩, ⟨_, rfl, [], rfl, by
 intro X_ Y_ F_ K_ hK_
 refine al_show (m := Mem.plus (memOf w0 Z0 [(oBox bx0 82 [(Value.map (some gm0_0)), (Value.map (some gm0_1)), v0_2]), (oMapK Tryd.prog 47 gm0_0 (fun x : A8u8 => ag (cA8u8 x)) (fun x : S_api_Blob => ag [(int .i64 x.Kind), (str x.Bytes)]) a0.heap), (oMapK Tryd.prog 47 gm0_1 (fun x : A8u8 => ag (cA8u8 x)) (fun x : Bool => bool x) a0.seen), (oRow v0_2 34 tyS_api_Blob a0.out)] [(oBox g1 47 (cA8u8 a1)), (oBox bx0 82 [(Value.map (some gm0_0)), (Value.map (some gm0_1)), v0_2]), (oMapK Tryd.prog 47 gm0_0 (fun x : A8u8 => ag (cA8u8 x)) (fun x : S_api_Blob => ag [(int .i64 x.Kind), (str x.Bytes)]) a0.heap), (oMapK Tryd.prog 47 gm0_1 (fun x : A8u8 => ag (cA8u8 x)) (fun x : Bool => bool x) (gset a0.seen a1 true)), (oRow v0_2 34 tyS_api_Blob a0.out)] [uTabs]) X_ Y_) (S := over (tab [(0, (ptr bx0 0)), (3, (ptr g1 0))]) F_) ?_
 refine al_alloc (zs := [(int .i64 (0 : Int)), (str ([] : List UInt8))]) (zeroOf_to to34) rfl rfl (fun g3 => ?_)
 refine al_nil ?_
 exact fr_fin hK_ g3⟩, trivial⟩ ?_
   intro _
   intro _
   intro _
   intro _
   intro _
   intro X_ Y_ F_ K_ hK_
   refine al_show (m := Mem.plus (memOf w0 Z0 [(oBox bx0 82 [(Value.map (some gm0_0)), (Value.map (some gm0_1)), v0_2]), (oMapK Tryd.prog 47 gm0_0 (fun x : A8u8 => ag (cA8u8 x)) (fun x : S_api_Blob => ag [(int .i64 x.Kind), (str x.Bytes)]) a0.heap), (oMapK Tryd.prog 47 gm0_1 (fun x : A8u8 => ag (cA8u8 x)) (fun x : Bool => bool x) a0.seen), (oRow v0_2 34 tyS_api_Blob a0.out)] [(oBox g1 47 (cA8u8 a1)), (oBox bx0 82 [(Value.map (some gm0_0)), (Value.map (some gm0_1)), v0_2]), (oMapK Tryd.prog 47 gm0_0 (fun x : A8u8 => ag (cA8u8 x)) (fun x : S_api_Blob => ag [(int .i64 x.Kind), (str x.Bytes)]) a0.heap), (oMapK Tryd.prog 47 gm0_1 (fun x : A8u8 => ag (cA8u8 x)) (fun x : Bool => bool x) (gset a0.seen a1 true)), (oRow v0_2 34 tyS_api_Blob a0.out)] [uTabs]) X_ Y_) (S := over (put (put (put (put (put (tab [(0, (ptr bx0 0)), (3, (ptr g1 0))]) 24 (ptr bx0 0)) 25 (ptr bx0 0)) 26 (ptr bx0 0)) 27 (Value.map (some gm0_0))) 28 (ag (cA8u8 a1))) F_) ?_
   refine al_val (v := (Value.tuple #[(ag [(int .i64 ((gget a0.heap a1).getD (S_api_Blob.mk (0 : Int) ([] : (List UInt8)))).Kind), (str ((gget a0.heap a1).getD (S_api_Blob.mk (0 : Int) ([] : (List UInt8)))).Bytes)]), (bool (gget a0.heap a1).isSome)])) (ov_lookupOkK (k := a1) (ek := (fun x : A8u8 => ag (cA8u8 x))) (ew := (fun x : S_api_Blob => ag [(int .i64 x.Kind), (str x.Bytes)])) (z := (S_api_Blob.mk (0 : Int) ([] : (List UInt8)))) 2 kd47 ki47 (kw47 a1) rfl rfl rfl Tryd.underlying76 (zeroOf_to to34) rfl) ?_
   refine al_nil ?_
   refine aq_show (m := Mem.plus (memOf w0 Z0 [(oBox bx0 82 [(Value.map (some gm0_0)), (Value.map (some gm0_1)), v0_2]), (oMapK Tryd.prog 47 gm0_0 (fun x : A8u8 => ag (cA8u8 x)) (fun x : S_api_Blob => ag [(int .i64 x.Kind), (str x.Bytes)]) a0.heap), (oMapK Tryd.prog 47 gm0_1 (fun x : A8u8 => ag (cA8u8 x)) (fun x : Bool => bool x) a0.seen), (oRow v0_2 34 tyS_api_Blob a0.out)] [(oBox g1 47 (cA8u8 a1)), (oBox bx0 82 [(Value.map (some gm0_0)), (Value.map (some gm0_1)), v0_2]), (oMapK Tryd.prog 47 gm0_0 (fun x : A8u8 => ag (cA8u8 x)) (fun x : S_api_Blob => ag [(int .i64 x.Kind), (str x.Bytes)]) a0.heap), (oMapK Tryd.prog 47 gm0_1 (fun x : A8u8 => ag (cA8u8 x)) (fun x : Bool => bool x) (gset a0.seen a1 true)), (oRow v0_2 34 tyS_api_Blob a0.out)] [uTabs]) X_ Y_) ?_
   refine aq_next hK_ [0, 1, 2, 3, 4] [0] [(0, (ptr bx0 0)), (29, (Value.tuple #[(ag [(int .i64 ((gget a0.heap a1).getD (S_api_Blob.mk (0 : Int) ([] : (List UInt8)))).Kind), (str ((gget a0.heap a1).getD (S_api_Blob.mk (0 : Int) ([] : (List UInt8)))).Bytes)]), (bool (gget a0.heap a1).isSome)]))] [5] [⟨6, 23, Unit, fun _ => { val := (Value.tuple #[(ag [(int .i64 ((gget a0.heap a1).getD (S_api_Blob.mk (0 : Int) ([] : (List UInt8)))).Kind), (str ((gget a0.heap a1).getD (S_api_Blob.mk (0 : Int) ([] : (List UInt8)))).Bytes)]), (bool (gget a0.heap a1).isSome)]) }⟩, ⟨7, 30, Unit, fun _ => { val := (ag [(int .i64 ((gget a0.heap a1).getD (S_api_Blob.mk (0 : Int) ([] : (List UInt8)))).Kind), (str ((gget a0.heap a1).getD (S_api_Blob.mk (0 : Int) ([] : (List UInt8)))).Bytes)]) }⟩, ⟨8, 31, Unit, fun _ => { val := (bool (gget a0.heap a1).isSome) }⟩] rfl rfl (by decide) rfl ⟨rfl, rfl, trivial⟩ ⟨rfl, trivial⟩ ?_
   clear hK_ K_ F_ X_ Y_
   refine ta_show (m := (memOf w0 Z0 [(oBox bx0 82 [(Value.map (some gm0_0)), (Value.map (some gm0_1)), v0_2]), (oMapK Tryd.prog 47 gm0_0 (fun x : A8u8 => ag (cA8u8 x)) (fun x : S_api_Blob => ag [(int .i64 x.Kind), (str x.Bytes)]) a0.heap), (oMapK Tryd.prog 47 gm0_1 (fun x : A8u8 => ag (cA8u8 x)) (fun x : Bool => bool x) a0.seen), (oRow v0_2 34 tyS_api_Blob a0.out)] [(oBox g1 47 (cA8u8 a1)), (oBox bx0 82 [(Value.map (some gm0_0)), (Value.map (some gm0_1)), v0_2]), (oMapK Tryd.prog 47 gm0_0 (fun x : A8u8 => ag (cA8u8 x)) (fun x : S_api_Blob => ag [(int .i64 x.Kind), (str x.Bytes)]) a0.heap), (oMapK Tryd.prog 47 gm0_1 (fun x : A8u8 => ag (cA8u8 x)) (fun x : Bool => bool x) (gset a0.seen a1 true)), (oRow v0_2 34 tyS_api_Blob a0.out)] [uTabs])) (S := (tab [(0, (ptr bx0 0)), (29, (Value.tuple #[(ag [(int .i64 ((gget a0.heap a1).getD (S_api_Blob.mk (0 : Int) ([] : (List UInt8)))).Kind), (str ((gget a0.heap a1).getD (S_api_Blob.mk (0 : Int) ([] : (List UInt8)))).Bytes)]), (bool (gget a0.heap a1).isSome)]))])) ?_
   refine ta_step 10 _ [9, 6, 7, 8] [5, 23, 30, 31] [9, 6, 7] [] [⟨9, 5, Nat, fun (i : Nat) => { val := (ptr i 0), own := [(oBox i 34 [(int .i64 (0 : Int)), (str ([] : List UInt8))])] }⟩, ⟨6, 23, Unit, fun _ => { val := (Value.tuple #[(ag [(int .i64 ((gget a0.heap a1).getD (S_api_Blob.mk (0 : Int) ([] : (List UInt8)))).Kind), (str ((gget a0.heap a1).getD (S_api_Blob.mk (0 : Int) ([] : (List UInt8)))).Bytes)]), (bool (gget a0.heap a1).isSome)]) }⟩, ⟨7, 30, Unit, fun _ => { val := (ag [(int .i64 ((gget a0.heap a1).getD (S_api_Blob.mk (0 : Int) ([] : (List UInt8)))).Kind), (str ((gget a0.heap a1).getD (S_api_Blob.mk (0 : Int) ([] : (List UInt8)))).Bytes)]) }⟩] [⟨8, 31, Unit, fun _ => { val := (bool (gget a0.heap a1).isSome) }⟩] rfl rfl rfl (by kernel_rfl) rfl rfl rfl ⟨⟨_, rfl, [], rfl, by
 intro X_ Y_ F_ K_ hK_
 refine al_show (m := Mem.plus (memOf w0 Z0 [(oBox bx0 82 [(Value.map (some gm0_0)), (Value.map (some gm0_1)), v0_2]), (oMapK Tryd.prog 47 gm0_0 (fun x : A8u8 => ag (cA8u8 x)) (fun x : S_api_Blob => ag [(int .i64 x.Kind), (str x.Bytes)]) a0.heap), (oMapK Tryd.prog 47 gm0_1 (fun x : A8u8 => ag (cA8u8 x)) (fun x : Bool => bool x) a0.seen), (oRow v0_2 34 tyS_api_Blob a0.out)] [(oBox g1 47 (cA8u8 a1)), (oBox bx0 82 [(Value.map (some gm0_0)), (Value.map (some gm0_1)), v0_2]), (oMapK Tryd.prog 47 gm0_0 (fun x : A8u8 => ag (cA8u8 x)) (fun x : S_api_Blob => ag [(int .i64 x.Kind), (str x.Bytes)]) a0.heap), (oMapK Tryd.prog 47 gm0_1 (fun x : A8u8 => ag (cA8u8 x)) (fun x : Bool => bool x) (gset a0.seen a1 true)), (oRow v0_2 34 tyS_api_Blob a0.out)] [uTabs]) X_ Y_) (S := over (tab [(0, (ptr bx0 0)), (29, (Value.tuple #[(ag [(int .i64 ((gget a0.heap a1).getD (S_api_Blob.mk (0 : Int) ([] : (List UInt8)))).Kind), (str ((gget a0.heap a1).getD (S_api_Blob.mk (0 : Int) ([] : (List UInt8)))).Bytes)]), (bool (gget a0.heap a1).isSome)]))]) F_) ?_
 refine al_alloc (zs := [(int .i64 (0 : Int)), (str ([] : List UInt8))]) (zeroOf_to to34) rfl rfl (fun g3 => ?_)
 refine al_nil ?_
 exact fr_fin hK_ g3⟩, ⟨_, rfl, [], rfl, by
 intro X_ Y_ F_ K_ hK_
 refine al_show (m := Mem.plus (memOf w0 Z0 [(oBox bx0 82 [(Value.map (some gm0_0)), (Value.map (some gm0_1)), v0_2]), (oMapK Tryd.prog 47 gm0_0 (fun x : A8u8 => ag (cA8u8 x)) (fun x : S_api_Blob => ag [(int .i64 x.Kind), (str x.Bytes)]) a0.heap), (oMapK Tryd.prog 47 gm0_1 (fun x : A8u8 => ag (cA8u8 x)) (fun x : Bool => bool x) a0.seen), (oRow v0_2 34 tyS_api_Blob a0.out)] [(oBox g1 47 (cA8u8 a1)), (oBox bx0 82 [(Value.map (some gm0_0)), (Value.map (some gm0_1)), v0_2]), (oMapK Tryd.prog 47 gm0_0 (fun x : A8u8 => ag (cA8u8 x)) (fun x : S_api_Blob => ag [(int .i64 x.Kind), (str x.Bytes)]) a0.heap), (oMapK Tryd.prog 47 gm0_1 (fun x : A8u8 => ag (cA8u8 x)) (fun x : Bool => bool x) (gset a0.seen a1 true)), (oRow v0_2 34 tyS_api_Blob a0.out)] [uTabs]) X_ Y_) (S := over (tab [(0, (ptr bx0 0)), (29, (Value.tuple #[(ag [(int .i64 ((gget a0.heap a1).getD (S_api_Blob.mk (0 : Int) ([] : (List UInt8)))).Kind), (str ((gget a0.heap a1).getD (S_api_Blob.mk (0 : Int) ([] : (List UInt8)))).Bytes)]), (bool (gget a0.heap a1).isSome)]))]) F_) ?_
 refine al_mv rfl rfl ?_
 refine al_nil ?_
 exact fr_fin hK_ ()⟩, ⟨_, rfl, [1], rfl, by
 intro _
 intro X_ Y_ F_ K_ hK_
 refine al_show (m := Mem.plus (memOf w0 Z0 [(oBox bx0 82 [(Value.map (some gm0_0)), (Value.map (some gm0_1)), v0_2]), (oMapK Tryd.prog 47 gm0_0 (fun x : A8u8 => ag (cA8u8 x)) (fun x : S_api_Blob => ag [(int .i64 x.Kind), (str x.Bytes)]) a0.heap), (oMapK Tryd.prog 47 gm0_1 (fun x : A8u8 => ag (cA8u8 x)) (fun x : Bool => bool x) a0.seen), (oRow v0_2 34 tyS_api_Blob a0.out)] [(oBox g1 47 (cA8u8 a1)), (oBox bx0 82 [(Value.map (some gm0_0)), (Value.map (some gm0_1)), v0_2]), (oMapK Tryd.prog 47 gm0_0 (fun x : A8u8 => ag (cA8u8 x)) (fun x : S_api_Blob => ag [(int .i64 x.Kind), (str x.Bytes)]) a0.heap), (oMapK Tryd.prog 47 gm0_1 (fun x : A8u8 => ag (cA8u8 x)) (fun x : Bool => bool x) (gset a0.seen a1 true)), (oRow v0_2 34 tyS_api_Blob a0.out)] [uTabs]) X_ Y_) (S := over (put (tab [(0, (ptr bx0 0)), (29, (Value.tuple #[(ag [(int .i64 ((gget a0.heap a1).getD (S_api_Blob.mk (0 : Int) ([] : (List UInt8)))).Kind), (str ((gget a0.heap a1).getD (S_api_Blob.mk (0 : Int) ([] : (List UInt8)))).Bytes)]), (bool (gget a0.heap a1).isSome)]))]) 23 (Value.tuple #[(ag [(int .i64 ((gget a0.heap a1).getD (S_api_Blob.mk (0 : Int) ([] : (List UInt8)))).Kind), (str ((gget a0.heap a1).getD (S_api_Blob.mk (0 : Int) ([] : (List UInt8)))).Bytes)]), (bool (gget a0.heap a1).isSome)])) F_) ?_
 refine al_ex rfl rfl rfl ?_
 refine al_nil ?_
 exact fr_fin hK_ ()⟩, ⟨_, rfl, [1], rfl, by
 intro _
 intro X_ Y_ F_ K_ hK_
 refine al_show (m := Mem.plus (memOf w0 Z0 [(oBox bx0 82 [(Value.map (some gm0_0)), (Value.map (some gm0_1)), v0_2]), (oMapK Tryd.prog 47 gm0_0 (fun x : A8u8 => ag (cA8u8 x)) (fun x : S_api_Blob => ag [(int .i64 x.Kind), (str x.Bytes)]) a0.heap), (oMapK Tryd.prog 47 gm0_1 (fun x : A8u8 => ag (cA8u8 x)) (fun x : Bool => bool x) a0.seen), (oRow v0_2 34 tyS_api_Blob a0.out)] [(oBox g1 47 (cA8u8 a1)), (oBox bx0 82 [(Value.map (some gm0_0)), (Value.map (some gm0_1)), v0_2]), (oMapK Tryd.prog 47 gm0_0 (fun x : A8u8 => ag (cA8u8 x)) (fun x : S_api_Blob => ag [(int .i64 x.Kind), (str x.Bytes)]) a0.heap), (oMapK Tryd.prog 47 gm0_1 (fun x : A8u8 => ag (cA8u8 x)) (fun x : Bool => bool x) (gset a0.seen a1 true)), (oRow v0_2 34 tyS_api_Blob a0.out)] [uTabs]) X_ Y_) (S := over (put (tab [(0, (ptr bx0 0)), (29, (Value.tuple #[(ag [(int .i64 ((gget a0.heap a1).getD (S_api_Blob.mk (0 : Int) ([] : (List UInt8)))).Kind), (str ((gget a0.heap a1).getD (S_api_Blob.mk (0 : Int) ([] : (List UInt8)))).Bytes)]), (bool (gget a0.heap a1).isSome)]))]) 23 (Value.tuple #[(ag [(int .i64 ((gget a0.heap a1).getD (S_api_Blob.mk (0 : Int) ([] : (List UInt8)))).Kind), (str ((gget a0.heap a1).getD (S_api_Blob.mk (0 : Int) ([] : (List UInt8)))).Bytes)]), (bool (gget a0.heap a1).isSome)])) F_) ?_
 refine al_ex rfl rfl rfl ?_
 refine al_nil ?_
 exact fr_fin hK_ ()⟩, trivial⟩ ?_
   intro g3
   intro _
   intro _
   intro X_ Y_ F_ K_ hK_
   refine al_show (m := Mem.plus (memOf w0 Z0 [(oBox bx0 82 [(Value.map (some gm0_0)), (Value.map (some gm0_1)), v0_2]), (oMapK Tryd.prog 47 gm0_0 (fun x : A8u8 => ag (cA8u8 x)) (fun x : S_api_Blob => ag [(int .i64 x.Kind), (str x.Bytes)]) a0.heap), (oMapK Tryd.prog 47 gm0_1 (fun x : A8u8 => ag (cA8u8 x)) (fun x : Bool => bool x) a0.seen), (oRow v0_2 34 tyS_api_Blob a0.out)] [(oBox g3 34 [(int .i64 (0 : Int)), (str ([] : List UInt8))]), (oBox g1 47 (cA8u8 a1)), (oBox bx0 82 [(Value.map (some gm0_0)), (Value.map (some gm0_1)), v0_2]), (oMapK Tryd.prog 47 gm0_0 (fun x : A8u8 => ag (cA8u8 x)) (fun x : S_api_Blob => ag [(int .i64 x.Kind), (str x.Bytes)]) a0.heap), (oMapK Tryd.prog 47 gm0_1 (fun x : A8u8 => ag (cA8u8 x)) (fun x : Bool => bool x) (gset a0.seen a1 true)), (oRow v0_2 34 tyS_api_Blob a0.out)] [uTabs]) X_ Y_) (S := over (put (put (put (tab [(0, (ptr bx0 0)), (29, (Value.tuple #[(ag [(int .i64 ((gget a0.heap a1).getD (S_api_Blob.mk (0 : Int) ([] : (List UInt8)))).Kind), (str ((gget a0.heap a1).getD (S_api_Blob.mk (0 : Int) ([] : (List UInt8)))).Bytes)]), (bool (gget a0.heap a1).isSome)]))]) 5 (ptr g3 0)) 23 (Value.tuple #[(ag [(int .i64 ((gget a0.heap a1).getD (S_api_Blob.mk (0 : Int) ([] : (List UInt8)))).Kind), (str ((gget a0.heap a1).getD (S_api_Blob.mk (0 : Int) ([] : (List UInt8)))).Bytes)]), (bool (gget a0.heap a1).isSome)])) 30 (ag [(int .i64 ((gget a0.heap a1).getD (S_api_Blob.mk (0 : Int) ([] : (List UInt8)))).Kind), (str ((gget a0.heap a1).getD (S_api_Blob.mk (0 : Int) ([] : (List UInt8)))).Bytes)])) F_) ?_
   refine al_store (i := 0) (vs := [(int .i64 ((gget a0.heap a1).getD (S_api_Blob.mk (0 : Int) ([] : (List UInt8)))).Kind), (str ((gget a0.heap a1).getD (S_api_Blob.mk (0 : Int) ([] : (List UInt8)))).Bytes)]) (cs' := [(int .i64 ((gget a0.heap a1).getD (S_api_Blob.mk (0 : Int) ([] : (List UInt8)))).Kind), (str ((gget a0.heap a1).getD (S_api_Blob.mk (0 : Int) ([] : (List UInt8)))).Bytes)]) rfl rfl rfl sz34 (cv_rfl rfl) rfl (co_val rfl (co_val rfl co_nil)) (Nat.le_of_ble_eq_true rfl) rfl rfl ?_
   refine al_nil ?_
   refine aq_show (m := Mem.plus (memOf w0 Z0 [(oBox bx0 82 [(Value.map (some gm0_0)), (Value.map (some gm0_1)), v0_2]), (oMapK Tryd.prog 47 gm0_0 (fun x : A8u8 => ag (cA8u8 x)) (fun x : S_api_Blob => ag [(int .i64 x.Kind), (str x.Bytes)]) a0.heap), (oMapK Tryd.prog 47 gm0_1 (fun x : A8u8 => ag (cA8u8 x)) (fun x : Bool => bool x) a0.seen), (oRow v0_2 34 tyS_api_Blob a0.out)] [(oBox g3 34 [(int .i64 ((gget a0.heap a1).getD (S_api_Blob.mk (0 : Int) ([] : (List UInt8)))).Kind), (str ((gget a0.heap a1).getD (S_api_Blob.mk (0 : Int) ([] : (List UInt8)))).Bytes)]), (oBox g1 47 (cA8u8 a1)), (oBox bx0 82 [(Value.map (some gm0_0)), (Value.map (some gm0_1)), v0_2]), (oMapK Tryd.prog 47 gm0_0 (fun x : A8u8 => ag (cA8u8 x)) (fun x : S_api_Blob => ag [(int .i64 x.Kind), (str x.Bytes)]) a0.heap), (oMapK Tryd.prog 47 gm0_1 (fun x : A8u8 => ag (cA8u8 x)) (fun x : Bool => bool x) (gset a0.seen a1 true)), (oRow v0_2 34 tyS_api_Blob a0.out)] [uTabs]) X_ Y_) ?_
   refine aq_next hK_ [0, 1, 2, 3, 4, 5] [0] [(0, (ptr bx0 0)), (5, (ptr g3 0)), (23, (Value.tuple #[(ag [(int .i64 ((gget a0.heap a1).getD (S_api_Blob.mk (0 : Int) ([] : (List UInt8)))).Kind), (str ((gget a0.heap a1).getD (S_api_Blob.mk (0 : Int) ([] : (List UInt8)))).Bytes)]), (bool (gget a0.heap a1).isSome)]))] [31] [] rfl rfl (by decide) rfl ⟨rfl, rfl, rfl, trivial⟩ ⟨rfl, trivial⟩ ?_
   clear hK_ K_ F_ X_ Y_
   refine ta_show (m := (memOf w0 Z0 [(oBox bx0 82 [(Value.map (some gm0_0)), (Value.map (some gm0_1)), v0_2]), (oMapK Tryd.prog 47 gm0_0 (fun x : A8u8 => ag (cA8u8 x)) (fun x : S_api_Blob => ag [(int .i64 x.Kind), (str x.Bytes)]) a0.heap), (oMapK Tryd.prog 47 gm0_1 (fun x : A8u8 => ag (cA8u8 x)) (fun x : Bool => bool x) a0.seen), (oRow v0_2 34 tyS_api_Blob a0.out)] [(oBox g3 34 [(int .i64 ((gget a0.heap a1).getD (S_api_Blob.mk (0 : Int) ([] : (List UInt8)))).Kind), (str ((gget a0.heap a1).getD (S_api_Blob.mk (0 : Int) ([] : (List UInt8)))).Bytes)]), (oBox g1 47 (cA8u8 a1)), (oBox bx0 82 [(Value.map (some gm0_0)), (Value.map (some gm0_1)), v0_2]), (oMapK Tryd.prog 47 gm0_0 (fun x : A8u8 => ag (cA8u8 x)) (fun x : S_api_Blob => ag [(int .i64 x.Kind), (str x.Bytes)]) a0.heap), (oMapK Tryd.prog 47 gm0_1 (fun x : A8u8 => ag (cA8u8 x)) (fun x : Bool => bool x) (gset a0.seen a1 true)), (oRow v0_2 34 tyS_api_Blob a0.out)] [uTabs])) (S := (tab [(0, (ptr bx0 0)), (5, (ptr g3 0)), (23, (Value.tuple #[(ag [(int .i64 ((gget a0.heap a1).getD (S_api_Blob.mk (0 : Int) ([] : (List UInt8)))).Kind), (str ((gget a0.heap a1).getD (S_api_Blob.mk (0 : Int) ([] : (List UInt8)))).Bytes)]), (bool (gget a0.heap a1).isSome)]))])) ?_
   refine ta_step 11 _ [8] [31] [8] [] [⟨8, 31, Unit, fun _ => { val := (bool (gget a0.heap a1).isSome) }⟩] [] rfl rfl rfl (by kernel_rfl) rfl rfl rfl ⟨⟨_, rfl, [], rfl, by
 intro X_ Y_ F_ K_ hK_
 refine al_show (m := Mem.plus (memOf w0 Z0 [(oBox bx0 82 [(Value.map (some gm0_0)), (Value.map (some gm0_1)), v0_2]), (oMapK Tryd.prog 47 gm0_0 (fun x : A8u8 => ag (cA8u8 x)) (fun x : S_api_Blob => ag [(int .i64 x.Kind), (str x.Bytes)]) a0.heap), (oMapK Tryd.prog 47 gm0_1 (fun x : A8u8 => ag (cA8u8 x)) (fun x : Bool => bool x) a0.seen), (oRow v0_2 34 tyS_api_Blob a0.out)] [(oBox g3 34 [(int .i64 ((gget a0.heap a1).getD (S_api_Blob.mk (0 : Int) ([] : (List UInt8)))).Kind), (str ((gget a0.heap a1).getD (S_api_Blob.mk (0 : Int) ([] : (List UInt8)))).Bytes)]), (oBox g1 47 (cA8u8 a1)), (oBox bx0 82 [(Value.map (some gm0_0)), (Value.map (some gm0_1)), v0_2]), (oMapK Tryd.prog 47 gm0_0 (fun x : A8u8 => ag (cA8u8 x)) (fun x : S_api_Blob => ag [(int .i64 x.Kind), (str x.Bytes)]) a0.heap), (oMapK Tryd.prog 47 gm0_1 (fun x : A8u8 => ag (cA8u8 x)) (fun x : Bool => bool x) (gset a0.seen a1 true)), (oRow v0_2 34 tyS_api_Blob a0.out)] [uTabs]) X_ Y_) (S := over (tab [(0, (ptr bx0 0)), (5, (ptr g3 0)), (23, (Value.tuple #[(ag [(int .i64 ((gget a0.heap a1).getD (S_api_Blob.mk (0 : Int) ([] : (List UInt8)))).Kind), (str ((gget a0.heap a1).getD (S_api_Blob.mk (0 : Int) ([] : (List UInt8)))).Bytes)]), (bool (gget a0.heap a1).isSome)]))]) F_) ?_
 refine al_ex rfl rfl rfl ?_
 refine al_nil ?_
 exact fr_fin hK_ ()⟩, trivial⟩ ?_
   intro _
   intro X_ Y_ F_ K_ hK_
   refine al_show (m := Mem.plus (memOf w0 Z0 [(oBox bx0 82 [(Value.map (some gm0_0)), (Value.map (some gm0_1)), v0_2]), (oMapK Tryd.prog 47 gm0_0 (fun x : A8u8 => ag (cA8u8 x)) (fun x : S_api_Blob => ag [(int .i64 x.Kind), (str x.Bytes)]) a0.heap), (oMapK Tryd.prog 47 gm0_1 (fun x : A8u8 => ag (cA8u8 x)) (fun x : Bool => bool x) a0.seen), (oRow v0_2 34 tyS_api_Blob a0.out)] [(oBox g3 34 [(int .i64 ((gget a0.heap a1).getD (S_api_Blob.mk (0 : Int) ([] : (List UInt8)))).Kind), (str ((gget a0.heap a1).getD (S_api_Blob.mk (0 : Int) ([] : (List UInt8)))).Bytes)]), (oBox g1 47 (cA8u8 a1)), (oBox bx0 82 [(Value.map (some gm0_0)), (Value.map (some gm0_1)), v0_2]), (oMapK Tryd.prog 47 gm0_0 (fun x : A8u8 => ag (cA8u8 x)) (fun x : S_api_Blob => ag [(int .i64 x.Kind), (str x.Bytes)]) a0.heap), (oMapK Tryd.prog 47 gm0_1 (fun x : A8u8 => ag (cA8u8 x)) (fun x : Bool => bool x) (gset a0.seen a1 true)), (oRow v0_2 34 tyS_api_Blob a0.out)] [uTabs]) X_ Y_) (S := over (put (tab [(0, (ptr bx0 0)), (5, (ptr g3 0)), (23, (Value.tuple #[(ag [(int .i64 ((gget a0.heap a1).getD (S_api_Blob.mk (0 : Int) ([] : (List UInt8)))).Kind), (str ((gget a0.heap a1).getD (S_api_Blob.mk (0 : Int) ([] : (List UInt8)))).Bytes)]), (bool (gget a0.heap a1).isSome)]))]) 31 (bool (gget a0.heap a1).isSome)) F_) ?_
   refine al_as rfl rfl ?_
   refine al_nil ?_
   refine aq_show (m := Mem.plus (memOf w0 Z0 [(oBox bx0 82 [(Value.map (some gm0_0)), (Value.map (some gm0_1)), v0_2]), (oMapK Tryd.prog 47 gm0_0 (fun x : A8u8 => ag (cA8u8 x)) (fun x : S_api_Blob => ag [(int .i64 x.Kind), (str x.Bytes)]) a0.heap), (oMapK Tryd.prog 47 gm0_1 (fun x : A8u8 => ag (cA8u8 x)) (fun x : Bool => bool x) a0.seen), (oRow v0_2 34 tyS_api_Blob a0.out)] [(oBox g3 34 [(int .i64 ((gget a0.heap a1).getD (S_api_Blob.mk (0 : Int) ([] : (List UInt8)))).Kind), (str ((gget a0.heap a1).getD (S_api_Blob.mk (0 : Int) ([] : (List UInt8)))).Bytes)]), (oBox g1 47 (cA8u8 a1)), (oBox bx0 82 [(Value.map (some gm0_0)), (Value.map (some gm0_1)), v0_2]), (oMapK Tryd.prog 47 gm0_0 (fun x : A8u8 => ag (cA8u8 x)) (fun x : S_api_Blob => ag [(int .i64 x.Kind), (str x.Bytes)]) a0.heap), (oMapK Tryd.prog 47 gm0_1 (fun x : A8u8 => ag (cA8u8 x)) (fun x : Bool => bool x) (gset a0.seen a1 true)), (oRow v0_2 34 tyS_api_Blob a0.out)] [uTabs]) X_ Y_) ?_
   refine aq_next hK_ [0, 1, 2, 3, 4, 5] [0] [(0, (ptr bx0 0)), (5, (ptr g3 0)), (6, (bool (gget a0.heap a1).isSome))] [] [] rfl rfl (by decide) rfl ⟨rfl, rfl, rfl, trivial⟩ trivial ?_
   clear hK_ K_ F_ X_ Y_
   refine ta_show (m := (memOf w0 Z0 [(oBox bx0 82 [(Value.map (some gm0_0)), (Value.map (some gm0_1)), v0_2]), (oMapK Tryd.prog 47 gm0_0 (fun x : A8u8 => ag (cA8u8 x)) (fun x : S_api_Blob => ag [(int .i64 x.Kind), (str x.Bytes)]) a0.heap), (oMapK Tryd.prog 47 gm0_1 (fun x : A8u8 => ag (cA8u8 x)) (fun x : Bool => bool x) a0.seen), (oRow v0_2 34 tyS_api_Blob a0.out)] [(oBox g3 34 [(int .i64 ((gget a0.heap a1).getD (S_api_Blob.mk (0 : Int) ([] : (List UInt8)))).Kind), (str ((gget a0.heap a1).getD (S_api_Blob.mk (0 : Int) ([] : (List UInt8)))).Bytes)]), (oBox g1 47 (cA8u8 a1)), (oBox bx0 82 [(Value.map (some gm0_0)), (Value.map (some gm0_1)), v0_2]), (oMapK Tryd.prog 47 gm0_0 (fun x : A8u8 => ag (cA8u8 x)) (fun x : S_api_Blob => ag [(int .i64 x.Kind), (str x.Bytes)]) a0.heap), (oMapK Tryd.prog 47 gm0_1 (fun x : A8u8 => ag (cA8u8 x)) (fun x : Bool => bool x) (gset a0.seen a1 true)), (oRow v0_2 34 tyS_api_Blob a0.out)] [uTabs])) (S := (tab [(0, (ptr bx0 0)), (5, (ptr g3 0)), (6, (bool (gget a0.heap a1).isSome))])) ?_
   refine ta_end [] [] rfl rfl (by kernel_rfl) rfl trivial ?_
   refine aq_show (m := (memOf w0 Z0 [(oBox bx0 82 [(Value.map (some gm0_0)), (Value.map (some gm0_1)), v0_2]), (oMapK Tryd.prog 47 gm0_0 (fun x : A8u8 => ag (cA8u8 x)) (fun x : S_api_Blob => ag [(int .i64 x.Kind), (str x.Bytes)]) a0.heap), (oMapK Tryd.prog 47 gm0_1 (fun x : A8u8 => ag (cA8u8 x)) (fun x : Bool => bool x) a0.seen), (oRow v0_2 34 tyS_api_Blob a0.out)] [(oBox g3 34 [(int .i64 ((gget a0.heap a1).getD (S_api_Blob.mk (0 : Int) ([] : (List UInt8)))).Kind), (str ((gget a0.heap a1).getD (S_api_Blob.mk (0 : Int) ([] : (List UInt8)))).Bytes)]), (oBox g1 47 (cA8u8 a1)), (oBox bx0 82 [(Value.map (some gm0_0)), (Value.map (some gm0_1)), v0_2]), (oMapK Tryd.prog 47 gm0_0 (fun x : A8u8 => ag (cA8u8 x)) (fun x : S_api_Blob => ag [(int .i64 x.Kind), (str x.Bytes)]) a0.heap), (oMapK Tryd.prog 47 gm0_1 (fun x : A8u8 => ag (cA8u8 x)) (fun x : Bool => bool x) (gset a0.seen a1 true)), (oRow v0_2 34 tyS_api_Blob a0.out)] [uTabs])) (S := (tab [(0, (ptr bx0 0)), (5, (ptr g3 0)), (6, (bool (gget a0.heap a1).isSome))])) ?_
   refine aq_then ?_
   refine aw_seq ?_
   refine aw_sr ?_
   refine al_mv rfl rfl ?_
   refine al_val (ov_not rfl rfl) ?_
   refine al_nt ?_
   refine aw_cond rfl (fun hb4 => ?_) (fun hb4 => ?_)
   ·replace h := bif_t hb4 h
    refine aw_sr ?_
    refine al_as rfl rfl ?_
    refine al_nt ?_
    refine aw_ret ?_
    refine aq_then_ret ?_
    obtain rfl := Option.some.inj h
    exact fn_ret v0_2 [2, 3, 4, 5] [] rfl rfl rfl rfl (res1 rfl rfl) rfl rfl rfl (by decide)
   ·replace h := bif_f hb4 h
    refine aw_skip ?_
    refine aq_tr ?_
    refine al_val (ov_load (i := 0) (v := (ag [(int .i64 ((gget a0.heap a1).getD (S_api_Blob.mk (0 : Int) ([] : (List UInt8)))).Kind), (str ((gget a0.heap a1).getD (S_api_Blob.mk (0 : Int) ([] : (List UInt8)))).Bytes)])) rfl rfl Tryd.underlying34 sz34 rfl rfl rfl rfl) ?_
    obtain ⟨r6, hc5, h⟩ := opt_some h
    refine al_call (vs := [(ag [(int .i64 ((gget a0.heap a1).getD (S_api_Blob.mk (0 : Int) ([] : (List UInt8)))).Kind), (str ((gget a0.heap a1).getD (S_api_Blob.mk (0 : Int) ([] : (List UInt8)))).Bytes)])]) (f_walk_Needs_ok fu (S_api_Blob.mk (((gget a0.heap a1).getD (S_api_Blob.mk (0 : Int) ([] : (List UInt8)))).Kind) (((gget a0.heap a1).getD (S_api_Blob.mk (0 : Int) ([] : (List UInt8)))).Bytes)) hc5) [] [] [0, 1, 2, 3, 4, 5] (pre_fz 0 rfl pre_nil) rfl (by simp) (by decide) (.inl rfl) rfl Tryd.func97 rfl rfl rfl (fun v7 => ?_)
    refine al_mv rfl rfl ?_
    refine al_ex rfl rfl rfl ?_
    refine al_ex rfl rfl rfl ?_
    refine al_as rfl rfl ?_
    refine al_as rfl rfl ?_
    refine al_nt ?_
    refine aw_seq ?_
    refine aw_sr ?_
    refine al_mv rfl rfl ?_
    refine al_in rfl rfl rfl rfl ?_
    refine al_nt ?_
    refine aw_cond rfl (fun hb8 => ?_) (fun hb8 => ?_)
    ·replace h := bif_t hb8 h
     refine aw_sr ?_
     refine al_mv rfl rfl ?_
     refine al_as rfl rfl ?_
     refine al_nt ?_
     refine aw_ret ?_
     refine aq_then_ret ?_
     obtain rfl := Option.some.inj h
     exact fn_ret v0_2 [3, 4, 5, 6] [] rfl rfl rfl rfl (res1 rfl rfl) rfl rfl rfl (by decide)
    ·replace h := bif_f hb8 h
     refine aw_skip ?_
     refine aq_then ?_
     obtain ⟨kk10, hkk10, h⟩ := lt_some h
     refine aw_seq_join (ι := (List (A8u8 × S_api_Blob)) × (List (A8u8 × Bool)) × Value × (List S_api_Blob)) (fun i => (memOf w0 Z0 [(oBox bx0 82 [(Value.map (some gm0_0)), (Value.map (some gm0_1)), v0_2]), (oMapK Tryd.prog 47 gm0_0 (fun x : A8u8 => ag (cA8u8 x)) (fun x : S_api_Blob => ag [(int .i64 x.Kind), (str x.Bytes)]) a0.heap), (oMapK Tryd.prog 47 gm0_1 (fun x : A8u8 => ag (cA8u8 x)) (fun x : Bool => bool x) a0.seen), (oRow v0_2 34 tyS_api_Blob a0.out)] [(oMapK Tryd.prog 47 gm0_0 (fun x : A8u8 => ag (cA8u8 x)) (fun x : S_api_Blob => ag [(int .i64 x.Kind), (str x.Bytes)]) i.1), (oMapK Tryd.prog 47 gm0_1 (fun x : A8u8 => ag (cA8u8 x)) (fun x : Bool => bool x) i.2.1), (oRow i.2.2.1 34 tyS_api_Blob i.2.2.2), (oBox bx0 82 [(Value.map (some gm0_0)), (Value.map (some gm0_1)), i.2.2.1]), (oBox g3 34 [(int .i64 ((gget a0.heap a1).getD (S_api_Blob.mk (0 : Int) ([] : (List UInt8)))).Kind), (str ((gget a0.heap a1).getD (S_api_Blob.mk (0 : Int) ([] : (List UInt8)))).Bytes)])] [uTabs])) (fun i => (tab [(0, (ptr bx0 0)), (5, (ptr g3 0))])) (fun i => kk10 i.1 i.2.1 i.2.2.2 = some r) ?_ ?_
     ·rintro ⟨j9xm0_0, j9xm0_1, j9v0_2, j9x0_2⟩ h
      have h : kk10 j9xm0_0 j9xm0_1 j9x0_2 = some r := h
      rw [hkk10] at h
      dsimp only at h
      clear hkk10
      refine aw_show (m := (memOf w0 Z0 [(oBox bx0 82 [(Value.map (some gm0_0)), (Value.map (some gm0_1)), v0_2]), (oMapK Tryd.prog 47 gm0_0 (fun x : A8u8 => ag (cA8u8 x)) (fun x : S_api_Blob => ag [(int .i64 x.Kind), (str x.Bytes)]) a0.heap), (oMapK Tryd.prog 47 gm0_1 (fun x : A8u8 => ag (cA8u8 x)) (fun x : Bool => bool x) a0.seen), (oRow v0_2 34 tyS_api_Blob a0.out)] [(oMapK Tryd.prog 47 gm0_0 (fun x : A8u8 => ag (cA8u8 x)) (fun x : S_api_Blob => ag [(int .i64 x.Kind), (str x.Bytes)]) j9xm0_0), (oMapK Tryd.prog 47 gm0_1 (fun x : A8u8 => ag (cA8u8 x)) (fun x : Bool => bool x) j9xm0_1), (oRow j9v0_2 34 tyS_api_Blob j9x0_2), (oBox bx0 82 [(Value.map (some gm0_0)), (Value.map (some gm0_1)), j9v0_2]), (oBox g3 34 [(int .i64 ((gget a0.heap a1).getD (S_api_Blob.mk (0 : Int) ([] : (List UInt8)))).Kind), (str ((gget a0.heap a1).getD (S_api_Blob.mk (0 : Int) ([] : (List UInt8)))).Bytes)])] [uTabs])) (S := (tab [(0, (ptr bx0 0)), (5, (ptr g3 0))])) ?_
      refine aw_seq ?_
      refine aw_region_open [⟨0, 55, Unit, fun _ => { val := (ptr bx0 0) }⟩, ⟨1, 56, Unit, fun _ => { val := (ptr bx0 0) }⟩, ⟨2, 57, Unit, fun _ => { val := (ptr bx0 0) }⟩, ⟨3, 58, Unit, fun _ => { val := (ptr bx0 2) }⟩, ⟨4, 59, Unit, fun _ => { val := j9v0_2 }⟩, ⟨5, 60, Unit, fun _ => { val := (ag [(int .i64 ((gget a0.heap a1).getD (S_api_Blob.mk (0 : Int) ([] : (List UInt8)))).Kind), (str ((gget a0.heap a1).getD (S_api_Blob.mk (0 : Int) ([] : (List UInt8)))).Bytes)]) }⟩, ⟨6, 61, Value, fun (i : Value) => { val := i, own := [(oRow i 34 tyS_api_Blob [(S_api_Blob.mk (((gget a0.heap a1).getD (S_api_Blob.mk (0 : Int) ([] : (List UInt8)))).Kind) (((gget a0.heap a1).getD (S_api_Blob.mk (0 : Int) ([] : (List UInt8)))).Bytes))])] }⟩] (tab [(0, (ptr bx0 0)), (5, (ptr g3 0))]) mixed (fun a hs => hs.tab _ (allT_mem ⟨rfl, rfl, trivial⟩)) ?_
      refine ta_show (m := (memOf w0 Z0 [(oBox bx0 82 [(Value.map (some gm0_0)), (Value.map (some gm0_1)), v0_2]), (oMapK Tryd.prog 47 gm0_0 (fun x : A8u8 => ag (cA8u8 x)) (fun x : S_api_Blob => ag [(int .i64 x.Kind), (str x.Bytes)]) a0.heap), (oMapK Tryd.prog 47 gm0_1 (fun x : A8u8 => ag (cA8u8 x)) (fun x : Bool => bool x) a0.seen), (oRow v0_2 34 tyS_api_Blob a0.out)] [(oMapK Tryd.prog 47 gm0_0 (fun x : A8u8 => ag (cA8u8 x)) (fun x : S_api_Blob => ag [(int .i64 x.Kind), (str x.Bytes)]) j9xm0_0), (oMapK Tryd.prog 47 gm0_1 (fun x : A8u8 => ag (cA8u8 x)) (fun x : Bool => bool x) j9xm0_1), (oRow j9v0_2 34 tyS_api_Blob j9x0_2), (oBox bx0 82 [(Value.map (some gm0_0)), (Value.map (some gm0_1)), j9v0_2]), (oBox g3 34 [(int .i64 ((gget a0.heap a1).getD (S_api_Blob.mk (0 : Int) ([] : (List UInt8)))).Kind), (str ((gget a0.heap a1).getD (S_api_Blob.mk (0 : Int) ([] : (List UInt8)))).Bytes)])] [uTabs])) (S := (tab [(0, (ptr bx0 0)), (5, (ptr g3 0))])) ?_
      refine ta_step 7 _ [0, 1, 2, 3, 4, 5, 6] [55, 56, 57, 58, 59, 60, 61] [1, 2, 3, 4, 5, 6] [8, 9] [⟨1, 56, Unit, fun _ => { val := (ptr bx0 0) }⟩, ⟨2, 57, Unit, fun _ => { val := (ptr bx0 0) }⟩, ⟨3, 58, Unit, fun _ => { val := (ptr bx0 2) }⟩, ⟨4, 59, Unit, fun _ => { val := j9v0_2 }⟩, ⟨5, 60, Unit, fun _ => { val := (ag [(int .i64 ((gget a0.heap a1).getD (S_api_Blob.mk (0 : Int) ([] : (List UInt8)))).Kind), (str ((gget a0.heap a1).getD (S_api_Blob.mk (0 : Int) ([] : (List UInt8)))).Bytes)]) }⟩, ⟨6, 61, Value, fun (i : Value) => { val := i, own := [(oRow i 34 tyS_api_Blob [(S_api_Blob.mk (((gget a0.heap a1).getD (S_api_Blob.mk (0 : Int) ([] : (List UInt8)))).Kind) (((gget a0.heap a1).getD (S_api_Blob.mk (0 : Int) ([] : (List UInt8)))).Bytes))])] }⟩] [⟨0, 55, Unit, fun _ => { val := (ptr bx0 0) }⟩] rfl rfl rfl (by kernel_rfl) rfl rfl rfl ⟨⟨_, rfl, [], rfl, by
 intro X_ Y_ F_ K_ hK_
 refine al_show (m := Mem.plus (memOf w0 Z0 [(oBox bx0 82 [(Value.map (some gm0_0)), (Value.map (some gm0_1)), v0_2]), (oMapK Tryd.prog 47 gm0_0 (fun x : A8u8 => ag (cA8u8 x)) (fun x : S_api_Blob => ag [(int .i64 x.Kind), (str x.Bytes)]) a0.heap), (oMapK Tryd.prog 47 gm0_1 (fun x : A8u8 => ag (cA8u8 x)) (fun x : Bool => bool x) a0.seen), (oRow v0_2 34 tyS_api_Blob a0.out)] [(oMapK Tryd.prog 47 gm0_0 (fun x : A8u8 => ag (cA8u8 x)) (fun x : S_api_Blob => ag [(int .i64 x.Kind), (str x.Bytes)]) j9xm0_0), (oMapK Tryd.prog 47 gm0_1 (fun x : A8u8 => ag (cA8u8 x)) (fun x : Bool => bool x) j9xm0_1), (oRow j9v0_2 34 tyS_api_Blob j9x0_2), (oBox bx0 82 [(Value.map (some gm0_0)), (Value.map (some gm0_1)), j9v0_2]), (oBox g3 34 [(int .i64 ((gget a0.heap a1).getD (S_api_Blob.mk (0 : Int) ([] : (List UInt8)))).Kind), (str ((gget a0.heap a1).getD (S_api_Blob.mk (0 : Int) ([] : (List UInt8)))).Bytes)])] [uTabs]) X_ Y_) (S := over (tab [(0, (ptr bx0 0)), (5, (ptr g3 0))]) F_) ?_
 refine al_mv rfl rfl ?_
 refine al_nil ?_
 exact fr_fin hK_ ()⟩, ⟨_, rfl, [], rfl, by
 intro X_ Y_ F_ K_ hK_
 refine al_show (m := Mem.plus (memOf w0 Z0 [(oBox bx0 82 [(Value.map (some gm0_0)), (Value.map (some gm0_1)), v0_2]), (oMapK Tryd.prog 47 gm0_0 (fun x : A8u8 => ag (cA8u8 x)) (fun x : S_api_Blob => ag [(int .i64 x.Kind), (str x.Bytes)]) a0.heap), (oMapK Tryd.prog 47 gm0_1 (fun x : A8u8 => ag (cA8u8 x)) (fun x : Bool => bool x) a0.seen), (oRow v0_2 34 tyS_api_Blob a0.out)] [(oMapK Tryd.prog 47 gm0_0 (fun x : A8u8 => ag (cA8u8 x)) (fun x : S_api_Blob => ag [(int .i64 x.Kind), (str x.Bytes)]) j9xm0_0), (oMapK Tryd.prog 47 gm0_1 (fun x : A8u8 => ag (cA8u8 x)) (fun x : Bool => bool x) j9xm0_1), (oRow j9v0_2 34 tyS_api_Blob j9x0_2), (oBox bx0 82 [(Value.map (some gm0_0)), (Value.map (some gm0_1)), j9v0_2]), (oBox g3 34 [(int .i64 ((gget a0.heap a1).getD (S_api_Blob.mk (0 : Int) ([] : (List UInt8)))).Kind), (str ((gget a0.heap a1).getD (S_api_Blob.mk (0 : Int) ([] : (List UInt8)))).Bytes)])] [uTabs]) X_ Y_) (S := over (tab [(0, (ptr bx0 0)), (5, (ptr g3 0))]) F_) ?_
 refine al_mv rfl rfl ?_
 refine al_nil ?_
 exact fr_fin hK_ ()⟩, ⟨_, rfl, [1], rfl, by
 intro _
 intro X_ Y_ F_ K_ hK_
 refine al_show (m := Mem.plus (memOf w0 Z0 [(oBox bx0 82 [(Value.map (some gm0_0)), (Value.map (some gm0_1)), v0_2]), (oMapK Tryd.prog 47 gm0_0 (fun x : A8u8 => ag (cA8u8 x)) (fun x : S_api_Blob => ag [(int .i64 x.Kind), (str x.Bytes)]) a0.heap), (oMapK Tryd.prog 47 gm0_1 (fun x : A8u8 => ag (cA8u8 x)) (fun x : Bool => bool x) a0.seen), (oRow v0_2 34 tyS_api_Blob a0.out)] [(oMapK Tryd.prog 47 gm0_0 (fun x : A8u8 => ag (cA8u8 x)) (fun x : S_api_Blob => ag [(int .i64 x.Kind), (str x.Bytes)]) j9xm0_0), (oMapK Tryd.prog 47 gm0_1 (fun x : A8u8 => ag (cA8u8 x)) (fun x : Bool => bool x) j9xm0_1), (oRow j9v0_2 34 tyS_api_Blob j9x0_2), (oBox bx0 82 [(Value.map (some gm0_0)), (Value.map (some gm0_1)), j9v0_2]), (oBox g3 34 [(int .i64 ((gget a0.heap a1).getD (S_api_Blob.mk (0 : Int) ([] : (List UInt8)))).Kind), (str ((gget a0.heap a1).getD (S_api_Blob.mk (0 : Int) ([] : (List UInt8)))).Bytes)])] [uTabs]) X_ Y_) (S := over (put (tab [(0, (ptr bx0 0)), (5, (ptr g3 0))]) 56 (ptr bx0 0)) F_) ?_
 refine al_val (ov_nilCheck rfl rfl) ?_
 refine al_nil ?_
 exact fr_fin hK_ ()⟩, ⟨_, rfl, [2], rfl, by
 intro _
 intro X_ Y_ F_ K_ hK_
 refine al_show (m := Mem.plus (memOf w0 Z0 [(oBox bx0 82 [(Value.map (some gm0_0)), (Value.map (some gm0_1)), v0_2]), (oMapK Tryd.prog 47 gm0_0 (fun x : A8u8 => ag (cA8u8 x)) (fun x : S_api_Blob => ag [(int .i64 x.Kind), (str x.Bytes)]) a0.heap), (oMapK Tryd.prog 47 gm0_1 (fun x : A8u8 => ag (cA8u8 x)) (fun x : Bool => bool x) a0.seen), (oRow v0_2 34 tyS_api_Blob a0.out)] [(oMapK Tryd.prog 47 gm0_0 (fun x : A8u8 => ag (cA8u8 x)) (fun x : S_api_Blob => ag [(int .i64 x.Kind), (str x.Bytes)]) j9xm0_0), (oMapK Tryd.prog 47 gm0_1 (fun x : A8u8 => ag (cA8u8 x)) (fun x : Bool => bool x) j9xm0_1), (oRow j9v0_2 34 tyS_api_Blob j9x0_2), (oBox bx0 82 [(Value.map (some gm0_0)), (Value.map (some gm0_1)), j9v0_2]), (oBox g3 34 [(int .i64 ((gget a0.heap a1).getD (S_api_Blob.mk (0 : Int) ([] : (List UInt8)))).Kind), (str ((gget a0.heap a1).getD (S_api_Blob.mk (0 : Int) ([] : (List UInt8)))).Bytes)])] [uTabs]) X_ Y_) (S := over (put (tab [(0, (ptr bx0 0)), (5, (ptr g3 0))]) 57 (ptr bx0 0)) F_) ?_
 refine al_val (ov_fieldA (p := 2) rfl Tryd.underlying82 rfl sz28 rfl rfl rfl) ?_
 refine al_nil ?_
 exact fr_fin hK_ ()⟩, ⟨_, rfl, [3], rfl, by
 intro _
 intro X_ Y_ F_ K_ hK_
 refine al_show (m := Mem.plus (memOf w0 Z0 [(oBox bx0 82 [(Value.map (some gm0_0)), (Value.map (some gm0_1)), v0_2]), (oMapK Tryd.prog 47 gm0_0 (fun x : A8u8 => ag (cA8u8 x)) (fun x : S_api_Blob => ag [(int .i64 x.Kind), (str x.Bytes)]) a0.heap), (oMapK Tryd.prog 47 gm0_1 (fun x : A8u8 => ag (cA8u8 x)) (fun x : Bool => bool x) a0.seen), (oRow v0_2 34 tyS_api_Blob a0.out)] [(oMapK Tryd.prog 47 gm0_0 (fun x : A8u8 => ag (cA8u8 x)) (fun x : S_api_Blob => ag [(int .i64 x.Kind), (str x.Bytes)]) j9xm0_0), (oMapK Tryd.prog 47 gm0_1 (fun x : A8u8 => ag (cA8u8 x)) (fun x : Bool => bool x) j9xm0_1), (oRow j9v0_2 34 tyS_api_Blob j9x0_2), (oBox bx0 82 [(Value.map (some gm0_0)), (Value.map (some gm0_1)), j9v0_2]), (oBox g3 34 [(int .i64 ((gget a0.heap a1).getD (S_api_Blob.mk (0 : Int) ([] : (List UInt8)))).Kind), (str ((gget a0.heap a1).getD (S_api_Blob.mk (0 : Int) ([] : (List UInt8)))).Bytes)])] [uTabs]) X_ Y_) (S := over (put (tab [(0, (ptr bx0 0)), (5, (ptr g3 0))]) 58 (ptr bx0 2)) F_) ?_
 refine al_val (ov_load (i := 3) (v := j9v0_2) rfl rfl Tryd.underlying28 sz28 rfl rfl rfl rfl) ?_
 refine al_nil ?_
 exact fr_fin hK_ ()⟩, ⟨_, rfl, [], rfl, by
 intro X_ Y_ F_ K_ hK_
 refine al_show (m := Mem.plus (memOf w0 Z0 [(oBox bx0 82 [(Value.map (some gm0_0)), (Value.map (some gm0_1)), v0_2]), (oMapK Tryd.prog 47 gm0_0 (fun x : A8u8 => ag (cA8u8 x)) (fun x : S_api_Blob => ag [(int .i64 x.Kind), (str x.Bytes)]) a0.heap), (oMapK Tryd.prog 47 gm0_1 (fun x : A8u8 => ag (cA8u8 x)) (fun x : Bool => bool x) a0.seen), (oRow v0_2 34 tyS_api_Blob a0.out)] [(oMapK Tryd.prog 47 gm0_0 (fun x : A8u8 => ag (cA8u8 x)) (fun x : S_api_Blob => ag [(int .i64 x.Kind), (str x.Bytes)]) j9xm0_0), (oMapK Tryd.prog 47 gm0_1 (fun x : A8u8 => ag (cA8u8 x)) (fun x : Bool => bool x) j9xm0_1), (oRow j9v0_2 34 tyS_api_Blob j9x0_2), (oBox bx0 82 [(Value.map (some gm0_0)), (Value.map (some gm0_1)), j9v0_2]), (oBox g3 34 [(int .i64 ((gget a0.heap a1).getD (S_api_Blob.mk (0 : Int) ([] : (List UInt8)))).Kind), (str ((gget a0.heap a1).getD (S_api_Blob.mk (0 : Int) ([] : (List UInt8)))).Bytes)])] [uTabs]) X_ Y_) (S := over (tab [(0, (ptr bx0 0)), (5, (ptr g3 0))]) F_) ?_
 refine al_val (ov_load (i := 4) (v := (ag [(int .i64 ((gget a0.heap a1).getD (S_api_Blob.mk (0 : Int) ([] : (List UInt8)))).Kind), (str ((gget a0.heap a1).getD (S_api_Blob.mk (0 : Int) ([] : (List UInt8)))).Bytes)])) rfl rfl Tryd.underlying34 sz34 rfl rfl rfl rfl) ?_
 refine al_nil ?_
 exact fr_fin hK_ ()⟩, ⟨_, rfl, [5], rfl, by
 intro _
 intro X_ Y_ F_ K_ hK_
 refine al_show (m := Mem.plus (memOf w0 Z0 [(oBox bx0 82 [(Value.map (some gm0_0)), (Value.map (some gm0_1)), v0_2]), (oMapK Tryd.prog 47 gm0_0 (fun x : A8u8 => ag (cA8u8 x)) (fun x : S_api_Blob => ag [(int .i64 x.Kind), (str x.Bytes)]) a0.heap), (oMapK Tryd.prog 47 gm0_1 (fun x : A8u8 => ag (cA8u8 x)) (fun x : Bool => bool x) a0.seen), (oRow v0_2 34 tyS_api_Blob a0.out)] [(oMapK Tryd.prog 47 gm0_0 (fun x : A8u8 => ag (cA8u8 x)) (fun x : S_api_Blob => ag [(int .i64 x.Kind), (str x.Bytes)]) j9xm0_0), (oMapK Tryd.prog 47 gm0_1 (fun x : A8u8 => ag (cA8u8 x)) (fun x : Bool => bool x) j9xm0_1), (oRow j9v0_2 34 tyS_api_Blob j9x0_2), (oBox bx0 82 [(Value.map (some gm0_0)), (Value.map (some gm0_1)), j9v0_2]), (oBox g3 34 [(int .i64 ((gget a0.heap a1).getD (S_api_Blob.mk (0 : Int) ([] : (List UInt8)))).Kind), (str ((gget a0.heap a1).getD (S_api_Blob.mk (0 : Int) ([] : (List UInt8)))).Bytes)])] [uTabs]) X_ Y_) (S := over (put (tab [(0, (ptr bx0 0)), (5, (ptr g3 0))]) 60 (ag [(int .i64 ((gget a0.heap a1).getD (S_api_Blob.mk (0 : Int) ([] : (List UInt8)))).Kind), (str ((gget a0.heap a1).getD (S_api_Blob.mk (0 : Int) ([] : (List UInt8)))).Bytes)])) F_) ?_
 refine al_buildSlice (τ := tyS_api_Blob) (e := 34) (k := 1) (sz := 0) (by_ := 0) (z := undef) (cs := [(int .i64 ((gget a0.heap a1).getD (S_api_Blob.mk (0 : Int) ([] : (List UInt8)))).Kind), (str ((gget a0.heap a1).getD (S_api_Blob.mk (0 : Int) ([] : (List UInt8)))).Bytes)]) (xs := [(S_api_Blob.mk (((gget a0.heap a1).getD (S_api_Blob.mk (0 : Int) ([] : (List UInt8)))).Kind) (((gget a0.heap a1).getD (S_api_Blob.mk (0 : Int) ([] : (List UInt8)))).Bytes))]) rfl (by decide) (fun w a hm hs => ⟨([(int .i64 ((gget a0.heap a1).getD (S_api_Blob.mk (0 : Int) ([] : (List UInt8)))).Kind), (str ((gget a0.heap a1).getD (S_api_Blob.mk (0 : Int) ([] : (List UInt8)))).Bytes)]).toArray, rfl, by simp only [List.map_toArray, List.map_cons, List.map_nil, hs.ev (x := .tmp 60) rfl]; exact run_bs [(ag [(int .i64 ((gget a0.heap a1).getD (S_api_Blob.mk (0 : Int) ([] : (List UInt8)))).Kind), (str ((gget a0.heap a1).getD (S_api_Blob.mk (0 : Int) ([] : (List UInt8)))).Bytes)])] [(int .i64 ((gget a0.heap a1).getD (S_api_Blob.mk (0 : Int) ([] : (List UInt8)))).Kind), (str ((gget a0.heap a1).getD (S_api_Blob.mk (0 : Int) ([] : (List UInt8)))).Bytes)] Tryd.underlying28 to34 rfl rfl (bs_cons (l := [(int .i64 ((gget a0.heap a1).getD (S_api_Blob.mk (0 : Int) ([] : (List UInt8)))).Kind), (str ((gget a0.heap a1).getD (S_api_Blob.mk (0 : Int) ([] : (List UInt8)))).Bytes)]) (cs := []) (cv_rfl rfl) rfl bs_nil) hm⟩) (fun hm => ⟨_, _, rfl, (fun _ => mkS_api_Blob rfl) hm, rfl⟩) rfl (fun v11 => ?_)
 refine al_nil ?_
 exact fr_fin hK_ v11⟩, trivial⟩ ?_
      intro _
      intro _
      intro _
      intro _
      intro _
      intro v11
      intro X_ Y_ F_ K_ hK_
      refine al_show (m := Mem.plus (memOf w0 Z0 [(oBox bx0 82 [(Value.map (some gm0_0)), (Value.map (some gm0_1)), v0_2]), (oMapK Tryd.prog 47 gm0_0 (fun x : A8u8 => ag (cA8u8 x)) (fun x : S_api_Blob => ag [(int .i64 x.Kind), (str x.Bytes)]) a0.heap), (oMapK Tryd.prog 47 gm0_1 (fun x : A8u8 => ag (cA8u8 x)) (fun x : Bool => bool x) a0.seen), (oRow v0_2 34 tyS_api_Blob a0.out)] [(oRow v11 34 tyS_api_Blob [(S_api_Blob.mk (((gget a0.heap a1).getD (S_api_Blob.mk (0 : Int) ([] : (List UInt8)))).Kind) (((gget a0.heap a1).getD (S_api_Blob.mk (0 : Int) ([] : (List UInt8)))).Bytes))]), (oMapK Tryd.prog 47 gm0_0 (fun x : A8u8 => ag (cA8u8 x)) (fun x : S_api_Blob => ag [(int .i64 x.Kind), (str x.Bytes)]) j9xm0_0), (oMapK Tryd.prog 47 gm0_1 (fun x : A8u8 => ag (cA8u8 x)) (fun x : Bool => bool x) j9xm0_1), (oRow j9v0_2 34 tyS_api_Blob j9x0_2), (oBox bx0 82 [(Value.map (some gm0_0)), (Value.map (some gm0_1)), j9v0_2]), (oBox g3 34 [(int .i64 ((gget a0.heap a1).getD (S_api_Blob.mk (0 : Int) ([] : (List UInt8)))).Kind), (str ((gget a0.heap a1).getD (S_api_Blob.mk (0 : Int) ([] : (List UInt8)))).Bytes)])] [uTabs]) X_ Y_) (S := over (put (put (put (put (put (put (tab [(0, (ptr bx0 0)), (5, (ptr g3 0))]) 56 (ptr bx0 0)) 57 (ptr bx0 0)) 58 (ptr bx0 2)) 59 j9v0_2) 60 (ag [(int .i64 ((gget a0.heap a1).getD (S_api_Blob.mk (0 : Int) ([] : (List UInt8)))).Kind), (str ((gget a0.heap a1).getD (S_api_Blob.mk (0 : Int) ([] : (List UInt8)))).Bytes)])) 61 v11) F_) ?_
      obtain ⟨hc12, h⟩ := req_some h
      refine al_append 3 hc12.1 hc12.2 rfl (src_own (i := 3) 0 rfl) rfl rfl Tryd.underlying28 to34 rfl rfl rfl (fun v13 => ?_)
      refine al_nil ?_
      refine aq_show (m := Mem.plus (memOf w0 Z0 [(oBox bx0 82 [(Value.map (some gm0_0)), (Value.map (some gm0_1)), v0_2]), (oMapK Tryd.prog 47 gm0_0 (fun x : A8u8 => ag (cA8u8 x)) (fun x : S_api_Blob => ag [(int .i64 x.Kind), (str x.Bytes)]) a0.heap), (oMapK Tryd.prog 47 gm0_1 (fun x : A8u8 => ag (cA8u8 x)) (fun x : Bool => bool x) a0.seen), (oRow v0_2 34 tyS_api_Blob a0.out)] [(oRow v11 34 tyS_api_Blob [(S_api_Blob.mk (((gget a0.heap a1).getD (S_api_Blob.mk (0 : Int) ([] : (List UInt8)))).Kind) (((gget a0.heap a1).getD (S_api_Blob.mk (0 : Int) ([] : (List UInt8)))).Bytes))]), (oMapK Tryd.prog 47 gm0_0 (fun x : A8u8 => ag (cA8u8 x)) (fun x : S_api_Blob => ag [(int .i64 x.Kind), (str x.Bytes)]) j9xm0_0), (oMapK Tryd.prog 47 gm0_1 (fun x : A8u8 => ag (cA8u8 x)) (fun x : Bool => bool x) j9xm0_1), (oRow v13 34 tyS_api_Blob (j9x0_2 ++ ([(S_api_Blob.mk (((gget a0.heap a1).getD (S_api_Blob.mk (0 : Int) ([] : (List UInt8)))).Kind) (((gget a0.heap a1).getD (S_api_Blob.mk (0 : Int) ([] : (List UInt8)))).Bytes))]))), (oBox bx0 82 [(Value.map (some gm0_0)), (Value.map (some gm0_1)), j9v0_2]), (oBox g3 34 [(int .i64 ((gget a0.heap a1).getD (S_api_Blob.mk (0 : Int) ([] : (List UInt8)))).Kind), (str ((gget a0.heap a1).getD (S_api_Blob.mk (0 : Int) ([] : (List UInt8)))).Bytes)])] [uTabs]) X_ Y_) ?_
      refine aq_next hK_ [0, 1, 2, 3, 4, 5] [0] [(0, (ptr bx0 0)), (62, v13)] [55] [⟨8, 63, Unit, fun _ => { val := (ptr bx0 0) }⟩, ⟨9, 64, Unit, fun _ => { val := (ptr bx0 2) }⟩] rfl rfl (by decide) rfl ⟨rfl, rfl, trivial⟩ ⟨rfl, trivial⟩ ?_
      clear hK_ K_ F_ X_ Y_
      refine ta_show (m := (memOf w0 Z0 [(oBox bx0 82 [(Value.map (some gm0_0)), (Value.map (some gm0_1)), v0_2]), (oMapK Tryd.prog 47 gm0_0 (fun x : A8u8 => ag (cA8u8 x)) (fun x : S_api_Blob => ag [(int .i64 x.Kind), (str x.Bytes)]) a0.heap), (oMapK Tryd.prog 47 gm0_1 (fun x : A8u8 => ag (cA8u8 x)) (fun x : Bool => bool x) a0.seen), (oRow v0_2 34 tyS_api_Blob a0.out)] [(oRow v11 34 tyS_api_Blob [(S_api_Blob.mk (((gget a0.heap a1).getD (S_api_Blob.mk (0 : Int) ([] : (List UInt8)))).Kind) (((gget a0.heap a1).getD (S_api_Blob.mk (0 : Int) ([] : (List UInt8)))).Bytes))]), (oMapK Tryd.prog 47 gm0_0 (fun x : A8u8 => ag (cA8u8 x)) (fun x : S_api_Blob => ag [(int .i64 x.Kind), (str x.Bytes)]) j9xm0_0), (oMapK Tryd.prog 47 gm0_1 (fun x : A8u8 => ag (cA8u8 x)) (fun x : Bool => bool x) j9xm0_1), (oRow v13 34 tyS_api_Blob (j9x0_2 ++ ([(S_api_Blob.mk (((gget a0.heap a1).getD (S_api_Blob.mk (0 : Int) ([] : (List UInt8)))).Kind) (((gget a0.heap a1).getD (S_api_Blob.mk (0 : Int) ([] : (List UInt8)))).Bytes))]))), (oBox bx0 82 [(Value.map (some gm0_0)), (Value.map (some gm0_1)), j9v0_2]), (oBox g3 34 [(int .i64 ((gget a0.heap a1).getD (S_api_Blob.mk (0 : Int) ([] : (List UInt8)))).Kind), (str ((gget a0.heap a1).getD (S_api_Blob.mk (0 : Int) ([] : (List UInt8)))).Bytes)])] [uTabs])) (S := (tab [(0, (ptr bx0 0)), (62, v13)])) ?_
      refine ta_step 10 _ [0, 8, 9] [55, 63, 64] [0, 8, 9] [] [⟨0, 55, Unit, fun _ => { val := (ptr bx0 0) }⟩, ⟨8, 63, Unit, fun _ => { val := (ptr bx0 0) }⟩, ⟨9, 64, Unit, fun _ => { val := (ptr bx0 2) }⟩] [] rfl rfl rfl (by kernel_rfl) rfl rfl rfl ⟨⟨_, rfl, [], rfl, by
 intro X_ Y_ F_ K_ hK_
 refine al_show (m := Mem.plus (memOf w0 Z0 [(oBox bx0 82 [(Value.map (some gm0_0)), (Value.map (some gm0_1)), v0_2]), (oMapK Tryd.prog 47 gm0_0 (fun x : A8u8 => ag (cA8u8 x)) (fun x : S_api_Blob => ag [(int .i64 x.Kind), (str x.Bytes)]) a0.heap), (oMapK Tryd.prog 47 gm0_1 (fun x : A8u8 => ag (cA8u8 x)) (fun x : Bool => bool x) a0.seen), (oRow v0_2 34 tyS_api_Blob a0.out)] [(oRow v11 34 tyS_api_Blob [(S_api_Blob.mk (((gget a0.heap a1).getD (S_api_Blob.mk (0 : Int) ([] : (List UInt8)))).Kind) (((gget a0.heap a1).getD (S_api_Blob.mk (0 : Int) ([] : (List UInt8)))).Bytes))]), (oMapK Tryd.prog 47 gm0_0 (fun x : A8u8 => ag (cA8u8 x)) (fun x : S_api_Blob => ag [(int .i64 x.Kind), (str x.Bytes)]) j9xm0_0), (oMapK Tryd.prog 47 gm0_1 (fun x : A8u8 => ag (cA8u8 x)) (fun x : Bool => bool x) j9xm0_1), (oRow v13 34 tyS_api_Blob (j9x0_2 ++ ([(S_api_Blob.mk (((gget a0.heap a1).getD (S_api_Blob.mk (0 : Int) ([] : (List UInt8)))).Kind) (((gget a0.heap a1).getD (S_api_Blob.mk (0 : Int) ([] : (List UInt8)))).Bytes))]))), (oBox bx0 82 [(Value.map (some gm0_0)), (Value.map (some gm0_1)), j9v0_2]), (oBox g3 34 [(int .i64 ((gget a0.heap a1).getD (S_api_Blob.mk (0 : Int) ([] : (List UInt8)))).Kind), (str ((gget a0.heap a1).getD (S_api_Blob.mk (0 : Int) ([] : (List UInt8)))).Bytes)])] [uTabs]) X_ Y_) (S := over (tab [(0, (ptr bx0 0)), (62, v13)]) F_) ?_
 refine al_mv rfl rfl ?_
 refine al_nil ?_
 exact fr_fin hK_ ()⟩, ⟨_, rfl, [0], rfl, by
 intro _
 intro X_ Y_ F_ K_ hK_
 refine al_show (m := Mem.plus (memOf w0 Z0 [(oBox bx0 82 [(Value.map (some gm0_0)), (Value.map (some gm0_1)), v0_2]), (oMapK Tryd.prog 47 gm0_0 (fun x : A8u8 => ag (cA8u8 x)) (fun x : S_api_Blob => ag [(int .i64 x.Kind), (str x.Bytes)]) a0.heap), (oMapK Tryd.prog 47 gm0_1 (fun x : A8u8 => ag (cA8u8 x)) (fun x : Bool => bool x) a0.seen), (oRow v0_2 34 tyS_api_Blob a0.out)] [(oRow v11 34 tyS_api_Blob [(S_api_Blob.mk (((gget a0.heap a1).getD (S_api_Blob.mk (0 : Int) ([] : (List UInt8)))).Kind) (((gget a0.heap a1).getD (S_api_Blob.mk (0 : Int) ([] : (List UInt8)))).Bytes))]), (oMapK Tryd.prog 47 gm0_0 (fun x : A8u8 => ag (cA8u8 x)) (fun x : S_api_Blob => ag [(int .i64 x.Kind), (str x.Bytes)]) j9xm0_0), (oMapK Tryd.prog 47 gm0_1 (fun x : A8u8 => ag (cA8u8 x)) (fun x : Bool => bool x) j9xm0_1), (oRow v13 34 tyS_api_Blob (j9x0_2 ++ ([(S_api_Blob.mk (((gget a0.heap a1).getD (S_api_Blob.mk (0 : Int) ([] : (List UInt8)))).Kind) (((gget a0.heap a1).getD (S_api_Blob.mk (0 : Int) ([] : (List UInt8)))).Bytes))]))), (oBox bx0 82 [(Value.map (some gm0_0)), (Value.map (some gm0_1)), j9v0_2]), (oBox g3 34 [(int .i64 ((gget a0.heap a1).getD (S_api_Blob.mk (0 : Int) ([] : (List UInt8)))).Kind), (str ((gget a0.heap a1).getD (S_api_Blob.mk (0 : Int) ([] : (List UInt8)))).Bytes)])] [uTabs]) X_ Y_) (S := over (put (tab [(0, (ptr bx0 0)), (62, v13)]) 55 (ptr bx0 0)) F_) ?_
 refine al_val (ov_nilCheck rfl rfl) ?_
 refine al_nil ?_
 exact fr_fin hK_ ()⟩, ⟨_, rfl, [0, 1], rfl, by
 intro _
 intro _
 intro X_ Y_ F_ K_ hK_
 refine al_show (m := Mem.plus (memOf w0 Z0 [(oBox bx0 82 [(Value.map (some gm0_0)), (Value.map (some gm0_1)), v0_2]), (oMapK Tryd.prog 47 gm0_0 (fun x : A8u8 => ag (cA8u8 x)) (fun x : S_api_Blob => ag [(int .i64 x.Kind), (str x.Bytes)]) a0.heap), (oMapK Tryd.prog 47 gm0_1 (fun x : A8u8 => ag (cA8u8 x)) (fun x : Bool => bool x) a0.seen), (oRow v0_2 34 tyS_api_Blob a0.out)] [(oRow v11 34 tyS_api_Blob [(S_api_Blob.mk (((gget a0.heap a1).getD (S_api_Blob.mk (0 : Int) ([] : (List UInt8)))).Kind) (((gget a0.heap a1).getD (S_api_Blob.mk (0 : Int) ([] : (List UInt8)))).Bytes))]), (oMapK Tryd.prog 47 gm0_0 (fun x : A8u8 => ag (cA8u8 x)) (fun x : S_api_Blob => ag [(int .i64 x.Kind), (str x.Bytes)]) j9xm0_0), (oMapK Tryd.prog 47 gm0_1 (fun x : A8u8 => ag (cA8u8 x)) (fun x : Bool => bool x) j9xm0_1), (oRow v13 34 tyS_api_Blob (j9x0_2 ++ ([(S_api_Blob.mk (((gget a0.heap a1).getD (S_api_Blob.mk (0 : Int) ([] : (List UInt8)))).Kind) (((gget a0.heap a1).getD (S_api_Blob.mk (0 : Int) ([] : (List UInt8)))).Bytes))]))), (oBox bx0 82 [(Value.map (some gm0_0)), (Value.map (some gm0_1)), j9v0_2]), (oBox g3 34 [(int .i64 ((gget a0.heap a1).getD (S_api_Blob.mk (0 : Int) ([] : (List UInt8)))).Kind), (str ((gget a0.heap a1).getD (S_api_Blob.mk (0 : Int) ([] : (List UInt8)))).Bytes)])] [uTabs]) X_ Y_) (S := over (put (put (tab [(0, (ptr bx0 0)), (62, v13)]) 55 (ptr bx0 0)) 63 (ptr bx0 0)) F_) ?_
 refine al_val (ov_fieldA (p := 2) rfl Tryd.underlying82 rfl sz28 rfl rfl rfl) ?_
 refine al_nil ?_
 exact fr_fin hK_ ()⟩, trivial⟩ ?_
      intro _
      intro _
      intro _
      intro X_ Y_ F_ K_ hK_
      refine al_show (m := Mem.plus (memOf w0 Z0 [(oBox bx0 82 [(Value.map (some gm0_0)), (Value.map (some gm0_1)), v0_2]), (oMapK Tryd.prog 47 gm0_0 (fun x : A8u8 => ag (cA8u8 x)) (fun x : S_api_Blob => ag [(int .i64 x.Kind), (str x.Bytes)]) a0.heap), (oMapK Tryd.prog 47 gm0_1 (fun x : A8u8 => ag (cA8u8 x)) (fun x : Bool => bool x) a0.seen), (oRow v0_2 34 tyS_api_Blob a0.out)] [(oRow v11 34 tyS_api_Blob [(S_api_Blob.mk (((gget a0.heap a1).getD (S_api_Blob.mk (0 : Int) ([] : (List UInt8)))).Kind) (((gget a0.heap a1).getD (S_api_Blob.mk (0 : Int) ([] : (List UInt8)))).Bytes))]), (oMapK Tryd.prog 47 gm0_0 (fun x : A8u8 => ag (cA8u8 x)) (fun x : S_api_Blob => ag [(int .i64 x.Kind), (str x.Bytes)]) j9xm0_0), (oMapK Tryd.prog 47 gm0_1 (fun x : A8u8 => ag (cA8u8 x)) (fun x : Bool => bool x) j9xm0_1), (oRow v13 34 tyS_api_Blob (j9x0_2 ++ ([(S_api_Blob.mk (((gget a0.heap a1).getD (S_api_Blob.mk (0 : Int) ([] : (List UInt8)))).Kind) (((gget a0.heap a1).getD (S_api_Blob.mk (0 : Int) ([] : (List UInt8)))).Bytes))]))), (oBox bx0 82 [(Value.map (some gm0_0)), (Value.map (some gm0_1)), j9v0_2]), (oBox g3 34 [(int .i64 ((gget a0.heap a1).getD (S_api_Blob.mk (0 : Int) ([] : (List UInt8)))).Kind), (str ((gget a0.heap a1).getD (S_api_Blob.mk (0 : Int) ([] : (List UInt8)))).Bytes)])] [uTabs]) X_ Y_) (S := over (put (put (put (tab [(0, (ptr bx0 0)), (62, v13)]) 55 (ptr bx0 0)) 63 (ptr bx0 0)) 64 (ptr bx0 2)) F_) ?_
      refine al_store (i := 4) (vs := [v13]) (cs' := [(Value.map (some gm0_0)), (Value.map (some gm0_1)), v13]) rfl rfl rfl sz28 (cv_own 3 rfl) rfl (co_own 3 rfl co_nil) (Nat.le_of_ble_eq_true rfl) rfl rfl ?_
      refine al_nil ?_
      refine aq_show (m := Mem.plus (memOf w0 Z0 [(oBox bx0 82 [(Value.map (some gm0_0)), (Value.map (some gm0_1)), v0_2]), (oMapK Tryd.prog 47 gm0_0 (fun x : A8u8 => ag (cA8u8 x)) (fun x : S_api_Blob => ag [(int .i64 x.Kind), (str x.Bytes)]) a0.heap), (oMapK Tryd.prog 47 gm0_1 (fun x : A8u8 => ag (cA8u8 x)) (fun x : Bool => bool x) a0.seen), (oRow v0_2 34 tyS_api_Blob a0.out)] [(oRow v11 34 tyS_api_Blob [(S_api_Blob.mk (((gget a0.heap a1).getD (S_api_Blob.mk (0 : Int) ([] : (List UInt8)))).Kind) (((gget a0.heap a1).getD (S_api_Blob.mk (0 : Int) ([] : (List UInt8)))).Bytes))]), (oMapK Tryd.prog 47 gm0_0 (fun x : A8u8 => ag (cA8u8 x)) (fun x : S_api_Blob => ag [(int .i64 x.Kind), (str x.Bytes)]) j9xm0_0), (oMapK Tryd.prog 47 gm0_1 (fun x : A8u8 => ag (cA8u8 x)) (fun x : Bool => bool x) j9xm0_1), (oRow v13 34 tyS_api_Blob (j9x0_2 ++ ([(S_api_Blob.mk (((gget a0.heap a1).getD (S_api_Blob.mk (0 : Int) ([] : (List UInt8)))).Kind) (((gget a0.heap a1).getD (S_api_Blob.mk (0 : Int) ([] : (List UInt8)))).Bytes))]))), (oBox bx0 82 [(Value.map (some gm0_0)), (Value.map (some gm0_1)), v13]), (oBox g3 34 [(int .i64 ((gget a0.heap a1).getD (S_api_Blob.mk (0 : Int) ([] : (List UInt8)))).Kind), (str ((gget a0.heap a1).getD (S_api_Blob.mk (0 : Int) ([] : (List UInt8)))).Bytes)])] [uTabs]) X_ Y_) ?_
      refine aq_next hK_ [0, 1, 2, 3, 4, 5] [0] [(0, (ptr bx0 0))] [] [] rfl rfl (by decide) rfl ⟨rfl, trivial⟩ trivial ?_
      clear hK_ K_ F_ X_ Y_
      refine ta_show (m := (memOf w0 Z0 [(oBox bx0 82 [(Value.map (some gm0_0)), (Value.map (some gm0_1)), v0_2]), (oMapK Tryd.prog 47 gm0_0 (fun x : A8u8 => ag (cA8u8 x)) (fun x : S_api_Blob => ag [(int .i64 x.Kind), (str x.Bytes)]) a0.heap), (oMapK Tryd.prog 47 gm0_1 (fun x : A8u8 => ag (cA8u8 x)) (fun x : Bool => bool x) a0.seen), (oRow v0_2 34 tyS_api_Blob a0.out)] [(oRow v11 34 tyS_api_Blob [(S_api_Blob.mk (((gget a0.heap a1).getD (S_api_Blob.mk (0 : Int) ([] : (List UInt8)))).Kind) (((gget a0.heap a1).getD (S_api_Blob.mk (0 : Int) ([] : (List UInt8)))).Bytes))]), (oMapK Tryd.prog 47 gm0_0 (fun x : A8u8 => ag (cA8u8 x)) (fun x : S_api_Blob => ag [(int .i64 x.Kind), (str x.Bytes)]) j9xm0_0), (oMapK Tryd.prog 47 gm0_1 (fun x : A8u8 => ag (cA8u8 x)) (fun x : Bool => bool x) j9xm0_1), (oRow v13 34 tyS_api_Blob (j9x0_2 ++ ([(S_api_Blob.mk (((gget a0.heap a1).getD (S_api_Blob.mk (0 : Int) ([] : (List UInt8)))).Kind) (((gget a0.heap a1).getD (S_api_Blob.mk (0 : Int) ([] : (List UInt8)))).Bytes))]))), (oBox bx0 82 [(Value.map (some gm0_0)), (Value.map (some gm0_1)), v13]), (oBox g3 34 [(int .i64 ((gget a0.heap a1).getD (S_api_Blob.mk (0 : Int) ([] : (List UInt8)))).Kind), (str ((gget a0.heap a1).getD (S_api_Blob.mk (0 : Int) ([] : (List UInt8)))).Bytes)])] [uTabs])) (S := (tab [(0, (ptr bx0 0))])) ?_
      refine ta_end [] [] rfl rfl (by kernel_rfl) rfl trivial ?_
      refine aq_show (m := (memOf w0 Z0 [(oBox bx0 82 [(Value.map (some gm0_0)), (Value.map (some gm0_1)), v0_2]), (oMapK Tryd.prog 47 gm0_0 (fun x : A8u8 => ag (cA8u8 x)) (fun x : S_api_Blob => ag [(int .i64 x.Kind), (str x.Bytes)]) a0.heap), (oMapK Tryd.prog 47 gm0_1 (fun x : A8u8 => ag (cA8u8 x)) (fun x : Bool => bool x) a0.seen), (oRow v0_2 34 tyS_api_Blob a0.out)] [(oRow v11 34 tyS_api_Blob [(S_api_Blob.mk (((gget a0.heap a1).getD (S_api_Blob.mk (0 : Int) ([] : (List UInt8)))).Kind) (((gget a0.heap a1).getD (S_api_Blob.mk (0 : Int) ([] : (List UInt8)))).Bytes))]), (oMapK Tryd.prog 47 gm0_0 (fun x : A8u8 => ag (cA8u8 x)) (fun x : S_api_Blob => ag [(int .i64 x.Kind), (str x.Bytes)]) j9xm0_0), (oMapK Tryd.prog 47 gm0_1 (fun x : A8u8 => ag (cA8u8 x)) (fun x : Bool => bool x) j9xm0_1), (oRow v13 34 tyS_api_Blob (j9x0_2 ++ ([(S_api_Blob.mk (((gget a0.heap a1).getD (S_api_Blob.mk (0 : Int) ([] : (List UInt8)))).Kind) (((gget a0.heap a1).getD (S_api_Blob.mk (0 : Int) ([] : (List UInt8)))).Bytes))]))), (oBox bx0 82 [(Value.map (some gm0_0)), (Value.map (some gm0_1)), v13]), (oBox g3 34 [(int .i64 ((gget a0.heap a1).getD (S_api_Blob.mk (0 : Int) ([] : (List UInt8)))).Kind), (str ((gget a0.heap a1).getD (S_api_Blob.mk (0 : Int) ([] : (List UInt8)))).Bytes)])] [uTabs])) (S := (tab [(0, (ptr bx0 0))])) ?_
      refine aq_tr ?_
      refine al_as rfl rfl ?_
      refine al_nt ?_
      refine aw_ret ?_
      obtain rfl := Option.some.inj h
      exact fn_ret v13 [4, 1, 2, 3] [] rfl rfl rfl rfl (res1 rfl rfl) rfl rfl rfl (by decide)
     ·clear hkk10
      refine aw_sr ?_
      refine al_mv rfl rfl ?_
      refine al_val (ov_lenR 0 rfl rfl Tryd.underlying27 rfl) ?_
      refine al_mv rfl rfl ?_
      refine al_nt ?_
      refine aw_block ?_
      refine aw_state (aw_loop (ι := (List (A8u8 × S_api_Blob)) × (List (A8u8 × Bool)) × Value × (List S_api_Blob) × Int) (fun i => (memOf w0 Z0 [(oBox bx0 82 [(Value.map (some gm0_0)), (Value.map (some gm0_1)), v0_2]), (oMapK Tryd.prog 47 gm0_0 (fun x : A8u8 => ag (cA8u8 x)) (fun x : S_api_Blob => ag [(int .i64 x.Kind), (str x.Bytes)]) a0.heap), (oMapK Tryd.prog 47 gm0_1 (fun x : A8u8 => ag (cA8u8 x)) (fun x : Bool => bool x) a0.seen), (oRow v0_2 34 tyS_api_Blob a0.out)] [(oMapK Tryd.prog 47 gm0_0 (fun x : A8u8 => ag (cA8u8 x)) (fun x : S_api_Blob => ag [(int .i64 x.Kind), (str x.Bytes)]) i.1), (oMapK Tryd.prog 47 gm0_1 (fun x : A8u8 => ag (cA8u8 x)) (fun x : Bool => bool x) i.2.1), (oRow i.2.2.1 34 tyS_api_Blob i.2.2.2.1), (oBox bx0 82 [(Value.map (some gm0_0)), (Value.map (some gm0_1)), i.2.2.1]), (oBox g3 34 [(int .i64 ((gget a0.heap a1).getD (S_api_Blob.mk (0 : Int) ([] : (List UInt8)))).Kind), (str ((gget a0.heap a1).getD (S_api_Blob.mk (0 : Int) ([] : (List UInt8)))).Bytes)]), (oRow v7 47 tyA8u8 r6.1)] [uTabs])) (fun i => (tab [(0, (ptr bx0 0)), (5, (ptr g3 0)), (42, v7), (43, (int .i64 (r6.1.length : Int))), (44, (int .i64 i.2.2.2.2))])) (fun q i => f___fetch_planner__visit_L16 (f___fetch_planner__visit fu) r6 kk10 q i.1 i.2.1 i.2.2.2.1 i.2.2.2.2 = some r) ?_ fu (a0.heap, (gset a0.seen a1 true), v0_2, a0.out, (0 : Int)) h) (fun w a hm hs => norm hm hs [4, 5, 6, 3, 1, 0] [0] [(0, (ptr bx0 0)), (5, (ptr g3 0)), (42, v7), (43, (int .i64 (r6.1.length : Int))), (44, (int .i64 (0 : Int)))] (by decide) ⟨rfl, rfl, rfl, rfl, rfl, trivial⟩)
      clear h
      rintro k15 ⟨l14xm0_0, l14xm0_1, l14v0_2, l14x0_2, l14i44⟩ h
      have h : f___fetch_planner__visit_L16 (f___fetch_planner__visit fu) r6 kk10 k15 l14xm0_0 l14xm0_1 l14x0_2 l14i44 = some r := h
      obtain _ | k15 := k15
      · rw [f___fetch_planner__visit_L16] at h; cases h
      rw [f___fetch_planner__visit_L16] at h
      refine aw_show (m := (memOf w0 Z0 [(oBox bx0 82 [(Value.map (some gm0_0)), (Value.map (some gm0_1)), v0_2]), (oMapK Tryd.prog 47 gm0_0 (fun x : A8u8 => ag (cA8u8 x)) (fun x : S_api_Blob => ag [(int .i64 x.Kind), (str x.Bytes)]) a0.heap), (oMapK Tryd.prog 47 gm0_1 (fun x : A8u8 => ag (cA8u8 x)) (fun x : Bool => bool x) a0.seen), (oRow v0_2 34 tyS_api_Blob a0.out)] [(oMapK Tryd.prog 47 gm0_0 (fun x : A8u8 => ag (cA8u8 x)) (fun x : S_api_Blob => ag [(int .i64 x.Kind), (str x.Bytes)]) l14xm0_0), (oMapK Tryd.prog 47 gm0_1 (fun x : A8u8 => ag (cA8u8 x)) (fun x : Bool => bool x) l14xm0_1), (oRow l14v0_2 34 tyS_api_Blob l14x0_2), (oBox bx0 82 [(Value.map (some gm0_0)), (Value.map (some gm0_1)), l14v0_2]), (oBox g3 34 [(int .i64 ((gget a0.heap a1).getD (S_api_Blob.mk (0 : Int) ([] : (List UInt8)))).Kind), (str ((gget a0.heap a1).getD (S_api_Blob.mk (0 : Int) ([] : (List UInt8)))).Bytes)]), (oRow v7 47 tyA8u8 r6.1)] [uTabs])) (S := (tab [(0, (ptr bx0 0)), (5, (ptr g3 0)), (42, v7), (43, (int .i64 (r6.1.length : Int))), (44, (int .i64 l14i44))])) ?_
      refine aw_sr ?_
      refine al_in rfl rfl rfl rfl ?_
      refine al_nt ?_
      refine aw_seq ?_
      refine aw_cond rfl (fun hb17 => ?_) (fun hb17 => ?_)
      ·replace h := bif_t hb17 h
       refine aw_skip ?_
       refine aq_then ?_
       refine aw_seq ?_
       refine aw_block ?_
       refine aw_sr ?_
       obtain ⟨u18, hu19, h⟩ := opt_some h
       refine al_idxR 5 (at_some hu19).1 (at_some hu19).2.1 rfl rfl rfl Tryd.underlying27 sz47 rfl (fun p20 hp21 => ?_)
       refine al_val (ov_loadR (ds := (cA8u8 u18)) 5 rfl hp21 (at_some hu19).2.2 encA8u8 rfl Tryd.underlying47 sz47 rfl rfl rfl) ?_
       refine al_alloc (zs := (cA8u8 (A8u8.mk (0 : UInt8) (0 : UInt8) (0 : UInt8) (0 : UInt8) (0 : UInt8) (0 : UInt8) (0 : UInt8) (0 : UInt8)))) (zeroOf_to to47) rfl rfl (fun g22 => ?_)
       refine al_store (i := 0) (vs := (cA8u8 u18)) (cs' := (cA8u8 u18)) rfl rfl rfl sz47 (cv_rfl rfl) rfl (co_all (oneA8u8 u18)) (Nat.le_of_ble_eq_true rfl) rfl rfl ?_
       refine al_nt ?_
       refine aw_sr ?_
       refine al_mv rfl rfl ?_
       refine al_val (ov_load (i := 0) (v := (ag (cA8u8 u18))) rfl rfl Tryd.underlying47 sz47 rfl rfl rfl rfl) ?_
       obtain ⟨r24, hc23, h⟩ := opt_some h
       refine al_call (vs := [(ptr bx0 0), (ag (cA8u8 u18))]) (f___fetch_planner__visit_ok fu bx0 gm0_0 gm0_1 l14v0_2 (D_fetch_planner.mk l14xm0_0 l14xm0_1 l14x0_2) u18 hc23) [] [4, 1, 2, 3] [0, 5, 6] (pre_fz 0 rfl pre_nil) rfl (by simp) (by decide) (.inl rfl) rfl Tryd.func44 rfl rfl rfl (fun v25 => ?_)
       refine al_as rfl rfl ?_
       refine al_nt ?_
       refine aw_sr ?_
       refine al_mv rfl rfl ?_
       refine al_in rfl rfl rfl rfl ?_
       refine al_nt ?_
       refine aw_cond rfl (fun hb26 => ?_) (fun hb26 => ?_)
       ·replace h := bif_t hb26 h
        refine aw_sr ?_
        refine al_mv rfl rfl ?_
        refine al_as rfl rfl ?_
        refine al_nt ?_
        refine aw_ret ?_
        refine aq_block_ret ?_
        refine aq_then_ret ?_
        refine aq_then_ret ?_
        refine aq_block_ret ?_
        refine aq_then_ret ?_
        obtain rfl := Option.some.inj h
        exact fn_ret v25 [0, 1, 2, 3] [] rfl rfl rfl rfl (res1 rfl rfl) rfl rfl rfl (by decide)
       ·replace h := bif_f hb26 h
        refine aw_skip ?_
        refine aq_block ?_
        refine aq_then ?_
        refine aw_region ?_
        refine al_in rfl rfl rfl rfl ?_
        refine al_mv rfl rfl ?_
        refine al_nil ?_
        exact aq_again k15 (r24.2.heap, r24.2.seen, v25, r24.2.out, (IntKind.i64.wrap (l14i44 + (1 : Int)))) (Nat.lt_succ_self _) h (fun w a hm hs => norm hm hs [1, 2, 3, 0, 5, 6] [0] [(0, (ptr bx0 0)), (5, (ptr g3 0)), (42, v7), (43, (int .i64 (r6.1.length : Int))), (44, (int .i64 (IntKind.i64.wrap (l14i44 + (1 : Int)))))] (by decide) ⟨rfl, rfl, rfl, rfl, rfl, trivial⟩)
      ·replace h := bif_f hb17 h
       refine aw_exit ?_
       refine aq_then_exit ?_
       refine aq_then_exit ?_
       refine aq_block_exit ?_
       exact aq_join (l14xm0_0, l14xm0_1, l14v0_2, l14x0_2) h (fun w a hm hs => norm hm hs [0, 1, 2, 3, 4] [0] [(0, (ptr bx0 0)), (5, (ptr g3 0))] (by decide) ⟨rfl, rfl, trivial⟩)
def f_fetch_Plan_L20 (a2 : (List A8u8)) (kk17 : ((List (A8u8 × S_api_Blob)) → (List (A8u8 × Bool)) → (List S_api_Blob) → Option ((List S_api_Blob) × Int))) (fu : Nat) : Nat → (List (A8u8 × S_api_Blob)) → (List (A8u8 × Bool)) → (List S_api_Blob) → Int → Option ((List S_api_Blob) × Int)
  | 0, _, _, _, _ => none
  | k19 + 1, l18xm10_0, l18xm10_1, l18x10_2, l18i50 => (bif (decide (l18i50 < (a2.length : Int))) then (opt (at? a2 l18i50) fun (u22 : A8u8) => (opt (f___fetch_planner__visit fu (D_fetch_planner.mk l18xm10_0 l18xm10_1 l18x10_2) u22) fun (r27 : (Int × D_fetch_planner)) => (bif (r27.1 != (0 : Int)) then (some (([] : List S_api_Blob), r27.1)) else (f_fetch_Plan_L20 a2 kk17 fu k19 r27.2.heap r27.2.seen r27.2.out (IntKind.i64.wrap (l18i50 + (1 : Int))))))) else (kk17 l18xm10_0 l18xm10_1 l18x10_2))
def f_fetch_Plan_L32 (a0 : (List A8u8)) (kk15 : ((List (A8u8 × Bool)) → Option ((List S_api_Blob) × Int))) : Nat → (List (A8u8 × Bool)) → Int → Option ((List S_api_Blob) × Int)
  | 0, _, _ => none
  | k31 + 1, l30xm10_1, l30i38 => (bif (decide (l30i38 < (a0.length : Int))) then (opt (at? a0 l30i38) fun (u34 : A8u8) => (f_fetch_Plan_L32 a0 kk15 k31 (gset l30xm10_1 u34 true) (IntKind.i64.wrap (l30i38 + (1 : Int))))) else (kk15 l30xm10_1))
def f_fetch_Plan (fu : Nat) (a0 : (List A8u8)) (a1 : (List S_api_Blob)) (a2 : (List A8u8)) : Option ((List S_api_Blob) × Int) := (lt (fun (j1b23 : Bool) => (bif j1b23 then (some (([] : List S_api_Blob), (2 : Int))) else (opt (f_walk_Heap fu a1) fun (r5 : ((Option (List (A8u8 × S_api_Blob))) × Int)) => (bif (r5.2 != (0 : Int)) then (some (([] : List S_api_Blob), r5.2)) else (opt r5.1 fun (lm9 : (List (A8u8 × S_api_Blob))) => (lt (fun (j14xm10_1 : (List (A8u8 × Bool))) => (lt (fun (j16xm10_0 : (List (A8u8 × S_api_Blob))) (j16xm10_1 : (List (A8u8 × Bool))) (j16x10_2 : (List S_api_Blob)) => (some (j16x10_2, (0 : Int)))) fun (kk17 : (List (A8u8 × S_api_Blob)) → (List (A8u8 × Bool)) → (List S_api_Blob) → Option ((List S_api_Blob) × Int)) => (f_fetch_Plan_L20 a2 kk17 fu fu lm9 j14xm10_1 ([] : List S_api_Blob) (0 : Int)))) fun (kk15 : (List (A8u8 × Bool)) → Option ((List S_api_Blob) × Int)) => (f_fetch_Plan_L32 a0 kk15 fu ([] : List (A8u8 × Bool)) (0 : Int)))))))) fun (kk2 : Bool → Option ((List S_api_Blob) × Int)) => (bif (decide ((a0.length : Int) > (1000 : Int))) then (kk2 true) else (kk2 (decide ((a2.length : Int) > (64 : Int))))))
set_option maxRecDepth 100000 in
set_option maxHeartbeats 2000000 in
theorem f_fetch_Plan_ok (fu : Nat) (v0_0 : Value) (a0 : (List A8u8)) (v1_0 : Value) (a1 : (List S_api_Blob)) (v2_0 : Value) (a2 : (List A8u8)) {r : ((List S_api_Blob) × Int)} (h : f_fetch_Plan fu a0 a1 a2 = some r) : FnOk Tryd.prog 12 [v0_0, v1_0, v2_0] [(fDat (tyList tyA8u8) [v0_0] a0), (fDat (tyList tyS_api_Blob) [v1_0] a1), (fDat (tyList tyA8u8) [v2_0] a2), uTabs] [] (fun (i : Value) => { val := (Value.tuple #[i, (int .i64 r.2)]), own := [(oRow i 34 tyS_api_Blob r.1)] }) := by
 unfold f_fetch_Plan at h
 refine fn_enter Tryd.func12 rfl Tryd.ntmps12 rfl (fun w0 Z0 => ?_)
 refine aw_sr ?_
 refine al_as rfl rfl ?_
 refine al_as rfl rfl ?_
 refine al_nt ?_
 refine aw_seq ?_
 obtain ⟨kk2, hkk2, h⟩ := lt_some h
 refine aw_seq_join (ι := Bool) (fun i => (memOf w0 Z0 [] [] [(fDat (tyList tyA8u8) [v0_0] a0), (fDat (tyList tyS_api_Blob) [v1_0] a1), (fDat (tyList tyA8u8) [v2_0] a2), uTabs])) (fun i => (tab [(0, v0_0), (1, v1_0), (2, v2_0), (23, (bool i))])) (fun i => kk2 i = some r) ?_ ?_
 ·rintro j1b23 h
  have h : kk2 j1b23 = some r := h
  rw [hkk2] at h
  dsimp only at h
  clear hkk2
  refine aw_show (m := (memOf w0 Z0 [] [] [(fDat (tyList tyA8u8) [v0_0] a0), (fDat (tyList tyS_api_Blob) [v1_0] a1), (fDat (tyList tyA8u8) [v2_0] a2), uTabs])) (S := (tab [(0, v0_0), (1, v1_0), (2, v2_0), (23, (bool j1b23))])) ?_
  refine aw_cond rfl (fun hb3 => ?_) (fun hb3 => ?_)
  ·replace h := bif_t hb3 h
   refine aw_sr ?_
   refine al_as rfl rfl ?_
   refine al_as rfl rfl ?_
   refine al_nt ?_
   refine aw_ret ?_
   refine aq_then_ret ?_
   refine aq_nilR 34 tyS_api_Blob ?_
   obtain rfl := Option.some.inj h
   exact fn_ret (Value.slice none 0 0) [0] [] rfl rfl rfl rfl (res2 rfl rfl rfl) rfl rfl rfl (by decide)
  ·replace h := bif_f hb3 h
   refine aw_skip ?_
   refine aq_tr ?_
   refine al_mv rfl rfl ?_
   obtain ⟨r5, hc4, h⟩ := opt_some h
   refine al_call (vs := [v1_0]) (f_walk_Heap_ok fu v1_0 a1 hc4) [] [] [] (pre_fz 1 rfl pre_nil) rfl (by simp) (by decide) (.inl rfl) rfl Tryd.func43 rfl rfl rfl (fun v6 => ?_)
   refine al_mv rfl rfl ?_
   refine al_ex rfl rfl rfl ?_
   refine al_ex rfl rfl rfl ?_
   refine al_as rfl rfl ?_
   refine al_as rfl rfl ?_
   refine al_nt ?_
   refine aw_seq ?_
   refine aw_sr ?_
   refine al_mv rfl rfl ?_
   refine al_in rfl rfl rfl rfl ?_
   refine al_nt ?_
   refine aw_cond rfl (fun hb7 => ?_) (fun hb7 => ?_)
   ·replace h := bif_t hb7 h
    refine aw_sr ?_
    refine al_mv rfl rfl ?_
    refine al_as rfl rfl ?_
    refine al_as rfl rfl ?_
    refine al_nt ?_
    refine aw_ret ?_
    refine aq_then_ret ?_
    refine aq_nilR 34 tyS_api_Blob ?_
    obtain rfl := Option.some.inj h
    exact fn_ret (Value.slice none 0 0) [0] [] rfl rfl rfl rfl (res2 rfl rfl rfl) rfl rfl rfl (by decide)
   ·replace h := bif_f hb7 h
    refine aw_skip ?_
    refine aq_tr ?_
    refine al_mv rfl rfl ?_
    refine al_makeMapK (ν := Bool) 47 (fun x : A8u8 => ag (cA8u8 x)) (fun x : Bool => bool x) rfl (fun g8 => ?_)
    obtain ⟨lm9, hc10, h⟩ := opt_some h
    refine al_mapIs 1 rfl hc10 (fun g11 hv12 => ?_)
    subst hv12
    refine al_val (ov_build (cells := ([(Value.map (some g11)), (Value.map (some g8)), (Value.slice none 0 0)]).toArray) (cs := [(Value.map (some g11)), (Value.map (some g8)), (Value.slice none 0 0)]) rfl (fun w a hm hs => by simp only [List.map_toArray, List.map_cons, List.map_nil, List.toList_toArray, hs.ev (x := .tmp 32) rfl, hs.ev (x := .tmp 33) rfl]; kernel_rfl)) ?_
    refine al_box (vs := [(Value.map (some g11)), (Value.map (some g8)), (Value.slice none 0 0)]) rfl (cv_rfl rfl) rfl (fun g13 => ?_)
    refine al_as rfl rfl ?_
    refine al_nt ?_
    obtain ⟨kk15, hkk15, h⟩ := lt_some h
    refine aw_seq_join (ι := (List (A8u8 × Bool))) (fun i => (memOf w0 Z0 [] [(oMapK Tryd.prog 47 g11 (fun x : A8u8 => ag (cA8u8 x)) (fun x : S_api_Blob => ag [(int .i64 x.Kind), (str x.Bytes)]) lm9), (oMapK Tryd.prog 47 g8 (fun x : A8u8 => ag (cA8u8 x)) (fun x : Bool => bool x) i), (oBox g13 82 [(Value.map (some g11)), (Value.map (some g8)), (Value.slice none 0 0)])] [(fDat (tyList tyA8u8) [v2_0] a2), (fDat (tyList tyA8u8) [v0_0] a0), (fDat (tyList tyS_api_Blob) [v1_0] a1), uTabs])) (fun i => (tab [(2, v2_0), (10, (ptr g13 0))])) (fun i => kk15 i = some r) ?_ ?_
    ·rintro j14xm10_1 h
     have h : kk15 j14xm10_1 = some r := h
     rw [hkk15] at h
     dsimp only at h
     clear hkk15
     refine aw_show (m := (memOf w0 Z0 [] [(oMapK Tryd.prog 47 g11 (fun x : A8u8 => ag (cA8u8 x)) (fun x : S_api_Blob => ag [(int .i64 x.Kind), (str x.Bytes)]) lm9), (oMapK Tryd.prog 47 g8 (fun x : A8u8 => ag (cA8u8 x)) (fun x : Bool => bool x) j14xm10_1), (oBox g13 82 [(Value.map (some g11)), (Value.map (some g8)), (Value.slice none 0 0)])] [(fDat (tyList tyA8u8) [v2_0] a2), (fDat (tyList tyA8u8) [v0_0] a0), (fDat (tyList tyS_api_Blob) [v1_0] a1), uTabs])) (S := (tab [(2, v2_0), (10, (ptr g13 0))])) ?_
     obtain ⟨kk17, hkk17, h⟩ := lt_some h
     refine aw_seq_join (ι := (List (A8u8 × S_api_Blob)) × (List (A8u8 × Bool)) × Value × (List S_api_Blob)) (fun i => (memOf w0 Z0 [] [(oMapK Tryd.prog 47 g11 (fun x : A8u8 => ag (cA8u8 x)) (fun x : S_api_Blob => ag [(int .i64 x.Kind), (str x.Bytes)]) i.1), (oMapK Tryd.prog 47 g8 (fun x : A8u8 => ag (cA8u8 x)) (fun x : Bool => bool x) i.2.1), (oRow i.2.2.1 34 tyS_api_Blob i.2.2.2), (oBox g13 82 [(Value.map (some g11)), (Value.map (some g8)), i.2.2.1])] [(fDat (tyList tyA8u8) [v2_0] a2), (fDat (tyList tyA8u8) [v0_0] a0), (fDat (tyList tyS_api_Blob) [v1_0] a1), uTabs])) (fun i => (tab [(10, (ptr g13 0))])) (fun i => kk17 i.1 i.2.1 i.2.2.2 = some r) ?_ ?_
     ·rintro ⟨j16xm10_0, j16xm10_1, j16v10_2, j16x10_2⟩ h
      have h : kk17 j16xm10_0 j16xm10_1 j16x10_2 = some r := h
      rw [hkk17] at h
      dsimp only at h
      clear hkk17
      refine aw_show (m := (memOf w0 Z0 [] [(oMapK Tryd.prog 47 g11 (fun x : A8u8 => ag (cA8u8 x)) (fun x : S_api_Blob => ag [(int .i64 x.Kind), (str x.Bytes)]) j16xm10_0), (oMapK Tryd.prog 47 g8 (fun x : A8u8 => ag (cA8u8 x)) (fun x : Bool => bool x) j16xm10_1), (oRow j16v10_2 34 tyS_api_Blob j16x10_2), (oBox g13 82 [(Value.map (some g11)), (Value.map (some g8)), j16v10_2])] [(fDat (tyList tyA8u8) [v2_0] a2), (fDat (tyList tyA8u8) [v0_0] a0), (fDat (tyList tyS_api_Blob) [v1_0] a1), uTabs])) (S := (tab [(10, (ptr g13 0))])) ?_
      refine aw_sr ?_
      refine al_mv rfl rfl ?_
      refine al_val (ov_nilCheck rfl rfl) ?_
      refine al_val (ov_fieldA (p := 2) rfl Tryd.underlying82 rfl sz28 rfl rfl rfl) ?_
      refine al_val (ov_load (i := 3) (v := j16v10_2) rfl rfl Tryd.underlying28 sz28 rfl rfl rfl rfl) ?_
      refine al_as rfl rfl ?_
      refine al_as rfl rfl ?_
      refine al_nt ?_
      refine aw_ret ?_
      obtain rfl := Option.some.inj h
      exact fn_ret j16v10_2 [2] [] rfl rfl rfl rfl (res2 rfl rfl rfl) rfl rfl rfl (by decide)
     ·clear hkk17
      refine aw_sr ?_
      refine al_mv rfl rfl ?_
      refine al_val (ov_lenD 0 rfl rfl Tryd.underlying27 rfl) ?_
      refine al_mv rfl rfl ?_
      refine al_nt ?_
      refine aw_block ?_
      refine aw_nilR 34 tyS_api_Blob ?_
      refine aw_state (aw_loop (ι := (List (A8u8 × S_api_Blob)) × (List (A8u8 × Bool)) × Value × (List S_api_Blob) × Int) (fun i => (memOf w0 Z0 [] [(oMapK Tryd.prog 47 g11 (fun x : A8u8 => ag (cA8u8 x)) (fun x : S_api_Blob => ag [(int .i64 x.Kind), (str x.Bytes)]) i.1), (oMapK Tryd.prog 47 g8 (fun x : A8u8 => ag (cA8u8 x)) (fun x : Bool => bool x) i.2.1), (oRow i.2.2.1 34 tyS_api_Blob i.2.2.2.1), (oBox g13 82 [(Value.map (some g11)), (Value.map (some g8)), i.2.2.1])] [(fDat (tyList tyA8u8) [v2_0] a2), (fDat (tyList tyA8u8) [v0_0] a0), (fDat (tyList tyS_api_Blob) [v1_0] a1), uTabs])) (fun i => (tab [(10, (ptr g13 0)), (48, v2_0), (49, (int .i64 (a2.length : Int))), (50, (int .i64 i.2.2.2.2))])) (fun q i => f_fetch_Plan_L20 a2 kk17 fu q i.1 i.2.1 i.2.2.2.1 i.2.2.2.2 = some r) ?_ fu (lm9, j14xm10_1, (Value.slice none 0 0), ([] : List S_api_Blob), (0 : Int)) h) (fun w a hm hs => norm hm hs [1, 2, 0, 3] [0, 1, 2, 3] [(10, (ptr g13 0)), (48, v2_0), (49, (int .i64 (a2.length : Int))), (50, (int .i64 (0 : Int)))] (by decide) ⟨rfl, rfl, rfl, rfl, trivial⟩)
      clear h
      rintro k19 ⟨l18xm10_0, l18xm10_1, l18v10_2, l18x10_2, l18i50⟩ h
      have h : f_fetch_Plan_L20 a2 kk17 fu k19 l18xm10_0 l18xm10_1 l18x10_2 l18i50 = some r := h
      obtain _ | k19 := k19
      · rw [f_fetch_Plan_L20] at h; cases h
      rw [f_fetch_Plan_L20] at h
      refine aw_show (m := (memOf w0 Z0 [] [(oMapK Tryd.prog 47 g11 (fun x : A8u8 => ag (cA8u8 x)) (fun x : S_api_Blob => ag [(int .i64 x.Kind), (str x.Bytes)]) l18xm10_0), (oMapK Tryd.prog 47 g8 (fun x : A8u8 => ag (cA8u8 x)) (fun x : Bool => bool x) l18xm10_1), (oRow l18v10_2 34 tyS_api_Blob l18x10_2), (oBox g13 82 [(Value.map (some g11)), (Value.map (some g8)), l18v10_2])] [(fDat (tyList tyA8u8) [v2_0] a2), (fDat (tyList tyA8u8) [v0_0] a0), (fDat (tyList tyS_api_Blob) [v1_0] a1), uTabs])) (S := (tab [(10, (ptr g13 0)), (48, v2_0), (49, (int .i64 (a2.length : Int))), (50, (int .i64 l18i50))])) ?_
      refine aw_sr ?_
      refine al_in rfl rfl rfl rfl ?_
      refine al_nt ?_
      refine aw_seq ?_
      refine aw_cond rfl (fun hb21 => ?_) (fun hb21 => ?_)
      ·replace h := bif_t hb21 h
       refine aw_skip ?_
       refine aq_then ?_
       refine aw_seq ?_
       refine aw_block ?_
       refine aw_sr ?_
       obtain ⟨u22, hu23, h⟩ := opt_some h
       refine al_idxD 0 hu23 rfl rfl rfl Tryd.underlying27 sz47 rfl (fun p24 => ?_)
       refine al_val (ov_loadP (ds := (cA8u8 u22)) 0 rfl encA8u8 rfl Tryd.underlying47 sz47 rfl rfl rfl) ?_
       refine al_alloc (zs := (cA8u8 (A8u8.mk (0 : UInt8) (0 : UInt8) (0 : UInt8) (0 : UInt8) (0 : UInt8) (0 : UInt8) (0 : UInt8) (0 : UInt8)))) (zeroOf_to to47) rfl rfl (fun g25 => ?_)
       refine al_store (i := 0) (vs := (cA8u8 u22)) (cs' := (cA8u8 u22)) rfl rfl rfl sz47 (cv_rfl rfl) rfl (co_all (oneA8u8 u22)) (Nat.le_of_ble_eq_true rfl) rfl rfl ?_
       refine al_nt ?_
       refine aw_sr ?_
       refine al_mv rfl rfl ?_
       refine al_val (ov_load (i := 0) (v := (ag (cA8u8 u22))) rfl rfl Tryd.underlying47 sz47 rfl rfl rfl rfl) ?_
       obtain ⟨r27, hc26, h⟩ := opt_some h
       refine al_call (vs := [(ptr g13 0), (ag (cA8u8 u22))]) (f___fetch_planner__visit_ok fu g13 g11 g8 l18v10_2 (D_fetch_planner.mk l18xm10_0 l18xm10_1 l18x10_2) u22 hc26) [] [4, 1, 2, 3] [0] (pre_fz 4 rfl pre_nil) rfl (by simp) (by decide) (.inl rfl) rfl Tryd.func44 rfl rfl rfl (fun v28 => ?_)
       refine al_as rfl rfl ?_
       refine al_nt ?_
       refine aw_sr ?_
       refine al_mv rfl rfl ?_
       refine al_in rfl rfl rfl rfl ?_
       refine al_nt ?_
       refine aw_cond rfl (fun hb29 => ?_) (fun hb29 => ?_)
       ·replace h := bif_t hb29 h
        refine aw_sr ?_
        refine al_mv rfl rfl ?_
        refine al_as rfl rfl ?_
        refine al_as rfl rfl ?_
        refine al_nt ?_
        refine aw_ret ?_
        refine aq_block_ret ?_
        refine aq_then_ret ?_
        refine aq_then_ret ?_
        refine aq_block_ret ?_
        refine aq_then_ret ?_
        refine aq_nilR 34 tyS_api_Blob ?_
        obtain rfl := Option.some.inj h
        exact fn_ret (Value.slice none 0 0) [0] [] rfl rfl rfl rfl (res2 rfl rfl rfl) rfl rfl rfl (by decide)
       ·replace h := bif_f hb29 h
        refine aw_skip ?_
        refine aq_block ?_
        refine aq_then ?_
        refine aw_region ?_
        refine al_in rfl rfl rfl rfl ?_
        refine al_mv rfl rfl ?_
        refine al_nil ?_
        exact aq_again k19 (r27.2.heap, r27.2.seen, v28, r27.2.out, (IntKind.i64.wrap (l18i50 + (1 : Int)))) (Nat.lt_succ_self _) h (fun w a hm hs => norm hm hs [1, 2, 3, 0] [1, 2, 3, 4] [(10, (ptr g13 0)), (48, v2_0), (49, (int .i64 (a2.length : Int))), (50, (int .i64 (IntKind.i64.wrap (l18i50 + (1 : Int)))))] (by decide) ⟨rfl, rfl, rfl, rfl, trivial⟩)
      ·replace h := bif_f hb21 h
       refine aw_exit ?_
       refine aq_then_exit ?_
       refine aq_then_exit ?_
       refine aq_block_exit ?_
       exact aq_join (l18xm10_0, l18xm10_1, l18v10_2, l18x10_2) h (fun w a hm hs => norm hm hs [0, 1, 2, 3] [0, 1, 2, 3] [(10, (ptr g13 0))] (by decide) ⟨rfl, trivial⟩)
    ·clear hkk15
     refine aw_sr ?_
     refine al_mv rfl rfl ?_
     refine al_val (ov_lenD 0 rfl rfl Tryd.underlying27 rfl) ?_
     refine al_mv rfl rfl ?_
     refine al_nt ?_
     refine aw_block ?_
     refine aw_state (aw_loop (ι := (List (A8u8 × Bool)) × Int) (fun i => (memOf w0 Z0 [] [(oMapK Tryd.prog 47 g11 (fun x : A8u8 => ag (cA8u8 x)) (fun x : S_api_Blob => ag [(int .i64 x.Kind), (str x.Bytes)]) lm9), (oMapK Tryd.prog 47 g8 (fun x : A8u8 => ag (cA8u8 x)) (fun x : Bool => bool x) i.1), (oBox g13 82 [(Value.map (some g11)), (Value.map (some g8)), (Value.slice none 0 0)])] [(fDat (tyList tyA8u8) [v2_0] a2), (fDat (tyList tyA8u8) [v0_0] a0), (fDat (tyList tyS_api_Blob) [v1_0] a1), uTabs])) (fun i => (tab [(2, v2_0), (10, (ptr g13 0)), (36, v0_0), (37, (int .i64 (a0.length : Int))), (38, (int .i64 i.2))])) (fun q i => f_fetch_Plan_L32 a0 kk15 q i.1 i.2 = some r) ?_ fu (([] : List (A8u8 × Bool)), (0 : Int)) h) (fun w a hm hs => norm hm hs [2, 1, 0] [2, 0, 1, 3] [(2, v2_0), (10, (ptr g13 0)), (36, v0_0), (37, (int .i64 (a0.length : Int))), (38, (int .i64 (0 : Int)))] (by decide) ⟨rfl, rfl, rfl, rfl, rfl, trivial⟩)
     clear h
     rintro k31 ⟨l30xm10_1, l30i38⟩ h
     have h : f_fetch_Plan_L32 a0 kk15 k31 l30xm10_1 l30i38 = some r := h
     obtain _ | k31 := k31
     · rw [f_fetch_Plan_L32] at h; cases h
     rw [f_fetch_Plan_L32] at h
     refine aw_show (m := (memOf w0 Z0 [] [(oMapK Tryd.prog 47 g11 (fun x : A8u8 => ag (cA8u8 x)) (fun x : S_api_Blob => ag [(int .i64 x.Kind), (str x.Bytes)]) lm9), (oMapK Tryd.prog 47 g8 (fun x : A8u8 => ag (cA8u8 x)) (fun x : Bool => bool x) l30xm10_1), (oBox g13 82 [(Value.map (some g11)), (Value.map (some g8)), (Value.slice none 0 0)])] [(fDat (tyList tyA8u8) [v2_0] a2), (fDat (tyList tyA8u8) [v0_0] a0), (fDat (tyList tyS_api_Blob) [v1_0] a1), uTabs])) (S := (tab [(2, v2_0), (10, (ptr g13 0)), (36, v0_0), (37, (int .i64 (a0.length : Int))), (38, (int .i64 l30i38))])) ?_
     refine aw_sr ?_
     refine al_in rfl rfl rfl rfl ?_
     refine al_nt ?_
     refine aw_seq ?_
     refine aw_cond rfl (fun hb33 => ?_) (fun hb33 => ?_)
     ·replace h := bif_t hb33 h
      refine aw_skip ?_
      refine aq_then ?_
      refine aw_seq ?_
      refine aw_block ?_
      refine aw_sr ?_
      obtain ⟨u34, hu35, h⟩ := opt_some h
      refine al_idxD 1 hu35 rfl rfl rfl Tryd.underlying27 sz47 rfl (fun p36 => ?_)
      refine al_val (ov_loadP (ds := (cA8u8 u34)) 0 rfl encA8u8 rfl Tryd.underlying47 sz47 rfl rfl rfl) ?_
      refine al_alloc (zs := (cA8u8 (A8u8.mk (0 : UInt8) (0 : UInt8) (0 : UInt8) (0 : UInt8) (0 : UInt8) (0 : UInt8) (0 : UInt8) (0 : UInt8)))) (zeroOf_to to47) rfl rfl (fun g37 => ?_)
      refine al_store (i := 0) (vs := (cA8u8 u34)) (cs' := (cA8u8 u34)) rfl rfl rfl sz47 (cv_rfl rfl) rfl (co_all (oneA8u8 u34)) (Nat.le_of_ble_eq_true rfl) rfl rfl ?_
      refine al_nt ?_
      refine aw_region_open [⟨0, 42, Unit, fun _ => { val := (ptr g13 0) }⟩, ⟨1, 43, Unit, fun _ => { val := (ptr g13 0) }⟩, ⟨2, 44, Unit, fun _ => { val := (ptr g13 1) }⟩, ⟨3, 45, Unit, fun _ => { val := (Value.map (some g8)) }⟩, ⟨4, 46, Unit, fun _ => { val := (ag (cA8u8 u34)) }⟩] (tab [(2, v2_0), (10, (ptr g13 0)), (12, (ptr g37 0)), (36, v0_0), (37, (int .i64 (a0.length : Int))), (38, (int .i64 l30i38))]) mixed (fun a hs => hs.tab _ (allT_mem ⟨rfl, rfl, rfl, rfl, rfl, rfl, trivial⟩)) ?_
      refine ta_show (m := (memOf w0 Z0 [] [(oBox g37 47 (cA8u8 u34)), (oMapK Tryd.prog 47 g11 (fun x : A8u8 => ag (cA8u8 x)) (fun x : S_api_Blob => ag [(int .i64 x.Kind), (str x.Bytes)]) lm9), (oMapK Tryd.prog 47 g8 (fun x : A8u8 => ag (cA8u8 x)) (fun x : Bool => bool x) l30xm10_1), (oBox g13 82 [(Value.map (some g11)), (Value.map (some g8)), (Value.slice none 0 0)])] [(fPtr tyA8u8 p36 u34), (fDat (tyList tyA8u8) [v2_0] a2), (fDat (tyList tyA8u8) [v0_0] a0), (fDat (tyList tyS_api_Blob) [v1_0] a1), uTabs])) (S := (tab [(2, v2_0), (10, (ptr g13 0)), (12, (ptr g37 0)), (36, v0_0), (37, (int .i64 (a0.length : Int))), (38, (int .i64 l30i38))])) ?_
      refine ta_step 5 _ [0, 1, 2, 3, 4] [42, 43, 44, 45, 46] [0, 1, 2, 3, 4] [] [⟨0, 42, Unit, fun _ => { val := (ptr g13 0) }⟩, ⟨1, 43, Unit, fun _ => { val := (ptr g13 0) }⟩, ⟨2, 44, Unit, fun _ => { val := (ptr g13 1) }⟩, ⟨3, 45, Unit, fun _ => { val := (Value.map (some g8)) }⟩, ⟨4, 46, Unit, fun _ => { val := (ag (cA8u8 u34)) }⟩] [] rfl rfl rfl (by kernel_rfl) rfl rfl rfl ⟨⟨_, rfl, [], rfl, by
 intro X_ Y_ F_ K_ hK_
 refine al_show (m := Mem.plus (memOf w0 Z0 [] [(oBox g37 47 (cA8u8 u34)), (oMapK Tryd.prog 47 g11 (fun x : A8u8 => ag (cA8u8 x)) (fun x : S_api_Blob => ag [(int .i64 x.Kind), (str x.Bytes)]) lm9), (oMapK Tryd.prog 47 g8 (fun x : A8u8 => ag (cA8u8 x)) (fun x : Bool => bool x) l30xm10_1), (oBox g13 82 [(Value.map (some g11)), (Value.map (some g8)), (Value.slice none 0 0)])] [(fPtr tyA8u8 p36 u34), (fDat (tyList tyA8u8) [v2_0] a2), (fDat (tyList tyA8u8) [v0_0] a0), (fDat (tyList tyS_api_Blob) [v1_0] a1), uTabs]) X_ Y_) (S := over (tab [(2, v2_0), (10, (ptr g13 0)), (12, (ptr g37 0)), (36, v0_0), (37, (int .i64 (a0.length : Int))), (38, (int .i64 l30i38))]) F_) ?_
 refine al_mv rfl rfl ?_
 refine al_nil ?_
 exact fr_fin hK_ ()⟩, ⟨_, rfl, [0], rfl, by
 intro _
 intro X_ Y_ F_ K_ hK_
 refine al_show (m := Mem.plus (memOf w0 Z0 [] [(oBox g37 47 (cA8u8 u34)), (oMapK Tryd.prog 47 g11 (fun x : A8u8 => ag (cA8u8 x)) (fun x : S_api_Blob => ag [(int .i64 x.Kind), (str x.Bytes)]) lm9), (oMapK Tryd.prog 47 g8 (fun x : A8u8 => ag (cA8u8 x)) (fun x : Bool => bool x) l30xm10_1), (oBox g13 82 [(Value.map (some g11)), (Value.map (some g8)), (Value.slice none 0 0)])] [(fPtr tyA8u8 p36 u34), (fDat (tyList tyA8u8) [v2_0] a2), (fDat (tyList tyA8u8) [v0_0] a0), (fDat (tyList tyS_api_Blob) [v1_0] a1), uTabs]) X_ Y_) (S := over (put (tab [(2, v2_0), (10, (ptr g13 0)), (12, (ptr g37 0)), (36, v0_0), (37, (int .i64 (a0.length : Int))), (38, (int .i64 l30i38))]) 42 (ptr g13 0)) F_) ?_
 refine al_val (ov_nilCheck rfl rfl) ?_
 refine al_nil ?_
 exact fr_fin hK_ ()⟩, ⟨_, rfl, [1], rfl, by
 intro _
 intro X_ Y_ F_ K_ hK_
 refine al_show (m := Mem.plus (memOf w0 Z0 [] [(oBox g37 47 (cA8u8 u34)), (oMapK Tryd.prog 47 g11 (fun x : A8u8 => ag (cA8u8 x)) (fun x : S_api_Blob => ag [(int .i64 x.Kind), (str x.Bytes)]) lm9), (oMapK Tryd.prog 47 g8 (fun x : A8u8 => ag (cA8u8 x)) (fun x : Bool => bool x) l30xm10_1), (oBox g13 82 [(Value.map (some g11)), (Value.map (some g8)), (Value.slice none 0 0)])] [(fPtr tyA8u8 p36 u34), (fDat (tyList tyA8u8) [v2_0] a2), (fDat (tyList tyA8u8) [v0_0] a0), (fDat (tyList tyS_api_Blob) [v1_0] a1), uTabs]) X_ Y_) (S := over (put (tab [(2, v2_0), (10, (ptr g13 0)), (12, (ptr g37 0)), (36, v0_0), (37, (int .i64 (a0.length : Int))), (38, (int .i64 l30i38))]) 43 (ptr g13 0)) F_) ?_
 refine al_val (ov_fieldA (p := 1) rfl Tryd.underlying82 rfl sz80 rfl rfl rfl) ?_
 refine al_nil ?_
 exact fr_fin hK_ ()⟩, ⟨_, rfl, [2], rfl, by
 intro _
 intro X_ Y_ F_ K_ hK_
 refine al_show (m := Mem.plus (memOf w0 Z0 [] [(oBox g37 47 (cA8u8 u34)), (oMapK Tryd.prog 47 g11 (fun x : A8u8 => ag (cA8u8 x)) (fun x : S_api_Blob => ag [(int .i64 x.Kind), (str x.Bytes)]) lm9), (oMapK Tryd.prog 47 g8 (fun x : A8u8 => ag (cA8u8 x)) (fun x : Bool => bool x) l30xm10_1), (oBox g13 82 [(Value.map (some g11)), (Value.map (some g8)), (Value.slice none 0 0)])] [(fPtr tyA8u8 p36 u34), (fDat (tyList tyA8u8) [v2_0] a2), (fDat (tyList tyA8u8) [v0_0] a0), (fDat (tyList tyS_api_Blob) [v1_0] a1), uTabs]) X_ Y_) (S := over (put (tab [(2, v2_0), (10, (ptr g13 0)), (12, (ptr g37 0)), (36, v0_0), (37, (int .i64 (a0.length : Int))), (38, (int .i64 l30i38))]) 44 (ptr g13 1)) F_) ?_
 refine al_val (ov_load (i := 3) (v := (Value.map (some g8))) rfl rfl Tryd.underlying80 sz80 rfl rfl rfl rfl) ?_
 refine al_nil ?_
 exact fr_fin hK_ ()⟩, ⟨_, rfl, [], rfl, by
 intro X_ Y_ F_ K_ hK_
 refine al_show (m := Mem.plus (memOf w0 Z0 [] [(oBox g37 47 (cA8u8 u34)), (oMapK Tryd.prog 47 g11 (fun x : A8u8 => ag (cA8u8 x)) (fun x : S_api_Blob => ag [(int .i64 x.Kind), (str x.Bytes)]) lm9), (oMapK Tryd.prog 47 g8 (fun x : A8u8 => ag (cA8u8 x)) (fun x : Bool => bool x) l30xm10_1), (oBox g13 82 [(Value.map (some g11)), (Value.map (some g8)), (Value.slice none 0 0)])] [(fPtr tyA8u8 p36 u34), (fDat (tyList tyA8u8) [v2_0] a2), (fDat (tyList tyA8u8) [v0_0] a0), (fDat (tyList tyS_api_Blob) [v1_0] a1), uTabs]) X_ Y_) (S := over (tab [(2, v2_0), (10, (ptr g13 0)), (12, (ptr g37 0)), (36, v0_0), (37, (int .i64 (a0.length : Int))), (38, (int .i64 l30i38))]) F_) ?_
 refine al_val (ov_load (i := 0) (v := (ag (cA8u8 u34))) rfl rfl Tryd.underlying47 sz47 rfl rfl rfl rfl) ?_
 refine al_nil ?_
 exact fr_fin hK_ ()⟩, trivial⟩ ?_
      intro _
      intro _
      intro _
      intro _
      intro _
      intro X_ Y_ F_ K_ hK_
      refine al_show (m := Mem.plus (memOf w0 Z0 [] [(oBox g37 47 (cA8u8 u34)), (oMapK Tryd.prog 47 g11 (fun x : A8u8 => ag (cA8u8 x)) (fun x : S_api_Blob => ag [(int .i64 x.Kind), (str x.Bytes)]) lm9), (oMapK Tryd.prog 47 g8 (fun x : A8u8 => ag (cA8u8 x)) (fun x : Bool => bool x) l30xm10_1), (oBox g13 82 [(Value.map (some g11)), (Value.map (some g8)), (Value.slice none 0 0)])] [(fPtr tyA8u8 p36 u34), (fDat (tyList tyA8u8) [v2_0] a2), (fDat (tyList tyA8u8) [v0_0] a0), (fDat (tyList tyS_api_Blob) [v1_0] a1), uTabs]) X_ Y_) (S := over (put (put (put (put (put (tab [(2, v2_0), (10, (ptr g13 0)), (12, (ptr g37 0)), (36, v0_0), (37, (int .i64 (a0.length : Int))), (38, (int .i64 l30i38))]) 42 (ptr g13 0)) 43 (ptr g13 0)) 44 (ptr g13 1)) 45 (Value.map (some g8))) 46 (ag (cA8u8 u34))) F_) ?_
      refine al_mapSetK (ek := (fun x : A8u8 => ag (cA8u8 x))) (ew := (fun x : Bool => bool x)) (k := u34) (v := true) 2 kd47 ki47 (kw47 u34) rfl rfl rfl rfl Tryd.underlying80 rfl ?_
      refine al_nil ?_
      refine aq_show (m := Mem.plus (memOf w0 Z0 [] [(oBox g37 47 (cA8u8 u34)), (oMapK Tryd.prog 47 g11 (fun x : A8u8 => ag (cA8u8 x)) (fun x : S_api_Blob => ag [(int .i64 x.Kind), (str x.Bytes)]) lm9), (oMapK Tryd.prog 47 g8 (fun x : A8u8 => ag (cA8u8 x)) (fun x : Bool => bool x) (gset l30xm10_1 u34 true)), (oBox g13 82 [(Value.map (some g11)), (Value.map (some g8)), (Value.slice none 0 0)])] [(fPtr tyA8u8 p36 u34), (fDat (tyList tyA8u8) [v2_0] a2), (fDat (tyList tyA8u8) [v0_0] a0), (fDat (tyList tyS_api_Blob) [v1_0] a1), uTabs]) X_ Y_) ?_
      refine aq_next hK_ [0, 1, 2, 3] [0, 1, 2, 3, 4] [(2, v2_0), (10, (ptr g13 0)), (36, v0_0), (37, (int .i64 (a0.length : Int))), (38, (int .i64 l30i38))] [] [] rfl rfl (by decide) rfl ⟨rfl, rfl, rfl, rfl, rfl, trivial⟩ trivial ?_
      clear hK_ K_ F_ X_ Y_
      refine ta_show (m := (memOf w0 Z0 [] [(oBox g37 47 (cA8u8 u34)), (oMapK Tryd.prog 47 g11 (fun x : A8u8 => ag (cA8u8 x)) (fun x : S_api_Blob => ag [(int .i64 x.Kind), (str x.Bytes)]) lm9), (oMapK Tryd.prog 47 g8 (fun x : A8u8 => ag (cA8u8 x)) (fun x : Bool => bool x) (gset l30xm10_1 u34 true)), (oBox g13 82 [(Value.map (some g11)), (Value.map (some g8)), (Value.slice none 0 0)])] [(fPtr tyA8u8 p36 u34), (fDat (tyList tyA8u8) [v2_0] a2), (fDat (tyList tyA8u8) [v0_0] a0), (fDat (tyList tyS_api_Blob) [v1_0] a1), uTabs])) (S := (tab [(2, v2_0), (10, (ptr g13 0)), (36, v0_0), (37, (int .i64 (a0.length : Int))), (38, (int .i64 l30i38))])) ?_
      refine ta_end [] [] rfl rfl (by kernel_rfl) rfl trivial ?_
      refine aq_show (m := (memOf w0 Z0 [] [(oBox g37 47 (cA8u8 u34)), (oMapK Tryd.prog 47 g11 (fun x : A8u8 => ag (cA8u8 x)) (fun x : S_api_Blob => ag [(int .i64 x.Kind), (str x.Bytes)]) lm9), (oMapK Tryd.prog 47 g8 (fun x : A8u8 => ag (cA8u8 x)) (fun x : Bool => bool x) (gset l30xm10_1 u34 true)), (oBox g13 82 [(Value.map (some g11)), (Value.map (some g8)), (Value.slice none 0 0)])] [(fPtr tyA8u8 p36 u34), (fDat (tyList tyA8u8) [v2_0] a2), (fDat (tyList tyA8u8) [v0_0] a0), (fDat (tyList tyS_api_Blob) [v1_0] a1), uTabs])) (S := (tab [(2, v2_0), (10, (ptr g13 0)), (36, v0_0), (37, (int .i64 (a0.length : Int))), (38, (int .i64 l30i38))])) ?_
      refine aq_block ?_
      refine aq_then ?_
      refine aw_region ?_
      refine al_in rfl rfl rfl rfl ?_
      refine al_mv rfl rfl ?_
      refine al_nil ?_
      exact aq_again k31 ((gset l30xm10_1 u34 true), (IntKind.i64.wrap (l30i38 + (1 : Int)))) (Nat.lt_succ_self _) h (fun w a hm hs => norm hm hs [1, 2, 3] [1, 2, 3, 4] [(2, v2_0), (10, (ptr g13 0)), (36, v0_0), (37, (int .i64 (a0.length : Int))), (38, (int .i64 (IntKind.i64.wrap (l30i38 + (1 : Int)))))] (by decide) ⟨rfl, rfl, rfl, rfl, rfl, trivial⟩)
     ·replace h := bif_f hb33 h
      refine aw_exit ?_
      refine aq_then_exit ?_
      refine aq_then_exit ?_
      refine aq_block_exit ?_
      exact aq_join l30xm10_1 h (fun w a hm hs => norm hm hs [0, 1, 2] [0, 1, 2, 3] [(2, v2_0), (10, (ptr g13 0))] (by decide) ⟨rfl, rfl, trivial⟩)
 ·clear hkk2
  refine aw_region ?_
  refine al_mv rfl rfl ?_
  refine al_val (ov_lenD 0 rfl rfl Tryd.underlying27 rfl) ?_
  refine al_in rfl rfl rfl rfl ?_
  refine al_mv rfl rfl ?_
  refine al_caseB 19 rfl (fun hb38 => ?_) (fun hb38 => ?_)
  ·replace h := bif_t hb38 h
   refine al_skip ?_
   refine al_skip ?_
   refine al_skip ?_
   refine al_val (ov_pick_t rfl rfl rfl) ?_
   refine al_nil ?_
   exact aq_join true h (fun w a hm hs => norm hm hs [] [0, 1, 2, 3] [(0, v0_0), (1, v1_0), (2, v2_0), (23, (bool true))] (by decide) ⟨rfl, rfl, rfl, rfl, trivial⟩)
  ·replace h := bif_f hb38 h
   refine al_mv rfl rfl ?_
   refine al_val (ov_lenD 2 rfl rfl Tryd.underlying27 rfl) ?_
   refine al_in rfl rfl rfl rfl ?_
   refine al_val (ov_pick_f rfl rfl rfl) ?_
   refine al_nil ?_
   exact aq_join (decide ((a2.length : Int) > (64 : Int))) h (fun w a hm hs => norm hm hs [] [0, 1, 2, 3] [(0, v0_0), (1, v1_0), (2, v2_0), (23, (bool (decide ((a2.length : Int) > (64 : Int)))))] (by decide) ⟨rfl, rfl, rfl, rfl, trivial⟩)
def f_lumref_kindOK (fu : Nat) (a0 : Int) : Option Bool := (lt (fun (j1b2 : Bool) => (some j1b2)) fun (kk2 : Bool → Option Bool) => (bif (a0 == (1 : Int)) then (kk2 true) else (bif (a0 == (2 : Int)) then (kk2 true) else (kk2 (a0 == (3 : Int))))))
set_option maxRecDepth 100000 in
theorem f_lumref_kindOK_ok (fu : Nat) (a0 : Int) {r : Bool} (h : f_lumref_kindOK fu a0 = some r) : FnOk Tryd.prog 78 [(int .i64 a0)] [] [] (fun (i : Unit) => { val := (bool r) }) := by
 unfold f_lumref_kindOK at h
 refine fn_enter Tryd.func78 rfl Tryd.ntmps78 rfl (fun w0 Z0 => ?_)
 refine aw_sr ?_
 refine al_as rfl rfl ?_
 refine al_nt ?_
 obtain ⟨kk2, hkk2, h⟩ := lt_some h
 refine aw_seq_join (ι := Bool) (fun i => (memOf w0 Z0 [] [] [])) (fun i => (tab [(2, (bool i))])) (fun i => kk2 i = some r) ?_ ?_
 ·rintro j1b2 h
  have h : kk2 j1b2 = some r := h
  rw [hkk2] at h
  dsimp only at h
  clear hkk2
  refine aw_show (m := (memOf w0 Z0 [] [] [])) (S := (tab [(2, (bool j1b2))])) ?_
  refine aw_ret ?_
  obtain rfl := Option.some.inj h
  exact fn_ret () [] [] rfl rfl rfl rfl (res1 rfl rfl) rfl rfl rfl (by decide)
 ·clear hkk2
  refine aw_region ?_
  refine al_mv rfl rfl ?_
  refine al_in rfl rfl rfl rfl ?_
  refine al_mv rfl rfl ?_
  refine al_caseB 5 rfl (fun hb3 => ?_) (fun hb3 => ?_)
  ·replace h := bif_t hb3 h
   refine al_skip ?_
   refine al_skip ?_
   refine al_val (ov_pick_t rfl rfl rfl) ?_
   refine al_mv rfl rfl ?_
   refine al_skip ?_
   refine al_skip ?_
   refine al_val (ov_pick_t rfl rfl rfl) ?_
   refine al_as rfl rfl ?_
   refine al_nil ?_
   exact aq_join true h (fun w a hm hs => norm hm hs [] [] [(2, (bool true))] (by decide) ⟨rfl, trivial⟩)
  ·replace h := bif_f hb3 h
   refine al_mv rfl rfl ?_
   refine al_in rfl rfl rfl rfl ?_
   refine al_val (ov_pick_f rfl rfl rfl) ?_
   refine al_mv rfl rfl ?_
   refine al_caseB 9 rfl (fun hb4 => ?_) (fun hb4 => ?_)
   ·replace h := bif_t hb4 h
    refine al_skip ?_
    refine al_skip ?_
    refine al_val (ov_pick_t rfl rfl rfl) ?_
    refine al_as rfl rfl ?_
    refine al_nil ?_
    exact aq_join true h (fun w a hm hs => norm hm hs [] [] [(2, (bool true))] (by decide) ⟨rfl, trivial⟩)
   ·replace h := bif_f hb4 h
    refine al_mv rfl rfl ?_
    refine al_in rfl rfl rfl rfl ?_
    refine al_val (ov_pick_f rfl rfl rfl) ?_
    refine al_as rfl rfl ?_
    refine al_nil ?_
    exact aq_join (a0 == (3 : Int)) h (fun w a hm hs => norm hm hs [] [] [(2, (bool (a0 == (3 : Int))))] (by decide) ⟨rfl, trivial⟩)
def f_lumref_Narrow_1 (fu : Nat) (a0 : Int) (a1 : Int) : Option Int := (bif (a1 == (64 : Int)) then (some a0) else (req (0 ≤ a1) (req ((IntKind.u64.wrap ((1 : Int) * 2 ^ min (a1).toNat (IntKind.bits .u64))) ≠ 0) (some ((a0).tmod (IntKind.u64.wrap ((1 : Int) * 2 ^ min (a1).toNat (IntKind.bits .u64))))))))
set_option maxRecDepth 100000 in
theorem f_lumref_Narrow_1_ok (fu : Nat) (a0 : Int) (c1 : Value) (a1 : Int) {r : Int} (h : f_lumref_Narrow_1 fu a0 a1 = some r) : FnOk Tryd.prog 187 [(int .u64 a0), c1] [(fPtr (tyInt .i64) c1 a1)] [] (fun (i : Unit) => { val := (int .u64 r) }) := by
 unfold f_lumref_Narrow_1 at h
 refine fn_enter Tryd.func187 rfl Tryd.ntmps187 rfl (fun w0 Z0 => ?_)
 refine aw_sr ?_
 refine al_as rfl rfl ?_
 refine al_nt ?_
 refine aw_seq ?_
 refine aw_sr ?_
 refine al_val (ov_loadP (ds := [(int .i64 a1)]) 0 rfl (fun h => h) rfl Tryd.underlying3 sz3 rfl rfl rfl) ?_
 refine al_in rfl rfl rfl rfl ?_
 refine al_nt ?_
 refine aw_cond rfl (fun hb1 => ?_) (fun hb1 => ?_)
 ·replace h := bif_t hb1 h
  refine aw_sr ?_
  refine al_mv rfl rfl ?_
  refine al_as rfl rfl ?_
  refine al_nt ?_
  refine aw_ret ?_
  refine aq_then_ret ?_
  obtain rfl := Option.some.inj h
  exact fn_ret () [] [] rfl rfl rfl rfl (res1 rfl rfl) rfl rfl rfl (by decide)
 ·replace h := bif_f hb1 h
  refine aw_skip ?_
  refine aq_tr ?_
  refine al_mv rfl rfl ?_
  refine al_val (ov_loadP (ds := [(int .i64 a1)]) 0 rfl (fun h => h) rfl Tryd.underlying3 sz3 rfl rfl rfl) ?_
  obtain ⟨hc2, h⟩ := req_some h
  refine al_val (ov_shl hc2 rfl rfl rfl) ?_
  obtain ⟨hc3, h⟩ := req_some h
  refine al_val (ov_rem hc3 rfl rfl rfl) ?_
  refine al_as rfl rfl ?_
  refine al_nt ?_
  refine aw_ret ?_
  obtain rfl := Option.some.inj h
  exact fn_ret () [] [] rfl rfl rfl rfl (res1 rfl rfl) rfl rfl rfl (by decide)
def f_strings_Repeat (fu : Nat) (a0 : List UInt8) (a1 : Int) : Option (List UInt8) := req (0 ≤ a1 ∧ a1 ≤ 9223372036854775807 ∧ a0.length * a1.toNat ≤ 140737488355328) (some (Lib.repeatL a0 a1.toNat))
theorem f_strings_Repeat_ok (fu : Nat) (a0 : List UInt8) (a1 : Int) {r : List UInt8} (h : f_strings_Repeat fu a0 a1 = some r) : FnOk Tryd.prog 132 [(str a0), (int .i64 a1)] [] [] (fun (i : Unit) => { val := (str r) }) := by
  unfold f_strings_Repeat at h
  obtain ⟨hc, h⟩ := req_some h
  obtain rfl := Option.some.inj h
  obtain ⟨n, rfl⟩ : ∃ n : Nat, a1 = n := ⟨a1.toNat, by omega⟩
  refine fnok_pure fun w => ?_
  exact (Tryd.strings_Repeat ⟨a0.toArray⟩ n w (by omega) (by simpa [ByteArray.size] using hc.2.2)).mono fun e w' h9 => by simpa [str] using h9
def f_lumref_product_L5 (a0 : Int) (a1 : Int) (kk2 : (Int → Option Int)) : Nat → Int → Int → Option Int
  | 0, _, _ => none
  | k4 + 1, l3i5, l3i7 => (bif (decide (l3i7 < (64 : Int))) then (lt (fun (j7i5 : Int) => (f_lumref_product_L5 a0 a1 kk2 k4 j7i5 (IntKind.i64.wrap (l3i7 + (1 : Int))))) fun (kk8 : Int → Option Int) => (req (0 ≤ l3i7) (bif ((bits .and .u64 ((a1).fdiv (2 ^ min (l3i7).toNat (IntKind.bits .u64))) (1 : Int)) == (1 : Int)) then (req (0 ≤ l3i7) (kk8 (IntKind.u64.wrap (l3i5 + (IntKind.u64.wrap (a0 * 2 ^ min (l3i7).toNat (IntKind.bits .u64))))))) else (kk8 l3i5)))) else (kk2 l3i5))
def f_lumref_product (fu : Nat) (a0 : Int) (a1 : Int) : Option Int := (lt (fun (j1i5 : Int) => (some j1i5)) fun (kk2 : Int → Option Int) => (f_lumref_product_L5 a0 a1 kk2 fu (0 : Int) (0 : Int)))
set_option maxRecDepth 100000 in
theorem f_lumref_product_ok (fu : Nat) (a0 : Int) (a1 : Int) {r : Int} (h : f_lumref_product fu a0 a1 = some r) : FnOk Tryd.prog 221 [(int .u64 a0), (int .u64 a1)] [] [] (fun (i : Unit) => { val := (int .u64 r) }) := by
 unfold f_lumref_product at h
 refine fn_enter Tryd.func221 rfl Tryd.ntmps221 rfl (fun w0 Z0 => ?_)
 refine aw_sr ?_
 refine al_as rfl rfl ?_
 refine al_nt ?_
 refine aw_sr ?_
 refine al_as rfl rfl ?_
 refine al_nt ?_
 obtain ⟨kk2, hkk2, h⟩ := lt_some h
 refine aw_seq_join (ι := Int) (fun i => (memOf w0 Z0 [] [] [])) (fun i => (tab [(5, (int .u64 i))])) (fun i => kk2 i = some r) ?_ ?_
 ·rintro j1i5 h
  have h : kk2 j1i5 = some r := h
  rw [hkk2] at h
  dsimp only at h
  clear hkk2
  refine aw_show (m := (memOf w0 Z0 [] [] [])) (S := (tab [(5, (int .u64 j1i5))])) ?_
  refine aw_sr ?_
  refine al_mv rfl rfl ?_
  refine al_as rfl rfl ?_
  refine al_nt ?_
  refine aw_ret ?_
  obtain rfl := Option.some.inj h
  exact fn_ret () [] [] rfl rfl rfl rfl (res1 rfl rfl) rfl rfl rfl (by decide)
 ·clear hkk2
  refine aw_sr ?_
  refine al_mv rfl rfl ?_
  refine al_nt ?_
  refine aw_block ?_
  refine aw_state (aw_loop (ι := Int × Int) (fun i => (memOf w0 Z0 [] [] [])) (fun i => (tab [(0, (int .u64 a0)), (1, (int .u64 a1)), (5, (int .u64 i.1)), (7, (int .i64 i.2))])) (fun q i => f_lumref_product_L5 a0 a1 kk2 q i.1 i.2 = some r) ?_ fu ((0 : Int), (0 : Int)) h) (fun w a hm hs => norm hm hs [] [] [(0, (int .u64 a0)), (1, (int .u64 a1)), (5, (int .u64 (0 : Int))), (7, (int .i64 (0 : Int)))] (by decide) ⟨rfl, rfl, rfl, rfl, trivial⟩)
  clear h
  rintro k4 ⟨l3i5, l3i7⟩ h
  have h : f_lumref_product_L5 a0 a1 kk2 k4 l3i5 l3i7 = some r := h
  obtain _ | k4 := k4
  · rw [f_lumref_product_L5] at h; cases h
  rw [f_lumref_product_L5] at h
  refine aw_show (m := (memOf w0 Z0 [] [] [])) (S := (tab [(0, (int .u64 a0)), (1, (int .u64 a1)), (5, (int .u64 l3i5)), (7, (int .i64 l3i7))])) ?_
  refine aw_sr ?_
  refine al_in rfl rfl rfl rfl ?_
  refine al_nt ?_
  refine aw_seq ?_
  refine aw_cond rfl (fun hb6 => ?_) (fun hb6 => ?_)
  ·replace h := bif_t hb6 h
   refine aw_skip ?_
   refine aq_then ?_
   obtain ⟨kk8, hkk8, h⟩ := lt_some h
   refine aw_seq_join (ι := Int) (fun i => (memOf w0 Z0 [] [] [])) (fun i => (tab [(0, (int .u64 a0)), (1, (int .u64 a1)), (5, (int .u64 i)), (7, (int .i64 l3i7))])) (fun i => kk8 i = some r) ?_ ?_
   ·rintro j7i5 h
    have h : kk8 j7i5 = some r := h
    rw [hkk8] at h
    dsimp only at h
    clear hkk8
    refine aw_show (m := (memOf w0 Z0 [] [] [])) (S := (tab [(0, (int .u64 a0)), (1, (int .u64 a1)), (5, (int .u64 j7i5)), (7, (int .i64 l3i7))])) ?_
    refine aw_region ?_
    refine al_in rfl rfl rfl rfl ?_
    refine al_mv rfl rfl ?_
    refine al_nil ?_
    exact aq_again k4 (j7i5, (IntKind.i64.wrap (l3i7 + (1 : Int)))) (Nat.lt_succ_self _) h (fun w a hm hs => norm hm hs [] [] [(0, (int .u64 a0)), (1, (int .u64 a1)), (5, (int .u64 j7i5)), (7, (int .i64 (IntKind.i64.wrap (l3i7 + (1 : Int)))))] (by decide) ⟨rfl, rfl, rfl, rfl, trivial⟩)
   ·clear hkk8
    refine aw_block ?_
    refine aw_sr ?_
    refine al_mv rfl rfl ?_
    refine al_as rfl rfl ?_
    refine al_nt ?_
    refine aw_sr ?_
    refine al_mv rfl rfl ?_
    refine al_mv rfl rfl ?_
    obtain ⟨hc9, h⟩ := req_some h
    refine al_val (ov_shr hc9 rfl rfl rfl) ?_
    refine al_in rfl rfl rfl rfl ?_
    refine al_in rfl rfl rfl rfl ?_
    refine al_nt ?_
    refine aw_cond rfl (fun hb10 => ?_) (fun hb10 => ?_)
    ·replace h := bif_t hb10 h
     refine aw_region ?_
     refine al_mv rfl rfl ?_
     refine al_mv rfl rfl ?_
     refine al_mv rfl rfl ?_
     obtain ⟨hc11, h⟩ := req_some h
     refine al_val (ov_shl hc11 rfl rfl rfl) ?_
     refine al_in rfl rfl rfl rfl ?_
     refine al_as rfl rfl ?_
     refine al_nil ?_
     refine aq_block ?_
     exact aq_join (IntKind.u64.wrap (l3i5 + (IntKind.u64.wrap (a0 * 2 ^ min (l3i7).toNat (IntKind.bits .u64))))) h (fun w a hm hs => norm hm hs [] [] [(0, (int .u64 a0)), (1, (int .u64 a1)), (5, (int .u64 (IntKind.u64.wrap (l3i5 + (IntKind.u64.wrap (a0 * 2 ^ min (l3i7).toNat (IntKind.bits .u64))))))), (7, (int .i64 l3i7))] (by decide) ⟨rfl, rfl, rfl, rfl, trivial⟩)
    ·replace h := bif_f hb10 h
     refine aw_skip ?_
     refine aq_block ?_
     exact aq_join l3i5 h (fun w a hm hs => norm hm hs [] [] [(0, (int .u64 a0)), (1, (int .u64 a1)), (5, (int .u64 l3i5)), (7, (int .i64 l3i7))] (by decide) ⟨rfl, rfl, rfl, rfl, trivial⟩)
  ·replace h := bif_f hb6 h
   refine aw_exit ?_
   refine aq_then_exit ?_
   refine aq_then_exit ?_
   refine aq_block_exit ?_
   exact aq_join l3i5 h (fun w a hm hs => norm hm hs [] [] [(5, (int .u64 l3i5))] (by decide) ⟨rfl, trivial⟩)
def f_lumref_Step (fu : Nat) (a0 : Int) (a1 : Int) : Option Int := (opt (f_lumref_product fu (bits .xor .u64 a0 a1) (11400714819323198485 : Int)) fun (r2 : Int) => (opt (f_lumref_product fu (bits .xor .u64 r2 (IntKind.u64.wrap ((r2).tdiv (536870912 : Int)))) (13787848793156543929 : Int)) fun (r4 : Int) => (some (bits .xor .u64 r4 (IntKind.u64.wrap ((r4).tdiv (4294967296 : Int)))))))
set_option maxRecDepth 100000 in
theorem f_lumref_Step_ok (fu : Nat) (a0 : Int) (a1 : Int) {r : Int} (h : f_lumref_Step fu a0 a1 = some r) : FnOk Tryd.prog 188 [(int .u64 a0), (int .u64 a1)] [] [] (fun (i : Unit) => { val := (int .u64 r) }) := by
 unfold f_lumref_Step at h
 refine fn_enter Tryd.func188 rfl Tryd.ntmps188 rfl (fun w0 Z0 => ?_)
 refine aw_sr ?_
 refine al_as rfl rfl ?_
 refine al_nt ?_
 refine aw_sr ?_
 refine al_mv rfl rfl ?_
 refine al_mv rfl rfl ?_
 refine al_in rfl rfl rfl rfl ?_
 obtain ⟨r2, hc1, h⟩ := opt_some h
 refine al_call (vs := [(int .u64 (bits .xor .u64 a0 a1)), (int .u64 (11400714819323198485 : Int))]) (f_lumref_product_ok fu (bits .xor .u64 a0 a1) (11400714819323198485 : Int) hc1) [] [] [] pre_nil rfl (by simp) (by decide) (.inl rfl) rfl Tryd.func221 rfl rfl rfl (fun _ => ?_)
 refine al_as rfl rfl ?_
 refine al_nt ?_
 refine aw_sr ?_
 refine al_mv rfl rfl ?_
 refine al_mv rfl rfl ?_
 refine al_val (ov_quo (by decide) rfl rfl rfl) ?_
 refine al_in rfl rfl rfl rfl ?_
 refine al_as rfl rfl ?_
 refine al_nt ?_
 refine aw_sr ?_
 refine al_mv rfl rfl ?_
 obtain ⟨r4, hc3, h⟩ := opt_some h
 refine al_call (vs := [(int .u64 (bits .xor .u64 r2 (IntKind.u64.wrap ((r2).tdiv (536870912 : Int))))), (int .u64 (13787848793156543929 : Int))]) (f_lumref_product_ok fu (bits .xor .u64 r2 (IntKind.u64.wrap ((r2).tdiv (536870912 : Int)))) (13787848793156543929 : Int) hc3) [] [] [] pre_nil rfl (by simp) (by decide) (.inl rfl) rfl Tryd.func221 rfl rfl rfl (fun _ => ?_)
 refine al_as rfl rfl ?_
 refine al_nt ?_
 refine aw_sr ?_
 refine al_mv rfl rfl ?_
 refine al_mv rfl rfl ?_
 refine al_val (ov_quo (by decide) rfl rfl rfl) ?_
 refine al_in rfl rfl rfl rfl ?_
 refine al_as rfl rfl ?_
 refine al_nt ?_
 refine aw_ret ?_
 obtain rfl := Option.some.inj h
 exact fn_ret () [] [] rfl rfl rfl rfl (res1 rfl rfl) rfl rfl rfl (by decide)
def f_lumref_Narrow_L27 (l11s7 : (List UInt8)) (kk20 : (Int → Option Int)) : Nat → Int → Int → Option Int
  | 0, _, _ => none
  | k26 + 1, l25i8, l25i9 => (bif (decide (l25i9 ≥ (0 : Int))) then (req (0 ≤ l25i9 ∧ l25i9 < (l11s7.length : Int)) (f_lumref_Narrow_L27 l11s7 kk20 k26 (IntKind.u64.wrap ((IntKind.u64.wrap ((256 : Int) * l25i8)) + (IntKind.u64.wrap (En.bAt l11s7 l25i9)))) (IntKind.i64.wrap (l25i9 - (1 : Int))))) else (kk20 l25i8))
def f_lumref_Narrow_L13 (a0 : Int) (kk6 : (Int → Option Int)) (fu : Nat) : Nat → Int → (List UInt8) → Option Int
  | 0, _, _ => none
  | k12 + 1, l11i5, l11s7 => (lt (fun (l11i5 : Int) (l11s7 : (List UInt8)) => (f_lumref_Narrow_L13 a0 kk6 fu k12 l11i5 l11s7)) fun (kk14 : Int → (List UInt8) → Option Int) => (bif (!(l11s7 == ([] : List UInt8))) then (lt (fun (j16i5 : Int) => (req (0 ≤ (8 : Int) ∧ (8 : Int) ≤ (l11s7.length : Int)) (kk14 j16i5 (l11s7.drop ((8 : Int)).toNat)))) fun (kk17 : Int → Option Int) => (lt (fun (j19i8 : Int) => (opt (f_lumref_Step fu l11i5 j19i8) fun (r22 : Int) => (opt (f_lumref_Narrow_1 fu r22 a0) fun (r24 : Int) => (kk17 r24)))) fun (kk20 : Int → Option Int) => (f_lumref_Narrow_L27 l11s7 kk20 fu (0 : Int) (7 : Int)))) else (kk6 l11i5)))
def f_lumref_Narrow (fu : Nat) (a0 : Int) (a1 : (List UInt8)) : Option Int := (opt (f_strings_Repeat fu ([0] : List UInt8) (((IntKind.i64.wrap ((8 : Int) - (((a1.length : Int)).tmod (8 : Int))))).tmod (8 : Int))) fun (r3 : (List UInt8)) => (req (a1.length + r3.length ≤ 9223372036854775807) (lt (fun (j5i5 : Int) => (opt (f_lumref_Step fu j5i5 (IntKind.u64.wrap (a1.length : Int))) fun (r8 : Int) => (opt (f_lumref_Narrow_1 fu r8 a0) fun (r10 : Int) => (some r10)))) fun (kk6 : Int → Option Int) => (f_lumref_Narrow_L13 a0 kk6 fu fu (0 : Int) (a1 ++ r3)))))
set_option maxRecDepth 100000 in
theorem f_lumref_Narrow_ok (fu : Nat) (a0 : Int) (a1 : (List UInt8)) {r : Int} (h : f_lumref_Narrow fu a0 a1 = some r) : FnOk Tryd.prog 138 [(int .i64 a0), (str a1)] [] [] (fun (i : Unit) => { val := (int .u64 r) }) := by
 unfold f_lumref_Narrow at h
 refine fn_enter Tryd.func138 rfl Tryd.ntmps138 rfl (fun w0 Z0 => ?_)
 refine aw_sr ?_
 refine al_box (vs := [(int .i64 a0)]) rfl (cv_rfl rfl) rfl (fun g1 => ?_)
 refine al_as rfl rfl ?_
 refine al_nt ?_
 refine aw_sr ?_
 refine al_as rfl rfl ?_
 refine al_nt ?_
 refine aw_sr ?_
 refine al_val (ov_makeFunc2 (vs := [(ptr g1 0)]) rfl rfl) ?_
 refine al_as rfl rfl ?_
 refine al_nt ?_
 refine aw_sr ?_
 refine al_mv rfl rfl ?_
 refine al_mv rfl rfl ?_
 refine al_val (ov_strLen Tryd.underlying9 rfl rfl) ?_
 refine al_val (ov_rem (by decide) rfl rfl rfl) ?_
 refine al_in rfl rfl rfl rfl ?_
 refine al_val (ov_rem (by decide) rfl rfl rfl) ?_
 obtain ⟨r3, hc2, h⟩ := opt_some h
 refine al_call (vs := [(str ([0] : List UInt8)), (int .i64 (((IntKind.i64.wrap ((8 : Int) - (((a1.length : Int)).tmod (8 : Int))))).tmod (8 : Int)))]) (f_strings_Repeat_ok fu ([0] : List UInt8) (((IntKind.i64.wrap ((8 : Int) - (((a1.length : Int)).tmod (8 : Int))))).tmod (8 : Int)) hc2) [] [] [0] pre_nil rfl (by simp) (by decide) (.inl rfl) rfl Tryd.func132 rfl rfl rfl (fun _ => ?_)
 obtain ⟨hc4, h⟩ := req_some h
 refine al_val (ov_strAdd hc4 rfl rfl rfl) ?_
 refine al_as rfl rfl ?_
 refine al_nt ?_
 obtain ⟨kk6, hkk6, h⟩ := lt_some h
 refine aw_seq_join (ι := Int) (fun i => (memOf w0 Z0 [] [(oBox g1 3 [(int .i64 a0)])] [])) (fun i => (tab [(1, (str a1)), (5, (int .u64 i)), (6, (Value.func (.func 187) #[] #[(ptr g1 0)]))])) (fun i => kk6 i = some r) ?_ ?_
 ·rintro j5i5 h
  have h : kk6 j5i5 = some r := h
  rw [hkk6] at h
  dsimp only at h
  clear hkk6
  refine aw_show (m := (memOf w0 Z0 [] [(oBox g1 3 [(int .i64 a0)])] [])) (S := (tab [(1, (str a1)), (5, (int .u64 j5i5)), (6, (Value.func (.func 187) #[] #[(ptr g1 0)]))])) ?_
  refine aw_sr ?_
  refine al_mv rfl rfl ?_
  refine al_mv rfl rfl ?_
  refine al_mv rfl rfl ?_
  refine al_val (ov_strLen Tryd.underlying9 rfl rfl) ?_
  refine al_val (ov_convInt (by rw [Tryd.underlying3]; rfl) Tryd.underlying115 rfl rfl) ?_
  obtain ⟨r8, hc7, h⟩ := opt_some h
  refine al_call (vs := [(int .u64 j5i5), (int .u64 (IntKind.u64.wrap (a1.length : Int)))]) (f_lumref_Step_ok fu j5i5 (IntKind.u64.wrap (a1.length : Int)) hc7) [] [] [0] pre_nil rfl (by simp) (by decide) (.inl rfl) rfl Tryd.func188 rfl rfl rfl (fun _ => ?_)
  obtain ⟨r10, hc9, h⟩ := opt_some h
  refine al_callF (vs := [(int .u64 r8)]) (caps := [(ptr g1 0)]) (f_lumref_Narrow_1_ok fu r8 (ptr g1 0) a0 hc9) rfl [0] [] [0] (pre_boxP (x := a0) 0 rfl rfl (fun _ _ => rfl) pre_nil) rfl (by simp) (by decide) (.inr flat_res0) rfl rfl Tryd.func187 rfl rfl rfl (fun _ => ?_)
  refine al_as rfl rfl ?_
  refine al_nt ?_
  refine aw_ret ?_
  obtain rfl := Option.some.inj h
  exact fn_ret () [] [] rfl rfl rfl rfl (res1 rfl rfl) rfl rfl rfl (by decide)
 ·clear hkk6
  refine aw_block ?_
  refine aw_state (aw_loop (ι := Int × (List UInt8)) (fun i => (memOf w0 Z0 [] [(oBox g1 3 [(int .i64 a0)])] [])) (fun i => (tab [(1, (str a1)), (5, (int .u64 i.1)), (6, (Value.func (.func 187) #[] #[(ptr g1 0)])), (7, (str i.2))])) (fun q i => f_lumref_Narrow_L13 a0 kk6 fu q i.1 i.2 = some r) ?_ fu ((0 : Int), (a1 ++ r3)) h) (fun w a hm hs => norm hm hs [0] [] [(1, (str a1)), (5, (int .u64 (0 : Int))), (6, (Value.func (.func 187) #[] #[(ptr g1 0)])), (7, (str (a1 ++ r3)))] (by decide) ⟨rfl, rfl, rfl, rfl, trivial⟩)
  clear h
  rintro k12 ⟨l11i5, l11s7⟩ h
  have h : f_lumref_Narrow_L13 a0 kk6 fu k12 l11i5 l11s7 = some r := h
  obtain _ | k12 := k12
  · rw [f_lumref_Narrow_L13] at h; cases h
  rw [f_lumref_Narrow_L13] at h
  refine aw_show (m := (memOf w0 Z0 [] [(oBox g1 3 [(int .i64 a0)])] [])) (S := (tab [(1, (str a1)), (5, (int .u64 l11i5)), (6, (Value.func (.func 187) #[] #[(ptr g1 0)])), (7, (str l11s7))])) ?_
  obtain ⟨kk14, hkk14, h⟩ := lt_some h
  refine aw_body_join (ι := Int × (List UInt8)) (fun i => (memOf w0 Z0 [] [(oBox g1 3 [(int .i64 a0)])] [])) (fun i => (tab [(1, (str a1)), (5, (int .u64 i.1)), (6, (Value.func (.func 187) #[] #[(ptr g1 0)])), (7, (str i.2))])) (fun i => kk14 i.1 i.2 = some r) (fun i h => aq_again k12 i (Nat.lt_succ_self _) (by rw [hkk14] at h; exact h) (fun w a hm hs => ⟨hm, hs⟩)) ?_
  clear hkk14
  refine aw_seq ?_
  refine aw_sr ?_
  refine al_mv rfl rfl ?_
  refine al_val (ov_strCmp rfl rfl rfl rfl) ?_
  refine al_nt ?_
  refine aw_cond rfl (fun hb15 => ?_) (fun hb15 => ?_)
  ·replace h := bif_t hb15 h
   refine aw_skip ?_
   refine aq_then ?_
   obtain ⟨kk17, hkk17, h⟩ := lt_some h
   refine aw_seq_join (ι := Int) (fun i => (memOf w0 Z0 [] [(oBox g1 3 [(int .i64 a0)])] [])) (fun i => (tab [(1, (str a1)), (5, (int .u64 i)), (6, (Value.func (.func 187) #[] #[(ptr g1 0)])), (7, (str l11s7))])) (fun i => kk17 i = some r) ?_ ?_
   ·rintro j16i5 h
    have h : kk17 j16i5 = some r := h
    rw [hkk17] at h
    dsimp only at h
    clear hkk17
    refine aw_show (m := (memOf w0 Z0 [] [(oBox g1 3 [(int .i64 a0)])] [])) (S := (tab [(1, (str a1)), (5, (int .u64 j16i5)), (6, (Value.func (.func 187) #[] #[(ptr g1 0)])), (7, (str l11s7))])) ?_
    refine aw_region ?_
    refine al_mv rfl rfl ?_
    obtain ⟨hc18, h⟩ := req_some h
    refine al_val (ov_strFrom hc18.1 hc18.2 Tryd.underlying9 rfl rfl rfl) ?_
    refine al_as rfl rfl ?_
    refine al_nil ?_
    exact aq_join (j16i5, (l11s7.drop ((8 : Int)).toNat)) h (fun w a hm hs => norm hm hs [0] [] [(1, (str a1)), (5, (int .u64 j16i5)), (6, (Value.func (.func 187) #[] #[(ptr g1 0)])), (7, (str (l11s7.drop ((8 : Int)).toNat)))] (by decide) ⟨rfl, rfl, rfl, rfl, trivial⟩)
   ·clear hkk17
    refine aw_block ?_
    refine aw_sr ?_
    refine al_as rfl rfl ?_
    refine al_nt ?_
    obtain ⟨kk20, hkk20, h⟩ := lt_some h
    refine aw_seq_join (ι := Int) (fun i => (memOf w0 Z0 [] [(oBox g1 3 [(int .i64 a0)])] [])) (fun i => (tab [(1, (str a1)), (5, (int .u64 l11i5)), (6, (Value.func (.func 187) #[] #[(ptr g1 0)])), (7, (str l11s7)), (8, (int .u64 i))])) (fun i => kk20 i = some r) ?_ ?_
    ·rintro j19i8 h
     have h : kk20 j19i8 = some r := h
     rw [hkk20] at h
     dsimp only at h
     clear hkk20
     refine aw_show (m := (memOf w0 Z0 [] [(oBox g1 3 [(int .i64 a0)])] [])) (S := (tab [(1, (str a1)), (5, (int .u64 l11i5)), (6, (Value.func (.func 187) #[] #[(ptr g1 0)])), (7, (str l11s7)), (8, (int .u64 j19i8))])) ?_
     refine aw_region ?_
     refine al_mv rfl rfl ?_
     refine al_mv rfl rfl ?_
     refine al_mv rfl rfl ?_
     obtain ⟨r22, hc21, h⟩ := opt_some h
     refine al_call (vs := [(int .u64 l11i5), (int .u64 j19i8)]) (f_lumref_Step_ok fu l11i5 j19i8 hc21) [] [] [0] pre_nil rfl (by simp) (by decide) (.inl rfl) rfl Tryd.func188 rfl rfl rfl (fun _ => ?_)
     obtain ⟨r24, hc23, h⟩ := opt_some h
     refine al_callF (vs := [(int .u64 r22)]) (caps := [(ptr g1 0)]) (f_lumref_Narrow_1_ok fu r22 (ptr g1 0) a0 hc23) rfl [0] [] [0] (pre_boxP (x := a0) 0 rfl rfl (fun _ _ => rfl) pre_nil) rfl (by simp) (by decide) (.inr flat_res0) rfl rfl Tryd.func187 rfl rfl rfl (fun _ => ?_)
     refine al_as rfl rfl ?_
     refine al_nil ?_
     refine aq_block ?_
     exact aq_join r24 h (fun w a hm hs => norm hm hs [0] [] [(1, (str a1)), (5, (int .u64 r24)), (6, (Value.func (.func 187) #[] #[(ptr g1 0)])), (7, (str l11s7))] (by decide) ⟨rfl, rfl, rfl, rfl, trivial⟩)
    ·clear hkk20
     refine aw_sr ?_
     refine al_as rfl rfl ?_
     refine al_nt ?_
     refine aw_block ?_
     refine aw_state (aw_loop (ι := Int × Int) (fun i => (memOf w0 Z0 [] [(oBox g1 3 [(int .i64 a0)])] [])) (fun i => (tab [(1, (str a1)), (5, (int .u64 l11i5)), (6, (Value.func (.func 187) #[] #[(ptr g1 0)])), (7, (str l11s7)), (8, (int .u64 i.1)), (9, (int .i64 i.2))])) (fun q i => f_lumref_Narrow_L27 l11s7 kk20 q i.1 i.2 = some r) ?_ fu ((0 : Int), (7 : Int)) h) (fun w a hm hs => norm hm hs [0] [] [(1, (str a1)), (5, (int .u64 l11i5)), (6, (Value.func (.func 187) #[] #[(ptr g1 0)])), (7, (str l11s7)), (8, (int .u64 (0 : Int))), (9, (int .i64 (7 : Int)))] (by decide) ⟨rfl, rfl, rfl, rfl, rfl, rfl, trivial⟩)
     clear h
     rintro k26 ⟨l25i8, l25i9⟩ h
     have h : f_lumref_Narrow_L27 l11s7 kk20 k26 l25i8 l25i9 = some r := h
     obtain _ | k26 := k26
     · rw [f_lumref_Narrow_L27] at h; cases h
     rw [f_lumref_Narrow_L27] at h
     refine aw_show (m := (memOf w0 Z0 [] [(oBox g1 3 [(int .i64 a0)])] [])) (S := (tab [(1, (str a1)), (5, (int .u64 l11i5)), (6, (Value.func (.func 187) #[] #[(ptr g1 0)])), (7, (str l11s7)), (8, (int .u64 l25i8)), (9, (int .i64 l25i9))])) ?_
     refine aw_seq ?_
     refine aw_sr ?_
     refine al_mv rfl rfl ?_
     refine al_in rfl rfl rfl rfl ?_
     refine al_nt ?_
     refine aw_cond rfl (fun hb28 => ?_) (fun hb28 => ?_)
     ·replace h := bif_t hb28 h
      refine aw_skip ?_
      refine aq_then ?_
      refine aw_seq ?_
      refine aw_block ?_
      refine aw_region ?_
      refine al_mv rfl rfl ?_
      refine al_in rfl rfl rfl rfl ?_
      refine al_mv rfl rfl ?_
      refine al_mv rfl rfl ?_
      obtain ⟨hc29, h⟩ := req_some h
      refine al_val (ov_strIdx hc29.1 hc29.2 Tryd.underlying9 rfl rfl rfl) ?_
      refine al_val (ov_convInt (by rw [Tryd.underlying5]; rfl) Tryd.underlying115 rfl rfl) ?_
      refine al_in rfl rfl rfl rfl ?_
      refine al_as rfl rfl ?_
      refine al_nil ?_
      refine aq_block ?_
      refine aq_then ?_
      refine aw_region ?_
      refine al_mv rfl rfl ?_
      refine al_in rfl rfl rfl rfl ?_
      refine al_as rfl rfl ?_
      refine al_nil ?_
      exact aq_again k26 ((IntKind.u64.wrap ((IntKind.u64.wrap ((256 : Int) * l25i8)) + (IntKind.u64.wrap (En.bAt l11s7 l25i9)))), (IntKind.i64.wrap (l25i9 - (1 : Int)))) (Nat.lt_succ_self _) h (fun w a hm hs => norm hm hs [0] [] [(1, (str a1)), (5, (int .u64 l11i5)), (6, (Value.func (.func 187) #[] #[(ptr g1 0)])), (7, (str l11s7)), (8, (int .u64 (IntKind.u64.wrap ((IntKind.u64.wrap ((256 : Int) * l25i8)) + (IntKind.u64.wrap (En.bAt l11s7 l25i9)))))), (9, (int .i64 (IntKind.i64.wrap (l25i9 - (1 : Int)))))] (by decide) ⟨rfl, rfl, rfl, rfl, rfl, rfl, trivial⟩)
     ·replace h := bif_f hb28 h
      refine aw_exit ?_
      refine aq_then_exit ?_
      refine aq_then_exit ?_
      refine aq_block_exit ?_
      exact aq_join l25i8 h (fun w a hm hs => norm hm hs [0] [] [(1, (str a1)), (5, (int .u64 l11i5)), (6, (Value.func (.func 187) #[] #[(ptr g1 0)])), (7, (str l11s7)), (8, (int .u64 l25i8))] (by decide) ⟨rfl, rfl, rfl, rfl, rfl, trivial⟩)
  ·replace h := bif_f hb15 h
   refine aw_exit ?_
   refine aq_then_exit ?_
   refine aq_then_exit ?_
   refine aq_block_exit ?_
   exact aq_join l11i5 h (fun w a hm hs => norm hm hs [0] [] [(1, (str a1)), (5, (int .u64 l11i5)), (6, (Value.func (.func 187) #[] #[(ptr g1 0)]))] (by decide) ⟨rfl, rfl, rfl, trivial⟩)
def f_lumref_digits : Nat → Int → Option (List UInt8)
  | 0, _ => none
  | fu + 1, a0 => (bif (a0 == (0 : Int)) then (some ([] : List UInt8)) else (opt (f_lumref_digits fu (IntKind.u64.wrap ((a0).tdiv (256 : Int)))) fun (r3 : (List UInt8)) => (req (0 ≤ (IntKind.u8.wrap ((a0).tmod (256 : Int))) ∧ (IntKind.u8.wrap ((a0).tmod (256 : Int))) ≤ 255) (req (r3.length + ([(UInt8.ofNat ((IntKind.u8.wrap ((a0).tmod (256 : Int)))).toNat)]).length ≤ 9223372036854775807) (some (r3 ++ ([(UInt8.ofNat ((IntKind.u8.wrap ((a0).tmod (256 : Int)))).toNat)])))))))
set_option maxRecDepth 100000 in
theorem f_lumref_digits_ok (fu : Nat) (a0 : Int) {r : (List UInt8)} (h : f_lumref_digits fu a0 = some r) : FnOk Tryd.prog 139 [(int .u64 a0)] [] [] (fun (i : Unit) => { val := (str r) }) := by
 cases fu with
 | zero => rw [f_lumref_digits] at h; cases h
 | succ fu =>
  rw [f_lumref_digits] at h
  refine fn_enter Tryd.func139 rfl Tryd.ntmps139 rfl (fun w0 Z0 => ?_)
  refine aw_sr ?_
  refine al_as rfl rfl ?_
  refine al_nt ?_
  refine aw_seq ?_
  refine aw_sr ?_
  refine al_mv rfl rfl ?_
  refine al_in rfl rfl rfl rfl ?_
  refine al_nt ?_
  refine aw_cond rfl (fun hb1 => ?_) (fun hb1 => ?_)
  ·replace h := bif_t hb1 h
   refine aw_sr ?_
   refine al_as rfl rfl ?_
   refine al_nt ?_
   refine aw_ret ?_
   refine aq_then_ret ?_
   obtain rfl := Option.some.inj h
   exact fn_ret () [] [] rfl rfl rfl rfl (res1 rfl rfl) rfl rfl rfl (by decide)
  ·replace h := bif_f hb1 h
   refine aw_skip ?_
   refine aq_then ?_
   refine aw_seq ?_
   obtain ⟨r3, hc2, h⟩ := opt_some h
   obtain ⟨hc5, h⟩ := req_some h
   obtain ⟨hc6, h⟩ := req_some h
   refine aw_region_draw 9 [(5, (fun u => fEq u (int .u64 a0))), (6, (fun u => fEq u (int .u64 (IntKind.u64.wrap ((a0).tdiv (256 : Int)))))), (7, (fun u => fEq u (str r3))), (8, (fun u => fEq u (int .u64 a0))), (9, (fun u => fEq u (int .u64 ((a0).tmod (256 : Int))))), (10, (fun u => fEq u (int .u8 (IntKind.u8.wrap ((a0).tmod (256 : Int)))))), (11, (fun v4 => (fDat (tyList tyU8) [v4] [(UInt8.ofNat ((IntKind.u8.wrap ((a0).tmod (256 : Int)))).toNat)]))), (12, (fun u => fEq u (str [(UInt8.ofNat ((IntKind.u8.wrap ((a0).tmod (256 : Int)))).toNat)]))), (13, (fun u => fEq u (str (r3 ++ ([(UInt8.ofNat ((IntKind.u8.wrap ((a0).tmod (256 : Int)))).toNat)])))))] (tab [(0, (int .u64 a0)), (2, (str ([] : List UInt8)))]) mixed (by kernel_rfl) rfl rfl rfl (fun a hs => hs.tab _ (allT_mem ⟨rfl, rfl, trivial⟩)) ⟨⟨rfl, ld_val (ov_move rfl rfl)⟩, ⟨rfl, ld_eq (j := 0) rfl rfl (ld_val (ov_quo (by decide) rfl rfl rfl))⟩, ⟨rfl, ld_eq (j := 1) rfl rfl (ld_callV (vs := [(int .u64 (IntKind.u64.wrap ((a0).tdiv (256 : Int))))]) (f_lumref_digits_ok fu (IntKind.u64.wrap ((a0).tdiv (256 : Int))) hc2) [] pre_nil rfl Tryd.func139 rfl rfl rfl)⟩, ⟨rfl, ld_val (ov_move rfl rfl)⟩, ⟨rfl, ld_eq (j := 3) rfl rfl (ld_val (ov_rem (by decide) rfl rfl rfl))⟩, ⟨rfl, ld_eq (j := 4) rfl rfl (ld_val (ov_convInt (by rw [Tryd.underlying115]; rfl) Tryd.underlying5 rfl rfl))⟩, ⟨rfl, ld_eq (j := 5) rfl rfl (ld_buildSlice (τ := tyU8) (e := 5) (k := 1) (cs := [(int .u8 (IntKind.u8.wrap ((a0).tmod (256 : Int))))]) (xs := [(UInt8.ofNat ((IntKind.u8.wrap ((a0).tmod (256 : Int)))).toNat)]) rfl (by decide) rfl (fun w a hm hs => ⟨([(int .u8 (IntKind.u8.wrap ((a0).tmod (256 : Int))))]).toArray, rfl, by simp only [List.map_toArray, List.map_cons, List.map_nil, hs.ev (x := .tmp 10) rfl]; exact run_bs [(int .u8 (IntKind.u8.wrap ((a0).tmod (256 : Int))))] [(int .u8 (IntKind.u8.wrap ((a0).tmod (256 : Int))))] Tryd.underlying113 to5 rfl rfl (bs_cons (l := [(int .u8 (IntKind.u8.wrap ((a0).tmod (256 : Int))))]) (cs := []) (cv_rfl rfl) rfl bs_nil) hm⟩) (fun hm => ⟨_, _, rfl, (fun _ => u8_rep hc5) hm, rfl⟩) rfl)⟩, ⟨rfl, ld_fact (j := 6) rfl rfl (fun v4 => ld_val (ov_toStr 0 rfl rfl Tryd.underlying113 Tryd.underlying5 Tryd.underlying9 rfl))⟩, ⟨rfl, ld_eq (j := 2) rfl rfl (ld_eq (j := 7) rfl rfl (ld_val (ov_strAdd hc6 rfl rfl rfl)))⟩, trivial⟩ ?_
   refine tl_eq 8 rfl ?_
   refine tl_done ?_
   refine al_as rfl rfl ?_
   refine al_nt ?_
   refine aw_ret ?_
   obtain rfl := Option.some.inj h
   exact fn_ret () [] [] rfl rfl rfl rfl (res1 rfl rfl) rfl rfl rfl (by decide)
def f_lumref_wide (fu : Nat) (a0 : Int) : Option (List UInt8) := (opt (f_lumref_digits fu a0) fun (r2 : (List UInt8)) => (opt (f_strings_Repeat fu ([0] : List UInt8) (IntKind.i64.wrap ((8 : Int) - (r2.length : Int)))) fun (r4 : (List UInt8)) => (req (r4.length + r2.length ≤ 9223372036854775807) (some (r4 ++ r2)))))
set_option maxRecDepth 100000 in
theorem f_lumref_wide_ok (fu : Nat) (a0 : Int) {r : (List UInt8)} (h : f_lumref_wide fu a0 = some r) : FnOk Tryd.prog 137 [(int .u64 a0)] [] [] (fun (i : Unit) => { val := (str r) }) := by
 unfold f_lumref_wide at h
 refine fn_enter Tryd.func137 rfl Tryd.ntmps137 rfl (fun w0 Z0 => ?_)
 refine aw_sr ?_
 refine al_as rfl rfl ?_
 refine al_nt ?_
 refine aw_sr ?_
 refine al_mv rfl rfl ?_
 obtain ⟨r2, hc1, h⟩ := opt_some h
 refine al_call (vs := [(int .u64 a0)]) (f_lumref_digits_ok fu a0 hc1) [] [] [] pre_nil rfl (by simp) (by decide) (.inl rfl) rfl Tryd.func139 rfl rfl rfl (fun _ => ?_)
 refine al_as rfl rfl ?_
 refine al_nt ?_
 refine aw_sr ?_
 refine al_mv rfl rfl ?_
 refine al_val (ov_strLen Tryd.underlying9 rfl rfl) ?_
 refine al_in rfl rfl rfl rfl ?_
 obtain ⟨r4, hc3, h⟩ := opt_some h
 refine al_call (vs := [(str ([0] : List UInt8)), (int .i64 (IntKind.i64.wrap ((8 : Int) - (r2.length : Int))))]) (f_strings_Repeat_ok fu ([0] : List UInt8) (IntKind.i64.wrap ((8 : Int) - (r2.length : Int))) hc3) [] [] [] pre_nil rfl (by simp) (by decide) (.inl rfl) rfl Tryd.func132 rfl rfl rfl (fun _ => ?_)
 refine al_mv rfl rfl ?_
 obtain ⟨hc5, h⟩ := req_some h
 refine al_val (ov_strAdd hc5 rfl rfl rfl) ?_
 refine al_as rfl rfl ?_
 refine al_nt ?_
 refine aw_ret ?_
 obtain rfl := Option.some.inj h
 exact fn_ret () [] [] rfl rfl rfl rfl (res1 rfl rfl) rfl rfl rfl (by decide)
def f_lumref_ID (fu : Nat) (a0 : (List UInt8)) : Option A8u8 := (opt (f_lumref_Narrow fu (64 : Int) a0) fun (r3 : Int) => (opt (f_lumref_wide fu r3) fun (r5 : (List UInt8)) => (req (r5.length ≤ 9223372036854775807) (req (8 ≤ r5.length) (some (ofA8u8 r5))))))
set_option maxRecDepth 100000 in
theorem f_lumref_ID_ok (fu : Nat) (a0 : (List UInt8)) {r : A8u8} (h : f_lumref_ID fu a0 = some r) : FnOk Tryd.prog 79 [(str a0)] [] [] (fun (i : Unit) => { val := (ag (cA8u8 r)) }) := by
 unfold f_lumref_ID at h
 refine fn_enter Tryd.func79 rfl Tryd.ntmps79 rfl (fun w0 Z0 => ?_)
 refine aw_sr ?_
 refine al_alloc (zs := (cA8u8 (A8u8.mk (0 : UInt8) (0 : UInt8) (0 : UInt8) (0 : UInt8) (0 : UInt8) (0 : UInt8) (0 : UInt8) (0 : UInt8)))) (zeroOf_to to47) rfl rfl (fun g1 => ?_)
 refine al_nt ?_
 refine aw_sr ?_
 refine al_mv rfl rfl ?_
 obtain ⟨r3, hc2, h⟩ := opt_some h
 refine al_call (vs := [(int .i64 (64 : Int)), (str a0)]) (f_lumref_Narrow_ok fu (64 : Int) a0 hc2) [] [] [0] pre_nil rfl (by simp) (by decide) (.inl rfl) rfl Tryd.func138 rfl rfl rfl (fun _ => ?_)
 obtain ⟨r5, hc4, h⟩ := opt_some h
 refine al_call (vs := [(int .u64 r3)]) (f_lumref_wide_ok fu r3 hc4) [] [] [0] pre_nil rfl (by simp) (by decide) (.inl rfl) rfl Tryd.func137 rfl rfl rfl (fun _ => ?_)
 obtain ⟨hc6, h⟩ := req_some h
 refine al_bytes hc6 rfl Tryd.underlying9 Tryd.underlying113 Tryd.underlying5 rfl (fun s7 => ?_)
 obtain ⟨hc9, h⟩ := req_some h
 refine al_s2ap (τA := tyA8u8) (x := (ofA8u8 r5)) 0 8 hc9 rfl (fun h9 => oflA8u8 hc9 h9) rfl rfl Tryd.underlying47 rfl (fun p8 => ?_)
 refine al_val (ov_loadP (ds := (cA8u8 (ofA8u8 r5))) 0 rfl encA8u8 rfl Tryd.underlying47 sz47 rfl rfl rfl) ?_
 refine al_store (i := 0) (vs := (cA8u8 (ofA8u8 r5))) (cs' := (cA8u8 (ofA8u8 r5))) rfl rfl rfl sz47 (cv_rfl rfl) rfl (co_all (oneA8u8 (ofA8u8 r5))) (Nat.le_of_ble_eq_true rfl) rfl rfl ?_
 refine al_nt ?_
 refine aw_ret ?_
 obtain rfl := Option.some.inj h
 exact fn_ret () [] [] rfl rfl rfl rfl (resC rfl (resB (i := 0) rfl rfl Tryd.underlying47 sz47 rfl rfl rfl (resN)) rfl) rfl rfl rfl (by decide)
def f_lumref_BlobID (fu : Nat) (a0 : S_api_Blob) : Option (A8u8 × Int) := (opt (f_lumref_kindOK fu a0.Kind) fun (r4 : Bool) => (bif (!r4) then (some ((A8u8.mk (0 : UInt8) (0 : UInt8) (0 : UInt8) (0 : UInt8) (0 : UInt8) (0 : UInt8) (0 : UInt8) (0 : UInt8)), (5 : Int))) else (bif (decide ((a0.Bytes.length : Int) > (4096 : Int))) then (some ((A8u8.mk (0 : UInt8) (0 : UInt8) (0 : UInt8) (0 : UInt8) (0 : UInt8) (0 : UInt8) (0 : UInt8) (0 : UInt8)), (2 : Int))) else (req (0 ≤ (IntKind.u8.wrap a0.Kind) ∧ (IntKind.u8.wrap a0.Kind) ≤ 255) (req (([(UInt8.ofNat ((IntKind.u8.wrap a0.Kind)).toNat)]).length + a0.Bytes.length ≤ 9223372036854775807) (opt (f_lumref_ID fu (([(UInt8.ofNat ((IntKind.u8.wrap a0.Kind)).toNat)]) ++ a0.Bytes)) fun (r11 : A8u8) => (some (r11, (0 : Int)))))))))
set_option maxRecDepth 100000 in
theorem f_lumref_BlobID_ok (fu : Nat) (a0 : S_api_Blob) {r : (A8u8 × Int)} (h : f_lumref_BlobID fu a0 = some r) : FnOk Tryd.prog 32 [(ag [(int .i64 a0.Kind), (str a0.Bytes)])] [] [] (fun (i : Unit) => { val := (Value.tuple #[(ag (cA8u8 r.1)), (int .i64 r.2)]) }) := by
 unfold f_lumref_BlobID at h
 refine fn_enter Tryd.func32 rfl Tryd.ntmps32 rfl (fun w0 Z0 => ?_)
 refine aw_sr ?_
 refine al_box (vs := [(int .i64 a0.Kind), (str a0.Bytes)]) rfl (cv_rfl rfl) rfl (fun g1 => ?_)
 refine al_alloc (zs := (cA8u8 (A8u8.mk (0 : UInt8) (0 : UInt8) (0 : UInt8) (0 : UInt8) (0 : UInt8) (0 : UInt8) (0 : UInt8) (0 : UInt8)))) (zeroOf_to to47) rfl rfl (fun g2 => ?_)
 refine al_as rfl rfl ?_
 refine al_nt ?_
 refine aw_seq ?_
 refine aw_sr ?_
 refine al_val (ov_fieldA (p := 0) rfl Tryd.underlying34 rfl sz3 rfl rfl rfl) ?_
 refine al_val (ov_load (i := 1) (v := (int .i64 a0.Kind)) rfl rfl Tryd.underlying3 sz3 rfl rfl rfl rfl) ?_
 obtain ⟨r4, hc3, h⟩ := opt_some h
 refine al_call (vs := [(int .i64 a0.Kind)]) (f_lumref_kindOK_ok fu a0.Kind hc3) [] [] [0, 1] pre_nil rfl (by simp) (by decide) (.inl rfl) rfl Tryd.func78 rfl rfl rfl (fun _ => ?_)
 refine al_val (ov_not rfl rfl) ?_
 refine al_nt ?_
 refine aw_cond rfl (fun hb5 => ?_) (fun hb5 => ?_)
 ·replace h := bif_t hb5 h
  refine aw_sr ?_
  refine al_val (ov_build (cells := ((cA8u8 (A8u8.mk (0 : UInt8) (0 : UInt8) (0 : UInt8) (0 : UInt8) (0 : UInt8) (0 : UInt8) (0 : UInt8) (0 : UInt8)))).toArray) (cs := (cA8u8 (A8u8.mk (0 : UInt8) (0 : UInt8) (0 : UInt8) (0 : UInt8) (0 : UInt8) (0 : UInt8) (0 : UInt8) (0 : UInt8)))) rfl (fun w a hm hs => by simp only [List.map_toArray, List.map_cons, List.map_nil, List.toList_toArray]; kernel_rfl)) ?_
  refine al_store (i := 0) (vs := (cA8u8 (A8u8.mk (0 : UInt8) (0 : UInt8) (0 : UInt8) (0 : UInt8) (0 : UInt8) (0 : UInt8) (0 : UInt8) (0 : UInt8)))) (cs' := (cA8u8 (A8u8.mk (0 : UInt8) (0 : UInt8) (0 : UInt8) (0 : UInt8) (0 : UInt8) (0 : UInt8) (0 : UInt8) (0 : UInt8)))) rfl rfl rfl sz47 (cv_rfl rfl) rfl (co_all (oneA8u8 (A8u8.mk (0 : UInt8) (0 : UInt8) (0 : UInt8) (0 : UInt8) (0 : UInt8) (0 : UInt8) (0 : UInt8) (0 : UInt8)))) (Nat.le_of_ble_eq_true rfl) rfl rfl ?_
  refine al_as rfl rfl ?_
  refine al_nt ?_
  refine aw_ret ?_
  refine aq_then_ret ?_
  obtain rfl := Option.some.inj h
  exact fn_ret () [] [] rfl rfl rfl rfl (resC rfl (resB (i := 0) rfl rfl Tryd.underlying47 sz47 rfl rfl rfl (resT rfl (resN))) rfl) rfl rfl rfl (by decide)
 ·replace h := bif_f hb5 h
  refine aw_skip ?_
  refine aq_then ?_
  refine aw_seq ?_
  refine aw_sr ?_
  refine al_val (ov_fieldA (p := 1) rfl Tryd.underlying34 rfl sz9 rfl rfl rfl) ?_
  refine al_val (ov_load (i := 1) (v := (str a0.Bytes)) rfl rfl Tryd.underlying9 sz9 rfl rfl rfl rfl) ?_
  refine al_val (ov_strLen Tryd.underlying9 rfl rfl) ?_
  refine al_in rfl rfl rfl rfl ?_
  refine al_nt ?_
  refine aw_cond rfl (fun hb6 => ?_) (fun hb6 => ?_)
  ·replace h := bif_t hb6 h
   refine aw_sr ?_
   refine al_val (ov_build (cells := ((cA8u8 (A8u8.mk (0 : UInt8) (0 : UInt8) (0 : UInt8) (0 : UInt8) (0 : UInt8) (0 : UInt8) (0 : UInt8) (0 : UInt8)))).toArray) (cs := (cA8u8 (A8u8.mk (0 : UInt8) (0 : UInt8) (0 : UInt8) (0 : UInt8) (0 : UInt8) (0 : UInt8) (0 : UInt8) (0 : UInt8)))) rfl (fun w a hm hs => by simp only [List.map_toArray, List.map_cons, List.map_nil, List.toList_toArray]; kernel_rfl)) ?_
   refine al_store (i := 0) (vs := (cA8u8 (A8u8.mk (0 : UInt8) (0 : UInt8) (0 : UInt8) (0 : UInt8) (0 : UInt8) (0 : UInt8) (0 : UInt8) (0 : UInt8)))) (cs' := (cA8u8 (A8u8.mk (0 : UInt8) (0 : UInt8) (0 : UInt8) (0 : UInt8) (0 : UInt8) (0 : UInt8) (0 : UInt8) (0 : UInt8)))) rfl rfl rfl sz47 (cv_rfl rfl) rfl (co_all (oneA8u8 (A8u8.mk (0 : UInt8) (0 : UInt8) (0 : UInt8) (0 : UInt8) (0 : UInt8) (0 : UInt8) (0 : UInt8) (0 : UInt8)))) (Nat.le_of_ble_eq_true rfl) rfl rfl ?_
   refine al_as rfl rfl ?_
   refine al_nt ?_
   refine aw_ret ?_
   refine aq_then_ret ?_
   obtain rfl := Option.some.inj h
   exact fn_ret () [] [] rfl rfl rfl rfl (resC rfl (resB (i := 0) rfl rfl Tryd.underlying47 sz47 rfl rfl rfl (resT rfl (resN))) rfl) rfl rfl rfl (by decide)
  ·replace h := bif_f hb6 h
   refine aw_skip ?_
   refine aq_tr ?_
   refine al_val (ov_fieldA (p := 0) rfl Tryd.underlying34 rfl sz3 rfl rfl rfl) ?_
   refine al_val (ov_load (i := 1) (v := (int .i64 a0.Kind)) rfl rfl Tryd.underlying3 sz3 rfl rfl rfl rfl) ?_
   refine al_val (ov_convInt (by rw [Tryd.underlying3]; rfl) Tryd.underlying5 rfl rfl) ?_
   obtain ⟨hc8, h⟩ := req_some h
   refine al_buildSlice (τ := tyU8) (e := 5) (k := 1) (sz := 0) (by_ := 0) (z := undef) (cs := [(int .u8 (IntKind.u8.wrap a0.Kind))]) (xs := [(UInt8.ofNat ((IntKind.u8.wrap a0.Kind)).toNat)]) rfl (by decide) (fun w a hm hs => ⟨([(int .u8 (IntKind.u8.wrap a0.Kind))]).toArray, rfl, by simp only [List.map_toArray, List.map_cons, List.map_nil, hs.ev (x := .tmp 16) rfl]; exact run_bs [(int .u8 (IntKind.u8.wrap a0.Kind))] [(int .u8 (IntKind.u8.wrap a0.Kind))] Tryd.underlying113 to5 rfl rfl (bs_cons (l := [(int .u8 (IntKind.u8.wrap a0.Kind))]) (cs := []) (cv_rfl rfl) rfl bs_nil) hm⟩) (fun hm => ⟨_, _, rfl, (fun _ => u8_rep hc8) hm, rfl⟩) rfl (fun v7 => ?_)
   refine al_val (ov_toStrR 0 rfl rfl Tryd.underlying113 Tryd.underlying5 Tryd.underlying9 rfl) ?_
   refine al_val (ov_fieldA (p := 1) rfl Tryd.underlying34 rfl sz9 rfl rfl rfl) ?_
   refine al_val (ov_load (i := 2) (v := (str a0.Bytes)) rfl rfl Tryd.underlying9 sz9 rfl rfl rfl rfl) ?_
   obtain ⟨hc9, h⟩ := req_some h
   refine al_val (ov_strAdd hc9 rfl rfl rfl) ?_
   obtain ⟨r11, hc10, h⟩ := opt_some h
   refine al_call (vs := [(str (([(UInt8.ofNat ((IntKind.u8.wrap a0.Kind)).toNat)]) ++ a0.Bytes))]) (f_lumref_ID_ok fu (([(UInt8.ofNat ((IntKind.u8.wrap a0.Kind)).toNat)]) ++ a0.Bytes) hc10) [] [] [0, 1, 2] pre_nil rfl (by simp) (by decide) (.inl rfl) rfl Tryd.func79 rfl rfl rfl (fun _ => ?_)
   refine al_store (i := 1) (vs := (cA8u8 r11)) (cs' := (cA8u8 r11)) rfl rfl rfl sz47 (cv_rfl rfl) rfl (co_all (oneA8u8 r11)) (Nat.le_of_ble_eq_true rfl) rfl rfl ?_
   refine al_as rfl rfl ?_
   refine al_nt ?_
   refine aw_ret ?_
   obtain rfl := Option.some.inj h
   exact fn_ret () [] [] rfl rfl rfl rfl (resC rfl (resB (i := 1) rfl rfl Tryd.underlying47 sz47 rfl rfl rfl (resT rfl (resN))) rfl) rfl rfl rfl (by decide)
def f_lumref_BlobHeap_L26 (a0 : (List S_api_Blob)) (l4x4 : (List A8u8)) (l4i16 : Int) (r16 : (A8u8 × Int)) (kk20 : (Unit → Option ((List A8u8) × Int))) : Nat → Int → Option ((List A8u8) × Int)
  | 0, _ => none
  | k25 + 1, l24i31 => (bif (decide (l24i31 < (l4x4.length : Int))) then (opt (at? l4x4 l24i31) fun (u28 : A8u8) => (lt (fun (j33b49 : Bool) => (bif j33b49 then (some (([] : List A8u8), (11 : Int))) else (f_lumref_BlobHeap_L26 a0 l4x4 l4i16 r16 kk20 k25 (IntKind.i64.wrap (l24i31 + (1 : Int)))))) fun (kk34 : Bool → Option ((List A8u8) × Int)) => (bif (u28 == r16.1) then (opt (at? a0 l24i31) fun (u37 : S_api_Blob) => (opt (at? a0 l4i16) fun (u40 : S_api_Blob) => (req ((Lit.int .i64 u37.Kind).wf = true) (req (u37.Bytes.length ≤ 9223372036854775807) (req ((Lit.int .i64 u40.Kind).wf = true) (req (u40.Bytes.length ≤ 9223372036854775807) (kk34 (!(u37 == u40))))))))) else (kk34 false)))) else (kk20 ()))
def f_lumref_BlobHeap_L6 (a0 : (List S_api_Blob)) (kk3 : ((List A8u8) → Option ((List A8u8) × Int))) (fu : Nat) : Nat → (List A8u8) → Int → Option ((List A8u8) × Int)
  | 0, _, _ => none
  | k5 + 1, l4x4, l4i16 => (lt (fun (l4x4 : (List A8u8)) (l4i16 : Int) => (f_lumref_BlobHeap_L6 a0 kk3 fu k5 l4x4 l4i16)) fun (kk7 : (List A8u8) → Int → Option ((List A8u8) × Int)) => (bif (decide (l4i16 < (a0.length : Int))) then (lt (fun (j9x4 : (List A8u8)) => (kk7 j9x4 (IntKind.i64.wrap (l4i16 + (1 : Int))))) fun (kk10 : (List A8u8) → Option ((List A8u8) × Int)) => (opt (at? a0 l4i16) fun (u11 : S_api_Blob) => (opt (f_lumref_BlobID fu u11) fun (r16 : (A8u8 × Int)) => (bif (r16.2 != (0 : Int)) then (some (([] : List A8u8), r16.2)) else (lt (fun (_ : Unit) => (req (((l4x4.length + ([r16.1]).length) * 8 : Nat) ≤ 140737488355328 ∧ l4x4.length + ([r16.1]).length ≤ 9223372036854775807) (kk10 (l4x4 ++ ([r16.1]))))) fun (kk20 : Unit → Option ((List A8u8) × Int)) => (f_lumref_BlobHeap_L26 a0 l4x4 l4i16 r16 kk20 fu (0 : Int))))))) else (kk3 l4x4)))
def f_lumref_BlobHeap (fu : Nat) (a0 : (List S_api_Blob)) : Option ((List A8u8) × Int) := (bif (decide ((a0.length : Int) > (1000 : Int))) then (some (([] : List A8u8), (2 : Int))) else (lt (fun (j2x4 : (List A8u8)) => (some (j2x4, (0 : Int)))) fun (kk3 : (List A8u8) → Option ((List A8u8) × Int)) => (f_lumref_BlobHeap_L6 a0 kk3 fu fu ([] : List A8u8) (0 : Int))))
set_option maxRecDepth 100000 in
set_option maxHeartbeats 2000000 in
theorem f_lumref_BlobHeap_ok (fu : Nat) (v0_0 : Value) (a0 : (List S_api_Blob)) {r : ((List A8u8) × Int)} (h : f_lumref_BlobHeap fu a0 = some r) : FnOk Tryd.prog 45 [v0_0] [(fDat (tyList tyS_api_Blob) [v0_0] a0)] [] (fun (i : Value) => { val := (Value.tuple #[i, (int .i64 r.2)]), own := [(oRow i 47 tyA8u8 r.1)] }) := by
 unfold f_lumref_BlobHeap at h
 refine fn_enter Tryd.func45 rfl Tryd.ntmps45 rfl (fun w0 Z0 => ?_)
 refine aw_sr ?_
 refine al_as rfl rfl ?_
 refine al_as rfl rfl ?_
 refine al_nt ?_
 refine aw_seq ?_
 refine aw_sr ?_
 refine al_mv rfl rfl ?_
 refine al_val (ov_lenD 0 rfl rfl Tryd.underlying28 rfl) ?_
 refine al_in rfl rfl rfl rfl ?_
 refine al_nt ?_
 refine aw_cond rfl (fun hb1 => ?_) (fun hb1 => ?_)
 ·replace h := bif_t hb1 h
  refine aw_sr ?_
  refine al_as rfl rfl ?_
  refine al_as rfl rfl ?_
  refine al_nt ?_
  refine aw_ret ?_
  refine aq_then_ret ?_
  refine aq_nilR 47 tyA8u8 ?_
  obtain rfl := Option.some.inj h
  exact fn_ret (Value.slice none 0 0) [0] [] rfl rfl rfl rfl (res2 rfl rfl rfl) rfl rfl rfl (by decide)
 ·replace h := bif_f hb1 h
  refine aw_skip ?_
  refine aq_tr ?_
  refine al_as rfl rfl ?_
  refine al_nt ?_
  obtain ⟨kk3, hkk3, h⟩ := lt_some h
  refine aw_seq_join (ι := Value × (List A8u8)) (fun i => (memOf w0 Z0 [] [(oRow i.1 47 tyA8u8 i.2)] [(fDat (tyList tyS_api_Blob) [v0_0] a0)])) (fun i => (tab [(4, i.1)])) (fun i => kk3 i.2 = some r) ?_ ?_
  ·rintro ⟨j2v4, j2x4⟩ h
   have h : kk3 j2x4 = some r := h
   rw [hkk3] at h
   dsimp only at h
   clear hkk3
   refine aw_show (m := (memOf w0 Z0 [] [(oRow j2v4 47 tyA8u8 j2x4)] [(fDat (tyList tyS_api_Blob) [v0_0] a0)])) (S := (tab [(4, j2v4)])) ?_
   refine aw_sr ?_
   refine al_mv rfl rfl ?_
   refine al_as rfl rfl ?_
   refine al_as rfl rfl ?_
   refine al_nt ?_
   refine aw_ret ?_
   obtain rfl := Option.some.inj h
   exact fn_ret j2v4 [0] [] rfl rfl rfl rfl (res2 rfl rfl rfl) rfl rfl rfl (by decide)
  ·clear hkk3
   refine aw_sr ?_
   refine al_mv rfl rfl ?_
   refine al_val (ov_lenD 0 rfl rfl Tryd.underlying28 rfl) ?_
   refine al_mv rfl rfl ?_
   refine al_nt ?_
   refine aw_block ?_
   refine aw_nilR 47 tyA8u8 ?_
   refine aw_state (aw_loop (ι := Value × (List A8u8) × Int) (fun i => (memOf w0 Z0 [] [(oRow i.1 47 tyA8u8 i.2.1)] [(fDat (tyList tyS_api_Blob) [v0_0] a0)])) (fun i => (tab [(0, v0_0), (4, i.1), (14, v0_0), (15, (int .i64 (a0.length : Int))), (16, (int .i64 i.2.2))])) (fun q i => f_lumref_BlobHeap_L6 a0 kk3 fu q i.2.1 i.2.2 = some r) ?_ fu ((Value.slice none 0 0), ([] : List A8u8), (0 : Int)) h) (fun w a hm hs => norm hm hs [0] [0] [(0, v0_0), (4, (Value.slice none 0 0)), (14, v0_0), (15, (int .i64 (a0.length : Int))), (16, (int .i64 (0 : Int)))] (by decide) ⟨rfl, rfl, rfl, rfl, rfl, trivial⟩)
   clear h
   rintro k5 ⟨l4v4, l4x4, l4i16⟩ h
   have h : f_lumref_BlobHeap_L6 a0 kk3 fu k5 l4x4 l4i16 = some r := h
   obtain _ | k5 := k5
   · rw [f_lumref_BlobHeap_L6] at h; cases h
   rw [f_lumref_BlobHeap_L6] at h
   refine aw_show (m := (memOf w0 Z0 [] [(oRow l4v4 47 tyA8u8 l4x4)] [(fDat (tyList tyS_api_Blob) [v0_0] a0)])) (S := (tab [(0, v0_0), (4, l4v4), (14, v0_0), (15, (int .i64 (a0.length : Int))), (16, (int .i64 l4i16))])) ?_
   obtain ⟨kk7, hkk7, h⟩ := lt_some h
   refine aw_body_join (ι := Value × (List A8u8) × Int) (fun i => (memOf w0 Z0 [] [(oRow i.1 47 tyA8u8 i.2.1)] [(fDat (tyList tyS_api_Blob) [v0_0] a0)])) (fun i => (tab [(0, v0_0), (4, i.1), (14, v0_0), (15, (int .i64 (a0.length : Int))), (16, (int .i64 i.2.2))])) (fun i => kk7 i.2.1 i.2.2 = some r) (fun i h => aq_again k5 i (Nat.lt_succ_self _) (by rw [hkk7] at h; exact h) (fun w a hm hs => ⟨hm, hs⟩)) ?_
   clear hkk7
   refine aw_sr ?_
   refine al_in rfl rfl rfl rfl ?_
   refine al_nt ?_
   refine aw_seq ?_
   refine aw_cond rfl (fun hb8 => ?_) (fun hb8 => ?_)
   ·replace h := bif_t hb8 h
    refine aw_skip ?_
    refine aq_then ?_
    obtain ⟨kk10, hkk10, h⟩ := lt_some h
    refine aw_seq_join (ι := Value × (List A8u8)) (fun i => (memOf w0 Z0 [] [(oRow i.1 47 tyA8u8 i.2)] [(fDat (tyList tyS_api_Blob) [v0_0] a0)])) (fun i => (tab [(0, v0_0), (4, i.1), (14, v0_0), (15, (int .i64 (a0.length : Int))), (16, (int .i64 l4i16))])) (fun i => kk10 i.2 = some r) ?_ ?_
    ·rintro ⟨j9v4, j9x4⟩ h
     have h : kk10 j9x4 = some r := h
     rw [hkk10] at h
     dsimp only at h
     clear hkk10
     refine aw_show (m := (memOf w0 Z0 [] [(oRow j9v4 47 tyA8u8 j9x4)] [(fDat (tyList tyS_api_Blob) [v0_0] a0)])) (S := (tab [(0, v0_0), (4, j9v4), (14, v0_0), (15, (int .i64 (a0.length : Int))), (16, (int .i64 l4i16))])) ?_
     refine aw_region ?_
     refine al_in rfl rfl rfl rfl ?_
     refine al_mv rfl rfl ?_
     refine al_nil ?_
     exact aq_join (j9v4, j9x4, (IntKind.i64.wrap (l4i16 + (1 : Int)))) h (fun w a hm hs => norm hm hs [0] [0] [(0, v0_0), (4, j9v4), (14, v0_0), (15, (int .i64 (a0.length : Int))), (16, (int .i64 (IntKind.i64.wrap (l4i16 + (1 : Int)))))] (by decide) ⟨rfl, rfl, rfl, rfl, rfl, trivial⟩)
    ·clear hkk10
     refine aw_block ?_
     refine aw_sr ?_
     refine al_mv rfl rfl ?_
     obtain ⟨u11, hu12, h⟩ := opt_some h
     refine al_idxD 0 hu12 rfl rfl rfl Tryd.underlying28 sz34 rfl (fun p13 => ?_)
     refine al_val (ov_loadP (ds := [(int .i64 u11.Kind), (str u11.Bytes)]) 0 rfl encS_api_Blob rfl Tryd.underlying34 sz34 rfl rfl rfl) ?_
     refine al_alloc (zs := [(int .i64 (0 : Int)), (str ([] : List UInt8))]) (zeroOf_to to34) rfl rfl (fun g14 => ?_)
     refine al_as rfl rfl ?_
     refine al_store (i := 0) (vs := [(int .i64 u11.Kind), (str u11.Bytes)]) (cs' := [(int .i64 u11.Kind), (str u11.Bytes)]) rfl rfl rfl sz34 (cv_rfl rfl) rfl (co_val rfl (co_val rfl co_nil)) (Nat.le_of_ble_eq_true rfl) rfl rfl ?_
     refine al_nt ?_
     refine aw_sr ?_
     refine al_val (ov_load (i := 0) (v := (ag [(int .i64 u11.Kind), (str u11.Bytes)])) rfl rfl Tryd.underlying34 sz34 rfl rfl rfl rfl) ?_
     obtain ⟨r16, hc15, h⟩ := opt_some h
     refine al_call (vs := [(ag [(int .i64 u11.Kind), (str u11.Bytes)])]) (f_lumref_BlobID_ok fu u11 hc15) [] [] [0, 1] pre_nil rfl (by simp) (by decide) (.inl rfl) rfl Tryd.func32 rfl rfl rfl (fun _ => ?_)
     refine al_mv rfl rfl ?_
     refine al_ex rfl rfl rfl ?_
     refine al_ex rfl rfl rfl ?_
     refine al_alloc (zs := (cA8u8 (A8u8.mk (0 : UInt8) (0 : UInt8) (0 : UInt8) (0 : UInt8) (0 : UInt8) (0 : UInt8) (0 : UInt8) (0 : UInt8)))) (zeroOf_to to47) rfl rfl (fun g17 => ?_)
     refine al_store (i := 0) (vs := (cA8u8 r16.1)) (cs' := (cA8u8 r16.1)) rfl rfl rfl sz47 (cv_rfl rfl) rfl (co_all (oneA8u8 r16.1)) (Nat.le_of_ble_eq_true rfl) rfl rfl ?_
     refine al_as rfl rfl ?_
     refine al_nt ?_
     refine aw_seq ?_
     refine aw_sr ?_
     refine al_mv rfl rfl ?_
     refine al_in rfl rfl rfl rfl ?_
     refine al_nt ?_
     refine aw_cond rfl (fun hb18 => ?_) (fun hb18 => ?_)
     ·replace h := bif_t hb18 h
      refine aw_sr ?_
      refine al_mv rfl rfl ?_
      refine al_as rfl rfl ?_
      refine al_as rfl rfl ?_
      refine al_nt ?_
      refine aw_ret ?_
      refine aq_then_ret ?_
      refine aq_block_ret ?_
      refine aq_then_ret ?_
      refine aq_then_ret ?_
      refine aq_block_ret ?_
      refine aq_then_ret ?_
      refine aq_nilR 47 tyA8u8 ?_
      obtain rfl := Option.some.inj h
      exact fn_ret (Value.slice none 0 0) [0] [] rfl rfl rfl rfl (res2 rfl rfl rfl) rfl rfl rfl (by decide)
     ·replace h := bif_f hb18 h
      refine aw_skip ?_
      refine aq_then ?_
      obtain ⟨kk20, hkk20, h⟩ := lt_some h
      refine aw_seq_join (ι := Unit) (fun i => (memOf w0 Z0 [] [(oRow l4v4 47 tyA8u8 l4x4), (oBox g17 47 (cA8u8 r16.1))] [(fDat (tyList tyS_api_Blob) [v0_0] a0), (fPtr tyS_api_Blob p13 u11)])) (fun i => (tab [(0, v0_0), (4, l4v4), (7, (ptr g17 0)), (14, v0_0), (15, (int .i64 (a0.length : Int))), (16, (int .i64 l4i16))])) (fun i => kk20 () = some r) ?_ ?_
      ·rintro _ h
       have h : kk20 () = some r := h
       rw [hkk20] at h
       dsimp only at h
       clear hkk20
       refine aw_show (m := (memOf w0 Z0 [] [(oRow l4v4 47 tyA8u8 l4x4), (oBox g17 47 (cA8u8 r16.1))] [(fDat (tyList tyS_api_Blob) [v0_0] a0), (fPtr tyS_api_Blob p13 u11)])) (S := (tab [(0, v0_0), (4, l4v4), (7, (ptr g17 0)), (14, v0_0), (15, (int .i64 (a0.length : Int))), (16, (int .i64 l4i16))])) ?_
       refine aw_region ?_
       refine al_mv rfl rfl ?_
       refine al_val (ov_load (i := 1) (v := (ag (cA8u8 r16.1))) rfl rfl Tryd.underlying47 sz47 rfl rfl rfl rfl) ?_
       refine al_buildSlice (τ := tyA8u8) (e := 47) (k := 1) (sz := 0) (by_ := 0) (z := undef) (cs := (cA8u8 r16.1)) (xs := [r16.1]) rfl (by decide) (fun w a hm hs => ⟨((cA8u8 r16.1)).toArray, rfl, by simp only [List.map_toArray, List.map_cons, List.map_nil, hs.ev (x := .tmp 52) rfl]; exact run_bs [(ag (cA8u8 r16.1))] (cA8u8 r16.1) Tryd.underlying27 to47 rfl rfl (bs_cons (l := (cA8u8 r16.1)) (cs := []) (cv_rfl rfl) rfl bs_nil) hm⟩) (fun hm => ⟨(cA8u8 r16.1), [], rfl, mkA8u8 rfl, rfl⟩) rfl (fun v21 => ?_)
       obtain ⟨hc22, h⟩ := req_some h
       refine al_append 1 hc22.1 hc22.2 rfl (src_own (i := 1) 0 rfl) rfl rfl Tryd.underlying27 to47 rfl rfl rfl (fun v23 => ?_)
       refine al_as rfl rfl ?_
       refine al_nil ?_
       refine aq_block ?_
       exact aq_join (v23, (l4x4 ++ ([r16.1]))) h (fun w a hm hs => norm hm hs [1] [0] [(0, v0_0), (4, v23), (14, v0_0), (15, (int .i64 (a0.length : Int))), (16, (int .i64 l4i16))] (by decide) ⟨rfl, rfl, rfl, rfl, rfl, trivial⟩)
      ·clear hkk20
       refine aw_sr ?_
       refine al_mv rfl rfl ?_
       refine al_val (ov_lenR 2 rfl rfl Tryd.underlying27 rfl) ?_
       refine al_mv rfl rfl ?_
       refine al_nt ?_
       refine aw_block ?_
       refine aw_state (aw_loop (ι := Int) (fun i => (memOf w0 Z0 [] [(oRow l4v4 47 tyA8u8 l4x4), (oBox g17 47 (cA8u8 r16.1))] [(fDat (tyList tyS_api_Blob) [v0_0] a0), (fPtr tyS_api_Blob p13 u11)])) (fun i => (tab [(0, v0_0), (4, l4v4), (5, (int .i64 l4i16)), (7, (ptr g17 0)), (14, v0_0), (15, (int .i64 (a0.length : Int))), (16, (int .i64 l4i16)), (29, l4v4), (30, (int .i64 (l4x4.length : Int))), (31, (int .i64 i))])) (fun q i => f_lumref_BlobHeap_L26 a0 l4x4 l4i16 r16 kk20 q i = some r) ?_ fu (0 : Int) h) (fun w a hm hs => norm hm hs [2, 0] [1, 0] [(0, v0_0), (4, l4v4), (5, (int .i64 l4i16)), (7, (ptr g17 0)), (14, v0_0), (15, (int .i64 (a0.length : Int))), (16, (int .i64 l4i16)), (29, l4v4), (30, (int .i64 (l4x4.length : Int))), (31, (int .i64 (0 : Int)))] (by decide) ⟨rfl, rfl, rfl, rfl, rfl, rfl, rfl, rfl, rfl, rfl, trivial⟩)
       clear h
       rintro k25 l24i31 h
       have h : f_lumref_BlobHeap_L26 a0 l4x4 l4i16 r16 kk20 k25 l24i31 = some r := h
       obtain _ | k25 := k25
       · rw [f_lumref_BlobHeap_L26] at h; cases h
       rw [f_lumref_BlobHeap_L26] at h
       refine aw_show (m := (memOf w0 Z0 [] [(oRow l4v4 47 tyA8u8 l4x4), (oBox g17 47 (cA8u8 r16.1))] [(fDat (tyList tyS_api_Blob) [v0_0] a0), (fPtr tyS_api_Blob p13 u11)])) (S := (tab [(0, v0_0), (4, l4v4), (5, (int .i64 l4i16)), (7, (ptr g17 0)), (14, v0_0), (15, (int .i64 (a0.length : Int))), (16, (int .i64 l4i16)), (29, l4v4), (30, (int .i64 (l4x4.length : Int))), (31, (int .i64 l24i31))])) ?_
       refine aw_sr ?_
       refine al_in rfl rfl rfl rfl ?_
       refine al_nt ?_
       refine aw_seq ?_
       refine aw_cond rfl (fun hb27 => ?_) (fun hb27 => ?_)
       ·replace h := bif_t hb27 h
        refine aw_skip ?_
        refine aq_then ?_
        refine aw_seq ?_
        refine aw_block ?_
        refine aw_sr ?_
        refine al_mv rfl rfl ?_
        obtain ⟨u28, hu29, h⟩ := opt_some h
        refine al_idxR 0 (at_some hu29).1 (at_some hu29).2.1 rfl rfl rfl Tryd.underlying27 sz47 rfl (fun p30 hp31 => ?_)
        refine al_val (ov_loadR (ds := (cA8u8 u28)) 0 rfl hp31 (at_some hu29).2.2 encA8u8 rfl Tryd.underlying47 sz47 rfl rfl rfl) ?_
        refine al_alloc (zs := (cA8u8 (A8u8.mk (0 : UInt8) (0 : UInt8) (0 : UInt8) (0 : UInt8) (0 : UInt8) (0 : UInt8) (0 : UInt8) (0 : UInt8)))) (zeroOf_to to47) rfl rfl (fun g32 => ?_)
        refine al_as rfl rfl ?_
        refine al_store (i := 0) (vs := (cA8u8 u28)) (cs' := (cA8u8 u28)) rfl rfl rfl sz47 (cv_rfl rfl) rfl (co_all (oneA8u8 u28)) (Nat.le_of_ble_eq_true rfl) rfl rfl ?_
        refine al_nt ?_
        obtain ⟨kk34, hkk34, h⟩ := lt_some h
        refine aw_seq_join (ι := Bool) (fun i => (memOf w0 Z0 [] [(oRow l4v4 47 tyA8u8 l4x4), (oBox g17 47 (cA8u8 r16.1))] [(fDat (tyList tyS_api_Blob) [v0_0] a0), (fPtr tyS_api_Blob p13 u11)])) (fun i => (tab [(0, v0_0), (4, l4v4), (5, (int .i64 l4i16)), (7, (ptr g17 0)), (14, v0_0), (15, (int .i64 (a0.length : Int))), (16, (int .i64 l4i16)), (29, l4v4), (30, (int .i64 (l4x4.length : Int))), (31, (int .i64 l24i31)), (49, (bool i))])) (fun i => kk34 i = some r) ?_ ?_
        ·rintro j33b49 h
         have h : kk34 j33b49 = some r := h
         rw [hkk34] at h
         dsimp only at h
         clear hkk34
         refine aw_show (m := (memOf w0 Z0 [] [(oRow l4v4 47 tyA8u8 l4x4), (oBox g17 47 (cA8u8 r16.1))] [(fDat (tyList tyS_api_Blob) [v0_0] a0), (fPtr tyS_api_Blob p13 u11)])) (S := (tab [(0, v0_0), (4, l4v4), (5, (int .i64 l4i16)), (7, (ptr g17 0)), (14, v0_0), (15, (int .i64 (a0.length : Int))), (16, (int .i64 l4i16)), (29, l4v4), (30, (int .i64 (l4x4.length : Int))), (31, (int .i64 l24i31)), (49, (bool j33b49))])) ?_
         refine aw_cond rfl (fun hb35 => ?_) (fun hb35 => ?_)
         ·replace h := bif_t hb35 h
          refine aw_sr ?_
          refine al_as rfl rfl ?_
          refine al_as rfl rfl ?_
          refine al_nt ?_
          refine aw_ret ?_
          refine aq_block_ret ?_
          refine aq_then_ret ?_
          refine aq_then_ret ?_
          refine aq_block_ret ?_
          refine aq_then_ret ?_
          refine aq_block_ret ?_
          refine aq_then_ret ?_
          refine aq_then_ret ?_
          refine aq_block_ret ?_
          refine aq_then_ret ?_
          refine aq_nilR 47 tyA8u8 ?_
          obtain rfl := Option.some.inj h
          exact fn_ret (Value.slice none 0 0) [0] [] rfl rfl rfl rfl (res2 rfl rfl rfl) rfl rfl rfl (by decide)
         ·replace h := bif_f hb35 h
          refine aw_skip ?_
          refine aq_block ?_
          refine aq_then ?_
          refine aw_region ?_
          refine al_in rfl rfl rfl rfl ?_
          refine al_mv rfl rfl ?_
          refine al_nil ?_
          exact aq_again k25 (IntKind.i64.wrap (l24i31 + (1 : Int))) (Nat.lt_succ_self _) h (fun w a hm hs => norm hm hs [0, 1] [0, 1] [(0, v0_0), (4, l4v4), (5, (int .i64 l4i16)), (7, (ptr g17 0)), (14, v0_0), (15, (int .i64 (a0.length : Int))), (16, (int .i64 l4i16)), (29, l4v4), (30, (int .i64 (l4x4.length : Int))), (31, (int .i64 (IntKind.i64.wrap (l24i31 + (1 : Int)))))] (by decide) ⟨rfl, rfl, rfl, rfl, rfl, rfl, rfl, rfl, rfl, rfl, trivial⟩)
        ·clear hkk34
         rcases Bool.eq_false_or_eq_true (u28 == r16.1) with hb36 | hb36
         ·replace h := bif_t hb36 h
          obtain ⟨u37, hu38, h⟩ := opt_some h
          obtain ⟨u40, hu41, h⟩ := opt_some h
          obtain ⟨hc43, h⟩ := req_some h
          obtain ⟨hc44, h⟩ := req_some h
          obtain ⟨hc45, h⟩ := req_some h
          obtain ⟨hc46, h⟩ := req_some h
          refine aw_region_draw 13 [(36, (fun u => fEq u (ag (cA8u8 u28)))), (37, (fun u => fEq u (ag (cA8u8 r16.1)))), (38, (fun u => fEq u (bool true))), (39, (fun u => fEq u (bool true))), (40, (fun u => fEq u v0_0)), (41, (fun u => fEq u (int .i64 l24i31))), (42, (fun p39 => (fPtr tyS_api_Blob p39 u37))), (43, (fun u => fEq u (ag [(int .i64 u37.Kind), (str u37.Bytes)]))), (44, (fun u => fEq u v0_0)), (45, (fun u => fEq u (int .i64 l4i16))), (46, (fun p42 => (fPtr tyS_api_Blob p42 u40))), (47, (fun u => fEq u (ag [(int .i64 u40.Kind), (str u40.Bytes)]))), (48, (fun u => fEq u (bool (!(u37 == u40)))))] (tab [(0, v0_0), (4, l4v4), (5, (int .i64 l4i16)), (7, (ptr g17 0)), (9, (int .i64 l24i31)), (10, (ptr g32 0)), (14, v0_0), (15, (int .i64 (a0.length : Int))), (16, (int .i64 l4i16)), (29, l4v4), (30, (int .i64 (l4x4.length : Int))), (31, (int .i64 l24i31))]) mixed (by kernel_rfl) rfl rfl rfl (fun a hs => hs.tab _ (allT_mem ⟨rfl, rfl, rfl, rfl, rfl, rfl, rfl, rfl, rfl, rfl, rfl, rfl, trivial⟩)) ⟨⟨rfl, ld_val (ov_load (i := 0) (v := (ag (cA8u8 u28))) rfl rfl Tryd.underlying47 sz47 rfl rfl rfl rfl)⟩, ⟨rfl, ld_val (ov_load (i := 2) (v := (ag (cA8u8 r16.1))) rfl rfl Tryd.underlying47 sz47 rfl rfl rfl rfl)⟩, ⟨rfl, ld_eq (j := 0) rfl rfl (ld_eq (j := 1) rfl rfl (ld_val (ov_cast (by first | rw [hb36] | rfl) (ov_eqlA (cs := (cA8u8 u28)) (ds := (cA8u8 r16.1)) (ls := [5, 5, 5, 5, 5, 5, 5, 5]) (p := (u28 == r16.1)) eg47 kt47 lv47 rfl rfl (by kernel_rfl) (by kernel_rfl) (fit_cons (fit_u8 Tryd.underlying5) (fit_cons (fit_u8 Tryd.underlying5) (fit_cons (fit_u8 Tryd.underlying5) (fit_cons (fit_u8 Tryd.underlying5) (fit_cons (fit_u8 Tryd.underlying5) (fit_cons (fit_u8 Tryd.underlying5) (fit_cons (fit_u8 Tryd.underlying5) (fit_cons (fit_u8 Tryd.underlying5) fit_nil)))))))) (fit_cons (fit_u8 Tryd.underlying5) (fit_cons (fit_u8 Tryd.underlying5) (fit_cons (fit_u8 Tryd.underlying5) (fit_cons (fit_u8 Tryd.underlying5) (fit_cons (fit_u8 Tryd.underlying5) (fit_cons (fit_u8 Tryd.underlying5) (fit_cons (fit_u8 Tryd.underlying5) (fit_cons (fit_u8 Tryd.underlying5) fit_nil)))))))) (injA8u8 (x := u28) (y := r16.1)) rfl))))⟩, ⟨rfl, ld_eq (j := 2) rfl rfl (ld_val (ov_cast (by first | rw [hb36] | rfl) (ov_move rfl rfl)))⟩, ⟨rfl, ld_eq (j := 3) rfl rfl (ld_val (ov_move rfl rfl))⟩, ⟨rfl, ld_eq (j := 3) rfl rfl (ld_val (ov_move rfl rfl))⟩, ⟨rfl, ld_eq (j := 3) rfl rfl (ld_eq (j := 4) rfl rfl (ld_eq (j := 5) rfl rfl (ld_of (of_idxD 0 hu38 rfl rfl rfl Tryd.underlying28 sz34 rfl))))⟩, ⟨rfl, ld_eq (j := 3) rfl rfl (ld_fact (j := 6) rfl rfl (fun p39 => ld_val (ov_loadP (ds := [(int .i64 u37.Kind), (str u37.Bytes)]) 0 rfl encS_api_Blob rfl Tryd.underlying34 sz34 rfl rfl rfl)))⟩, ⟨rfl, ld_eq (j := 3) rfl rfl (ld_val (ov_move rfl rfl))⟩, ⟨rfl, ld_eq (j := 3) rfl rfl (ld_val (ov_move rfl rfl))⟩, ⟨rfl, ld_eq (j := 3) rfl rfl (ld_eq (j := 8) rfl rfl (ld_eq (j := 9) rfl rfl (ld_of (of_idxD 0 hu41 rfl rfl rfl Tryd.underlying28 sz34 rfl))))⟩, ⟨rfl, ld_eq (j := 3) rfl rfl (ld_fact (j := 10) rfl rfl (fun p42 => ld_val (ov_loadP (ds := [(int .i64 u40.Kind), (str u40.Bytes)]) 0 rfl encS_api_Blob rfl Tryd.underlying34 sz34 rfl rfl rfl)))⟩, ⟨rfl, ld_eq (j := 3) rfl rfl (ld_eq (j := 7) rfl rfl (ld_eq (j := 11) rfl rfl (ld_val (ov_neqA (cs := [(int .i64 u37.Kind), (str u37.Bytes)]) (ds := [(int .i64 u40.Kind), (str u40.Bytes)]) (ls := [3, 9]) (p := (u37 == u40)) eg34 kt34 lv34 rfl rfl (by kernel_rfl) (by kernel_rfl) (fit_cons (fit_int Tryd.underlying3 hc43) (fit_cons (fit_str Tryd.underlying9 hc44) fit_nil)) (fit_cons (fit_int Tryd.underlying3 hc45) (fit_cons (fit_str Tryd.underlying9 hc46) fit_nil)) (injS_api_Blob (x := u37) (y := u40)) rfl))))⟩, trivial⟩ ?_
          refine tl_eq 3 rfl ?_
          refine tl_eq 12 rfl ?_
          refine tl_done ?_
          refine al_val (ov_pick_t rfl rfl rfl) ?_
          refine al_nil ?_
          exact aq_join (!(u37 == u40)) h (fun w a hm hs => norm hm hs [1, 2] [0, 1] [(0, v0_0), (4, l4v4), (5, (int .i64 l4i16)), (7, (ptr g17 0)), (14, v0_0), (15, (int .i64 (a0.length : Int))), (16, (int .i64 l4i16)), (29, l4v4), (30, (int .i64 (l4x4.length : Int))), (31, (int .i64 l24i31)), (49, (bool (!(u37 == u40))))] (by decide) ⟨rfl, rfl, rfl, rfl, rfl, rfl, rfl, rfl, rfl, rfl, rfl, trivial⟩)
         ·replace h := bif_f hb36 h
          refine aw_region_draw 13 [(36, (fun u => fEq u (ag (cA8u8 u28)))), (37, (fun u => fEq u (ag (cA8u8 r16.1)))), (38, (fun u => fEq u (bool false))), (39, (fun u => fEq u (bool false))), (40, (fun u => fEq u undef)), (41, (fun u => fEq u undef)), (42, (fun u => fEq u undef)), (43, (fun u => fEq u undef)), (44, (fun u => fEq u undef)), (45, (fun u => fEq u undef)), (46, (fun u => fEq u undef)), (47, (fun u => fEq u undef)), (48, (fun u => fEq u undef))] (tab [(0, v0_0), (4, l4v4), (5, (int .i64 l4i16)), (7, (ptr g17 0)), (9, (int .i64 l24i31)), (10, (ptr g32 0)), (14, v0_0), (15, (int .i64 (a0.length : Int))), (16, (int .i64 l4i16)), (29, l4v4), (30, (int .i64 (l4x4.length : Int))), (31, (int .i64 l24i31))]) mixed (by kernel_rfl) rfl rfl rfl (fun a hs => hs.tab _ (allT_mem ⟨rfl, rfl, rfl, rfl, rfl, rfl, rfl, rfl, rfl, rfl, rfl, rfl, trivial⟩)) ⟨⟨rfl, ld_val (ov_load (i := 0) (v := (ag (cA8u8 u28))) rfl rfl Tryd.underlying47 sz47 rfl rfl rfl rfl)⟩, ⟨rfl, ld_val (ov_load (i := 2) (v := (ag (cA8u8 r16.1))) rfl rfl Tryd.underlying47 sz47 rfl rfl rfl rfl)⟩, ⟨rfl, ld_eq (j := 0) rfl rfl (ld_eq (j := 1) rfl rfl (ld_val (ov_cast (by first | rw [hb36] | rfl) (ov_eqlA (cs := (cA8u8 u28)) (ds := (cA8u8 r16.1)) (ls := [5, 5, 5, 5, 5, 5, 5, 5]) (p := (u28 == r16.1)) eg47 kt47 lv47 rfl rfl (by kernel_rfl) (by kernel_rfl) (fit_cons (fit_u8 Tryd.underlying5) (fit_cons (fit_u8 Tryd.underlying5) (fit_cons (fit_u8 Tryd.underlying5) (fit_cons (fit_u8 Tryd.underlying5) (fit_cons (fit_u8 Tryd.underlying5) (fit_cons (fit_u8 Tryd.underlying5) (fit_cons (fit_u8 Tryd.underlying5) (fit_cons (fit_u8 Tryd.underlying5) fit_nil)))))))) (fit_cons (fit_u8 Tryd.underlying5) (fit_cons (fit_u8 Tryd.underlying5) (fit_cons (fit_u8 Tryd.underlying5) (fit_cons (fit_u8 Tryd.underlying5) (fit_cons (fit_u8 Tryd.underlying5) (fit_cons (fit_u8 Tryd.underlying5) (fit_cons (fit_u8 Tryd.underlying5) (fit_cons (fit_u8 Tryd.underlying5) fit_nil)))))))) (injA8u8 (x := u28) (y := r16.1)) rfl))))⟩, ⟨rfl, ld_eq (j := 2) rfl rfl (ld_val (ov_cast (by first | rw [hb36] | rfl) (ov_move rfl rfl)))⟩, ⟨rfl, ld_eq (j := 3) rfl rfl (ld_skip)⟩, ⟨rfl, ld_eq (j := 3) rfl rfl (ld_skip)⟩, ⟨rfl, ld_eq (j := 3) rfl rfl (ld_skip)⟩, ⟨rfl, ld_eq (j := 3) rfl rfl (ld_skip)⟩, ⟨rfl, ld_eq (j := 3) rfl rfl (ld_skip)⟩, ⟨rfl, ld_eq (j := 3) rfl rfl (ld_skip)⟩, ⟨rfl, ld_eq (j := 3) rfl rfl (ld_skip)⟩, ⟨rfl, ld_eq (j := 3) rfl rfl (ld_skip)⟩, ⟨rfl, ld_eq (j := 3) rfl rfl (ld_skip)⟩, trivial⟩ ?_
          refine tl_eq 3 rfl ?_
          refine tl_eq 12 rfl ?_
          refine tl_done ?_
          refine al_val (ov_pick_f rfl rfl rfl) ?_
          refine al_nil ?_
          exact aq_join false h (fun w a hm hs => norm hm hs [1, 2] [0, 1] [(0, v0_0), (4, l4v4), (5, (int .i64 l4i16)), (7, (ptr g17 0)), (14, v0_0), (15, (int .i64 (a0.length : Int))), (16, (int .i64 l4i16)), (29, l4v4), (30, (int .i64 (l4x4.length : Int))), (31, (int .i64 l24i31)), (49, (bool false))] (by decide) ⟨rfl, rfl, rfl, rfl, rfl, rfl, rfl, rfl, rfl, rfl, rfl, trivial⟩)
       ·replace h := bif_f hb27 h
        refine aw_exit ?_
        refine aq_then_exit ?_
        refine aq_then_exit ?_
        refine aq_block_exit ?_
        exact aq_join () h (fun w a hm hs => norm hm hs [0, 1] [0, 1] [(0, v0_0), (4, l4v4), (7, (ptr g17 0)), (14, v0_0), (15, (int .i64 (a0.length : Int))), (16, (int .i64 l4i16))] (by decide) ⟨rfl, rfl, rfl, rfl, rfl, rfl, trivial⟩)
   ·replace h := bif_f hb8 h
    refine aw_exit ?_
    refine aq_then_exit ?_
    refine aq_then_exit ?_
    refine aq_block_exit ?_
    exact aq_join (l4v4, l4x4) h (fun w a hm hs => norm hm hs [0] [0] [(4, l4v4)] (by decide) ⟨rfl, trivial⟩)
def f_slices_Clone___api_ID_api_ID_ (fu : Nat) (a0 : (List A8u8)) : Option (List A8u8) := (amb (a0.isEmpty) (some ([] : List A8u8)) (req (((([] : List A8u8).length + a0.length) * 8 : Nat) ≤ 140737488355328 ∧ ([] : List A8u8).length + a0.length ≤ 9223372036854775807) (some (([] : List A8u8) ++ a0))))
set_option maxRecDepth 100000 in
theorem f_slices_Clone___api_ID_api_ID__ok (fu : Nat) (v0_0 : Value) (a0 : (List A8u8)) {r : (List A8u8)} (h : f_slices_Clone___api_ID_api_ID_ fu a0 = some r) : FnOk Tryd.prog 46 [v0_0] [(fDat (tyList tyA8u8) [v0_0] a0)] [] (fun (i : Value) => { val := i, own := [(oRow i 47 tyA8u8 r)] }) := by
 unfold f_slices_Clone___api_ID_api_ID_ at h
 refine fn_enter Tryd.func46 rfl Tryd.ntmps46 rfl (fun w0 Z0 => ?_)
 refine aw_sr ?_
 refine al_as rfl rfl ?_
 refine al_nt ?_
 refine aw_seq ?_
 refine aw_sr ?_
 refine al_mv rfl rfl ?_
 refine al_isNilD 0 rfl rfl rfl Tryd.underlying27 rfl (fun nb1 hn2 => ?_)
 refine al_nt ?_
 refine aw_cond rfl (fun hb3 => ?_) (fun hb3 => ?_)
 ·replace h := (amb_some h).2 (isEmpty_of (hn2 hb3))
  refine aw_sr ?_
  refine al_as rfl rfl ?_
  refine al_nt ?_
  refine aw_ret ?_
  refine aq_then_ret ?_
  refine aq_nilR 47 tyA8u8 ?_
  obtain rfl := Option.some.inj h
  exact fn_ret (Value.slice none 0 0) [0] [] rfl rfl rfl rfl (res1 rfl rfl) rfl rfl rfl (by decide)
 ·replace h := (amb_some h).1
  refine aw_skip ?_
  refine aq_tr ?_
  refine al_buildSlice (τ := tyA8u8) (e := 47) (k := 0) (sz := 0) (by_ := 0) (z := undef) (cs := []) (xs := ([] : List A8u8)) rfl (by decide) (fun w a hm hs => ⟨([]).toArray, rfl, by simp only [List.map_toArray, List.map_cons, List.map_nil]; exact run_bs [] [] Tryd.underlying27 to47 rfl rfl bs_nil hm⟩) (fun hm => rfl) rfl (fun v4 => ?_)
  refine al_mv rfl rfl ?_
  obtain ⟨hc5, h⟩ := req_some h
  refine al_append 0 hc5.1 hc5.2 rfl (src_dat (i := 0) 0 rfl) rfl rfl Tryd.underlying27 to47 rfl rfl rfl (fun v6 => ?_)
  refine al_as rfl rfl ?_
  refine al_nt ?_
  refine aw_ret ?_
  obtain rfl := Option.some.inj h
  exact fn_ret v6 [0] [] rfl rfl rfl rfl (res1 rfl rfl) rfl rfl rfl (by decide)
def f_stringslite_HasPrefix (fu : Nat) (a0 : (List UInt8)) (a1 : (List UInt8)) : Option Bool := (lt (fun (j1b4 : Bool) => (some j1b4)) fun (kk2 : Bool → Option Bool) => (bif (decide ((a0.length : Int) ≥ (a1.length : Int))) then (req (0 ≤ (a1.length : Int) ∧ (a1.length : Int) ≤ (a0.length : Int)) (kk2 ((a0.take ((a1.length : Int)).toNat) == a1))) else (kk2 false)))
set_option maxRecDepth 100000 in
theorem f_stringslite_HasPrefix_ok (fu : Nat) (a0 : (List UInt8)) (a1 : (List UInt8)) {r : Bool} (h : f_stringslite_HasPrefix fu a0 a1 = some r) : FnOk Tryd.prog 91 [(str a0), (str a1)] [] [] (fun (i : Unit) => { val := (bool r) }) := by
 unfold f_stringslite_HasPrefix at h
 refine fn_enter Tryd.func91 rfl Tryd.ntmps91 rfl (fun w0 Z0 => ?_)
 refine aw_sr ?_
 refine al_as rfl rfl ?_
 refine al_nt ?_
 obtain ⟨kk2, hkk2, h⟩ := lt_some h
 refine aw_seq_join (ι := Bool) (fun i => (memOf w0 Z0 [] [] [])) (fun i => (tab [(4, (bool i))])) (fun i => kk2 i = some r) ?_ ?_
 ·rintro j1b4 h
  have h : kk2 j1b4 = some r := h
  rw [hkk2] at h
  dsimp only at h
  clear hkk2
  refine aw_show (m := (memOf w0 Z0 [] [] [])) (S := (tab [(4, (bool j1b4))])) ?_
  refine aw_ret ?_
  obtain rfl := Option.some.inj h
  exact fn_ret () [] [] rfl rfl rfl rfl (res1 rfl rfl) rfl rfl rfl (by decide)
 ·clear hkk2
  refine aw_region ?_
  refine al_mv rfl rfl ?_
  refine al_val (ov_strLen Tryd.underlying9 rfl rfl) ?_
  refine al_mv rfl rfl ?_
  refine al_val (ov_strLen Tryd.underlying9 rfl rfl) ?_
  refine al_in rfl rfl rfl rfl ?_
  refine al_mv rfl rfl ?_
  refine al_caseB 10 rfl (fun hb3 => ?_) (fun hb3 => ?_)
  ·replace h := bif_t hb3 h
   refine al_mv rfl rfl ?_
   refine al_mv rfl rfl ?_
   refine al_val (ov_strLen Tryd.underlying9 rfl rfl) ?_
   obtain ⟨hc4, h⟩ := req_some h
   refine al_val (ov_strTo hc4.1 hc4.2 Tryd.underlying9 rfl rfl rfl) ?_
   refine al_mv rfl rfl ?_
   refine al_val (ov_strCmp rfl rfl rfl rfl) ?_
   refine al_val (ov_pick_t rfl rfl rfl) ?_
   refine al_as rfl rfl ?_
   refine al_nil ?_
   exact aq_join ((a0.take ((a1.length : Int)).toNat) == a1) h (fun w a hm hs => norm hm hs [] [] [(4, (bool ((a0.take ((a1.length : Int)).toNat) == a1)))] (by decide) ⟨rfl, trivial⟩)
  ·replace h := bif_f hb3 h
   refine al_skip ?_
   refine al_skip ?_
   refine al_skip ?_
   refine al_skip ?_
   refine al_skip ?_
   refine al_skip ?_
   refine al_val (ov_pick_f rfl rfl rfl) ?_
   refine al_as rfl rfl ?_
   refine al_nil ?_
   exact aq_join false h (fun w a hm hs => norm hm hs [] [] [(4, (bool false))] (by decide) ⟨rfl, trivial⟩)
def f_strings_HasPrefix (fu : Nat) (a0 : (List UInt8)) (a1 : (List UInt8)) : Option Bool := (opt (f_stringslite_HasPrefix fu a0 a1) fun (r2 : Bool) => (some r2))
set_option maxRecDepth 100000 in
theorem f_strings_HasPrefix_ok (fu : Nat) (a0 : (List UInt8)) (a1 : (List UInt8)) {r : Bool} (h : f_strings_HasPrefix fu a0 a1 = some r) : FnOk Tryd.prog 39 [(str a0), (str a1)] [] [] (fun (i : Unit) => { val := (bool r) }) := by
 unfold f_strings_HasPrefix at h
 refine fn_enter Tryd.func39 rfl Tryd.ntmps39 rfl (fun w0 Z0 => ?_)
 refine aw_sr ?_
 refine al_as rfl rfl ?_
 refine al_nt ?_
 refine aw_sr ?_
 refine al_mv rfl rfl ?_
 refine al_mv rfl rfl ?_
 obtain ⟨r2, hc1, h⟩ := opt_some h
 refine al_call (vs := [(str a0), (str a1)]) (f_stringslite_HasPrefix_ok fu a0 a1 hc1) [] [] [] pre_nil rfl (by simp) (by decide) (.inl rfl) rfl Tryd.func91 rfl rfl rfl (fun _ => ?_)
 refine al_as rfl rfl ?_
 refine al_nt ?_
 refine aw_ret ?_
 obtain rfl := Option.some.inj h
 exact fn_ret () [] [] rfl rfl rfl rfl (res1 rfl rfl) rfl rfl rfl (by decide)
def f_lumref_number : Nat → (List UInt8) → Option Int
  | 0, _ => none
  | fu + 1, a0 => (bif (a0 == ([] : List UInt8)) then (some (0 : Int)) else (req (0 ≤ (IntKind.i64.wrap ((a0.length : Int) - (1 : Int))) ∧ (IntKind.i64.wrap ((a0.length : Int) - (1 : Int))) ≤ (a0.length : Int)) (opt (f_lumref_number fu (a0.take ((IntKind.i64.wrap ((a0.length : Int) - (1 : Int)))).toNat)) fun (r4 : Int) => (req (0 ≤ (IntKind.i64.wrap ((a0.length : Int) - (1 : Int))) ∧ (IntKind.i64.wrap ((a0.length : Int) - (1 : Int))) < (a0.length : Int)) (some (IntKind.u64.wrap ((IntKind.u64.wrap ((256 : Int) * r4)) + (IntKind.u64.wrap (En.bAt a0 (IntKind.i64.wrap ((a0.length : Int) - (1 : Int))))))))))))
set_option maxRecDepth 100000 in
theorem f_lumref_number_ok (fu : Nat) (a0 : (List UInt8)) {r : Int} (h : f_lumref_number fu a0 = some r) : FnOk Tryd.prog 231 [(str a0)] [] [] (fun (i : Unit) => { val := (int .u64 r) }) := by
 cases fu with
 | zero => rw [f_lumref_number] at h; cases h
 | succ fu =>
  rw [f_lumref_number] at h
  refine fn_enter Tryd.func231 rfl Tryd.ntmps231 rfl (fun w0 Z0 => ?_)
  refine aw_sr ?_
  refine al_as rfl rfl ?_
  refine al_nt ?_
  refine aw_seq ?_
  refine aw_sr ?_
  refine al_mv rfl rfl ?_
  refine al_val (ov_strCmp rfl rfl rfl rfl) ?_
  refine al_nt ?_
  refine aw_cond rfl (fun hb1 => ?_) (fun hb1 => ?_)
  ·replace h := bif_t hb1 h
   refine aw_sr ?_
   refine al_as rfl rfl ?_
   refine al_nt ?_
   refine aw_ret ?_
   refine aq_then_ret ?_
   obtain rfl := Option.some.inj h
   exact fn_ret () [] [] rfl rfl rfl rfl (res1 rfl rfl) rfl rfl rfl (by decide)
  ·replace h := bif_f hb1 h
   refine aw_skip ?_
   refine aq_then ?_
   refine aw_seq ?_
   obtain ⟨hc2, h⟩ := req_some h
   obtain ⟨r4, hc3, h⟩ := opt_some h
   obtain ⟨hc5, h⟩ := req_some h
   refine aw_region_draw 14 [(5, (fun u => fEq u (str a0))), (6, (fun u => fEq u (str a0))), (7, (fun u => fEq u (int .i64 (a0.length : Int)))), (8, (fun u => fEq u (int .i64 (IntKind.i64.wrap ((a0.length : Int) - (1 : Int)))))), (9, (fun u => fEq u (str (a0.take ((IntKind.i64.wrap ((a0.length : Int) - (1 : Int)))).toNat)))), (10, (fun u => fEq u (int .u64 r4))), (11, (fun u => fEq u (int .u64 (IntKind.u64.wrap ((256 : Int) * r4))))), (12, (fun u => fEq u (str a0))), (13, (fun u => fEq u (str a0))), (14, (fun u => fEq u (int .i64 (a0.length : Int)))), (15, (fun u => fEq u (int .i64 (IntKind.i64.wrap ((a0.length : Int) - (1 : Int)))))), (16, (fun u => fEq u (int .u8 (En.bAt a0 (IntKind.i64.wrap ((a0.length : Int) - (1 : Int))))))), (17, (fun u => fEq u (int .u64 (IntKind.u64.wrap (En.bAt a0 (IntKind.i64.wrap ((a0.length : Int) - (1 : Int)))))))), (18, (fun u => fEq u (int .u64 (IntKind.u64.wrap ((IntKind.u64.wrap ((256 : Int) * r4)) + (IntKind.u64.wrap (En.bAt a0 (IntKind.i64.wrap ((a0.length : Int) - (1 : Int))))))))))] (tab [(0, (str a0)), (2, (int .u64 (0 : Int)))]) mixed (by kernel_rfl) rfl rfl rfl (fun a hs => hs.tab _ (allT_mem ⟨rfl, rfl, trivial⟩)) ⟨⟨rfl, ld_val (ov_move rfl rfl)⟩, ⟨rfl, ld_val (ov_move rfl rfl)⟩, ⟨rfl, ld_eq (j := 1) rfl rfl (ld_val (ov_strLen Tryd.underlying9 rfl rfl))⟩, ⟨rfl, ld_eq (j := 2) rfl rfl (ld_val (ov_int rfl rfl rfl rfl))⟩, ⟨rfl, ld_eq (j := 0) rfl rfl (ld_eq (j := 3) rfl rfl (ld_val (ov_strTo hc2.1 hc2.2 Tryd.underlying9 rfl rfl rfl)))⟩, ⟨rfl, ld_eq (j := 4) rfl rfl (ld_callV (vs := [(str (a0.take ((IntKind.i64.wrap ((a0.length : Int) - (1 : Int)))).toNat))]) (f_lumref_number_ok fu (a0.take ((IntKind.i64.wrap ((a0.length : Int) - (1 : Int)))).toNat) hc3) [] pre_nil rfl Tryd.func231 rfl rfl rfl)⟩, ⟨rfl, ld_eq (j := 5) rfl rfl (ld_val (ov_int rfl rfl rfl rfl))⟩, ⟨rfl, ld_val (ov_move rfl rfl)⟩, ⟨rfl, ld_val (ov_move rfl rfl)⟩, ⟨rfl, ld_eq (j := 8) rfl rfl (ld_val (ov_strLen Tryd.underlying9 rfl rfl))⟩, ⟨rfl, ld_eq (j := 9) rfl rfl (ld_val (ov_int rfl rfl rfl rfl))⟩, ⟨rfl, ld_eq (j := 7) rfl rfl (ld_eq (j := 10) rfl rfl (ld_val (ov_strIdx hc5.1 hc5.2 Tryd.underlying9 rfl rfl rfl)))⟩, ⟨rfl, ld_eq (j := 11) rfl rfl (ld_val (ov_convInt (by rw [Tryd.underlying5]; rfl) Tryd.underlying115 rfl rfl))⟩, ⟨rfl, ld_eq (j := 6) rfl rfl (ld_eq (j := 12) rfl rfl (ld_val (ov_int rfl rfl rfl rfl)))⟩, trivial⟩ ?_
   refine tl_eq 13 rfl ?_
   refine tl_done ?_
   refine al_as rfl rfl ?_
   refine al_nt ?_
   refine aw_ret ?_
   obtain rfl := Option.some.inj h
   exact fn_ret () [] [] rfl rfl rfl rfl (res1 rfl rfl) rfl rfl rfl (by decide)
def f_lumref_Get (fu : Nat) (a0 : (List UInt8)) : Option (Int × Int × Int) := (bif ((a0.length : Int) == (0 : Int)) then (some ((0 : Int), (0 : Int), (3 : Int))) else (req (0 ≤ (0 : Int) ∧ (0 : Int) < (a0.length : Int)) (bif (decide ((En.bAt a0 (0 : Int)) > (8 : Int))) then (some ((0 : Int), (0 : Int), (4 : Int))) else (req (0 ≤ (0 : Int) ∧ (0 : Int) < (a0.length : Int)) (bif (decide ((a0.length : Int) < (IntKind.i64.wrap ((1 : Int) + (IntKind.i64.wrap (En.bAt a0 (0 : Int))))))) then (some ((0 : Int), (0 : Int), (3 : Int))) else (req (0 ≤ (1 : Int) ∧ (1 : Int) ≤ (IntKind.i64.wrap ((1 : Int) + (IntKind.i64.wrap (En.bAt a0 (0 : Int))))) ∧ (IntKind.i64.wrap ((1 : Int) + (IntKind.i64.wrap (En.bAt a0 (0 : Int))))) ≤ (a0.length : Int)) (opt (f_strings_HasPrefix fu (cut a0 (1 : Int) (IntKind.i64.wrap ((1 : Int) + (IntKind.i64.wrap (En.bAt a0 (0 : Int)))))) ([0] : List UInt8)) fun (r8 : Bool) => (bif r8 then (some ((0 : Int), (0 : Int), (4 : Int))) else (req (0 ≤ (1 : Int) ∧ (1 : Int) ≤ (IntKind.i64.wrap ((1 : Int) + (IntKind.i64.wrap (En.bAt a0 (0 : Int))))) ∧ (IntKind.i64.wrap ((1 : Int) + (IntKind.i64.wrap (En.bAt a0 (0 : Int))))) ≤ (a0.length : Int)) (opt (f_lumref_number fu (cut a0 (1 : Int) (IntKind.i64.wrap ((1 : Int) + (IntKind.i64.wrap (En.bAt a0 (0 : Int))))))) fun (r12 : Int) => (some (r12, (IntKind.i64.wrap ((1 : Int) + (IntKind.i64.wrap (En.bAt a0 (0 : Int))))), (0 : Int)))))))))))))
set_option maxRecDepth 100000 in
theorem f_lumref_Get_ok (fu : Nat) (a0 : (List UInt8)) {r : (Int × Int × Int)} (h : f_lumref_Get fu a0 = some r) : FnOk Tryd.prog 206 [(str a0)] [] [] (fun (i : Unit) => { val := (Value.tuple #[(int .u64 r.1), (int .i64 r.2.1), (int .i64 r.2.2)]) }) := by
 unfold f_lumref_Get at h
 refine fn_enter Tryd.func206 rfl Tryd.ntmps206 rfl (fun w0 Z0 => ?_)
 refine aw_sr ?_
 refine al_as rfl rfl ?_
 refine al_as rfl rfl ?_
 refine al_as rfl rfl ?_
 refine al_nt ?_
 refine aw_seq ?_
 refine aw_sr ?_
 refine al_mv rfl rfl ?_
 refine al_val (ov_strLen Tryd.underlying9 rfl rfl) ?_
 refine al_in rfl rfl rfl rfl ?_
 refine al_nt ?_
 refine aw_cond rfl (fun hb1 => ?_) (fun hb1 => ?_)
 ·replace h := bif_t hb1 h
  refine aw_sr ?_
  refine al_as rfl rfl ?_
  refine al_as rfl rfl ?_
  refine al_as rfl rfl ?_
  refine al_nt ?_
  refine aw_ret ?_
  refine aq_then_ret ?_
  obtain rfl := Option.some.inj h
  exact fn_ret () [] [] rfl rfl rfl rfl (res3 rfl rfl rfl rfl) rfl rfl rfl (by decide)
 ·replace h := bif_f hb1 h
  refine aw_skip ?_
  refine aq_then ?_
  refine aw_seq ?_
  refine aw_sr ?_
  refine al_mv rfl rfl ?_
  obtain ⟨hc2, h⟩ := req_some h
  refine al_val (ov_strIdx hc2.1 hc2.2 Tryd.underlying9 rfl rfl rfl) ?_
  refine al_in rfl rfl rfl rfl ?_
  refine al_nt ?_
  refine aw_cond rfl (fun hb3 => ?_) (fun hb3 => ?_)
  ·replace h := bif_t hb3 h
   refine aw_sr ?_
   refine al_as rfl rfl ?_
   refine al_as rfl rfl ?_
   refine al_as rfl rfl ?_
   refine al_nt ?_
   refine aw_ret ?_
   refine aq_then_ret ?_
   obtain rfl := Option.some.inj h
   exact fn_ret () [] [] rfl rfl rfl rfl (res3 rfl rfl rfl rfl) rfl rfl rfl (by decide)
  ·replace h := bif_f hb3 h
   refine aw_skip ?_
   refine aq_tr ?_
   refine al_mv rfl rfl ?_
   obtain ⟨hc4, h⟩ := req_some h
   refine al_val (ov_strIdx hc4.1 hc4.2 Tryd.underlying9 rfl rfl rfl) ?_
   refine al_val (ov_convInt (by rw [Tryd.underlying5]; rfl) Tryd.underlying3 rfl rfl) ?_
   refine al_in rfl rfl rfl rfl ?_
   refine al_as rfl rfl ?_
   refine al_nt ?_
   refine aw_seq ?_
   refine aw_sr ?_
   refine al_mv rfl rfl ?_
   refine al_val (ov_strLen Tryd.underlying9 rfl rfl) ?_
   refine al_mv rfl rfl ?_
   refine al_in rfl rfl rfl rfl ?_
   refine al_nt ?_
   refine aw_cond rfl (fun hb5 => ?_) (fun hb5 => ?_)
   ·replace h := bif_t hb5 h
    refine aw_sr ?_
    refine al_as rfl rfl ?_
    refine al_as rfl rfl ?_
    refine al_as rfl rfl ?_
    refine al_nt ?_
    refine aw_ret ?_
    refine aq_then_ret ?_
    obtain rfl := Option.some.inj h
    exact fn_ret () [] [] rfl rfl rfl rfl (res3 rfl rfl rfl rfl) rfl rfl rfl (by decide)
   ·replace h := bif_f hb5 h
    refine aw_skip ?_
    refine aq_then ?_
    refine aw_seq ?_
    refine aw_sr ?_
    refine al_mv rfl rfl ?_
    refine al_mv rfl rfl ?_
    obtain ⟨hc6, h⟩ := req_some h
    refine al_val (ov_strCut hc6.1 hc6.2.1 hc6.2.2 Tryd.underlying9 rfl rfl rfl rfl) ?_
    obtain ⟨r8, hc7, h⟩ := opt_some h
    refine al_call (vs := [(str (cut a0 (1 : Int) (IntKind.i64.wrap ((1 : Int) + (IntKind.i64.wrap (En.bAt a0 (0 : Int))))))), (str ([0] : List UInt8))]) (f_strings_HasPrefix_ok fu (cut a0 (1 : Int) (IntKind.i64.wrap ((1 : Int) + (IntKind.i64.wrap (En.bAt a0 (0 : Int)))))) ([0] : List UInt8) hc7) [] [] [] pre_nil rfl (by simp) (by decide) (.inl rfl) rfl Tryd.func39 rfl rfl rfl (fun _ => ?_)
    refine al_nt ?_
    refine aw_cond rfl (fun hb9 => ?_) (fun hb9 => ?_)
    ·replace h := bif_t hb9 h
     refine aw_sr ?_
     refine al_as rfl rfl ?_
     refine al_as rfl rfl ?_
     refine al_as rfl rfl ?_
     refine al_nt ?_
     refine aw_ret ?_
     refine aq_then_ret ?_
     obtain rfl := Option.some.inj h
     exact fn_ret () [] [] rfl rfl rfl rfl (res3 rfl rfl rfl rfl) rfl rfl rfl (by decide)
    ·replace h := bif_f hb9 h
     refine aw_skip ?_
     refine aq_tr ?_
     refine al_mv rfl rfl ?_
     refine al_mv rfl rfl ?_
     obtain ⟨hc10, h⟩ := req_some h
     refine al_val (ov_strCut hc10.1 hc10.2.1 hc10.2.2 Tryd.underlying9 rfl rfl rfl rfl) ?_
     obtain ⟨r12, hc11, h⟩ := opt_some h
     refine al_call (vs := [(str (cut a0 (1 : Int) (IntKind.i64.wrap ((1 : Int) + (IntKind.i64.wrap (En.bAt a0 (0 : Int)))))))]) (f_lumref_number_ok fu (cut a0 (1 : Int) (IntKind.i64.wrap ((1 : Int) + (IntKind.i64.wrap (En.bAt a0 (0 : Int)))))) hc11) [] [] [] pre_nil rfl (by simp) (by decide) (.inl rfl) rfl Tryd.func231 rfl rfl rfl (fun _ => ?_)
     refine al_mv rfl rfl ?_
     refine al_as rfl rfl ?_
     refine al_as rfl rfl ?_
     refine al_as rfl rfl ?_
     refine al_nt ?_
     refine aw_ret ?_
     obtain rfl := Option.some.inj h
     exact fn_ret () [] [] rfl rfl rfl rfl (res3 rfl rfl rfl rfl) rfl rfl rfl (by decide)
def f_lumref_numberAt (fu : Nat) (a0 : (List UInt8)) (a1 : Int) : Option (Int × (List UInt8) × Int) := (opt (f_lumref_Get fu a0) fun (r2 : (Int × Int × Int)) => (lt (fun (j3i9 : Int) => (bif (j3i9 != (0 : Int)) then (some ((0 : Int), ([] : List UInt8), j3i9)) else (req (0 ≤ r2.2.1 ∧ r2.2.1 ≤ (a0.length : Int)) (some ((IntKind.i64.wrap r2.1), (a0.drop (r2.2.1).toNat), (0 : Int)))))) fun (kk4 : Int → Option (Int × (List UInt8) × Int)) => (lt (fun (j7b22 : Bool) => (bif j7b22 then (kk4 (2 : Int)) else (kk4 r2.2.2))) fun (kk8 : Bool → Option (Int × (List UInt8) × Int)) => (bif (r2.2.2 == (0 : Int)) then (kk8 (decide (r2.1 > a1))) else (kk8 false)))))
set_option maxRecDepth 100000 in
theorem f_lumref_numberAt_ok (fu : Nat) (a0 : (List UInt8)) (a1 : Int) {r : (Int × (List UInt8) × Int)} (h : f_lumref_numberAt fu a0 a1 = some r) : FnOk Tryd.prog 168 [(str a0), (int .u64 a1)] [] [] (fun (i : Unit) => { val := (Value.tuple #[(int .i64 r.1), (str r.2.1), (int .i64 r.2.2)]) }) := by
 unfold f_lumref_numberAt at h
 refine fn_enter Tryd.func168 rfl Tryd.ntmps168 rfl (fun w0 Z0 => ?_)
 refine aw_sr ?_
 refine al_as rfl rfl ?_
 refine al_as rfl rfl ?_
 refine al_as rfl rfl ?_
 refine al_nt ?_
 refine aw_sr ?_
 refine al_mv rfl rfl ?_
 obtain ⟨r2, hc1, h⟩ := opt_some h
 refine al_call (vs := [(str a0)]) (f_lumref_Get_ok fu a0 hc1) [] [] [] pre_nil rfl (by simp) (by decide) (.inl rfl) rfl Tryd.func206 rfl rfl rfl (fun _ => ?_)
 refine al_mv rfl rfl ?_
 refine al_ex rfl rfl rfl ?_
 refine al_ex rfl rfl rfl ?_
 refine al_ex rfl rfl rfl ?_
 refine al_as rfl rfl ?_
 refine al_as rfl rfl ?_
 refine al_as rfl rfl ?_
 refine al_nt ?_
 obtain ⟨kk4, hkk4, h⟩ := lt_some h
 refine aw_seq_join (ι := Int) (fun i => (memOf w0 Z0 [] [] [])) (fun i => (tab [(0, (str a0)), (7, (int .u64 r2.1)), (8, (int .i64 r2.2.1)), (9, (int .i64 i))])) (fun i => kk4 i = some r) ?_ ?_
 ·rintro j3i9 h
  have h : kk4 j3i9 = some r := h
  rw [hkk4] at h
  dsimp only at h
  clear hkk4
  refine aw_show (m := (memOf w0 Z0 [] [] [])) (S := (tab [(0, (str a0)), (7, (int .u64 r2.1)), (8, (int .i64 r2.2.1)), (9, (int .i64 j3i9))])) ?_
  refine aw_seq ?_
  refine aw_sr ?_
  refine al_mv rfl rfl ?_
  refine al_in rfl rfl rfl rfl ?_
  refine al_nt ?_
  refine aw_cond rfl (fun hb5 => ?_) (fun hb5 => ?_)
  ·replace h := bif_t hb5 h
   refine aw_sr ?_
   refine al_mv rfl rfl ?_
   refine al_as rfl rfl ?_
   refine al_as rfl rfl ?_
   refine al_as rfl rfl ?_
   refine al_nt ?_
   refine aw_ret ?_
   refine aq_then_ret ?_
   obtain rfl := Option.some.inj h
   exact fn_ret () [] [] rfl rfl rfl rfl (res3 rfl rfl rfl rfl) rfl rfl rfl (by decide)
  ·replace h := bif_f hb5 h
   refine aw_skip ?_
   refine aq_then ?_
   refine aw_seq ?_
   obtain ⟨hc6, h⟩ := req_some h
   refine aw_region_draw 7 [(26, (fun u => fEq u (int .u64 r2.1))), (27, (fun u => fEq u (int .i64 (IntKind.i64.wrap r2.1)))), (28, (fun u => fEq u (str a0))), (29, (fun u => fEq u (int .i64 r2.2.1))), (30, (fun u => fEq u (str (a0.drop (r2.2.1).toNat)))), (4, (fun u => fEq u (int .i64 (IntKind.i64.wrap r2.1)))), (5, (fun u => fEq u (str (a0.drop (r2.2.1).toNat))))] (tab [(0, (str a0)), (7, (int .u64 r2.1)), (8, (int .i64 r2.2.1))]) mixed (by kernel_rfl) rfl rfl rfl (fun a hs => hs.tab _ (allT_mem ⟨rfl, rfl, rfl, trivial⟩)) ⟨⟨rfl, ld_val (ov_move rfl rfl)⟩, ⟨rfl, ld_eq (j := 0) rfl rfl (ld_val (ov_convInt (by rw [Tryd.underlying115]; rfl) Tryd.underlying3 rfl rfl))⟩, ⟨rfl, ld_val (ov_move rfl rfl)⟩, ⟨rfl, ld_val (ov_move rfl rfl)⟩, ⟨rfl, ld_eq (j := 2) rfl rfl (ld_eq (j := 3) rfl rfl (ld_val (ov_strFrom hc6.1 hc6.2 Tryd.underlying9 rfl rfl rfl)))⟩, ⟨rfl, ld_eq (j := 1) rfl rfl (ld_val (ov_assign rfl rfl))⟩, ⟨rfl, ld_eq (j := 4) rfl rfl (ld_val (ov_assign rfl rfl))⟩, trivial⟩ ?_
   refine tl_eq 5 rfl ?_
   refine tl_eq 6 rfl ?_
   refine tl_done ?_
   refine al_as rfl rfl ?_
   refine al_nt ?_
   refine aw_ret ?_
   obtain rfl := Option.some.inj h
   exact fn_ret () [] [] rfl rfl rfl rfl (res3 rfl rfl rfl rfl) rfl rfl rfl (by decide)
 ·clear hkk4
  obtain ⟨kk8, hkk8, h⟩ := lt_some h
  refine aw_seq_join (ι := Bool) (fun i => (memOf w0 Z0 [] [] [])) (fun i => (tab [(0, (str a0)), (7, (int .u64 r2.1)), (8, (int .i64 r2.2.1)), (9, (int .i64 r2.2.2)), (22, (bool i))])) (fun i => kk8 i = some r) ?_ ?_
  ·rintro j7b22 h
   have h : kk8 j7b22 = some r := h
   rw [hkk8] at h
   dsimp only at h
   clear hkk8
   refine aw_show (m := (memOf w0 Z0 [] [] [])) (S := (tab [(0, (str a0)), (7, (int .u64 r2.1)), (8, (int .i64 r2.2.1)), (9, (int .i64 r2.2.2)), (22, (bool j7b22))])) ?_
   refine aw_cond rfl (fun hb9 => ?_) (fun hb9 => ?_)
   ·replace h := bif_t hb9 h
    refine aw_region ?_
    refine al_as rfl rfl ?_
    refine al_nil ?_
    exact aq_join (2 : Int) h (fun w a hm hs => norm hm hs [] [] [(0, (str a0)), (7, (int .u64 r2.1)), (8, (int .i64 r2.2.1)), (9, (int .i64 (2 : Int)))] (by decide) ⟨rfl, rfl, rfl, rfl, trivial⟩)
   ·replace h := bif_f hb9 h
    refine aw_skip ?_
    exact aq_join r2.2.2 h (fun w a hm hs => norm hm hs [] [] [(0, (str a0)), (7, (int .u64 r2.1)), (8, (int .i64 r2.2.1)), (9, (int .i64 r2.2.2))] (by decide) ⟨rfl, rfl, rfl, rfl, trivial⟩)
  ·clear hkk8
   refine aw_region ?_
   refine al_mv rfl rfl ?_
   refine al_in rfl rfl rfl rfl ?_
   refine al_mv rfl rfl ?_
   refine al_caseB 18 rfl (fun hb10 => ?_) (fun hb10 => ?_)
   ·replace h := bif_t hb10 h
    refine al_mv rfl rfl ?_
    refine al_mv rfl rfl ?_
    refine al_in rfl rfl rfl rfl ?_
    refine al_val (ov_pick_t rfl rfl rfl) ?_
    refine al_nil ?_
    exact aq_join (decide (r2.1 > a1)) h (fun w a hm hs => norm hm hs [] [] [(0, (str a0)), (7, (int .u64 r2.1)), (8, (int .i64 r2.2.1)), (9, (int .i64 r2.2.2)), (22, (bool (decide (r2.1 > a1))))] (by decide) ⟨rfl, rfl, rfl, rfl, rfl, trivial⟩)
   ·replace h := bif_f hb10 h
    refine al_skip ?_
    refine al_skip ?_
    refine al_skip ?_
    refine al_val (ov_pick_f rfl rfl rfl) ?_
    refine al_nil ?_
    exact aq_join false h (fun w a hm hs => norm hm hs [] [] [(0, (str a0)), (7, (int .u64 r2.1)), (8, (int .i64 r2.2.1)), (9, (int .i64 r2.2.2)), (22, (bool false))] (by decide) ⟨rfl, rfl, rfl, rfl, rfl, trivial⟩)
def f_lumref_GetText_L3 (a0 : (List UInt8)) : Nat → (List UInt8) → Int → Option ((List UInt8) × Int × Int)
  | 0, _, _ => none
  | k2 + 1, l1s5, l1i6 => (lt (fun (j4b24 : Bool) => (bif j4b24 then (some (([] : List UInt8), (0 : Int), (3 : Int))) else (lt (fun (j7i7 : Int) => (bif ((l1s5.length : Int) == (1024 : Int)) then (some (([] : List UInt8), (0 : Int), (2 : Int))) else (req (0 ≤ l1i6 ∧ l1i6 ≤ (IntKind.i64.wrap (l1i6 + (1 : Int))) ∧ (IntKind.i64.wrap (l1i6 + (1 : Int))) ≤ (a0.length : Int)) (req (l1s5.length + (cut a0 l1i6 (IntKind.i64.wrap (l1i6 + (1 : Int)))).length ≤ 9223372036854775807) (f_lumref_GetText_L3 a0 k2 (l1s5 ++ (cut a0 l1i6 (IntKind.i64.wrap (l1i6 + (1 : Int))))) (IntKind.i64.wrap (l1i6 + j7i7))))))) fun (kk8 : Int → Option ((List UInt8) × Int × Int)) => (req (0 ≤ l1i6 ∧ l1i6 < (a0.length : Int)) (bif ((En.bAt a0 l1i6) == (0 : Int)) then (req (0 ≤ (IntKind.i64.wrap (l1i6 + (1 : Int))) ∧ (IntKind.i64.wrap (l1i6 + (1 : Int))) < (a0.length : Int)) (bif ((En.bAt a0 (IntKind.i64.wrap (l1i6 + (1 : Int)))) == (0 : Int)) then (some (l1s5, (IntKind.i64.wrap (l1i6 + (2 : Int))), (0 : Int))) else (req (0 ≤ (IntKind.i64.wrap (l1i6 + (1 : Int))) ∧ (IntKind.i64.wrap (l1i6 + (1 : Int))) < (a0.length : Int)) (bif ((En.bAt a0 (IntKind.i64.wrap (l1i6 + (1 : Int)))) != (255 : Int)) then (some (([] : List UInt8), (0 : Int), (4 : Int))) else (kk8 (2 : Int)))))) else (kk8 (1 : Int))))))) fun (kk5 : Bool → Option ((List UInt8) × Int × Int)) => (bif (decide (l1i6 ≥ (a0.length : Int))) then (kk5 true) else (req (0 ≤ l1i6 ∧ l1i6 < (a0.length : Int)) (bif ((En.bAt a0 l1i6) == (0 : Int)) then (kk5 (decide ((IntKind.i64.wrap (l1i6 + (1 : Int))) ≥ (a0.length : Int)))) else (kk5 false)))))
def f_lumref_GetText (fu : Nat) (a0 : (List UInt8)) : Option ((List UInt8) × Int × Int) := (f_lumref_GetText_L3 a0 fu ([] : List UInt8) (0 : Int))
set_option maxRecDepth 100000 in
theorem f_lumref_GetText_ok (fu : Nat) (a0 : (List UInt8)) {r : ((List UInt8) × Int × Int)} (h : f_lumref_GetText fu a0 = some r) : FnOk Tryd.prog 207 [(str a0)] [] [] (fun (i : Unit) => { val := (Value.tuple #[(str r.1), (int .i64 r.2.1), (int .i64 r.2.2)]) }) := by
 unfold f_lumref_GetText at h
 refine fn_enter Tryd.func207 rfl Tryd.ntmps207 rfl (fun w0 Z0 => ?_)
 refine aw_sr ?_
 refine al_as rfl rfl ?_
 refine al_as rfl rfl ?_
 refine al_as rfl rfl ?_
 refine al_nt ?_
 refine aw_sr ?_
 refine al_as rfl rfl ?_
 refine al_as rfl rfl ?_
 refine al_nt ?_
 refine aw_block ?_
 refine aw_state (aw_loop (ι := (List UInt8) × Int) (fun i => (memOf w0 Z0 [] [] [])) (fun i => (tab [(0, (str a0)), (5, (str i.1)), (6, (int .i64 i.2))])) (fun q i => f_lumref_GetText_L3 a0 q i.1 i.2 = some r) ?_ fu (([] : List UInt8), (0 : Int)) h) (fun w a hm hs => norm hm hs [] [] [(0, (str a0)), (5, (str ([] : List UInt8))), (6, (int .i64 (0 : Int)))] (by decide) ⟨rfl, rfl, rfl, trivial⟩)
 clear h
 rintro k2 ⟨l1s5, l1i6⟩ h
 have h : f_lumref_GetText_L3 a0 k2 l1s5 l1i6 = some r := h
 obtain _ | k2 := k2
 · rw [f_lumref_GetText_L3] at h; cases h
 rw [f_lumref_GetText_L3] at h
 refine aw_show (m := (memOf w0 Z0 [] [] [])) (S := (tab [(0, (str a0)), (5, (str l1s5)), (6, (int .i64 l1i6))])) ?_
 refine aw_block ?_
 refine aw_seq ?_
 obtain ⟨kk5, hkk5, h⟩ := lt_some h
 refine aw_seq_join (ι := Bool) (fun i => (memOf w0 Z0 [] [] [])) (fun i => (tab [(0, (str a0)), (5, (str l1s5)), (6, (int .i64 l1i6)), (24, (bool i))])) (fun i => kk5 i = some r) ?_ ?_
 ·rintro j4b24 h
  have h : kk5 j4b24 = some r := h
  rw [hkk5] at h
  dsimp only at h
  clear hkk5
  refine aw_show (m := (memOf w0 Z0 [] [] [])) (S := (tab [(0, (str a0)), (5, (str l1s5)), (6, (int .i64 l1i6)), (24, (bool j4b24))])) ?_
  refine aw_cond rfl (fun hb6 => ?_) (fun hb6 => ?_)
  ·replace h := bif_t hb6 h
   refine aw_sr ?_
   refine al_as rfl rfl ?_
   refine al_as rfl rfl ?_
   refine al_as rfl rfl ?_
   refine al_nt ?_
   refine aw_ret ?_
   refine aq_then_ret ?_
   refine aq_block_ret ?_
   refine aq_then_ret ?_
   refine aq_block_ret ?_
   obtain rfl := Option.some.inj h
   exact fn_ret () [] [] rfl rfl rfl rfl (res3 rfl rfl rfl rfl) rfl rfl rfl (by decide)
  ·replace h := bif_f hb6 h
   refine aw_skip ?_
   refine aq_tr ?_
   refine al_as rfl rfl ?_
   refine al_nt ?_
   obtain ⟨kk8, hkk8, h⟩ := lt_some h
   refine aw_seq_join (ι := Int) (fun i => (memOf w0 Z0 [] [] [])) (fun i => (tab [(0, (str a0)), (5, (str l1s5)), (6, (int .i64 l1i6)), (7, (int .i64 i))])) (fun i => kk8 i = some r) ?_ ?_
   ·rintro j7i7 h
    have h : kk8 j7i7 = some r := h
    rw [hkk8] at h
    dsimp only at h
    clear hkk8
    refine aw_show (m := (memOf w0 Z0 [] [] [])) (S := (tab [(0, (str a0)), (5, (str l1s5)), (6, (int .i64 l1i6)), (7, (int .i64 j7i7))])) ?_
    refine aw_seq ?_
    refine aw_sr ?_
    refine al_mv rfl rfl ?_
    refine al_val (ov_strLen Tryd.underlying9 rfl rfl) ?_
    refine al_in rfl rfl rfl rfl ?_
    refine al_nt ?_
    refine aw_cond rfl (fun hb9 => ?_) (fun hb9 => ?_)
    ·replace h := bif_t hb9 h
     refine aw_sr ?_
     refine al_as rfl rfl ?_
     refine al_as rfl rfl ?_
     refine al_as rfl rfl ?_
     refine al_nt ?_
     refine aw_ret ?_
     refine aq_then_ret ?_
     refine aq_block_ret ?_
     refine aq_then_ret ?_
     refine aq_block_ret ?_
     obtain rfl := Option.some.inj h
     exact fn_ret () [] [] rfl rfl rfl rfl (res3 rfl rfl rfl rfl) rfl rfl rfl (by decide)
    ·replace h := bif_f hb9 h
     refine aw_skip ?_
     refine aq_tr ?_
     refine al_mv rfl rfl ?_
     refine al_mv rfl rfl ?_
     refine al_mv rfl rfl ?_
     refine al_mv rfl rfl ?_
     refine al_in rfl rfl rfl rfl ?_
     obtain ⟨hc10, h⟩ := req_some h
     refine al_val (ov_strCut hc10.1 hc10.2.1 hc10.2.2 Tryd.underlying9 rfl rfl rfl rfl) ?_
     obtain ⟨hc11, h⟩ := req_some h
     refine al_val (ov_strAdd hc11 rfl rfl rfl) ?_
     refine al_as rfl rfl ?_
     refine al_nt ?_
     refine aw_region ?_
     refine al_mv rfl rfl ?_
     refine al_mv rfl rfl ?_
     refine al_in rfl rfl rfl rfl ?_
     refine al_as rfl rfl ?_
     refine al_nil ?_
     refine aq_block ?_
     exact aq_again k2 ((l1s5 ++ (cut a0 l1i6 (IntKind.i64.wrap (l1i6 + (1 : Int))))), (IntKind.i64.wrap (l1i6 + j7i7))) (Nat.lt_succ_self _) h (fun w a hm hs => norm hm hs [] [] [(0, (str a0)), (5, (str (l1s5 ++ (cut a0 l1i6 (IntKind.i64.wrap (l1i6 + (1 : Int))))))), (6, (int .i64 (IntKind.i64.wrap (l1i6 + j7i7))))] (by decide) ⟨rfl, rfl, rfl, trivial⟩)
   ·clear hkk8
    refine aw_sr ?_
    refine al_mv rfl rfl ?_
    refine al_mv rfl rfl ?_
    obtain ⟨hc12, h⟩ := req_some h
    refine al_val (ov_strIdx hc12.1 hc12.2 Tryd.underlying9 rfl rfl rfl) ?_
    refine al_in rfl rfl rfl rfl ?_
    refine al_nt ?_
    refine aw_cond rfl (fun hb13 => ?_) (fun hb13 => ?_)
    ·replace h := bif_t hb13 h
     refine aw_seq ?_
     refine aw_sr ?_
     refine al_mv rfl rfl ?_
     refine al_mv rfl rfl ?_
     refine al_in rfl rfl rfl rfl ?_
     obtain ⟨hc14, h⟩ := req_some h
     refine al_val (ov_strIdx hc14.1 hc14.2 Tryd.underlying9 rfl rfl rfl) ?_
     refine al_in rfl rfl rfl rfl ?_
     refine al_nt ?_
     refine aw_cond rfl (fun hb15 => ?_) (fun hb15 => ?_)
     ·replace h := bif_t hb15 h
      refine aw_sr ?_
      refine al_mv rfl rfl ?_
      refine al_mv rfl rfl ?_
      refine al_in rfl rfl rfl rfl ?_
      refine al_as rfl rfl ?_
      refine al_as rfl rfl ?_
      refine al_as rfl rfl ?_
      refine al_nt ?_
      refine aw_ret ?_
      refine aq_then_ret ?_
      refine aq_then_ret ?_
      refine aq_block_ret ?_
      refine aq_then_ret ?_
      refine aq_block_ret ?_
      obtain rfl := Option.some.inj h
      exact fn_ret () [] [] rfl rfl rfl rfl (res3 rfl rfl rfl rfl) rfl rfl rfl (by decide)
     ·replace h := bif_f hb15 h
      refine aw_skip ?_
      refine aq_then ?_
      refine aw_seq ?_
      refine aw_sr ?_
      refine al_mv rfl rfl ?_
      refine al_mv rfl rfl ?_
      refine al_in rfl rfl rfl rfl ?_
      obtain ⟨hc16, h⟩ := req_some h
      refine al_val (ov_strIdx hc16.1 hc16.2 Tryd.underlying9 rfl rfl rfl) ?_
      refine al_in rfl rfl rfl rfl ?_
      refine al_nt ?_
      refine aw_cond rfl (fun hb17 => ?_) (fun hb17 => ?_)
      ·replace h := bif_t hb17 h
       refine aw_sr ?_
       refine al_as rfl rfl ?_
       refine al_as rfl rfl ?_
       refine al_as rfl rfl ?_
       refine al_nt ?_
       refine aw_ret ?_
       refine aq_then_ret ?_
       refine aq_then_ret ?_
       refine aq_block_ret ?_
       refine aq_then_ret ?_
       refine aq_block_ret ?_
       obtain rfl := Option.some.inj h
       exact fn_ret () [] [] rfl rfl rfl rfl (res3 rfl rfl rfl rfl) rfl rfl rfl (by decide)
      ·replace h := bif_f hb17 h
       refine aw_skip ?_
       refine aq_then ?_
       refine aw_region ?_
       refine al_as rfl rfl ?_
       refine al_nil ?_
       exact aq_join (2 : Int) h (fun w a hm hs => norm hm hs [] [] [(0, (str a0)), (5, (str l1s5)), (6, (int .i64 l1i6)), (7, (int .i64 (2 : Int)))] (by decide) ⟨rfl, rfl, rfl, rfl, trivial⟩)
    ·replace h := bif_f hb13 h
     refine aw_skip ?_
     exact aq_join (1 : Int) h (fun w a hm hs => norm hm hs [] [] [(0, (str a0)), (5, (str l1s5)), (6, (int .i64 l1i6)), (7, (int .i64 (1 : Int)))] (by decide) ⟨rfl, rfl, rfl, rfl, trivial⟩)
 ·clear hkk5
  refine aw_region ?_
  refine al_mv rfl rfl ?_
  refine al_mv rfl rfl ?_
  refine al_val (ov_strLen Tryd.underlying9 rfl rfl) ?_
  refine al_in rfl rfl rfl rfl ?_
  refine al_mv rfl rfl ?_
  refine al_caseB 12 rfl (fun hb18 => ?_) (fun hb18 => ?_)
  ·replace h := bif_t hb18 h
   refine al_skip ?_
   refine al_skip ?_
   refine al_skip ?_
   refine al_skip ?_
   refine al_skip ?_
   refine al_skip ?_
   refine al_skip ?_
   refine al_skip ?_
   refine al_skip ?_
   refine al_skip ?_
   refine al_skip ?_
   refine al_val (ov_pick_t rfl rfl rfl) ?_
   refine al_nil ?_
   exact aq_join true h (fun w a hm hs => norm hm hs [] [] [(0, (str a0)), (5, (str l1s5)), (6, (int .i64 l1i6)), (24, (bool true))] (by decide) ⟨rfl, rfl, rfl, rfl, trivial⟩)
  ·replace h := bif_f hb18 h
   refine al_mv rfl rfl ?_
   refine al_mv rfl rfl ?_
   obtain ⟨hc19, h⟩ := req_some h
   refine al_val (ov_strIdx hc19.1 hc19.2 Tryd.underlying9 rfl rfl rfl) ?_
   refine al_in rfl rfl rfl rfl ?_
   refine al_mv rfl rfl ?_
   refine al_caseB 17 rfl (fun hb20 => ?_) (fun hb20 => ?_)
   ·replace h := bif_t hb20 h
    refine al_mv rfl rfl ?_
    refine al_in rfl rfl rfl rfl ?_
    refine al_mv rfl rfl ?_
    refine al_val (ov_strLen Tryd.underlying9 rfl rfl) ?_
    refine al_in rfl rfl rfl rfl ?_
    refine al_val (ov_pick_t rfl rfl rfl) ?_
    refine al_val (ov_pick_f rfl rfl rfl) ?_
    refine al_nil ?_
    exact aq_join (decide ((IntKind.i64.wrap (l1i6 + (1 : Int))) ≥ (a0.length : Int))) h (fun w a hm hs => norm hm hs [] [] [(0, (str a0)), (5, (str l1s5)), (6, (int .i64 l1i6)), (24, (bool (decide ((IntKind.i64.wrap (l1i6 + (1 : Int))) ≥ (a0.length : Int)))))] (by decide) ⟨rfl, rfl, rfl, rfl, trivial⟩)
   ·replace h := bif_f hb20 h
    refine al_skip ?_
    refine al_skip ?_
    refine al_skip ?_
    refine al_skip ?_
    refine al_skip ?_
    refine al_val (ov_pick_f rfl rfl rfl) ?_
    refine al_val (ov_pick_f rfl rfl rfl) ?_
    refine al_nil ?_
    exact aq_join false h (fun w a hm hs => norm hm hs [] [] [(0, (str a0)), (5, (str l1s5)), (6, (int .i64 l1i6)), (24, (bool false))] (by decide) ⟨rfl, rfl, rfl, rfl, trivial⟩)
def f_lumref_turned_L7 (a0 : (List UInt8)) (kk4 : ((List UInt8) → Option (List UInt8))) : Nat → (List UInt8) → Int → Option (List UInt8)
  | 0, _, _ => none
  | k6 + 1, l5x3, l5i9 => (bif (decide (l5i9 < (a0.length : Int))) then (opt (at? l5x3 l5i9) fun (u9 : UInt8) => (opt (at? l5x3 l5i9) fun (u13 : UInt8) => (req (0 ≤ (IntKind.u8.wrap ((255 : Int) - (u9.toNat : Int))) ∧ (IntKind.u8.wrap ((255 : Int) - (u9.toNat : Int))) ≤ 255) (f_lumref_turned_L7 a0 kk4 k6 (l5x3.set (l5i9).toNat (UInt8.ofNat ((IntKind.u8.wrap ((255 : Int) - (u9.toNat : Int)))).toNat)) (IntKind.i64.wrap (l5i9 + (1 : Int))))))) else (kk4 l5x3))
def f_lumref_turned (fu : Nat) (a0 : (List UInt8)) : Option (List UInt8) := (req (a0.length ≤ 9223372036854775807) (lt (fun (j3x3 : (List UInt8)) => (some j3x3)) fun (kk4 : (List UInt8) → Option (List UInt8)) => (f_lumref_turned_L7 a0 kk4 fu a0 (0 : Int))))
end Go.Proofs.YtgmggcpceemnnaaDoor
