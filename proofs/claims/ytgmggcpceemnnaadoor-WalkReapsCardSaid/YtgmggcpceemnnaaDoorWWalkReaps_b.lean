/- Walks by program. No condition. -/
import Derived.Test.YtgmggcpceemnnaaDoorEn21
import Derived.Test.YtgmggcpceemnnaaDoorChecked
import Derived.Test.YtgmggcpceemnnaaDoorShBEPut
import Derived.Test.YtgmggcpceemnnaaDoorEn23
import Derived.Test.YtgmggcpceemnnaaDoorEnU
import Derived.Test.YtgmggcpceemnnaaDoorEn25
import Derived.Test.YtgmggcpceemnnaaDoorShRepeat
import Derived.Test.YtgmggcpceemnnaaDoorEnJ
import Derived.Test.YtgmggcpceemnnaaDoorWWalkReaps_a
namespace Go.Proofs.YtgmggcpceemnnaaDoor
open Go.RowKit YtgmggcpceemnnaaDoor.En
set_option linter.unusedVariables false
set_option linter.unusedSimpArgs false
open Go.Value (int bool)
set_option maxRecDepth 100000 in
theorem f_tree_Read_ok (fu : Nat) (a0 : (List UInt8)) {r : ((List S_api_Node) × Int)} (h : f_tree_Read fu a0 = some r) : FnOk Tryd.prog 107 [(str a0)] [uTabs] [] (fun (i : Value) => { val := (Value.tuple #[i, (int .i64 r.2)]), own := [(oRow i 168 tyS_api_Node r.1)] }) := by
 unfold f_tree_Read at h
 refine fn_enter Tryd.func107 rfl Tryd.ntmps107 rfl (fun w0 Z0 => ?_)
 refine aw_sr ?_
 refine al_as rfl rfl ?_
 refine al_as rfl rfl ?_
 refine al_nt ?_
 refine aw_seq ?_
 refine aw_sr ?_
 refine al_mv rfl rfl ?_
 refine al_val (ov_strLen Tryd.underlying9 rfl rfl) ?_
 refine al_in rfl rfl rfl rfl ?_
 refine al_nt ?_
 refine aw_cond rfl (fun hb1 => ?_) (fun hb1 => ?_)
 ·replace h := bif_t hb1 h
  refine aw_sr ?_
  refine al_as rfl rfl ?_
  refine al_as rfl rfl ?_
  refine al_nt ?_
  refine aw_ret ?_
  refine aq_then_ret ?_
  refine aq_nilR 168 tyS_api_Node ?_
  obtain rfl := Option.some.inj h
  exact fn_ret (Value.slice none 0 0) [0] [] rfl rfl rfl rfl (res2 rfl rfl rfl) rfl rfl rfl (by decide)
 ·replace h := bif_f hb1 h
  refine aw_skip ?_
  refine aq_tr ?_
  refine al_mv rfl rfl ?_
  refine al_val (ov_build (cells := ([(str a0), (int .i64 (0 : Int))]).toArray) (cs := [(str a0), (int .i64 (0 : Int))]) rfl (fun w a hm hs => by simp only [List.map_toArray, List.map_cons, List.map_nil, List.toList_toArray, hs.ev (x := .tmp 9) rfl]; kernel_rfl)) ?_
  refine al_box (vs := [(str a0), (int .i64 (0 : Int))]) rfl (cv_rfl rfl) rfl (fun g2 => ?_)
  refine al_as rfl rfl ?_
  refine al_nt ?_
  refine aw_sr ?_
  refine al_as rfl rfl ?_
  refine al_nt ?_
  obtain ⟨kk4, hkk4, h⟩ := lt_some h
  refine aw_seq_join (ι := (List UInt8) × Int × Value × (List S_api_Node)) (fun i => (memOf w0 Z0 [] [(oBox g2 244 [(str i.1), (int .i64 i.2.1)]), (oRow i.2.2.1 168 tyS_api_Node i.2.2.2)] [uTabs])) (fun i => (tab [(4, (ptr g2 0)), (5, i.2.2.1)])) (fun i => kk4 i.1 i.2.1 i.2.2.2 = some r) ?_ ?_
  ·rintro ⟨j3s4_0, j3i4_1, j3v5, j3x5⟩ h
   have h : kk4 j3s4_0 j3i4_1 j3x5 = some r := h
   rw [hkk4] at h
   dsimp only at h
   clear hkk4
   refine aw_show (m := (memOf w0 Z0 [] [(oBox g2 244 [(str j3s4_0), (int .i64 j3i4_1)]), (oRow j3v5 168 tyS_api_Node j3x5)] [uTabs])) (S := (tab [(4, (ptr g2 0)), (5, j3v5)])) ?_
   obtain ⟨kk6, hkk6, h⟩ := lt_some h
   refine aw_seq_join (ι := (List UInt8) × Int) (fun i => (memOf w0 Z0 [] [(oBox g2 244 [(str i.1), (int .i64 i.2)]), (oRow j3v5 168 tyS_api_Node j3x5)] [uTabs])) (fun i => (tab [(4, (ptr g2 0)), (5, j3v5)])) (fun i => kk6 i.1 i.2 = some r) ?_ ?_
   ·rintro ⟨j5s4_0, j5i4_1⟩ h
    have h : kk6 j5s4_0 j5i4_1 = some r := h
    rw [hkk6] at h
    dsimp only at h
    clear hkk6
    refine aw_show (m := (memOf w0 Z0 [] [(oBox g2 244 [(str j5s4_0), (int .i64 j5i4_1)]), (oRow j3v5 168 tyS_api_Node j3x5)] [uTabs])) (S := (tab [(4, (ptr g2 0)), (5, j3v5)])) ?_
    obtain ⟨kk8, hkk8, h⟩ := lt_some h
    refine aw_seq_join (ι := (List UInt8) × Int) (fun i => (memOf w0 Z0 [] [(oBox g2 244 [(str i.1), (int .i64 i.2)]), (oRow j3v5 168 tyS_api_Node j3x5)] [uTabs])) (fun i => (tab [(4, (ptr g2 0)), (5, j3v5)])) (fun i => kk8 i.1 i.2 = some r) ?_ ?_
    ·rintro ⟨j7s4_0, j7i4_1⟩ h
     have h : kk8 j7s4_0 j7i4_1 = some r := h
     rw [hkk8] at h
     dsimp only at h
     clear hkk8
     refine aw_show (m := (memOf w0 Z0 [] [(oBox g2 244 [(str j7s4_0), (int .i64 j7i4_1)]), (oRow j3v5 168 tyS_api_Node j3x5)] [uTabs])) (S := (tab [(4, (ptr g2 0)), (5, j3v5)])) ?_
     refine aw_seq ?_
     refine aw_sr ?_
     refine al_mv rfl rfl ?_
     refine al_val (ov_nilCheck rfl rfl) ?_
     refine al_val (ov_fieldA (p := 1) rfl Tryd.underlying244 rfl sz23 rfl rfl rfl) ?_
     refine al_val (ov_load (i := 0) (v := (int .i64 j7i4_1)) rfl rfl Tryd.underlying23 sz23 rfl rfl rfl rfl) ?_
     refine al_in rfl rfl rfl rfl ?_
     refine al_nt ?_
     refine aw_cond rfl (fun hb9 => ?_) (fun hb9 => ?_)
     ·replace h := bif_t hb9 h
      refine aw_seq ?_
      refine aw_region_open [⟨0, 43, Unit, fun _ => { val := (ptr g2 0) }⟩, ⟨1, 44, Unit, fun _ => { val := (ptr g2 0) }⟩, ⟨2, 45, Unit, fun _ => { val := (ptr g2 1) }⟩, ⟨3, 46, Unit, fun _ => { val := (int .i64 j7i4_1) }⟩] (tab [(4, (ptr g2 0))]) mixed (fun a hs => hs.tab _ (allT_mem ⟨rfl, trivial⟩)) ?_
      refine ta_show (m := (memOf w0 Z0 [] [(oBox g2 244 [(str j7s4_0), (int .i64 j7i4_1)]), (oRow j3v5 168 tyS_api_Node j3x5)] [uTabs])) (S := (tab [(4, (ptr g2 0))])) ?_
      refine ta_step 4 _ [0, 1, 2, 3] [43, 44, 45, 46] [] [] [] [⟨0, 43, Unit, fun _ => { val := (ptr g2 0) }⟩, ⟨1, 44, Unit, fun _ => { val := (ptr g2 0) }⟩, ⟨2, 45, Unit, fun _ => { val := (ptr g2 1) }⟩, ⟨3, 46, Unit, fun _ => { val := (int .i64 j7i4_1) }⟩] rfl rfl rfl (by kernel_rfl) rfl rfl rfl ⟨⟨_, rfl, [], rfl, by
 intro X_ Y_ F_ K_ hK_
 refine al_show (m := Mem.plus (memOf w0 Z0 [] [(oBox g2 244 [(str j7s4_0), (int .i64 j7i4_1)]), (oRow j3v5 168 tyS_api_Node j3x5)] [uTabs]) X_ Y_) (S := over (tab [(4, (ptr g2 0))]) F_) ?_
 refine al_mv rfl rfl ?_
 refine al_nil ?_
 exact fr_fin hK_ ()⟩, ⟨_, rfl, [0], rfl, by
 intro _
 intro X_ Y_ F_ K_ hK_
 refine al_show (m := Mem.plus (memOf w0 Z0 [] [(oBox g2 244 [(str j7s4_0), (int .i64 j7i4_1)]), (oRow j3v5 168 tyS_api_Node j3x5)] [uTabs]) X_ Y_) (S := over (put (tab [(4, (ptr g2 0))]) 43 (ptr g2 0)) F_) ?_
 refine al_val (ov_nilCheck rfl rfl) ?_
 refine al_nil ?_
 exact fr_fin hK_ ()⟩, ⟨_, rfl, [1], rfl, by
 intro _
 intro X_ Y_ F_ K_ hK_
 refine al_show (m := Mem.plus (memOf w0 Z0 [] [(oBox g2 244 [(str j7s4_0), (int .i64 j7i4_1)]), (oRow j3v5 168 tyS_api_Node j3x5)] [uTabs]) X_ Y_) (S := over (put (tab [(4, (ptr g2 0))]) 44 (ptr g2 0)) F_) ?_
 refine al_val (ov_fieldA (p := 1) rfl Tryd.underlying244 rfl sz23 rfl rfl rfl) ?_
 refine al_nil ?_
 exact fr_fin hK_ ()⟩, ⟨_, rfl, [2], rfl, by
 intro _
 intro X_ Y_ F_ K_ hK_
 refine al_show (m := Mem.plus (memOf w0 Z0 [] [(oBox g2 244 [(str j7s4_0), (int .i64 j7i4_1)]), (oRow j3v5 168 tyS_api_Node j3x5)] [uTabs]) X_ Y_) (S := over (put (tab [(4, (ptr g2 0))]) 45 (ptr g2 1)) F_) ?_
 refine al_val (ov_load (i := 0) (v := (int .i64 j7i4_1)) rfl rfl Tryd.underlying23 sz23 rfl rfl rfl rfl) ?_
 refine al_nil ?_
 exact fr_fin hK_ ()⟩, trivial⟩ ?_
      intro X_ Y_ F_ K_ hK_
      refine al_show (m := Mem.plus (memOf w0 Z0 [] [(oBox g2 244 [(str j7s4_0), (int .i64 j7i4_1)]), (oRow j3v5 168 tyS_api_Node j3x5)] [uTabs]) X_ Y_) (S := over (tab [(4, (ptr g2 0))]) F_) ?_
      refine al_as rfl rfl ?_
      refine al_nil ?_
      refine aq_show (m := Mem.plus (memOf w0 Z0 [] [(oBox g2 244 [(str j7s4_0), (int .i64 j7i4_1)]), (oRow j3v5 168 tyS_api_Node j3x5)] [uTabs]) X_ Y_) ?_
      refine aq_next hK_ [0, 1] [0] [(2, (Value.slice none 0 0)), (4, (ptr g2 0))] [43, 44, 45, 46] [] rfl rfl (by decide) rfl ⟨rfl, rfl, trivial⟩ ⟨rfl, rfl, rfl, rfl, trivial⟩ ?_
      clear hK_ K_ F_ X_ Y_
      refine ta_show (m := (memOf w0 Z0 [] [(oBox g2 244 [(str j7s4_0), (int .i64 j7i4_1)]), (oRow j3v5 168 tyS_api_Node j3x5)] [uTabs])) (S := (tab [(2, (Value.slice none 0 0)), (4, (ptr g2 0))])) ?_
      refine ta_step 5 _ [0, 1, 2, 3] [43, 44, 45, 46] [0, 1, 2, 3] [] [⟨0, 43, Unit, fun _ => { val := (ptr g2 0) }⟩, ⟨1, 44, Unit, fun _ => { val := (ptr g2 0) }⟩, ⟨2, 45, Unit, fun _ => { val := (ptr g2 1) }⟩, ⟨3, 46, Unit, fun _ => { val := (int .i64 j7i4_1) }⟩] [] rfl rfl rfl (by kernel_rfl) rfl rfl rfl ⟨⟨_, rfl, [], rfl, by
 intro X_ Y_ F_ K_ hK_
 refine al_show (m := Mem.plus (memOf w0 Z0 [] [(oBox g2 244 [(str j7s4_0), (int .i64 j7i4_1)]), (oRow j3v5 168 tyS_api_Node j3x5)] [uTabs]) X_ Y_) (S := over (tab [(2, (Value.slice none 0 0)), (4, (ptr g2 0))]) F_) ?_
 refine al_mv rfl rfl ?_
 refine al_nil ?_
 exact fr_fin hK_ ()⟩, ⟨_, rfl, [0], rfl, by
 intro _
 intro X_ Y_ F_ K_ hK_
 refine al_show (m := Mem.plus (memOf w0 Z0 [] [(oBox g2 244 [(str j7s4_0), (int .i64 j7i4_1)]), (oRow j3v5 168 tyS_api_Node j3x5)] [uTabs]) X_ Y_) (S := over (put (tab [(2, (Value.slice none 0 0)), (4, (ptr g2 0))]) 43 (ptr g2 0)) F_) ?_
 refine al_val (ov_nilCheck rfl rfl) ?_
 refine al_nil ?_
 exact fr_fin hK_ ()⟩, ⟨_, rfl, [1], rfl, by
 intro _
 intro X_ Y_ F_ K_ hK_
 refine al_show (m := Mem.plus (memOf w0 Z0 [] [(oBox g2 244 [(str j7s4_0), (int .i64 j7i4_1)]), (oRow j3v5 168 tyS_api_Node j3x5)] [uTabs]) X_ Y_) (S := over (put (tab [(2, (Value.slice none 0 0)), (4, (ptr g2 0))]) 44 (ptr g2 0)) F_) ?_
 refine al_val (ov_fieldA (p := 1) rfl Tryd.underlying244 rfl sz23 rfl rfl rfl) ?_
 refine al_nil ?_
 exact fr_fin hK_ ()⟩, ⟨_, rfl, [2], rfl, by
 intro _
 intro X_ Y_ F_ K_ hK_
 refine al_show (m := Mem.plus (memOf w0 Z0 [] [(oBox g2 244 [(str j7s4_0), (int .i64 j7i4_1)]), (oRow j3v5 168 tyS_api_Node j3x5)] [uTabs]) X_ Y_) (S := over (put (tab [(2, (Value.slice none 0 0)), (4, (ptr g2 0))]) 45 (ptr g2 1)) F_) ?_
 refine al_val (ov_load (i := 0) (v := (int .i64 j7i4_1)) rfl rfl Tryd.underlying23 sz23 rfl rfl rfl rfl) ?_
 refine al_nil ?_
 exact fr_fin hK_ ()⟩, trivial⟩ ?_
      intro _
      intro _
      intro _
      intro _
      intro X_ Y_ F_ K_ hK_
      refine al_show (m := Mem.plus (memOf w0 Z0 [] [(oBox g2 244 [(str j7s4_0), (int .i64 j7i4_1)]), (oRow j3v5 168 tyS_api_Node j3x5)] [uTabs]) X_ Y_) (S := over (put (put (put (put (tab [(2, (Value.slice none 0 0)), (4, (ptr g2 0))]) 43 (ptr g2 0)) 44 (ptr g2 0)) 45 (ptr g2 1)) 46 (int .i64 j7i4_1)) F_) ?_
      refine al_as rfl rfl ?_
      refine al_nil ?_
      refine aq_show (m := Mem.plus (memOf w0 Z0 [] [(oBox g2 244 [(str j7s4_0), (int .i64 j7i4_1)]), (oRow j3v5 168 tyS_api_Node j3x5)] [uTabs]) X_ Y_) ?_
      refine aq_next hK_ [0, 1] [0] [(2, (Value.slice none 0 0)), (3, (int .i64 j7i4_1))] [] [] rfl rfl (by decide) rfl ⟨rfl, rfl, trivial⟩ trivial ?_
      clear hK_ K_ F_ X_ Y_
      refine ta_show (m := (memOf w0 Z0 [] [(oBox g2 244 [(str j7s4_0), (int .i64 j7i4_1)]), (oRow j3v5 168 tyS_api_Node j3x5)] [uTabs])) (S := (tab [(2, (Value.slice none 0 0)), (3, (int .i64 j7i4_1))])) ?_
      refine ta_end [] [] rfl rfl (by kernel_rfl) rfl trivial ?_
      refine aq_show (m := (memOf w0 Z0 [] [(oBox g2 244 [(str j7s4_0), (int .i64 j7i4_1)]), (oRow j3v5 168 tyS_api_Node j3x5)] [uTabs])) (S := (tab [(2, (Value.slice none 0 0)), (3, (int .i64 j7i4_1))])) ?_
      refine aq_then ?_
      refine aw_ret ?_
      refine aq_then_ret ?_
      refine aq_nilR 168 tyS_api_Node ?_
      obtain rfl := Option.some.inj h
      exact fn_ret (Value.slice none 0 0) [0] [] rfl rfl rfl rfl (res2 rfl rfl rfl) rfl rfl rfl (by decide)
     ·replace h := bif_f hb9 h
      refine aw_skip ?_
      refine aq_tr ?_
      refine al_mv rfl rfl ?_
      refine al_as rfl rfl ?_
      refine al_as rfl rfl ?_
      refine al_nt ?_
      refine aw_ret ?_
      obtain rfl := Option.some.inj h
      exact fn_ret j3v5 [1] [] rfl rfl rfl rfl (res2 rfl rfl rfl) rfl rfl rfl (by decide)
    ·clear hkk8
     refine aw_sr ?_
     refine al_mv rfl rfl ?_
     refine al_val (ov_nilCheck rfl rfl) ?_
     refine al_val (ov_fieldA (p := 1) rfl Tryd.underlying244 rfl sz23 rfl rfl rfl) ?_
     refine al_val (ov_load (i := 0) (v := (int .i64 j5i4_1)) rfl rfl Tryd.underlying23 sz23 rfl rfl rfl rfl) ?_
     refine al_in rfl rfl rfl rfl ?_
     refine al_nt ?_
     refine aw_cond rfl (fun hb10 => ?_) (fun hb10 => ?_)
     ·replace h := bif_t hb10 h
      refine aw_region ?_
      refine al_mv rfl rfl ?_
      refine al_mv rfl rfl ?_
      obtain ⟨r12, hc11, h⟩ := opt_some h
      refine al_call (vs := [j3v5]) (f_tree_Check_ok fu j3v5 j3x5 hc11) [1] [] [0, 1] (pre_own 1 rfl rfl (pre_fz 0 rfl pre_nil)) rfl (by simp) (by decide) (.inr flat_res0) rfl Tryd.func167 rfl rfl rfl (fun _ => ?_)
      obtain ⟨r14, hc13, h⟩ := opt_some h
      refine al_call (vs := [(ptr g2 0), (int .i64 r12)]) (f___tree_reader__fail_ok fu g2 (S_tree_reader.mk j5s4_0 j5i4_1) r12 hc13) [] [0] [1] pre_nil rfl (by simp) (by decide) (.inl rfl) rfl Tryd.func166 rfl rfl rfl (fun _ => ?_)
      refine al_nil ?_
      exact aq_join (r14.s, r14.e) h (fun w a hm hs => norm hm hs [0, 1] [0] [(4, (ptr g2 0)), (5, j3v5)] (by decide) ⟨rfl, rfl, trivial⟩)
     ·replace h := bif_f hb10 h
      refine aw_skip ?_
      exact aq_join (j5s4_0, j5i4_1) h (fun w a hm hs => norm hm hs [0, 1] [0] [(4, (ptr g2 0)), (5, j3v5)] (by decide) ⟨rfl, rfl, trivial⟩)
   ·clear hkk6
    refine aw_sr ?_
    refine al_mv rfl rfl ?_
    refine al_val (ov_nilCheck rfl rfl) ?_
    refine al_val (ov_fieldA (p := 0) rfl Tryd.underlying244 rfl sz9 rfl rfl rfl) ?_
    refine al_val (ov_load (i := 0) (v := (str j3s4_0)) rfl rfl Tryd.underlying9 sz9 rfl rfl rfl rfl) ?_
    refine al_val (ov_strCmp rfl rfl rfl rfl) ?_
    refine al_nt ?_
    refine aw_cond rfl (fun hb15 => ?_) (fun hb15 => ?_)
    ·replace h := bif_t hb15 h
     refine aw_region ?_
     refine al_mv rfl rfl ?_
     obtain ⟨r17, hc16, h⟩ := opt_some h
     refine al_call (vs := [(ptr g2 0), (int .i64 (4 : Int))]) (f___tree_reader__fail_ok fu g2 (S_tree_reader.mk j3s4_0 j3i4_1) (4 : Int) hc16) [] [0] [1] pre_nil rfl (by simp) (by decide) (.inl rfl) rfl Tryd.func166 rfl rfl rfl (fun _ => ?_)
     refine al_nil ?_
     exact aq_join (r17.s, r17.e) h (fun w a hm hs => norm hm hs [0, 1] [0] [(4, (ptr g2 0)), (5, j3v5)] (by decide) ⟨rfl, rfl, trivial⟩)
    ·replace h := bif_f hb15 h
     refine aw_skip ?_
     exact aq_join (j3s4_0, j3i4_1) h (fun w a hm hs => norm hm hs [0, 1] [0] [(4, (ptr g2 0)), (5, j3v5)] (by decide) ⟨rfl, rfl, trivial⟩)
  ·clear hkk4
   refine aw_sr ?_
   refine al_mv rfl rfl ?_
   obtain ⟨r19, hc18, h⟩ := opt_some h
   refine al_call (vs := [(ptr g2 0), (int .u64 (64 : Int))]) (f___tree_reader__number_ok fu g2 (S_tree_reader.mk a0 (0 : Int)) (64 : Int) hc18) [] [0] [] pre_nil rfl (by simp) (by decide) (.inl rfl) rfl Tryd.func164 rfl rfl rfl (fun _ => ?_)
   refine al_mv rfl rfl ?_
   refine al_nt ?_
   refine aw_block ?_
   refine aw_nilR 168 tyS_api_Node ?_
   refine aw_state (aw_loop (ι := (List UInt8) × Int × Value × (List S_api_Node) × Int) (fun i => (memOf w0 Z0 [] [(oBox g2 244 [(str i.1), (int .i64 i.2.1)]), (oRow i.2.2.1 168 tyS_api_Node i.2.2.2.1)] [uTabs])) (fun i => (tab [(4, (ptr g2 0)), (5, i.2.2.1), (13, (int .i64 r19.1)), (14, (int .i64 i.2.2.2.2))])) (fun q i => f_tree_Read_L22 kk4 r19 fu q i.1 i.2.1 i.2.2.2.1 i.2.2.2.2 = some r) ?_ fu (r19.2.s, r19.2.e, (Value.slice none 0 0), ([] : List S_api_Node), (0 : Int)) h) (fun w a hm hs => norm hm hs [1, 0] [0] [(4, (ptr g2 0)), (5, (Value.slice none 0 0)), (13, (int .i64 r19.1)), (14, (int .i64 (0 : Int)))] (by decide) ⟨rfl, rfl, rfl, rfl, trivial⟩)
   clear h
   rintro k21 ⟨l20s4_0, l20i4_1, l20v5, l20x5, l20i14⟩ h
   have h : f_tree_Read_L22 kk4 r19 fu k21 l20s4_0 l20i4_1 l20x5 l20i14 = some r := h
   obtain _ | k21 := k21
   · rw [f_tree_Read_L22] at h; cases h
   rw [f_tree_Read_L22] at h
   refine aw_show (m := (memOf w0 Z0 [] [(oBox g2 244 [(str l20s4_0), (int .i64 l20i4_1)]), (oRow l20v5 168 tyS_api_Node l20x5)] [uTabs])) (S := (tab [(4, (ptr g2 0)), (5, l20v5), (13, (int .i64 r19.1)), (14, (int .i64 l20i14))])) ?_
   refine aw_sr ?_
   refine al_in rfl rfl rfl rfl ?_
   refine al_nt ?_
   refine aw_seq ?_
   refine aw_cond rfl (fun hb23 => ?_) (fun hb23 => ?_)
   ·replace h := bif_t hb23 h
    refine aw_skip ?_
    refine aq_then ?_
    refine aw_seq ?_
    refine aw_block ?_
    refine aw_region ?_
    refine al_mv rfl rfl ?_
    refine al_mv rfl rfl ?_
    obtain ⟨r25, hc24, h⟩ := opt_some h
    refine al_call (vs := [(ptr g2 0)]) (f___tree_reader__node_ok fu g2 (S_tree_reader.mk l20s4_0 l20i4_1) hc24) [] [0] [1] pre_nil rfl (by simp) (by decide) (.inl rfl) rfl Tryd.func165 rfl rfl rfl (fun v26 => ?_)
    refine al_buildSlice (τ := tyS_api_Node) (e := 168) (k := 1) (sz := 0) (by_ := 0) (z := undef) (cs := [(str r25.1.Name), (int .i64 r25.1.Kind), (int .i64 r25.1.Mode), (int .i64 r25.1.Time), (int .i64 r25.1.Size), v26, (str r25.1.Link)]) (xs := [(S_api_Node.mk r25.1.Name r25.1.Kind r25.1.Mode r25.1.Time r25.1.Size r25.1.Parts r25.1.Link)]) rfl (by decide) (fun w a hm hs => ⟨([(str r25.1.Name), (int .i64 r25.1.Kind), (int .i64 r25.1.Mode), (int .i64 r25.1.Time), (int .i64 r25.1.Size), v26, (str r25.1.Link)]).toArray, rfl, by simp only [List.map_toArray, List.map_cons, List.map_nil, hs.ev (x := .tmp 18) rfl]; exact run_bs [(ag [(str r25.1.Name), (int .i64 r25.1.Kind), (int .i64 r25.1.Mode), (int .i64 r25.1.Time), (int .i64 r25.1.Size), v26, (str r25.1.Link)])] [(str r25.1.Name), (int .i64 r25.1.Kind), (int .i64 r25.1.Mode), (int .i64 r25.1.Time), (int .i64 r25.1.Size), v26, (str r25.1.Link)] Tryd.underlying164 to168 rfl rfl (bs_cons (l := [(str r25.1.Name), (int .i64 r25.1.Kind), (int .i64 r25.1.Mode), (int .i64 r25.1.Time), (int .i64 r25.1.Size), v26, (str r25.1.Link)]) (cs := []) (cv_rfl rfl) rfl bs_nil) hm⟩) (fun hm => ⟨_, _, rfl, (fun hm => mknS_api_Node rfl (fz_at (i := 0) hm rfl)) hm, rfl⟩) rfl (fun v27 => ?_)
    obtain ⟨hc28, h⟩ := req_some h
    refine al_append 2 hc28.1 hc28.2 rfl (src_own (i := 2) 0 rfl) rfl rfl Tryd.underlying164 to168 rfl rfl rfl (fun v29 => ?_)
    refine al_as rfl rfl ?_
    refine al_nil ?_
    refine aq_block ?_
    refine aq_then ?_
    refine aw_region ?_
    refine al_in rfl rfl rfl rfl ?_
    refine al_mv rfl rfl ?_
    refine al_nil ?_
    exact aq_again k21 (r25.2.s, r25.2.e, v29, (l20x5 ++ ([(S_api_Node.mk r25.1.Name r25.1.Kind r25.1.Mode r25.1.Time r25.1.Size r25.1.Parts r25.1.Link)])), (IntKind.i64.wrap (l20i14 + (1 : Int)))) (Nat.lt_succ_self _) h (fun w a hm hs => norm hm hs [1, 2] [1] [(4, (ptr g2 0)), (5, v29), (13, (int .i64 r19.1)), (14, (int .i64 (IntKind.i64.wrap (l20i14 + (1 : Int)))))] (by decide) ⟨rfl, rfl, rfl, rfl, trivial⟩)
   ·replace h := bif_f hb23 h
    refine aw_exit ?_
    refine aq_then_exit ?_
    refine aq_then_exit ?_
    refine aq_block_exit ?_
    exact aq_join (l20s4_0, l20i4_1, l20v5, l20x5) h (fun w a hm hs => norm hm hs [0, 1] [0] [(4, (ptr g2 0)), (5, l20v5)] (by decide) ⟨rfl, rfl, trivial⟩)
-- STUCK (*lumberroom/walk.reaper).file: lty ['pointer', 103]
-- STUCK (*lumberroom/walk.reaper).directory: lty ['pointer', 103]
def f___walk_reaper__find (fu : Nat) (a0 : D_walk_reaper) (a1 : A8u8) (a2 : Int) : Option ((List UInt8) × Int × D_walk_reaper) := (bif (!((gget a0.blobs a1).isSome)) then (some (([] : List UInt8), (9 : Int), a0)) else (bif ((((gget a0.blobs a1).getD (S_api_Blob.mk (0 : Int) ([] : (List UInt8)))).Kind) != a2) then (some (([] : List UInt8), (5 : Int), a0)) else (some (((gget a0.blobs a1).getD (S_api_Blob.mk (0 : Int) ([] : (List UInt8)))).Bytes, (0 : Int), a0))))
set_option maxRecDepth 100000 in
theorem f___walk_reaper__find_ok (fu : Nat) (bx0 : Nat) (gm0_0 : Nat) (v0_1 : Value) (a0 : D_walk_reaper) (a1 : A8u8) (a2 : Int) {r : ((List UInt8) × Int × D_walk_reaper)} (h : f___walk_reaper__find fu a0 a1 a2 = some r) : FnOk Tryd.prog 106 [(ptr bx0 0), (ag (cA8u8 a1)), (int .i64 a2)] [] [(oBox bx0 103 [(Value.map (some gm0_0)), v0_1]), (oMapK Tryd.prog 47 gm0_0 (fun x : A8u8 => ag (cA8u8 x)) (fun x : S_api_Blob => ag [(int .i64 x.Kind), (str x.Bytes)]) a0.blobs), (oRow v0_1 42 tyS_api_Item a0.out)] (fun (i : Value) => { val := (Value.tuple #[(str r.1), (int .i64 r.2.1)]), own := [(oBox bx0 103 [(Value.map (some gm0_0)), i]), (oMapK Tryd.prog 47 gm0_0 (fun x : A8u8 => ag (cA8u8 x)) (fun x : S_api_Blob => ag [(int .i64 x.Kind), (str x.Bytes)]) r.2.2.blobs), (oRow i 42 tyS_api_Item r.2.2.out)] }) := by
 unfold f___walk_reaper__find at h
 refine fn_enter Tryd.func106 rfl Tryd.ntmps106 rfl (fun w0 Z0 => ?_)
 refine aw_sr ?_
 refine al_box (vs := (cA8u8 a1)) rfl (cv_rfl rfl) rfl (fun g1 => ?_)
 refine al_as rfl rfl ?_
 refine al_as rfl rfl ?_
 refine al_nt ?_
 refine aw_seq ?_
 refine aw_region_open [⟨0, 11, Unit, fun _ => { val := (ptr bx0 0) }⟩, ⟨1, 12, Unit, fun _ => { val := (ptr bx0 0) }⟩, ⟨2, 13, Unit, fun _ => { val := (ptr bx0 0) }⟩, ⟨3, 14, Unit, fun _ => { val := (Value.map (some gm0_0)) }⟩, ⟨4, 15, Unit, fun _ => { val := (ag (cA8u8 a1)) }⟩, ⟨9, 8, Nat, fun (i : Nat) => { val := (ptr i 0), own := [(oBox i 34 [(int .i64 (0 : Int)), (str ([] : List UInt8))])] }⟩] (tab [(0, (ptr bx0 0)), (2, (int .i64 a2)), (4, (ptr g1 0))]) mixed (fun a hs => hs.tab _ (allT_mem ⟨rfl, rfl, rfl, trivial⟩)) ?_
 refine ta_show (m := (memOf w0 Z0 [(oBox bx0 103 [(Value.map (some gm0_0)), v0_1]), (oMapK Tryd.prog 47 gm0_0 (fun x : A8u8 => ag (cA8u8 x)) (fun x : S_api_Blob => ag [(int .i64 x.Kind), (str x.Bytes)]) a0.blobs), (oRow v0_1 42 tyS_api_Item a0.out)] [(oBox g1 47 (cA8u8 a1)), (oBox bx0 103 [(Value.map (some gm0_0)), v0_1]), (oMapK Tryd.prog 47 gm0_0 (fun x : A8u8 => ag (cA8u8 x)) (fun x : S_api_Blob => ag [(int .i64 x.Kind), (str x.Bytes)]) a0.blobs), (oRow v0_1 42 tyS_api_Item a0.out)] [])) (S := (tab [(0, (ptr bx0 0)), (2, (int .i64 a2)), (4, (ptr g1 0))])) ?_
 refine ta_step 5 _ [0, 1, 2, 3, 4, 9] [11, 12, 13, 14, 15, 8] [0, 1, 2, 3, 4] [6, 7, 8] [⟨0, 11, Unit, fun _ => { val := (ptr bx0 0) }⟩, ⟨1, 12, Unit, fun _ => { val := (ptr bx0 0) }⟩, ⟨2, 13, Unit, fun _ => { val := (ptr bx0 0) }⟩, ⟨3, 14, Unit, fun _ => { val := (Value.map (some gm0_0)) }⟩, ⟨4, 15, Unit, fun _ => { val := (ag (cA8u8 a1)) }⟩] [⟨9, 8, Nat, fun (i : Nat) => { val := (ptr i 0), own := [(oBox i 34 [(int .i64 (0 : Int)), (str ([] : List UInt8))])] }⟩] rfl rfl rfl (by kernel_rfl) rfl rfl rfl ⟨⟨_, rfl, [], rfl, by
 intro X_ Y_ F_ K_ hK_
 refine al_show (m := Mem.plus (memOf w0 Z0 [(oBox bx0 103 [(Value.map (some gm0_0)), v0_1]), (oMapK Tryd.prog 47 gm0_0 (fun x : A8u8 => ag (cA8u8 x)) (fun x : S_api_Blob => ag [(int .i64 x.Kind), (str x.Bytes)]) a0.blobs), (oRow v0_1 42 tyS_api_Item a0.out)] [(oBox g1 47 (cA8u8 a1)), (oBox bx0 103 [(Value.map (some gm0_0)), v0_1]), (oMapK Tryd.prog 47 gm0_0 (fun x : A8u8 => ag (cA8u8 x)) (fun x : S_api_Blob => ag [(int .i64 x.Kind), (str x.Bytes)]) a0.blobs), (oRow v0_1 42 tyS_api_Item a0.out)] []) X_ Y_) (S := over (tab [(0, (ptr bx0 0)), (2, (int .i64 a2)), (4, (ptr g1 0))]) F_) ?_
 refine al_mv rfl rfl ?_
 refine al_nil ?_
 exact fr_fin hK_ ()⟩, ⟨_, rfl, [0], rfl, by
 intro _
 intro X_ Y_ F_ K_ hK_
 refine al_show (m := Mem.plus (memOf w0 Z0 [(oBox bx0 103 [(Value.map (some gm0_0)), v0_1]), (oMapK Tryd.prog 47 gm0_0 (fun x : A8u8 => ag (cA8u8 x)) (fun x : S_api_Blob => ag [(int .i64 x.Kind), (str x.Bytes)]) a0.blobs), (oRow v0_1 42 tyS_api_Item a0.out)] [(oBox g1 47 (cA8u8 a1)), (oBox bx0 103 [(Value.map (some gm0_0)), v0_1]), (oMapK Tryd.prog 47 gm0_0 (fun x : A8u8 => ag (cA8u8 x)) (fun x : S_api_Blob => ag [(int .i64 x.Kind), (str x.Bytes)]) a0.blobs), (oRow v0_1 42 tyS_api_Item a0.out)] []) X_ Y_) (S := over (put (tab [(0, (ptr bx0 0)), (2, (int .i64 a2)), (4, (ptr g1 0))]) 11 (ptr bx0 0)) F_) ?_
 refine al_val (ov_nilCheck rfl rfl) ?_
 refine al_nil ?_
 exact fr_fin hK_ ()⟩, ⟨_, rfl, [1], rfl, by
 intro _
 intro X_ Y_ F_ K_ hK_
 refine al_show (m := Mem.plus (memOf w0 Z0 [(oBox bx0 103 [(Value.map (some gm0_0)), v0_1]), (oMapK Tryd.prog 47 gm0_0 (fun x : A8u8 => ag (cA8u8 x)) (fun x : S_api_Blob => ag [(int .i64 x.Kind), (str x.Bytes)]) a0.blobs), (oRow v0_1 42 tyS_api_Item a0.out)] [(oBox g1 47 (cA8u8 a1)), (oBox bx0 103 [(Value.map (some gm0_0)), v0_1]), (oMapK Tryd.prog 47 gm0_0 (fun x : A8u8 => ag (cA8u8 x)) (fun x : S_api_Blob => ag [(int .i64 x.Kind), (str x.Bytes)]) a0.blobs), (oRow v0_1 42 tyS_api_Item a0.out)] []) X_ Y_) (S := over (put (tab [(0, (ptr bx0 0)), (2, (int .i64 a2)), (4, (ptr g1 0))]) 12 (ptr bx0 0)) F_) ?_
 refine al_val (ov_fieldA (p := 0) rfl Tryd.underlying103 rfl sz76 rfl rfl rfl) ?_
 refine al_nil ?_
 exact fr_fin hK_ ()⟩, ⟨_, rfl, [2], rfl, by
 intro _
 intro X_ Y_ F_ K_ hK_
 refine al_show (m := Mem.plus (memOf w0 Z0 [(oBox bx0 103 [(Value.map (some gm0_0)), v0_1]), (oMapK Tryd.prog 47 gm0_0 (fun x : A8u8 => ag (cA8u8 x)) (fun x : S_api_Blob => ag [(int .i64 x.Kind), (str x.Bytes)]) a0.blobs), (oRow v0_1 42 tyS_api_Item a0.out)] [(oBox g1 47 (cA8u8 a1)), (oBox bx0 103 [(Value.map (some gm0_0)), v0_1]), (oMapK Tryd.prog 47 gm0_0 (fun x : A8u8 => ag (cA8u8 x)) (fun x : S_api_Blob => ag [(int .i64 x.Kind), (str x.Bytes)]) a0.blobs), (oRow v0_1 42 tyS_api_Item a0.out)] []) X_ Y_) (S := over (put (tab [(0, (ptr bx0 0)), (2, (int .i64 a2)), (4, (ptr g1 0))]) 13 (ptr bx0 0)) F_) ?_
 refine al_val (ov_load (i := 1) (v := (Value.map (some gm0_0))) rfl rfl Tryd.underlying76 sz76 rfl rfl rfl rfl) ?_
 refine al_nil ?_
 exact fr_fin hK_ ()⟩, ⟨_, rfl, [], rfl, by
 intro X_ Y_ F_ K_ hK_
 refine al_show (m := Mem.plus (memOf w0 Z0 [(oBox bx0 103 [(Value.map (some gm0_0)), v0_1]), (oMapK Tryd.prog 47 gm0_0 (fun x : A8u8 => ag (cA8u8 x)) (fun x : S_api_Blob => ag [(int .i64 x.Kind), (str x.Bytes)]) a0.blobs), (oRow v0_1 42 tyS_api_Item a0.out)] [(oBox g1 47 (cA8u8 a1)), (oBox bx0 103 [(Value.map (some gm0_0)), v0_1]), (oMapK Tryd.prog 47 gm0_0 (fun x : A8u8 => ag (cA8u8 x)) (fun x : S_api_Blob => ag [(int .i64 x.Kind), (str x.Bytes)]) a0.blobs), (oRow v0_1 42 tyS_api_Item a0.out)] []) X_ Y_) (S := over (tab [(0, (ptr bx0 0)), (2, (int .i64 a2)), (4, (ptr g1 0))]) F_) ?_
 refine al_val (ov_load (i := 0) (v := (ag (cA8u8 a1))) rfl rfl Tryd.underlying47 sz47 rfl rfl rfl rfl) ?_
 refine al_nil ?_
 exact fr_fin hK_ ()⟩, ⟨_, rfl, [], rfl, by
 intro X_ Y_ F_ K_ hK_
 refine al_show (m := Mem.plus (memOf w0 Z0 [(oBox bx0 103 [(Value.map (some gm0_0)), v0_1]), (oMapK Tryd.prog 47 gm0_0 (fun x : A8u8 => ag (cA8u8 x)) (fun x : S_api_Blob => ag [(int .i64 x.Kind), (str x.Bytes)]) a0.blobs), (oRow v0_1 42 tyS_api_Item a0.out)] [(oBox g1 47 (cA8u8 a1)), (oBox bx0 103 [(Value.map (some gm0_0)), v0_1]), (oMapK Tryd.prog 47 gm0_0 (fun x : A8u8 => ag (cA8u8 x)) (fun x : S_api_Blob => ag [(int .i64 x.Kind), (str x.Bytes)]) a0.blobs), (oRow v0_1 42 tyS_api_Item a0.out)] []) X_ Y_) (S := over (tab [(0, (ptr bx0 0)), (2, (int .i64 a2)), (4, (ptr g1 0))]) F_) ?_
 refine al_alloc (zs := [(int .i64 (0 : Int)), (str ([] : List UInt8))]) (zeroOf_to to34) rfl rfl (fun g2 => ?_)
 refine al_nil ?_
 exact fr_fin hK_ g2⟩, trivial⟩ ?_
 intro _
 intro _
 intro _
 intro _
 intro _
 intro X_ Y_ F_ K_ hK_
 refine al_show (m := Mem.plus (memOf w0 Z0 [(oBox bx0 103 [(Value.map (some gm0_0)), v0_1]), (oMapK Tryd.prog 47 gm0_0 (fun x : A8u8 => ag (cA8u8 x)) (fun x : S_api_Blob => ag [(int .i64 x.Kind), (str x.Bytes)]) a0.blobs), (oRow v0_1 42 tyS_api_Item a0.out)] [(oBox g1 47 (cA8u8 a1)), (oBox bx0 103 [(Value.map (some gm0_0)), v0_1]), (oMapK Tryd.prog 47 gm0_0 (fun x : A8u8 => ag (cA8u8 x)) (fun x : S_api_Blob => ag [(int .i64 x.Kind), (str x.Bytes)]) a0.blobs), (oRow v0_1 42 tyS_api_Item a0.out)] []) X_ Y_) (S := over (put (put (put (put (put (tab [(0, (ptr bx0 0)), (2, (int .i64 a2)), (4, (ptr g1 0))]) 11 (ptr bx0 0)) 12 (ptr bx0 0)) 13 (ptr bx0 0)) 14 (Value.map (some gm0_0))) 15 (ag (cA8u8 a1))) F_) ?_
 refine al_val (v := (Value.tuple #[(ag [(int .i64 ((gget a0.blobs a1).getD (S_api_Blob.mk (0 : Int) ([] : (List UInt8)))).Kind), (str ((gget a0.blobs a1).getD (S_api_Blob.mk (0 : Int) ([] : (List UInt8)))).Bytes)]), (bool (gget a0.blobs a1).isSome)])) (ov_lookupOkK (k := a1) (ek := (fun x : A8u8 => ag (cA8u8 x))) (ew := (fun x : S_api_Blob => ag [(int .i64 x.Kind), (str x.Bytes)])) (z := (S_api_Blob.mk (0 : Int) ([] : (List UInt8)))) 2 kd47 ki47 (kw47 a1) rfl rfl rfl Tryd.underlying76 (zeroOf_to to34) rfl) ?_
 refine al_nil ?_
 refine aq_show (m := Mem.plus (memOf w0 Z0 [(oBox bx0 103 [(Value.map (some gm0_0)), v0_1]), (oMapK Tryd.prog 47 gm0_0 (fun x : A8u8 => ag (cA8u8 x)) (fun x : S_api_Blob => ag [(int .i64 x.Kind), (str x.Bytes)]) a0.blobs), (oRow v0_1 42 tyS_api_Item a0.out)] [(oBox g1 47 (cA8u8 a1)), (oBox bx0 103 [(Value.map (some gm0_0)), v0_1]), (oMapK Tryd.prog 47 gm0_0 (fun x : A8u8 => ag (cA8u8 x)) (fun x : S_api_Blob => ag [(int .i64 x.Kind), (str x.Bytes)]) a0.blobs), (oRow v0_1 42 tyS_api_Item a0.out)] []) X_ Y_) ?_
 refine aq_next hK_ [0, 1, 2, 3] [] [(0, (ptr bx0 0)), (2, (int .i64 a2)), (16, (Value.tuple #[(ag [(int .i64 ((gget a0.blobs a1).getD (S_api_Blob.mk (0 : Int) ([] : (List UInt8)))).Kind), (str ((gget a0.blobs a1).getD (S_api_Blob.mk (0 : Int) ([] : (List UInt8)))).Bytes)]), (bool (gget a0.blobs a1).isSome)]))] [8] [⟨6, 10, Unit, fun _ => { val := (Value.tuple #[(ag [(int .i64 ((gget a0.blobs a1).getD (S_api_Blob.mk (0 : Int) ([] : (List UInt8)))).Kind), (str ((gget a0.blobs a1).getD (S_api_Blob.mk (0 : Int) ([] : (List UInt8)))).Bytes)]), (bool (gget a0.blobs a1).isSome)]) }⟩, ⟨7, 17, Unit, fun _ => { val := (ag [(int .i64 ((gget a0.blobs a1).getD (S_api_Blob.mk (0 : Int) ([] : (List UInt8)))).Kind), (str ((gget a0.blobs a1).getD (S_api_Blob.mk (0 : Int) ([] : (List UInt8)))).Bytes)]) }⟩, ⟨8, 18, Unit, fun _ => { val := (bool (gget a0.blobs a1).isSome) }⟩] rfl rfl (by decide) rfl ⟨rfl, rfl, rfl, trivial⟩ ⟨rfl, trivial⟩ ?_
 clear hK_ K_ F_ X_ Y_
 refine ta_show (m := (memOf w0 Z0 [(oBox bx0 103 [(Value.map (some gm0_0)), v0_1]), (oMapK Tryd.prog 47 gm0_0 (fun x : A8u8 => ag (cA8u8 x)) (fun x : S_api_Blob => ag [(int .i64 x.Kind), (str x.Bytes)]) a0.blobs), (oRow v0_1 42 tyS_api_Item a0.out)] [(oBox g1 47 (cA8u8 a1)), (oBox bx0 103 [(Value.map (some gm0_0)), v0_1]), (oMapK Tryd.prog 47 gm0_0 (fun x : A8u8 => ag (cA8u8 x)) (fun x : S_api_Blob => ag [(int .i64 x.Kind), (str x.Bytes)]) a0.blobs), (oRow v0_1 42 tyS_api_Item a0.out)] [])) (S := (tab [(0, (ptr bx0 0)), (2, (int .i64 a2)), (16, (Value.tuple #[(ag [(int .i64 ((gget a0.blobs a1).getD (S_api_Blob.mk (0 : Int) ([] : (List UInt8)))).Kind), (str ((gget a0.blobs a1).getD (S_api_Blob.mk (0 : Int) ([] : (List UInt8)))).Bytes)]), (bool (gget a0.blobs a1).isSome)]))])) ?_
 refine ta_step 10 _ [9, 6, 7, 8] [8, 10, 17, 18] [9, 6, 7] [] [⟨9, 8, Nat, fun (i : Nat) => { val := (ptr i 0), own := [(oBox i 34 [(int .i64 (0 : Int)), (str ([] : List UInt8))])] }⟩, ⟨6, 10, Unit, fun _ => { val := (Value.tuple #[(ag [(int .i64 ((gget a0.blobs a1).getD (S_api_Blob.mk (0 : Int) ([] : (List UInt8)))).Kind), (str ((gget a0.blobs a1).getD (S_api_Blob.mk (0 : Int) ([] : (List UInt8)))).Bytes)]), (bool (gget a0.blobs a1).isSome)]) }⟩, ⟨7, 17, Unit, fun _ => { val := (ag [(int .i64 ((gget a0.blobs a1).getD (S_api_Blob.mk (0 : Int) ([] : (List UInt8)))).Kind), (str ((gget a0.blobs a1).getD (S_api_Blob.mk (0 : Int) ([] : (List UInt8)))).Bytes)]) }⟩] [⟨8, 18, Unit, fun _ => { val := (bool (gget a0.blobs a1).isSome) }⟩] rfl rfl rfl (by kernel_rfl) rfl rfl rfl ⟨⟨_, rfl, [], rfl, by
 intro X_ Y_ F_ K_ hK_
 refine al_show (m := Mem.plus (memOf w0 Z0 [(oBox bx0 103 [(Value.map (some gm0_0)), v0_1]), (oMapK Tryd.prog 47 gm0_0 (fun x : A8u8 => ag (cA8u8 x)) (fun x : S_api_Blob => ag [(int .i64 x.Kind), (str x.Bytes)]) a0.blobs), (oRow v0_1 42 tyS_api_Item a0.out)] [(oBox g1 47 (cA8u8 a1)), (oBox bx0 103 [(Value.map (some gm0_0)), v0_1]), (oMapK Tryd.prog 47 gm0_0 (fun x : A8u8 => ag (cA8u8 x)) (fun x : S_api_Blob => ag [(int .i64 x.Kind), (str x.Bytes)]) a0.blobs), (oRow v0_1 42 tyS_api_Item a0.out)] []) X_ Y_) (S := over (tab [(0, (ptr bx0 0)), (2, (int .i64 a2)), (16, (Value.tuple #[(ag [(int .i64 ((gget a0.blobs a1).getD (S_api_Blob.mk (0 : Int) ([] : (List UInt8)))).Kind), (str ((gget a0.blobs a1).getD (S_api_Blob.mk (0 : Int) ([] : (List UInt8)))).Bytes)]), (bool (gget a0.blobs a1).isSome)]))]) F_) ?_
 refine al_alloc (zs := [(int .i64 (0 : Int)), (str ([] : List UInt8))]) (zeroOf_to to34) rfl rfl (fun g2 => ?_)
 refine al_nil ?_
 exact fr_fin hK_ g2⟩, ⟨_, rfl, [], rfl, by
 intro X_ Y_ F_ K_ hK_
 refine al_show (m := Mem.plus (memOf w0 Z0 [(oBox bx0 103 [(Value.map (some gm0_0)), v0_1]), (oMapK Tryd.prog 47 gm0_0 (fun x : A8u8 => ag (cA8u8 x)) (fun x : S_api_Blob => ag [(int .i64 x.Kind), (str x.Bytes)]) a0.blobs), (oRow v0_1 42 tyS_api_Item a0.out)] [(oBox g1 47 (cA8u8 a1)), (oBox bx0 103 [(Value.map (some gm0_0)), v0_1]), (oMapK Tryd.prog 47 gm0_0 (fun x : A8u8 => ag (cA8u8 x)) (fun x : S_api_Blob => ag [(int .i64 x.Kind), (str x.Bytes)]) a0.blobs), (oRow v0_1 42 tyS_api_Item a0.out)] []) X_ Y_) (S := over (tab [(0, (ptr bx0 0)), (2, (int .i64 a2)), (16, (Value.tuple #[(ag [(int .i64 ((gget a0.blobs a1).getD (S_api_Blob.mk (0 : Int) ([] : (List UInt8)))).Kind), (str ((gget a0.blobs a1).getD (S_api_Blob.mk (0 : Int) ([] : (List UInt8)))).Bytes)]), (bool (gget a0.blobs a1).isSome)]))]) F_) ?_
 refine al_mv rfl rfl ?_
 refine al_nil ?_
 exact fr_fin hK_ ()⟩, ⟨_, rfl, [1], rfl, by
 intro _
 intro X_ Y_ F_ K_ hK_
 refine al_show (m := Mem.plus (memOf w0 Z0 [(oBox bx0 103 [(Value.map (some gm0_0)), v0_1]), (oMapK Tryd.prog 47 gm0_0 (fun x : A8u8 => ag (cA8u8 x)) (fun x : S_api_Blob => ag [(int .i64 x.Kind), (str x.Bytes)]) a0.blobs), (oRow v0_1 42 tyS_api_Item a0.out)] [(oBox g1 47 (cA8u8 a1)), (oBox bx0 103 [(Value.map (some gm0_0)), v0_1]), (oMapK Tryd.prog 47 gm0_0 (fun x : A8u8 => ag (cA8u8 x)) (fun x : S_api_Blob => ag [(int .i64 x.Kind), (str x.Bytes)]) a0.blobs), (oRow v0_1 42 tyS_api_Item a0.out)] []) X_ Y_) (S := over (put (tab [(0, (ptr bx0 0)), (2, (int .i64 a2)), (16, (Value.tuple #[(ag [(int .i64 ((gget a0.blobs a1).getD (S_api_Blob.mk (0 : Int) ([] : (List UInt8)))).Kind), (str ((gget a0.blobs a1).getD (S_api_Blob.mk (0 : Int) ([] : (List UInt8)))).Bytes)]), (bool (gget a0.blobs a1).isSome)]))]) 10 (Value.tuple #[(ag [(int .i64 ((gget a0.blobs a1).getD (S_api_Blob.mk (0 : Int) ([] : (List UInt8)))).Kind), (str ((gget a0.blobs a1).getD (S_api_Blob.mk (0 : Int) ([] : (List UInt8)))).Bytes)]), (bool (gget a0.blobs a1).isSome)])) F_) ?_
 refine al_ex rfl rfl rfl ?_
 refine al_nil ?_
 exact fr_fin hK_ ()⟩, ⟨_, rfl, [1], rfl, by
 intro _
 intro X_ Y_ F_ K_ hK_
 refine al_show (m := Mem.plus (memOf w0 Z0 [(oBox bx0 103 [(Value.map (some gm0_0)), v0_1]), (oMapK Tryd.prog 47 gm0_0 (fun x : A8u8 => ag (cA8u8 x)) (fun x : S_api_Blob => ag [(int .i64 x.Kind), (str x.Bytes)]) a0.blobs), (oRow v0_1 42 tyS_api_Item a0.out)] [(oBox g1 47 (cA8u8 a1)), (oBox bx0 103 [(Value.map (some gm0_0)), v0_1]), (oMapK Tryd.prog 47 gm0_0 (fun x : A8u8 => ag (cA8u8 x)) (fun x : S_api_Blob => ag [(int .i64 x.Kind), (str x.Bytes)]) a0.blobs), (oRow v0_1 42 tyS_api_Item a0.out)] []) X_ Y_) (S := over (put (tab [(0, (ptr bx0 0)), (2, (int .i64 a2)), (16, (Value.tuple #[(ag [(int .i64 ((gget a0.blobs a1).getD (S_api_Blob.mk (0 : Int) ([] : (List UInt8)))).Kind), (str ((gget a0.blobs a1).getD (S_api_Blob.mk (0 : Int) ([] : (List UInt8)))).Bytes)]), (bool (gget a0.blobs a1).isSome)]))]) 10 (Value.tuple #[(ag [(int .i64 ((gget a0.blobs a1).getD (S_api_Blob.mk (0 : Int) ([] : (List UInt8)))).Kind), (str ((gget a0.blobs a1).getD (S_api_Blob.mk (0 : Int) ([] : (List UInt8)))).Bytes)]), (bool (gget a0.blobs a1).isSome)])) F_) ?_
 refine al_ex rfl rfl rfl ?_
 refine al_nil ?_
 exact fr_fin hK_ ()⟩, trivial⟩ ?_
 intro g2
 intro _
 intro _
 intro X_ Y_ F_ K_ hK_
 refine al_show (m := Mem.plus (memOf w0 Z0 [(oBox bx0 103 [(Value.map (some gm0_0)), v0_1]), (oMapK Tryd.prog 47 gm0_0 (fun x : A8u8 => ag (cA8u8 x)) (fun x : S_api_Blob => ag [(int .i64 x.Kind), (str x.Bytes)]) a0.blobs), (oRow v0_1 42 tyS_api_Item a0.out)] [(oBox g2 34 [(int .i64 (0 : Int)), (str ([] : List UInt8))]), (oBox g1 47 (cA8u8 a1)), (oBox bx0 103 [(Value.map (some gm0_0)), v0_1]), (oMapK Tryd.prog 47 gm0_0 (fun x : A8u8 => ag (cA8u8 x)) (fun x : S_api_Blob => ag [(int .i64 x.Kind), (str x.Bytes)]) a0.blobs), (oRow v0_1 42 tyS_api_Item a0.out)] []) X_ Y_) (S := over (put (put (put (tab [(0, (ptr bx0 0)), (2, (int .i64 a2)), (16, (Value.tuple #[(ag [(int .i64 ((gget a0.blobs a1).getD (S_api_Blob.mk (0 : Int) ([] : (List UInt8)))).Kind), (str ((gget a0.blobs a1).getD (S_api_Blob.mk (0 : Int) ([] : (List UInt8)))).Bytes)]), (bool (gget a0.blobs a1).isSome)]))]) 8 (ptr g2 0)) 10 (Value.tuple #[(ag [(int .i64 ((gget a0.blobs a1).getD (S_api_Blob.mk (0 : Int) ([] : (List UInt8)))).Kind), (str ((gget a0.blobs a1).getD (S_api_Blob.mk (0 : Int) ([] : (List UInt8)))).Bytes)]), (bool (gget a0.blobs a1).isSome)])) 17 (ag [(int .i64 ((gget a0.blobs a1).getD (S_api_Blob.mk (0 : Int) ([] : (List UInt8)))).Kind), (str ((gget a0.blobs a1).getD (S_api_Blob.mk (0 : Int) ([] : (List UInt8)))).Bytes)])) F_) ?_
 refine al_store (i := 0) (vs := [(int .i64 ((gget a0.blobs a1).getD (S_api_Blob.mk (0 : Int) ([] : (List UInt8)))).Kind), (str ((gget a0.blobs a1).getD (S_api_Blob.mk (0 : Int) ([] : (List UInt8)))).Bytes)]) (cs' := [(int .i64 ((gget a0.blobs a1).getD (S_api_Blob.mk (0 : Int) ([] : (List UInt8)))).Kind), (str ((gget a0.blobs a1).getD (S_api_Blob.mk (0 : Int) ([] : (List UInt8)))).Bytes)]) rfl rfl rfl sz34 (cv_rfl rfl) rfl (co_val rfl (co_val rfl co_nil)) (Nat.le_of_ble_eq_true rfl) rfl rfl ?_
 refine al_nil ?_
 refine aq_show (m := Mem.plus (memOf w0 Z0 [(oBox bx0 103 [(Value.map (some gm0_0)), v0_1]), (oMapK Tryd.prog 47 gm0_0 (fun x : A8u8 => ag (cA8u8 x)) (fun x : S_api_Blob => ag [(int .i64 x.Kind), (str x.Bytes)]) a0.blobs), (oRow v0_1 42 tyS_api_Item a0.out)] [(oBox g2 34 [(int .i64 ((gget a0.blobs a1).getD (S_api_Blob.mk (0 : Int) ([] : (List UInt8)))).Kind), (str ((gget a0.blobs a1).getD (S_api_Blob.mk (0 : Int) ([] : (List UInt8)))).Bytes)]), (oBox g1 47 (cA8u8 a1)), (oBox bx0 103 [(Value.map (some gm0_0)), v0_1]), (oMapK Tryd.prog 47 gm0_0 (fun x : A8u8 => ag (cA8u8 x)) (fun x : S_api_Blob => ag [(int .i64 x.Kind), (str x.Bytes)]) a0.blobs), (oRow v0_1 42 tyS_api_Item a0.out)] []) X_ Y_) ?_
 refine aq_next hK_ [0, 1, 2, 3, 4] [] [(0, (ptr bx0 0)), (2, (int .i64 a2)), (8, (ptr g2 0)), (10, (Value.tuple #[(ag [(int .i64 ((gget a0.blobs a1).getD (S_api_Blob.mk (0 : Int) ([] : (List UInt8)))).Kind), (str ((gget a0.blobs a1).getD (S_api_Blob.mk (0 : Int) ([] : (List UInt8)))).Bytes)]), (bool (gget a0.blobs a1).isSome)]))] [18] [] rfl rfl (by decide) rfl ⟨rfl, rfl, rfl, rfl, trivial⟩ ⟨rfl, trivial⟩ ?_
 clear hK_ K_ F_ X_ Y_
 refine ta_show (m := (memOf w0 Z0 [(oBox bx0 103 [(Value.map (some gm0_0)), v0_1]), (oMapK Tryd.prog 47 gm0_0 (fun x : A8u8 => ag (cA8u8 x)) (fun x : S_api_Blob => ag [(int .i64 x.Kind), (str x.Bytes)]) a0.blobs), (oRow v0_1 42 tyS_api_Item a0.out)] [(oBox g2 34 [(int .i64 ((gget a0.blobs a1).getD (S_api_Blob.mk (0 : Int) ([] : (List UInt8)))).Kind), (str ((gget a0.blobs a1).getD (S_api_Blob.mk (0 : Int) ([] : (List UInt8)))).Bytes)]), (oBox g1 47 (cA8u8 a1)), (oBox bx0 103 [(Value.map (some gm0_0)), v0_1]), (oMapK Tryd.prog 47 gm0_0 (fun x : A8u8 => ag (cA8u8 x)) (fun x : S_api_Blob => ag [(int .i64 x.Kind), (str x.Bytes)]) a0.blobs), (oRow v0_1 42 tyS_api_Item a0.out)] [])) (S := (tab [(0, (ptr bx0 0)), (2, (int .i64 a2)), (8, (ptr g2 0)), (10, (Value.tuple #[(ag [(int .i64 ((gget a0.blobs a1).getD (S_api_Blob.mk (0 : Int) ([] : (List UInt8)))).Kind), (str ((gget a0.blobs a1).getD (S_api_Blob.mk (0 : Int) ([] : (List UInt8)))).Bytes)]), (bool (gget a0.blobs a1).isSome)]))])) ?_
 refine ta_step 11 _ [8] [18] [8] [] [⟨8, 18, Unit, fun _ => { val := (bool (gget a0.blobs a1).isSome) }⟩] [] rfl rfl rfl (by kernel_rfl) rfl rfl rfl ⟨⟨_, rfl, [], rfl, by
 intro X_ Y_ F_ K_ hK_
 refine al_show (m := Mem.plus (memOf w0 Z0 [(oBox bx0 103 [(Value.map (some gm0_0)), v0_1]), (oMapK Tryd.prog 47 gm0_0 (fun x : A8u8 => ag (cA8u8 x)) (fun x : S_api_Blob => ag [(int .i64 x.Kind), (str x.Bytes)]) a0.blobs), (oRow v0_1 42 tyS_api_Item a0.out)] [(oBox g2 34 [(int .i64 ((gget a0.blobs a1).getD (S_api_Blob.mk (0 : Int) ([] : (List UInt8)))).Kind), (str ((gget a0.blobs a1).getD (S_api_Blob.mk (0 : Int) ([] : (List UInt8)))).Bytes)]), (oBox g1 47 (cA8u8 a1)), (oBox bx0 103 [(Value.map (some gm0_0)), v0_1]), (oMapK Tryd.prog 47 gm0_0 (fun x : A8u8 => ag (cA8u8 x)) (fun x : S_api_Blob => ag [(int .i64 x.Kind), (str x.Bytes)]) a0.blobs), (oRow v0_1 42 tyS_api_Item a0.out)] []) X_ Y_) (S := over (tab [(0, (ptr bx0 0)), (2, (int .i64 a2)), (8, (ptr g2 0)), (10, (Value.tuple #[(ag [(int .i64 ((gget a0.blobs a1).getD (S_api_Blob.mk (0 : Int) ([] : (List UInt8)))).Kind), (str ((gget a0.blobs a1).getD (S_api_Blob.mk (0 : Int) ([] : (List UInt8)))).Bytes)]), (bool (gget a0.blobs a1).isSome)]))]) F_) ?_
 refine al_ex rfl rfl rfl ?_
 refine al_nil ?_
 exact fr_fin hK_ ()⟩, trivial⟩ ?_
 intro _
 intro X_ Y_ F_ K_ hK_
 refine al_show (m := Mem.plus (memOf w0 Z0 [(oBox bx0 103 [(Value.map (some gm0_0)), v0_1]), (oMapK Tryd.prog 47 gm0_0 (fun x : A8u8 => ag (cA8u8 x)) (fun x : S_api_Blob => ag [(int .i64 x.Kind), (str x.Bytes)]) a0.blobs), (oRow v0_1 42 tyS_api_Item a0.out)] [(oBox g2 34 [(int .i64 ((gget a0.blobs a1).getD (S_api_Blob.mk (0 : Int) ([] : (List UInt8)))).Kind), (str ((gget a0.blobs a1).getD (S_api_Blob.mk (0 : Int) ([] : (List UInt8)))).Bytes)]), (oBox g1 47 (cA8u8 a1)), (oBox bx0 103 [(Value.map (some gm0_0)), v0_1]), (oMapK Tryd.prog 47 gm0_0 (fun x : A8u8 => ag (cA8u8 x)) (fun x : S_api_Blob => ag [(int .i64 x.Kind), (str x.Bytes)]) a0.blobs), (oRow v0_1 42 tyS_api_Item a0.out)] []) X_ Y_) (S := over (put (tab [(0, (ptr bx0 0)), (2, (int .i64 a2)), (8, (ptr g2 0)), (10, (Value.tuple #[(ag [(int .i64 ((gget a0.blobs a1).getD (S_api_Blob.mk (0 : Int) ([] : (List UInt8)))).Kind), (str ((gget a0.blobs a1).getD (S_api_Blob.mk (0 : Int) ([] : (List UInt8)))).Bytes)]), (bool (gget a0.blobs a1).isSome)]))]) 18 (bool (gget a0.blobs a1).isSome)) F_) ?_
 refine al_as rfl rfl ?_
 refine al_nil ?_
 refine aq_show (m := Mem.plus (memOf w0 Z0 [(oBox bx0 103 [(Value.map (some gm0_0)), v0_1]), (oMapK Tryd.prog 47 gm0_0 (fun x : A8u8 => ag (cA8u8 x)) (fun x : S_api_Blob => ag [(int .i64 x.Kind), (str x.Bytes)]) a0.blobs), (oRow v0_1 42 tyS_api_Item a0.out)] [(oBox g2 34 [(int .i64 ((gget a0.blobs a1).getD (S_api_Blob.mk (0 : Int) ([] : (List UInt8)))).Kind), (str ((gget a0.blobs a1).getD (S_api_Blob.mk (0 : Int) ([] : (List UInt8)))).Bytes)]), (oBox g1 47 (cA8u8 a1)), (oBox bx0 103 [(Value.map (some gm0_0)), v0_1]), (oMapK Tryd.prog 47 gm0_0 (fun x : A8u8 => ag (cA8u8 x)) (fun x : S_api_Blob => ag [(int .i64 x.Kind), (str x.Bytes)]) a0.blobs), (oRow v0_1 42 tyS_api_Item a0.out)] []) X_ Y_) ?_
 refine aq_next hK_ [0, 1, 2, 3, 4] [] [(0, (ptr bx0 0)), (2, (int .i64 a2)), (8, (ptr g2 0)), (9, (bool (gget a0.blobs a1).isSome))] [] [] rfl rfl (by decide) rfl ⟨rfl, rfl, rfl, rfl, trivial⟩ trivial ?_
 clear hK_ K_ F_ X_ Y_
 refine ta_show (m := (memOf w0 Z0 [(oBox bx0 103 [(Value.map (some gm0_0)), v0_1]), (oMapK Tryd.prog 47 gm0_0 (fun x : A8u8 => ag (cA8u8 x)) (fun x : S_api_Blob => ag [(int .i64 x.Kind), (str x.Bytes)]) a0.blobs), (oRow v0_1 42 tyS_api_Item a0.out)] [(oBox g2 34 [(int .i64 ((gget a0.blobs a1).getD (S_api_Blob.mk (0 : Int) ([] : (List UInt8)))).Kind), (str ((gget a0.blobs a1).getD (S_api_Blob.mk (0 : Int) ([] : (List UInt8)))).Bytes)]), (oBox g1 47 (cA8u8 a1)), (oBox bx0 103 [(Value.map (some gm0_0)), v0_1]), (oMapK Tryd.prog 47 gm0_0 (fun x : A8u8 => ag (cA8u8 x)) (fun x : S_api_Blob => ag [(int .i64 x.Kind), (str x.Bytes)]) a0.blobs), (oRow v0_1 42 tyS_api_Item a0.out)] [])) (S := (tab [(0, (ptr bx0 0)), (2, (int .i64 a2)), (8, (ptr g2 0)), (9, (bool (gget a0.blobs a1).isSome))])) ?_
 refine ta_end [] [] rfl rfl (by kernel_rfl) rfl trivial ?_
 refine aq_show (m := (memOf w0 Z0 [(oBox bx0 103 [(Value.map (some gm0_0)), v0_1]), (oMapK Tryd.prog 47 gm0_0 (fun x : A8u8 => ag (cA8u8 x)) (fun x : S_api_Blob => ag [(int .i64 x.Kind), (str x.Bytes)]) a0.blobs), (oRow v0_1 42 tyS_api_Item a0.out)] [(oBox g2 34 [(int .i64 ((gget a0.blobs a1).getD (S_api_Blob.mk (0 : Int) ([] : (List UInt8)))).Kind), (str ((gget a0.blobs a1).getD (S_api_Blob.mk (0 : Int) ([] : (List UInt8)))).Bytes)]), (oBox g1 47 (cA8u8 a1)), (oBox bx0 103 [(Value.map (some gm0_0)), v0_1]), (oMapK Tryd.prog 47 gm0_0 (fun x : A8u8 => ag (cA8u8 x)) (fun x : S_api_Blob => ag [(int .i64 x.Kind), (str x.Bytes)]) a0.blobs), (oRow v0_1 42 tyS_api_Item a0.out)] [])) (S := (tab [(0, (ptr bx0 0)), (2, (int .i64 a2)), (8, (ptr g2 0)), (9, (bool (gget a0.blobs a1).isSome))])) ?_
 refine aq_then ?_
 refine aw_seq ?_
 refine aw_block ?_
 refine aw_sr ?_
 refine al_mv rfl rfl ?_
 refine al_val (ov_not rfl rfl) ?_
 refine al_as rfl rfl ?_
 refine al_nt ?_
 refine aw_cond rfl (fun hb3 => ?_) (fun hb3 => ?_)
 ·replace h := bif_t hb3 h
  refine aw_sr ?_
  refine al_as rfl rfl ?_
  refine al_as rfl rfl ?_
  refine al_nt ?_
  refine aw_ret ?_
  refine aq_block_ret ?_
  refine aq_then_ret ?_
  obtain rfl := Option.some.inj h
  exact fn_ret v0_1 [2, 3, 4] [] rfl rfl rfl rfl (res2 rfl rfl rfl) rfl rfl rfl (by decide)
 ·replace h := bif_f hb3 h
  refine aw_sr ?_
  refine al_val (ov_fieldA (p := 0) rfl Tryd.underlying34 rfl sz3 rfl rfl rfl) ?_
  refine al_val (ov_load (i := 0) (v := (int .i64 ((gget a0.blobs a1).getD (S_api_Blob.mk (0 : Int) ([] : (List UInt8)))).Kind)) rfl rfl Tryd.underlying3 sz3 rfl rfl rfl rfl) ?_
  refine al_mv rfl rfl ?_
  refine al_in rfl rfl rfl rfl ?_
  refine al_as rfl rfl ?_
  refine al_nt ?_
  refine aw_cond rfl (fun hb4 => ?_) (fun hb4 => ?_)
  ·replace h := bif_t hb4 h
   refine aw_sr ?_
   refine al_as rfl rfl ?_
   refine al_as rfl rfl ?_
   refine al_nt ?_
   refine aw_ret ?_
   refine aq_block_ret ?_
   refine aq_then_ret ?_
   obtain rfl := Option.some.inj h
   exact fn_ret v0_1 [2, 3, 4] [] rfl rfl rfl rfl (res2 rfl rfl rfl) rfl rfl rfl (by decide)
  ·replace h := bif_f hb4 h
   refine aw_skip ?_
   refine aq_block ?_
   refine aq_tr ?_
   refine al_val (ov_fieldA (p := 1) rfl Tryd.underlying34 rfl sz9 rfl rfl rfl) ?_
   refine al_val (ov_load (i := 0) (v := (str ((gget a0.blobs a1).getD (S_api_Blob.mk (0 : Int) ([] : (List UInt8)))).Bytes)) rfl rfl Tryd.underlying9 sz9 rfl rfl rfl rfl) ?_
   refine al_as rfl rfl ?_
   refine al_as rfl rfl ?_
   refine al_nt ?_
   refine aw_ret ?_
   obtain rfl := Option.some.inj h
   exact fn_ret v0_1 [2, 3, 4] [] rfl rfl rfl rfl (res2 rfl rfl rfl) rfl rfl rfl (by decide)
def f___walk_reaper__file_L7 (a1 : S_api_Node) (kk3 : ((List (A8u8 × S_api_Blob)) → (List S_api_Item) → (List UInt8) → Option ((List UInt8) × Int × D_walk_reaper))) (fu : Nat) : Nat → (List (A8u8 × S_api_Blob)) → (List S_api_Item) → (List UInt8) → Int → Option ((List UInt8) × Int × D_walk_reaper)
  | 0, _, _, _, _ => none
  | k6 + 1, l5xm0_0, l5x0_1, l5s6, l5i14 => (bif (decide (l5i14 < (a1.Parts.length : Int))) then (opt (at? a1.Parts l5i14) fun (u9 : A8u8) => (opt (f___walk_reaper__find fu (D_walk_reaper.mk l5xm0_0 l5x0_1) u9 (1 : Int)) fun (r14 : ((List UInt8) × Int × D_walk_reaper)) => (bif (r14.2.1 != (0 : Int)) then (some (([] : List UInt8), r14.2.1, r14.2.2)) else (req (l5s6.length + r14.1.length ≤ 9223372036854775807) (bif (decide (((l5s6 ++ r14.1).length : Int) > a1.Size)) then (some (([] : List UInt8), (4 : Int), r14.2.2)) else (f___walk_reaper__file_L7 a1 kk3 fu k6 r14.2.2.blobs r14.2.2.out (l5s6 ++ r14.1) (IntKind.i64.wrap (l5i14 + (1 : Int))))))))) else (kk3 l5xm0_0 l5x0_1 l5s6))
def f___walk_reaper__file (fu : Nat) (a0 : D_walk_reaper) (a1 : S_api_Node) : Option ((List UInt8) × Int × D_walk_reaper) := (lt (fun (j2xm0_0 : (List (A8u8 × S_api_Blob))) (j2x0_1 : (List S_api_Item)) (j2s6 : (List UInt8)) => (bif (decide ((j2s6.length : Int) < a1.Size)) then (some (([] : List UInt8), (4 : Int), (D_walk_reaper.mk j2xm0_0 j2x0_1))) else (some (j2s6, (0 : Int), (D_walk_reaper.mk j2xm0_0 j2x0_1))))) fun (kk3 : (List (A8u8 × S_api_Blob)) → (List S_api_Item) → (List UInt8) → Option ((List UInt8) × Int × D_walk_reaper)) => (f___walk_reaper__file_L7 a1 kk3 fu fu a0.blobs a0.out ([] : List UInt8) (0 : Int)))
set_option maxRecDepth 100000 in
theorem f___walk_reaper__file_ok (fu : Nat) (bx0 : Nat) (gm0_0 : Nat) (v0_1 : Value) (a0 : D_walk_reaper) (v1_5 : Value) (a1 : S_api_Node) {r : ((List UInt8) × Int × D_walk_reaper)} (h : f___walk_reaper__file fu a0 a1 = some r) : FnOk Tryd.prog 108 [(ptr bx0 0), (ag [(str a1.Name), (int .i64 a1.Kind), (int .i64 a1.Mode), (int .i64 a1.Time), (int .i64 a1.Size), v1_5, (str a1.Link)])] [(fDat (tyList tyA8u8) [v1_5] a1.Parts)] [(oBox bx0 103 [(Value.map (some gm0_0)), v0_1]), (oMapK Tryd.prog 47 gm0_0 (fun x : A8u8 => ag (cA8u8 x)) (fun x : S_api_Blob => ag [(int .i64 x.Kind), (str x.Bytes)]) a0.blobs), (oRow v0_1 42 tyS_api_Item a0.out)] (fun (i : Value) => { val := (Value.tuple #[(str r.1), (int .i64 r.2.1)]), own := [(oBox bx0 103 [(Value.map (some gm0_0)), i]), (oMapK Tryd.prog 47 gm0_0 (fun x : A8u8 => ag (cA8u8 x)) (fun x : S_api_Blob => ag [(int .i64 x.Kind), (str x.Bytes)]) r.2.2.blobs), (oRow i 42 tyS_api_Item r.2.2.out)] }) := by
 unfold f___walk_reaper__file at h
 refine fn_enter Tryd.func108 rfl Tryd.ntmps108 rfl (fun w0 Z0 => ?_)
 refine aw_sr ?_
 refine al_box (vs := [(str a1.Name), (int .i64 a1.Kind), (int .i64 a1.Mode), (int .i64 a1.Time), (int .i64 a1.Size), v1_5, (str a1.Link)]) rfl (cv_rfl rfl) rfl (fun g1 => ?_)
 refine al_as rfl rfl ?_
 refine al_as rfl rfl ?_
 refine al_nt ?_
 refine aw_sr ?_
 refine al_as rfl rfl ?_
 refine al_nt ?_
 obtain ⟨kk3, hkk3, h⟩ := lt_some h
 refine aw_seq_join (ι := (List (A8u8 × S_api_Blob)) × Value × (List S_api_Item) × (List UInt8)) (fun i => (memOf w0 Z0 [(oBox bx0 103 [(Value.map (some gm0_0)), v0_1]), (oMapK Tryd.prog 47 gm0_0 (fun x : A8u8 => ag (cA8u8 x)) (fun x : S_api_Blob => ag [(int .i64 x.Kind), (str x.Bytes)]) a0.blobs), (oRow v0_1 42 tyS_api_Item a0.out)] [(oMapK Tryd.prog 47 gm0_0 (fun x : A8u8 => ag (cA8u8 x)) (fun x : S_api_Blob => ag [(int .i64 x.Kind), (str x.Bytes)]) i.1), (oRow i.2.1 42 tyS_api_Item i.2.2.1), (oBox bx0 103 [(Value.map (some gm0_0)), i.2.1]), (oBox g1 168 [(str a1.Name), (int .i64 a1.Kind), (int .i64 a1.Mode), (int .i64 a1.Time), (int .i64 a1.Size), v1_5, (str a1.Link)])] [(fDat (tyList tyA8u8) [v1_5] a1.Parts)])) (fun i => (tab [(0, (ptr bx0 0)), (3, (ptr g1 0)), (6, (str i.2.2.2))])) (fun i => kk3 i.1 i.2.2.1 i.2.2.2 = some r) ?_ ?_
 ·rintro ⟨j2xm0_0, j2v0_1, j2x0_1, j2s6⟩ h
  have h : kk3 j2xm0_0 j2x0_1 j2s6 = some r := h
  rw [hkk3] at h
  dsimp only at h
  clear hkk3
  refine aw_show (m := (memOf w0 Z0 [(oBox bx0 103 [(Value.map (some gm0_0)), v0_1]), (oMapK Tryd.prog 47 gm0_0 (fun x : A8u8 => ag (cA8u8 x)) (fun x : S_api_Blob => ag [(int .i64 x.Kind), (str x.Bytes)]) a0.blobs), (oRow v0_1 42 tyS_api_Item a0.out)] [(oMapK Tryd.prog 47 gm0_0 (fun x : A8u8 => ag (cA8u8 x)) (fun x : S_api_Blob => ag [(int .i64 x.Kind), (str x.Bytes)]) j2xm0_0), (oRow j2v0_1 42 tyS_api_Item j2x0_1), (oBox bx0 103 [(Value.map (some gm0_0)), j2v0_1]), (oBox g1 168 [(str a1.Name), (int .i64 a1.Kind), (int .i64 a1.Mode), (int .i64 a1.Time), (int .i64 a1.Size), v1_5, (str a1.Link)])] [(fDat (tyList tyA8u8) [v1_5] a1.Parts)])) (S := (tab [(0, (ptr bx0 0)), (3, (ptr g1 0)), (6, (str j2s6))])) ?_
  refine aw_seq ?_
  refine aw_sr ?_
  refine al_mv rfl rfl ?_
  refine al_val (ov_strLen Tryd.underlying9 rfl rfl) ?_
  refine al_val (ov_fieldA (p := 4) rfl Tryd.underlying168 rfl sz3 rfl rfl rfl) ?_
  refine al_val (ov_load (i := 3) (v := (int .i64 a1.Size)) rfl rfl Tryd.underlying3 sz3 rfl rfl rfl rfl) ?_
  refine al_in rfl rfl rfl rfl ?_
  refine al_nt ?_
  refine aw_cond rfl (fun hb4 => ?_) (fun hb4 => ?_)
  ·replace h := bif_t hb4 h
   refine aw_sr ?_
   refine al_as rfl rfl ?_
   refine al_as rfl rfl ?_
   refine al_nt ?_
   refine aw_ret ?_
   refine aq_then_ret ?_
   obtain rfl := Option.some.inj h
   exact fn_ret j2v0_1 [2, 0, 1] [] rfl rfl rfl rfl (res2 rfl rfl rfl) rfl rfl rfl (by decide)
  ·replace h := bif_f hb4 h
   refine aw_skip ?_
   refine aq_tr ?_
   refine al_mv rfl rfl ?_
   refine al_as rfl rfl ?_
   refine al_as rfl rfl ?_
   refine al_nt ?_
   refine aw_ret ?_
   obtain rfl := Option.some.inj h
   exact fn_ret j2v0_1 [2, 0, 1] [] rfl rfl rfl rfl (res2 rfl rfl rfl) rfl rfl rfl (by decide)
 ·clear hkk3
  refine aw_sr ?_
  refine al_val (ov_fieldA (p := 5) rfl Tryd.underlying168 rfl sz27 rfl rfl rfl) ?_
  refine al_val (ov_load (i := 0) (v := v1_5) rfl rfl Tryd.underlying27 sz27 rfl rfl rfl rfl) ?_
  refine al_val (ov_lenD 0 rfl rfl Tryd.underlying27 rfl) ?_
  refine al_mv rfl rfl ?_
  refine al_nt ?_
  refine aw_block ?_
  refine aw_state (aw_loop (ι := (List (A8u8 × S_api_Blob)) × Value × (List S_api_Item) × (List UInt8) × Int) (fun i => (memOf w0 Z0 [(oBox bx0 103 [(Value.map (some gm0_0)), v0_1]), (oMapK Tryd.prog 47 gm0_0 (fun x : A8u8 => ag (cA8u8 x)) (fun x : S_api_Blob => ag [(int .i64 x.Kind), (str x.Bytes)]) a0.blobs), (oRow v0_1 42 tyS_api_Item a0.out)] [(oMapK Tryd.prog 47 gm0_0 (fun x : A8u8 => ag (cA8u8 x)) (fun x : S_api_Blob => ag [(int .i64 x.Kind), (str x.Bytes)]) i.1), (oRow i.2.1 42 tyS_api_Item i.2.2.1), (oBox bx0 103 [(Value.map (some gm0_0)), i.2.1]), (oBox g1 168 [(str a1.Name), (int .i64 a1.Kind), (int .i64 a1.Mode), (int .i64 a1.Time), (int .i64 a1.Size), v1_5, (str a1.Link)])] [(fDat (tyList tyA8u8) [v1_5] a1.Parts)])) (fun i => (tab [(0, (ptr bx0 0)), (3, (ptr g1 0)), (6, (str i.2.2.2.1)), (12, v1_5), (13, (int .i64 (a1.Parts.length : Int))), (14, (int .i64 i.2.2.2.2))])) (fun q i => f___walk_reaper__file_L7 a1 kk3 fu q i.1 i.2.2.1 i.2.2.2.1 i.2.2.2.2 = some r) ?_ fu (a0.blobs, v0_1, a0.out, ([] : List UInt8), (0 : Int)) h) (fun w a hm hs => norm hm hs [2, 3, 1, 0] [0] [(0, (ptr bx0 0)), (3, (ptr g1 0)), (6, (str ([] : List UInt8))), (12, v1_5), (13, (int .i64 (a1.Parts.length : Int))), (14, (int .i64 (0 : Int)))] (by decide) ⟨rfl, rfl, rfl, rfl, rfl, rfl, trivial⟩)
  clear h
  rintro k6 ⟨l5xm0_0, l5v0_1, l5x0_1, l5s6, l5i14⟩ h
  have h : f___walk_reaper__file_L7 a1 kk3 fu k6 l5xm0_0 l5x0_1 l5s6 l5i14 = some r := h
  obtain _ | k6 := k6
  · rw [f___walk_reaper__file_L7] at h; cases h
  rw [f___walk_reaper__file_L7] at h
  refine aw_show (m := (memOf w0 Z0 [(oBox bx0 103 [(Value.map (some gm0_0)), v0_1]), (oMapK Tryd.prog 47 gm0_0 (fun x : A8u8 => ag (cA8u8 x)) (fun x : S_api_Blob => ag [(int .i64 x.Kind), (str x.Bytes)]) a0.blobs), (oRow v0_1 42 tyS_api_Item a0.out)] [(oMapK Tryd.prog 47 gm0_0 (fun x : A8u8 => ag (cA8u8 x)) (fun x : S_api_Blob => ag [(int .i64 x.Kind), (str x.Bytes)]) l5xm0_0), (oRow l5v0_1 42 tyS_api_Item l5x0_1), (oBox bx0 103 [(Value.map (some gm0_0)), l5v0_1]), (oBox g1 168 [(str a1.Name), (int .i64 a1.Kind), (int .i64 a1.Mode), (int .i64 a1.Time), (int .i64 a1.Size), v1_5, (str a1.Link)])] [(fDat (tyList tyA8u8) [v1_5] a1.Parts)])) (S := (tab [(0, (ptr bx0 0)), (3, (ptr g1 0)), (6, (str l5s6)), (12, v1_5), (13, (int .i64 (a1.Parts.length : Int))), (14, (int .i64 l5i14))])) ?_
  refine aw_sr ?_
  refine al_in rfl rfl rfl rfl ?_
  refine al_nt ?_
  refine aw_seq ?_
  refine aw_cond rfl (fun hb8 => ?_) (fun hb8 => ?_)
  ·replace h := bif_t hb8 h
   refine aw_skip ?_
   refine aq_then ?_
   refine aw_seq ?_
   refine aw_block ?_
   refine aw_sr ?_
   obtain ⟨u9, hu10, h⟩ := opt_some h
   refine al_idxD 0 hu10 rfl rfl rfl Tryd.underlying27 sz47 rfl (fun p11 => ?_)
   refine al_val (ov_loadP (ds := (cA8u8 u9)) 0 rfl encA8u8 rfl Tryd.underlying47 sz47 rfl rfl rfl) ?_
   refine al_alloc (zs := (cA8u8 (A8u8.mk (0 : UInt8) (0 : UInt8) (0 : UInt8) (0 : UInt8) (0 : UInt8) (0 : UInt8) (0 : UInt8) (0 : UInt8)))) (zeroOf_to to47) rfl rfl (fun g12 => ?_)
   refine al_store (i := 0) (vs := (cA8u8 u9)) (cs' := (cA8u8 u9)) rfl rfl rfl sz47 (cv_rfl rfl) rfl (co_all (oneA8u8 u9)) (Nat.le_of_ble_eq_true rfl) rfl rfl ?_
   refine al_nt ?_
   refine aw_sr ?_
   refine al_mv rfl rfl ?_
   refine al_val (ov_load (i := 0) (v := (ag (cA8u8 u9))) rfl rfl Tryd.underlying47 sz47 rfl rfl rfl rfl) ?_
   obtain ⟨r14, hc13, h⟩ := opt_some h
   refine al_call (vs := [(ptr bx0 0), (ag (cA8u8 u9)), (int .i64 (1 : Int))]) (f___walk_reaper__find_ok fu bx0 gm0_0 l5v0_1 (D_walk_reaper.mk l5xm0_0 l5x0_1) u9 (1 : Int) hc13) [] [3, 1, 2] [0, 4] pre_nil rfl (by simp) (by decide) (.inl rfl) rfl Tryd.func106 rfl rfl rfl (fun v15 => ?_)
   refine al_mv rfl rfl ?_
   refine al_ex rfl rfl rfl ?_
   refine al_ex rfl rfl rfl ?_
   refine al_as rfl rfl ?_
   refine al_as rfl rfl ?_
   refine al_nt ?_
   refine aw_seq ?_
   refine aw_sr ?_
   refine al_mv rfl rfl ?_
   refine al_in rfl rfl rfl rfl ?_
   refine al_nt ?_
   refine aw_cond rfl (fun hb16 => ?_) (fun hb16 => ?_)
   ·replace h := bif_t hb16 h
    refine aw_sr ?_
    refine al_mv rfl rfl ?_
    refine al_as rfl rfl ?_
    refine al_as rfl rfl ?_
    refine al_nt ?_
    refine aw_ret ?_
    refine aq_then_ret ?_
    refine aq_block_ret ?_
    refine aq_then_ret ?_
    refine aq_then_ret ?_
    refine aq_block_ret ?_
    refine aq_then_ret ?_
    obtain rfl := Option.some.inj h
    exact fn_ret v15 [0, 1, 2] [] rfl rfl rfl rfl (res2 rfl rfl rfl) rfl rfl rfl (by decide)
   ·replace h := bif_f hb16 h
    refine aw_skip ?_
    refine aq_tr ?_
    refine al_mv rfl rfl ?_
    refine al_mv rfl rfl ?_
    obtain ⟨hc17, h⟩ := req_some h
    refine al_val (ov_strAdd hc17 rfl rfl rfl) ?_
    refine al_as rfl rfl ?_
    refine al_nt ?_
    refine aw_sr ?_
    refine al_mv rfl rfl ?_
    refine al_val (ov_strLen Tryd.underlying9 rfl rfl) ?_
    refine al_val (ov_fieldA (p := 4) rfl Tryd.underlying168 rfl sz3 rfl rfl rfl) ?_
    refine al_val (ov_load (i := 4) (v := (int .i64 a1.Size)) rfl rfl Tryd.underlying3 sz3 rfl rfl rfl rfl) ?_
    refine al_in rfl rfl rfl rfl ?_
    refine al_nt ?_
    refine aw_cond rfl (fun hb18 => ?_) (fun hb18 => ?_)
    ·replace h := bif_t hb18 h
     refine aw_sr ?_
     refine al_as rfl rfl ?_
     refine al_as rfl rfl ?_
     refine al_nt ?_
     refine aw_ret ?_
     refine aq_block_ret ?_
     refine aq_then_ret ?_
     refine aq_then_ret ?_
     refine aq_block_ret ?_
     refine aq_then_ret ?_
     obtain rfl := Option.some.inj h
     exact fn_ret v15 [0, 1, 2] [] rfl rfl rfl rfl (res2 rfl rfl rfl) rfl rfl rfl (by decide)
    ·replace h := bif_f hb18 h
     refine aw_skip ?_
     refine aq_block ?_
     refine aq_then ?_
     refine aw_region ?_
     refine al_in rfl rfl rfl rfl ?_
     refine al_mv rfl rfl ?_
     refine al_nil ?_
     exact aq_again k6 (r14.2.2.blobs, v15, r14.2.2.out, (l5s6 ++ r14.1), (IntKind.i64.wrap (l5i14 + (1 : Int)))) (Nat.lt_succ_self _) h (fun w a hm hs => norm hm hs [1, 2, 0, 4] [1] [(0, (ptr bx0 0)), (3, (ptr g1 0)), (6, (str (l5s6 ++ r14.1))), (12, v1_5), (13, (int .i64 (a1.Parts.length : Int))), (14, (int .i64 (IntKind.i64.wrap (l5i14 + (1 : Int)))))] (by decide) ⟨rfl, rfl, rfl, rfl, rfl, rfl, trivial⟩)
  ·replace h := bif_f hb8 h
   refine aw_exit ?_
   refine aq_then_exit ?_
   refine aq_then_exit ?_
   refine aq_block_exit ?_
   exact aq_join (l5xm0_0, l5v0_1, l5x0_1, l5s6) h (fun w a hm hs => norm hm hs [0, 1, 2, 3] [0] [(0, (ptr bx0 0)), (3, (ptr g1 0)), (6, (str l5s6))] (by decide) ⟨rfl, rfl, rfl, trivial⟩)
def f___walk_reaper__directory_L14 (self : D_walk_reaper → A8u8 → (List UInt8) → Int → Option (Int × D_walk_reaper)) (a2 : (List UInt8)) (a3 : Int) (r7 : ((List S_api_Node) × Int)) (kk11 : ((List (A8u8 × S_api_Blob)) → (List S_api_Item) → Option (Int × D_walk_reaper))) (fu : Nat) : Nat → (List (A8u8 × S_api_Blob)) → (List S_api_Item) → Int → Option (Int × D_walk_reaper)
  | 0, _, _, _ => none
  | k13 + 1, l12xm0_0, l12x0_1, l12i35 => (bif (decide (l12i35 < (r7.1.length : Int))) then (lt (fun (j16xm0_0 : (List (A8u8 × S_api_Blob))) (j16x0_1 : (List S_api_Item)) => (f___walk_reaper__directory_L14 (self) a2 a3 r7 kk11 fu k13 j16xm0_0 j16x0_1 (IntKind.i64.wrap (l12i35 + (1 : Int))))) fun (kk17 : (List (A8u8 × S_api_Blob)) → (List S_api_Item) → Option (Int × D_walk_reaper)) => (opt (at? r7.1 l12i35) fun (u18 : S_api_Node) => (bif (a3 == (8 : Int)) then (some ((14 : Int), (D_walk_reaper.mk l12xm0_0 l12x0_1))) else (bif (decide ((l12x0_1.length : Int) ≥ (100 : Int))) then (some ((2 : Int), (D_walk_reaper.mk l12xm0_0 l12x0_1))) else (req (a2.length + ([47] : List UInt8).length ≤ 9223372036854775807) (req ((a2 ++ ([47] : List UInt8)).length + u18.Name.length ≤ 9223372036854775807) (lt (fun (j30xm0_0 : (List (A8u8 × S_api_Blob))) (j30x0_1 : (List S_api_Item)) (j30s14_4 : (List UInt8)) => (req (((j30x0_1.length + ([(S_api_Item.mk ((a2 ++ ([47] : List UInt8)) ++ u18.Name) u18.Kind u18.Mode u18.Time j30s14_4)]).length) * 56 : Nat) ≤ 140737488355328 ∧ j30x0_1.length + ([(S_api_Item.mk ((a2 ++ ([47] : List UInt8)) ++ u18.Name) u18.Kind u18.Mode u18.Time j30s14_4)]).length ≤ 9223372036854775807) (bif (u18.Kind == (2 : Int)) then (opt (at? u18.Parts (0 : Int)) fun (u36 : A8u8) => (opt (self (D_walk_reaper.mk j30xm0_0 (j30x0_1 ++ ([(S_api_Item.mk ((a2 ++ ([47] : List UInt8)) ++ u18.Name) u18.Kind u18.Mode u18.Time j30s14_4)]))) u36 ((a2 ++ ([47] : List UInt8)) ++ u18.Name) (IntKind.i64.wrap (a3 + (1 : Int)))) fun (r40 : (Int × D_walk_reaper)) => (bif (r40.1 != (0 : Int)) then (some (r40.1, r40.2)) else (kk17 r40.2.blobs r40.2.out)))) else (kk17 j30xm0_0 (j30x0_1 ++ ([(S_api_Item.mk ((a2 ++ ([47] : List UInt8)) ++ u18.Name) u18.Kind u18.Mode u18.Time j30s14_4)])))))) fun (kk31 : (List (A8u8 × S_api_Blob)) → (List S_api_Item) → (List UInt8) → Option (Int × D_walk_reaper)) => (bif (u18.Kind == (1 : Int)) then (opt (f___walk_reaper__file fu (D_walk_reaper.mk l12xm0_0 l12x0_1) u18) fun (r45 : ((List UInt8) × Int × D_walk_reaper)) => (bif (r45.2.1 != (0 : Int)) then (some (r45.2.1, r45.2.2)) else (kk31 r45.2.2.blobs r45.2.2.out r45.1))) else (kk31 l12xm0_0 l12x0_1 u18.Link))))))))) else (kk11 l12xm0_0 l12x0_1))
def f___walk_reaper__directory : Nat → D_walk_reaper → A8u8 → (List UInt8) → Int → Option (Int × D_walk_reaper)
  | 0, _, _, _, _ => none
  | fu + 1, a0, a1, a2, a3 => (opt (f___walk_reaper__find fu a0 a1 (2 : Int)) fun (r3 : ((List UInt8) × Int × D_walk_reaper)) => (bif (r3.2.1 != (0 : Int)) then (some (r3.2.1, r3.2.2)) else (opt (f_tree_Read fu r3.1) fun (r7 : ((List S_api_Node) × Int)) => (bif (r7.2 != (0 : Int)) then (some (r7.2, r3.2.2)) else (lt (fun (j10xm0_0 : (List (A8u8 × S_api_Blob))) (j10x0_1 : (List S_api_Item)) => (some ((0 : Int), (D_walk_reaper.mk j10xm0_0 j10x0_1)))) fun (kk11 : (List (A8u8 × S_api_Blob)) → (List S_api_Item) → Option (Int × D_walk_reaper)) => (f___walk_reaper__directory_L14 (f___walk_reaper__directory fu) a2 a3 r7 kk11 fu fu r3.2.2.blobs r3.2.2.out (0 : Int)))))))
set_option maxRecDepth 100000 in
set_option maxHeartbeats 2000000 in
theorem f___walk_reaper__directory_ok (fu : Nat) (bx0 : Nat) (gm0_0 : Nat) (v0_1 : Value) (a0 : D_walk_reaper) (a1 : A8u8) (a2 : (List UInt8)) (a3 : Int) {r : (Int × D_walk_reaper)} (h : f___walk_reaper__directory fu a0 a1 a2 a3 = some r) : FnOk Tryd.prog 58 [(ptr bx0 0), (ag (cA8u8 a1)), (str a2), (int .i64 a3)] [uTabs] [(oBox bx0 103 [(Value.map (some gm0_0)), v0_1]), (oMapK Tryd.prog 47 gm0_0 (fun x : A8u8 => ag (cA8u8 x)) (fun x : S_api_Blob => ag [(int .i64 x.Kind), (str x.Bytes)]) a0.blobs), (oRow v0_1 42 tyS_api_Item a0.out)] (fun (i : Value) => { val := (int .i64 r.1), own := [(oBox bx0 103 [(Value.map (some gm0_0)), i]), (oMapK Tryd.prog 47 gm0_0 (fun x : A8u8 => ag (cA8u8 x)) (fun x : S_api_Blob => ag [(int .i64 x.Kind), (str x.Bytes)]) r.2.blobs), (oRow i 42 tyS_api_Item r.2.out)] }) := by
 cases fu with
 | zero => rw [f___walk_reaper__directory] at h; cases h
 | succ fu =>
  rw [f___walk_reaper__directory] at h
  refine fn_enter Tryd.func58 rfl Tryd.ntmps58 rfl (fun w0 Z0 => ?_)
  refine aw_sr ?_
  refine al_box (vs := (cA8u8 a1)) rfl (cv_rfl rfl) rfl (fun g1 => ?_)
  refine al_as rfl rfl ?_
  refine al_nt ?_
  refine aw_sr ?_
  refine al_mv rfl rfl ?_
  refine al_val (ov_load (i := 0) (v := (ag (cA8u8 a1))) rfl rfl Tryd.underlying47 sz47 rfl rfl rfl rfl) ?_
  obtain ⟨r3, hc2, h⟩ := opt_some h
  refine al_call (vs := [(ptr bx0 0), (ag (cA8u8 a1)), (int .i64 (2 : Int))]) (f___walk_reaper__find_ok fu bx0 gm0_0 v0_1 a0 a1 (2 : Int) hc2) [] [1, 2, 3] [0] pre_nil rfl (by simp) (by decide) (.inl rfl) rfl Tryd.func106 rfl rfl rfl (fun v4 => ?_)
  refine al_mv rfl rfl ?_
  refine al_ex rfl rfl rfl ?_
  refine al_ex rfl rfl rfl ?_
  refine al_as rfl rfl ?_
  refine al_as rfl rfl ?_
  refine al_nt ?_
  refine aw_seq ?_
  refine aw_sr ?_
  refine al_mv rfl rfl ?_
  refine al_in rfl rfl rfl rfl ?_
  refine al_nt ?_
  refine aw_cond rfl (fun hb5 => ?_) (fun hb5 => ?_)
  ·replace h := bif_t hb5 h
   refine aw_sr ?_
   refine al_mv rfl rfl ?_
   refine al_as rfl rfl ?_
   refine al_nt ?_
   refine aw_ret ?_
   refine aq_then_ret ?_
   obtain rfl := Option.some.inj h
   exact fn_ret v4 [0, 1, 2] [] rfl rfl rfl rfl (res1 rfl rfl) rfl rfl rfl (by decide)
  ·replace h := bif_f hb5 h
   refine aw_skip ?_
   refine aq_tr ?_
   refine al_mv rfl rfl ?_
   obtain ⟨r7, hc6, h⟩ := opt_some h
   refine al_call (vs := [(str r3.1)]) (f_tree_Read_ok fu r3.1 hc6) [] [] [0, 1, 2, 3] (pre_fz 0 rfl pre_nil) rfl (by simp) (by decide) (.inl rfl) rfl Tryd.func107 rfl rfl rfl (fun v8 => ?_)
   refine al_mv rfl rfl ?_
   refine al_ex rfl rfl rfl ?_
   refine al_ex rfl rfl rfl ?_
   refine al_as rfl rfl ?_
   refine al_as rfl rfl ?_
   refine al_nt ?_
   refine aw_seq ?_
   refine aw_sr ?_
   refine al_mv rfl rfl ?_
   refine al_in rfl rfl rfl rfl ?_
   refine al_nt ?_
   refine aw_cond rfl (fun hb9 => ?_) (fun hb9 => ?_)
   ·replace h := bif_t hb9 h
    refine aw_sr ?_
    refine al_mv rfl rfl ?_
    refine al_as rfl rfl ?_
    refine al_nt ?_
    refine aw_ret ?_
    refine aq_then_ret ?_
    obtain rfl := Option.some.inj h
    exact fn_ret v4 [1, 2, 3] [] rfl rfl rfl rfl (res1 rfl rfl) rfl rfl rfl (by decide)
   ·replace h := bif_f hb9 h
    refine aw_skip ?_
    refine aq_then ?_
    obtain ⟨kk11, hkk11, h⟩ := lt_some h
    refine aw_seq_join (ι := (List (A8u8 × S_api_Blob)) × Value × (List S_api_Item)) (fun i => (memOf w0 Z0 [(oBox bx0 103 [(Value.map (some gm0_0)), v0_1]), (oMapK Tryd.prog 47 gm0_0 (fun x : A8u8 => ag (cA8u8 x)) (fun x : S_api_Blob => ag [(int .i64 x.Kind), (str x.Bytes)]) a0.blobs), (oRow v0_1 42 tyS_api_Item a0.out)] [(oMapK Tryd.prog 47 gm0_0 (fun x : A8u8 => ag (cA8u8 x)) (fun x : S_api_Blob => ag [(int .i64 x.Kind), (str x.Bytes)]) i.1), (oRow i.2.1 42 tyS_api_Item i.2.2), (oBox bx0 103 [(Value.map (some gm0_0)), i.2.1])] [uTabs])) (fun i => (tab [(0, (ptr bx0 0))])) (fun i => kk11 i.1 i.2.2 = some r) ?_ ?_
    ·rintro ⟨j10xm0_0, j10v0_1, j10x0_1⟩ h
     have h : kk11 j10xm0_0 j10x0_1 = some r := h
     rw [hkk11] at h
     dsimp only at h
     clear hkk11
     refine aw_show (m := (memOf w0 Z0 [(oBox bx0 103 [(Value.map (some gm0_0)), v0_1]), (oMapK Tryd.prog 47 gm0_0 (fun x : A8u8 => ag (cA8u8 x)) (fun x : S_api_Blob => ag [(int .i64 x.Kind), (str x.Bytes)]) a0.blobs), (oRow v0_1 42 tyS_api_Item a0.out)] [(oMapK Tryd.prog 47 gm0_0 (fun x : A8u8 => ag (cA8u8 x)) (fun x : S_api_Blob => ag [(int .i64 x.Kind), (str x.Bytes)]) j10xm0_0), (oRow j10v0_1 42 tyS_api_Item j10x0_1), (oBox bx0 103 [(Value.map (some gm0_0)), j10v0_1])] [uTabs])) (S := (tab [(0, (ptr bx0 0))])) ?_
     refine aw_sr ?_
     refine al_as rfl rfl ?_
     refine al_nt ?_
     refine aw_ret ?_
     obtain rfl := Option.some.inj h
     exact fn_ret j10v0_1 [2, 0, 1] [] rfl rfl rfl rfl (res1 rfl rfl) rfl rfl rfl (by decide)
    ·clear hkk11
     refine aw_sr ?_
     refine al_mv rfl rfl ?_
     refine al_val (ov_lenR 0 rfl rfl Tryd.underlying164 rfl) ?_
     refine al_mv rfl rfl ?_
     refine al_nt ?_
     refine aw_block ?_
     refine aw_state (aw_loop (ι := (List (A8u8 × S_api_Blob)) × Value × (List S_api_Item) × Int) (fun i => (memOf w0 Z0 [(oBox bx0 103 [(Value.map (some gm0_0)), v0_1]), (oMapK Tryd.prog 47 gm0_0 (fun x : A8u8 => ag (cA8u8 x)) (fun x : S_api_Blob => ag [(int .i64 x.Kind), (str x.Bytes)]) a0.blobs), (oRow v0_1 42 tyS_api_Item a0.out)] [(oMapK Tryd.prog 47 gm0_0 (fun x : A8u8 => ag (cA8u8 x)) (fun x : S_api_Blob => ag [(int .i64 x.Kind), (str x.Bytes)]) i.1), (oRow i.2.1 42 tyS_api_Item i.2.2.1), (oBox bx0 103 [(Value.map (some gm0_0)), i.2.1]), (oRow v8 168 tyS_api_Node r7.1)] [uTabs])) (fun i => (tab [(0, (ptr bx0 0)), (2, (str a2)), (3, (int .i64 a3)), (33, v8), (34, (int .i64 (r7.1.length : Int))), (35, (int .i64 i.2.2.2))])) (fun q i => f___walk_reaper__directory_L14 (f___walk_reaper__directory fu) a2 a3 r7 kk11 fu q i.1 i.2.2.1 i.2.2.2 = some r) ?_ fu (r3.2.2.blobs, v4, r3.2.2.out, (0 : Int)) h) (fun w a hm hs => norm hm hs [2, 3, 1, 0] [0] [(0, (ptr bx0 0)), (2, (str a2)), (3, (int .i64 a3)), (33, v8), (34, (int .i64 (r7.1.length : Int))), (35, (int .i64 (0 : Int)))] (by decide) ⟨rfl, rfl, rfl, rfl, rfl, rfl, trivial⟩)
     clear h
     rintro k13 ⟨l12xm0_0, l12v0_1, l12x0_1, l12i35⟩ h
     have h : f___walk_reaper__directory_L14 (f___walk_reaper__directory fu) a2 a3 r7 kk11 fu k13 l12xm0_0 l12x0_1 l12i35 = some r := h
     obtain _ | k13 := k13
     · rw [f___walk_reaper__directory_L14] at h; cases h
     rw [f___walk_reaper__directory_L14] at h
     refine aw_show (m := (memOf w0 Z0 [(oBox bx0 103 [(Value.map (some gm0_0)), v0_1]), (oMapK Tryd.prog 47 gm0_0 (fun x : A8u8 => ag (cA8u8 x)) (fun x : S_api_Blob => ag [(int .i64 x.Kind), (str x.Bytes)]) a0.blobs), (oRow v0_1 42 tyS_api_Item a0.out)] [(oMapK Tryd.prog 47 gm0_0 (fun x : A8u8 => ag (cA8u8 x)) (fun x : S_api_Blob => ag [(int .i64 x.Kind), (str x.Bytes)]) l12xm0_0), (oRow l12v0_1 42 tyS_api_Item l12x0_1), (oBox bx0 103 [(Value.map (some gm0_0)), l12v0_1]), (oRow v8 168 tyS_api_Node r7.1)] [uTabs])) (S := (tab [(0, (ptr bx0 0)), (2, (str a2)), (3, (int .i64 a3)), (33, v8), (34, (int .i64 (r7.1.length : Int))), (35, (int .i64 l12i35))])) ?_
     refine aw_sr ?_
     refine al_in rfl rfl rfl rfl ?_
     refine al_nt ?_
     refine aw_seq ?_
     refine aw_cond rfl (fun hb15 => ?_) (fun hb15 => ?_)
     ·replace h := bif_t hb15 h
      refine aw_skip ?_
      refine aq_then ?_
      obtain ⟨kk17, hkk17, h⟩ := lt_some h
      refine aw_seq_join (ι := (List (A8u8 × S_api_Blob)) × Value × (List S_api_Item)) (fun i => (memOf w0 Z0 [(oBox bx0 103 [(Value.map (some gm0_0)), v0_1]), (oMapK Tryd.prog 47 gm0_0 (fun x : A8u8 => ag (cA8u8 x)) (fun x : S_api_Blob => ag [(int .i64 x.Kind), (str x.Bytes)]) a0.blobs), (oRow v0_1 42 tyS_api_Item a0.out)] [(oMapK Tryd.prog 47 gm0_0 (fun x : A8u8 => ag (cA8u8 x)) (fun x : S_api_Blob => ag [(int .i64 x.Kind), (str x.Bytes)]) i.1), (oRow i.2.1 42 tyS_api_Item i.2.2), (oBox bx0 103 [(Value.map (some gm0_0)), i.2.1]), (oRow v8 168 tyS_api_Node r7.1)] [uTabs])) (fun i => (tab [(0, (ptr bx0 0)), (2, (str a2)), (3, (int .i64 a3)), (33, v8), (34, (int .i64 (r7.1.length : Int))), (35, (int .i64 l12i35))])) (fun i => kk17 i.1 i.2.2 = some r) ?_ ?_
      ·rintro ⟨j16xm0_0, j16v0_1, j16x0_1⟩ h
       have h : kk17 j16xm0_0 j16x0_1 = some r := h
       rw [hkk17] at h
       dsimp only at h
       clear hkk17
       refine aw_show (m := (memOf w0 Z0 [(oBox bx0 103 [(Value.map (some gm0_0)), v0_1]), (oMapK Tryd.prog 47 gm0_0 (fun x : A8u8 => ag (cA8u8 x)) (fun x : S_api_Blob => ag [(int .i64 x.Kind), (str x.Bytes)]) a0.blobs), (oRow v0_1 42 tyS_api_Item a0.out)] [(oMapK Tryd.prog 47 gm0_0 (fun x : A8u8 => ag (cA8u8 x)) (fun x : S_api_Blob => ag [(int .i64 x.Kind), (str x.Bytes)]) j16xm0_0), (oRow j16v0_1 42 tyS_api_Item j16x0_1), (oBox bx0 103 [(Value.map (some gm0_0)), j16v0_1]), (oRow v8 168 tyS_api_Node r7.1)] [uTabs])) (S := (tab [(0, (ptr bx0 0)), (2, (str a2)), (3, (int .i64 a3)), (33, v8), (34, (int .i64 (r7.1.length : Int))), (35, (int .i64 l12i35))])) ?_
       refine aw_region ?_
       refine al_in rfl rfl rfl rfl ?_
       refine al_mv rfl rfl ?_
       refine al_nil ?_
       exact aq_again k13 (j16xm0_0, j16v0_1, j16x0_1, (IntKind.i64.wrap (l12i35 + (1 : Int)))) (Nat.lt_succ_self _) h (fun w a hm hs => norm hm hs [0, 1, 2, 3] [0] [(0, (ptr bx0 0)), (2, (str a2)), (3, (int .i64 a3)), (33, v8), (34, (int .i64 (r7.1.length : Int))), (35, (int .i64 (IntKind.i64.wrap (l12i35 + (1 : Int)))))] (by decide) ⟨rfl, rfl, rfl, rfl, rfl, rfl, trivial⟩)
      ·clear hkk17
       refine aw_block ?_
       refine aw_sr ?_
       obtain ⟨u18, hu19, h⟩ := opt_some h
       refine al_idxR 3 (at_some hu19).1 (at_some hu19).2.1 rfl rfl rfl Tryd.underlying164 sz168 rfl (fun p20 hp21 => ?_)
       refine al_loadRA 3 rfl hp21 (at_some hu19).2.2 rfl Tryd.underlying168 sz168 rfl rfl (fun cs23 => ?_)
       refine al_use (ι := Value) 0 rfl (fun j => cs23 = [(str u18.Name), (int .i64 u18.Kind), (int .i64 u18.Mode), (int .i64 u18.Time), (int .i64 u18.Size), j, (str u18.Link)]) (fun j => [(fDat (tyList tyA8u8) [j] u18.Parts)]) encnS_api_Node (fun s22 hq => ?_)
       subst hq
       refine al_alloc (zs := [(str ([] : List UInt8)), (int .i64 (0 : Int)), (int .i64 (0 : Int)), (int .i64 (0 : Int)), (int .i64 (0 : Int)), (Value.slice none 0 0), (str ([] : List UInt8))]) (zeroOf_to to168) rfl rfl (fun g24 => ?_)
       refine al_store (i := 0) (vs := [(str u18.Name), (int .i64 u18.Kind), (int .i64 u18.Mode), (int .i64 u18.Time), (int .i64 u18.Size), s22, (str u18.Link)]) (cs' := [(str u18.Name), (int .i64 u18.Kind), (int .i64 u18.Mode), (int .i64 u18.Time), (int .i64 u18.Size), s22, (str u18.Link)]) rfl rfl rfl sz168 (cv_rfl rfl) rfl (co_val rfl (co_val rfl (co_val rfl (co_val rfl (co_val rfl (co_fz 0 rfl (co_val rfl co_nil))))))) (Nat.le_of_ble_eq_true rfl) rfl rfl ?_
       refine al_nt ?_
       refine aw_seq ?_
       refine aw_block ?_
       refine aw_sr ?_
       refine al_mv rfl rfl ?_
       refine al_in rfl rfl rfl rfl ?_
       refine al_as rfl rfl ?_
       refine al_nt ?_
       refine aw_cond rfl (fun hb25 => ?_) (fun hb25 => ?_)
       ·replace h := bif_t hb25 h
        refine aw_sr ?_
        refine al_as rfl rfl ?_
        refine al_nt ?_
        refine aw_ret ?_
        refine aq_block_ret ?_
        refine aq_then_ret ?_
        refine aq_block_ret ?_
        refine aq_then_ret ?_
        refine aq_then_ret ?_
        refine aq_block_ret ?_
        refine aq_then_ret ?_
        obtain rfl := Option.some.inj h
        exact fn_ret l12v0_1 [3, 1, 2] [] rfl rfl rfl rfl (res1 rfl rfl) rfl rfl rfl (by decide)
       ·replace h := bif_f hb25 h
        refine aw_sr ?_
        refine al_mv rfl rfl ?_
        refine al_val (ov_nilCheck rfl rfl) ?_
        refine al_val (ov_fieldA (p := 1) rfl Tryd.underlying103 rfl sz36 rfl rfl rfl) ?_
        refine al_val (ov_load (i := 3) (v := l12v0_1) rfl rfl Tryd.underlying36 sz36 rfl rfl rfl rfl) ?_
        refine al_val (ov_lenR 2 rfl rfl Tryd.underlying36 rfl) ?_
        refine al_in rfl rfl rfl rfl ?_
        refine al_as rfl rfl ?_
        refine al_nt ?_
        refine aw_cond rfl (fun hb26 => ?_) (fun hb26 => ?_)
        ·replace h := bif_t hb26 h
         refine aw_sr ?_
         refine al_as rfl rfl ?_
         refine al_nt ?_
         refine aw_ret ?_
         refine aq_block_ret ?_
         refine aq_then_ret ?_
         refine aq_block_ret ?_
         refine aq_then_ret ?_
         refine aq_then_ret ?_
         refine aq_block_ret ?_
         refine aq_then_ret ?_
         obtain rfl := Option.some.inj h
         exact fn_ret l12v0_1 [3, 1, 2] [] rfl rfl rfl rfl (res1 rfl rfl) rfl rfl rfl (by decide)
        ·replace h := bif_f hb26 h
         refine aw_skip ?_
         refine aq_block ?_
         refine aq_tr ?_
         refine al_mv rfl rfl ?_
         obtain ⟨hc27, h⟩ := req_some h
         refine al_val (ov_strAdd hc27 rfl rfl rfl) ?_
         refine al_val (ov_fieldA (p := 0) rfl Tryd.underlying168 rfl sz9 rfl rfl rfl) ?_
         refine al_val (ov_load (i := 0) (v := (str u18.Name)) rfl rfl Tryd.underlying9 sz9 rfl rfl rfl rfl) ?_
         obtain ⟨hc28, h⟩ := req_some h
         refine al_val (ov_strAdd hc28 rfl rfl rfl) ?_
         refine al_val (ov_fieldA (p := 1) rfl Tryd.underlying168 rfl sz3 rfl rfl rfl) ?_
         refine al_val (ov_load (i := 0) (v := (int .i64 u18.Kind)) rfl rfl Tryd.underlying3 sz3 rfl rfl rfl rfl) ?_
         refine al_val (ov_fieldA (p := 2) rfl Tryd.underlying168 rfl sz3 rfl rfl rfl) ?_
         refine al_val (ov_load (i := 0) (v := (int .i64 u18.Mode)) rfl rfl Tryd.underlying3 sz3 rfl rfl rfl rfl) ?_
         refine al_val (ov_fieldA (p := 3) rfl Tryd.underlying168 rfl sz3 rfl rfl rfl) ?_
         refine al_val (ov_load (i := 0) (v := (int .i64 u18.Time)) rfl rfl Tryd.underlying3 sz3 rfl rfl rfl rfl) ?_
         refine al_val (ov_fieldA (p := 6) rfl Tryd.underlying168 rfl sz9 rfl rfl rfl) ?_
         refine al_val (ov_load (i := 0) (v := (str u18.Link)) rfl rfl Tryd.underlying9 sz9 rfl rfl rfl rfl) ?_
         refine al_val (ov_build (cells := ([(str ((a2 ++ ([47] : List UInt8)) ++ u18.Name)), (int .i64 u18.Kind), (int .i64 u18.Mode), (int .i64 u18.Time), (str u18.Link)]).toArray) (cs := [(str ((a2 ++ ([47] : List UInt8)) ++ u18.Name)), (int .i64 u18.Kind), (int .i64 u18.Mode), (int .i64 u18.Time), (str u18.Link)]) rfl (fun w a hm hs => by simp only [List.map_toArray, List.map_cons, List.map_nil, List.toList_toArray, hs.ev (x := .tmp 53) rfl, hs.ev (x := .tmp 55) rfl, hs.ev (x := .tmp 57) rfl, hs.ev (x := .tmp 59) rfl, hs.ev (x := .tmp 61) rfl]; kernel_rfl)) ?_
         refine al_alloc (zs := [(str ([] : List UInt8)), (int .i64 (0 : Int)), (int .i64 (0 : Int)), (int .i64 (0 : Int)), (str ([] : List UInt8))]) (zeroOf_to to42) rfl rfl (fun g29 => ?_)
         refine al_store (i := 0) (vs := [(str ((a2 ++ ([47] : List UInt8)) ++ u18.Name)), (int .i64 u18.Kind), (int .i64 u18.Mode), (int .i64 u18.Time), (str u18.Link)]) (cs' := [(str ((a2 ++ ([47] : List UInt8)) ++ u18.Name)), (int .i64 u18.Kind), (int .i64 u18.Mode), (int .i64 u18.Time), (str u18.Link)]) rfl rfl rfl sz42 (cv_rfl rfl) rfl (co_val rfl (co_val rfl (co_val rfl (co_val rfl (co_val rfl co_nil))))) (Nat.le_of_ble_eq_true rfl) rfl rfl ?_
         refine al_nt ?_
         obtain ⟨kk31, hkk31, h⟩ := lt_some h
         refine aw_seq_join (ι := (List (A8u8 × S_api_Blob)) × Value × (List S_api_Item) × (List UInt8)) (fun i => (memOf w0 Z0 [(oBox bx0 103 [(Value.map (some gm0_0)), v0_1]), (oMapK Tryd.prog 47 gm0_0 (fun x : A8u8 => ag (cA8u8 x)) (fun x : S_api_Blob => ag [(int .i64 x.Kind), (str x.Bytes)]) a0.blobs), (oRow v0_1 42 tyS_api_Item a0.out)] [(oMapK Tryd.prog 47 gm0_0 (fun x : A8u8 => ag (cA8u8 x)) (fun x : S_api_Blob => ag [(int .i64 x.Kind), (str x.Bytes)]) i.1), (oRow i.2.1 42 tyS_api_Item i.2.2.1), (oBox bx0 103 [(Value.map (some gm0_0)), i.2.1]), (oBox g24 168 [(str u18.Name), (int .i64 u18.Kind), (int .i64 u18.Mode), (int .i64 u18.Time), (int .i64 u18.Size), s22, (str u18.Link)]), (oBox g29 42 [(str ((a2 ++ ([47] : List UInt8)) ++ u18.Name)), (int .i64 u18.Kind), (int .i64 u18.Mode), (int .i64 u18.Time), (str i.2.2.2)]), (oRow v8 168 tyS_api_Node r7.1)] [(fDat (tyList tyA8u8) [s22] u18.Parts), (fDat tyS_api_Node [(str u18.Name), (int .i64 u18.Kind), (int .i64 u18.Mode), (int .i64 u18.Time), (int .i64 u18.Size), s22, (str u18.Link)] u18), uTabs])) (fun i => (tab [(0, (ptr bx0 0)), (2, (str a2)), (3, (int .i64 a3)), (13, (ptr g24 0)), (14, (ptr g29 0)), (33, v8), (34, (int .i64 (r7.1.length : Int))), (35, (int .i64 l12i35))])) (fun i => kk31 i.1 i.2.2.1 i.2.2.2 = some r) ?_ ?_
         ·rintro ⟨j30xm0_0, j30v0_1, j30x0_1, j30s14_4⟩ h
          have h : kk31 j30xm0_0 j30x0_1 j30s14_4 = some r := h
          rw [hkk31] at h
          dsimp only at h
          clear hkk31
          refine aw_show (m := (memOf w0 Z0 [(oBox bx0 103 [(Value.map (some gm0_0)), v0_1]), (oMapK Tryd.prog 47 gm0_0 (fun x : A8u8 => ag (cA8u8 x)) (fun x : S_api_Blob => ag [(int .i64 x.Kind), (str x.Bytes)]) a0.blobs), (oRow v0_1 42 tyS_api_Item a0.out)] [(oMapK Tryd.prog 47 gm0_0 (fun x : A8u8 => ag (cA8u8 x)) (fun x : S_api_Blob => ag [(int .i64 x.Kind), (str x.Bytes)]) j30xm0_0), (oRow j30v0_1 42 tyS_api_Item j30x0_1), (oBox bx0 103 [(Value.map (some gm0_0)), j30v0_1]), (oBox g24 168 [(str u18.Name), (int .i64 u18.Kind), (int .i64 u18.Mode), (int .i64 u18.Time), (int .i64 u18.Size), s22, (str u18.Link)]), (oBox g29 42 [(str ((a2 ++ ([47] : List UInt8)) ++ u18.Name)), (int .i64 u18.Kind), (int .i64 u18.Mode), (int .i64 u18.Time), (str j30s14_4)]), (oRow v8 168 tyS_api_Node r7.1)] [(fDat (tyList tyA8u8) [s22] u18.Parts), (fDat tyS_api_Node [(str u18.Name), (int .i64 u18.Kind), (int .i64 u18.Mode), (int .i64 u18.Time), (int .i64 u18.Size), s22, (str u18.Link)] u18), uTabs])) (S := (tab [(0, (ptr bx0 0)), (2, (str a2)), (3, (int .i64 a3)), (13, (ptr g24 0)), (14, (ptr g29 0)), (33, v8), (34, (int .i64 (r7.1.length : Int))), (35, (int .i64 l12i35))])) ?_
          refine aw_seq ?_
          refine aw_region_open [⟨0, 76, Unit, fun _ => { val := (ptr bx0 0) }⟩, ⟨1, 77, Unit, fun _ => { val := (ptr bx0 0) }⟩, ⟨2, 78, Unit, fun _ => { val := (ptr bx0 0) }⟩, ⟨3, 79, Unit, fun _ => { val := (ptr bx0 1) }⟩, ⟨4, 80, Unit, fun _ => { val := j30v0_1 }⟩, ⟨5, 81, Unit, fun _ => { val := (ag [(str ((a2 ++ ([47] : List UInt8)) ++ u18.Name)), (int .i64 u18.Kind), (int .i64 u18.Mode), (int .i64 u18.Time), (str j30s14_4)]) }⟩, ⟨6, 82, Value, fun (i : Value) => { val := i, own := [(oRow i 42 tyS_api_Item [(S_api_Item.mk ((a2 ++ ([47] : List UInt8)) ++ u18.Name) u18.Kind u18.Mode u18.Time j30s14_4)])] }⟩] (tab [(0, (ptr bx0 0)), (2, (str a2)), (3, (int .i64 a3)), (13, (ptr g24 0)), (14, (ptr g29 0)), (33, v8), (34, (int .i64 (r7.1.length : Int))), (35, (int .i64 l12i35))]) mixed (fun a hs => hs.tab _ (allT_mem ⟨rfl, rfl, rfl, rfl, rfl, rfl, rfl, rfl, trivial⟩)) ?_
          refine ta_show (m := (memOf w0 Z0 [(oBox bx0 103 [(Value.map (some gm0_0)), v0_1]), (oMapK Tryd.prog 47 gm0_0 (fun x : A8u8 => ag (cA8u8 x)) (fun x : S_api_Blob => ag [(int .i64 x.Kind), (str x.Bytes)]) a0.blobs), (oRow v0_1 42 tyS_api_Item a0.out)] [(oMapK Tryd.prog 47 gm0_0 (fun x : A8u8 => ag (cA8u8 x)) (fun x : S_api_Blob => ag [(int .i64 x.Kind), (str x.Bytes)]) j30xm0_0), (oRow j30v0_1 42 tyS_api_Item j30x0_1), (oBox bx0 103 [(Value.map (some gm0_0)), j30v0_1]), (oBox g24 168 [(str u18.Name), (int .i64 u18.Kind), (int .i64 u18.Mode), (int .i64 u18.Time), (int .i64 u18.Size), s22, (str u18.Link)]), (oBox g29 42 [(str ((a2 ++ ([47] : List UInt8)) ++ u18.Name)), (int .i64 u18.Kind), (int .i64 u18.Mode), (int .i64 u18.Time), (str j30s14_4)]), (oRow v8 168 tyS_api_Node r7.1)] [(fDat (tyList tyA8u8) [s22] u18.Parts), (fDat tyS_api_Node [(str u18.Name), (int .i64 u18.Kind), (int .i64 u18.Mode), (int .i64 u18.Time), (int .i64 u18.Size), s22, (str u18.Link)] u18), uTabs])) (S := (tab [(0, (ptr bx0 0)), (2, (str a2)), (3, (int .i64 a3)), (13, (ptr g24 0)), (14, (ptr g29 0)), (33, v8), (34, (int .i64 (r7.1.length : Int))), (35, (int .i64 l12i35))])) ?_
          refine ta_step 7 _ [0, 1, 2, 3, 4, 5, 6] [76, 77, 78, 79, 80, 81, 82] [1, 2, 3, 4, 5, 6] [8, 9] [⟨1, 77, Unit, fun _ => { val := (ptr bx0 0) }⟩, ⟨2, 78, Unit, fun _ => { val := (ptr bx0 0) }⟩, ⟨3, 79, Unit, fun _ => { val := (ptr bx0 1) }⟩, ⟨4, 80, Unit, fun _ => { val := j30v0_1 }⟩, ⟨5, 81, Unit, fun _ => { val := (ag [(str ((a2 ++ ([47] : List UInt8)) ++ u18.Name)), (int .i64 u18.Kind), (int .i64 u18.Mode), (int .i64 u18.Time), (str j30s14_4)]) }⟩, ⟨6, 82, Value, fun (i : Value) => { val := i, own := [(oRow i 42 tyS_api_Item [(S_api_Item.mk ((a2 ++ ([47] : List UInt8)) ++ u18.Name) u18.Kind u18.Mode u18.Time j30s14_4)])] }⟩] [⟨0, 76, Unit, fun _ => { val := (ptr bx0 0) }⟩] rfl rfl rfl (by kernel_rfl) rfl rfl rfl ⟨⟨_, rfl, [], rfl, by
 intro X_ Y_ F_ K_ hK_
 refine al_show (m := Mem.plus (memOf w0 Z0 [(oBox bx0 103 [(Value.map (some gm0_0)), v0_1]), (oMapK Tryd.prog 47 gm0_0 (fun x : A8u8 => ag (cA8u8 x)) (fun x : S_api_Blob => ag [(int .i64 x.Kind), (str x.Bytes)]) a0.blobs), (oRow v0_1 42 tyS_api_Item a0.out)] [(oMapK Tryd.prog 47 gm0_0 (fun x : A8u8 => ag (cA8u8 x)) (fun x : S_api_Blob => ag [(int .i64 x.Kind), (str x.Bytes)]) j30xm0_0), (oRow j30v0_1 42 tyS_api_Item j30x0_1), (oBox bx0 103 [(Value.map (some gm0_0)), j30v0_1]), (oBox g24 168 [(str u18.Name), (int .i64 u18.Kind), (int .i64 u18.Mode), (int .i64 u18.Time), (int .i64 u18.Size), s22, (str u18.Link)]), (oBox g29 42 [(str ((a2 ++ ([47] : List UInt8)) ++ u18.Name)), (int .i64 u18.Kind), (int .i64 u18.Mode), (int .i64 u18.Time), (str j30s14_4)]), (oRow v8 168 tyS_api_Node r7.1)] [(fDat (tyList tyA8u8) [s22] u18.Parts), (fDat tyS_api_Node [(str u18.Name), (int .i64 u18.Kind), (int .i64 u18.Mode), (int .i64 u18.Time), (int .i64 u18.Size), s22, (str u18.Link)] u18), uTabs]) X_ Y_) (S := over (tab [(0, (ptr bx0 0)), (2, (str a2)), (3, (int .i64 a3)), (13, (ptr g24 0)), (14, (ptr g29 0)), (33, v8), (34, (int .i64 (r7.1.length : Int))), (35, (int .i64 l12i35))]) F_) ?_
 refine al_mv rfl rfl ?_
 refine al_nil ?_
 exact fr_fin hK_ ()⟩, ⟨_, rfl, [], rfl, by
 intro X_ Y_ F_ K_ hK_
 refine al_show (m := Mem.plus (memOf w0 Z0 [(oBox bx0 103 [(Value.map (some gm0_0)), v0_1]), (oMapK Tryd.prog 47 gm0_0 (fun x : A8u8 => ag (cA8u8 x)) (fun x : S_api_Blob => ag [(int .i64 x.Kind), (str x.Bytes)]) a0.blobs), (oRow v0_1 42 tyS_api_Item a0.out)] [(oMapK Tryd.prog 47 gm0_0 (fun x : A8u8 => ag (cA8u8 x)) (fun x : S_api_Blob => ag [(int .i64 x.Kind), (str x.Bytes)]) j30xm0_0), (oRow j30v0_1 42 tyS_api_Item j30x0_1), (oBox bx0 103 [(Value.map (some gm0_0)), j30v0_1]), (oBox g24 168 [(str u18.Name), (int .i64 u18.Kind), (int .i64 u18.Mode), (int .i64 u18.Time), (int .i64 u18.Size), s22, (str u18.Link)]), (oBox g29 42 [(str ((a2 ++ ([47] : List UInt8)) ++ u18.Name)), (int .i64 u18.Kind), (int .i64 u18.Mode), (int .i64 u18.Time), (str j30s14_4)]), (oRow v8 168 tyS_api_Node r7.1)] [(fDat (tyList tyA8u8) [s22] u18.Parts), (fDat tyS_api_Node [(str u18.Name), (int .i64 u18.Kind), (int .i64 u18.Mode), (int .i64 u18.Time), (int .i64 u18.Size), s22, (str u18.Link)] u18), uTabs]) X_ Y_) (S := over (tab [(0, (ptr bx0 0)), (2, (str a2)), (3, (int .i64 a3)), (13, (ptr g24 0)), (14, (ptr g29 0)), (33, v8), (34, (int .i64 (r7.1.length : Int))), (35, (int .i64 l12i35))]) F_) ?_
 refine al_mv rfl rfl ?_
 refine al_nil ?_
 exact fr_fin hK_ ()⟩, ⟨_, rfl, [1], rfl, by
 intro _
 intro X_ Y_ F_ K_ hK_
 refine al_show (m := Mem.plus (memOf w0 Z0 [(oBox bx0 103 [(Value.map (some gm0_0)), v0_1]), (oMapK Tryd.prog 47 gm0_0 (fun x : A8u8 => ag (cA8u8 x)) (fun x : S_api_Blob => ag [(int .i64 x.Kind), (str x.Bytes)]) a0.blobs), (oRow v0_1 42 tyS_api_Item a0.out)] [(oMapK Tryd.prog 47 gm0_0 (fun x : A8u8 => ag (cA8u8 x)) (fun x : S_api_Blob => ag [(int .i64 x.Kind), (str x.Bytes)]) j30xm0_0), (oRow j30v0_1 42 tyS_api_Item j30x0_1), (oBox bx0 103 [(Value.map (some gm0_0)), j30v0_1]), (oBox g24 168 [(str u18.Name), (int .i64 u18.Kind), (int .i64 u18.Mode), (int .i64 u18.Time), (int .i64 u18.Size), s22, (str u18.Link)]), (oBox g29 42 [(str ((a2 ++ ([47] : List UInt8)) ++ u18.Name)), (int .i64 u18.Kind), (int .i64 u18.Mode), (int .i64 u18.Time), (str j30s14_4)]), (oRow v8 168 tyS_api_Node r7.1)] [(fDat (tyList tyA8u8) [s22] u18.Parts), (fDat tyS_api_Node [(str u18.Name), (int .i64 u18.Kind), (int .i64 u18.Mode), (int .i64 u18.Time), (int .i64 u18.Size), s22, (str u18.Link)] u18), uTabs]) X_ Y_) (S := over (put (tab [(0, (ptr bx0 0)), (2, (str a2)), (3, (int .i64 a3)), (13, (ptr g24 0)), (14, (ptr g29 0)), (33, v8), (34, (int .i64 (r7.1.length : Int))), (35, (int .i64 l12i35))]) 77 (ptr bx0 0)) F_) ?_
 refine al_val (ov_nilCheck rfl rfl) ?_
 refine al_nil ?_
 exact fr_fin hK_ ()⟩, ⟨_, rfl, [2], rfl, by
 intro _
 intro X_ Y_ F_ K_ hK_
 refine al_show (m := Mem.plus (memOf w0 Z0 [(oBox bx0 103 [(Value.map (some gm0_0)), v0_1]), (oMapK Tryd.prog 47 gm0_0 (fun x : A8u8 => ag (cA8u8 x)) (fun x : S_api_Blob => ag [(int .i64 x.Kind), (str x.Bytes)]) a0.blobs), (oRow v0_1 42 tyS_api_Item a0.out)] [(oMapK Tryd.prog 47 gm0_0 (fun x : A8u8 => ag (cA8u8 x)) (fun x : S_api_Blob => ag [(int .i64 x.Kind), (str x.Bytes)]) j30xm0_0), (oRow j30v0_1 42 tyS_api_Item j30x0_1), (oBox bx0 103 [(Value.map (some gm0_0)), j30v0_1]), (oBox g24 168 [(str u18.Name), (int .i64 u18.Kind), (int .i64 u18.Mode), (int .i64 u18.Time), (int .i64 u18.Size), s22, (str u18.Link)]), (oBox g29 42 [(str ((a2 ++ ([47] : List UInt8)) ++ u18.Name)), (int .i64 u18.Kind), (int .i64 u18.Mode), (int .i64 u18.Time), (str j30s14_4)]), (oRow v8 168 tyS_api_Node r7.1)] [(fDat (tyList tyA8u8) [s22] u18.Parts), (fDat tyS_api_Node [(str u18.Name), (int .i64 u18.Kind), (int .i64 u18.Mode), (int .i64 u18.Time), (int .i64 u18.Size), s22, (str u18.Link)] u18), uTabs]) X_ Y_) (S := over (put (tab [(0, (ptr bx0 0)), (2, (str a2)), (3, (int .i64 a3)), (13, (ptr g24 0)), (14, (ptr g29 0)), (33, v8), (34, (int .i64 (r7.1.length : Int))), (35, (int .i64 l12i35))]) 78 (ptr bx0 0)) F_) ?_
 refine al_val (ov_fieldA (p := 1) rfl Tryd.underlying103 rfl sz36 rfl rfl rfl) ?_
 refine al_nil ?_
 exact fr_fin hK_ ()⟩, ⟨_, rfl, [3], rfl, by
 intro _
 intro X_ Y_ F_ K_ hK_
 refine al_show (m := Mem.plus (memOf w0 Z0 [(oBox bx0 103 [(Value.map (some gm0_0)), v0_1]), (oMapK Tryd.prog 47 gm0_0 (fun x : A8u8 => ag (cA8u8 x)) (fun x : S_api_Blob => ag [(int .i64 x.Kind), (str x.Bytes)]) a0.blobs), (oRow v0_1 42 tyS_api_Item a0.out)] [(oMapK Tryd.prog 47 gm0_0 (fun x : A8u8 => ag (cA8u8 x)) (fun x : S_api_Blob => ag [(int .i64 x.Kind), (str x.Bytes)]) j30xm0_0), (oRow j30v0_1 42 tyS_api_Item j30x0_1), (oBox bx0 103 [(Value.map (some gm0_0)), j30v0_1]), (oBox g24 168 [(str u18.Name), (int .i64 u18.Kind), (int .i64 u18.Mode), (int .i64 u18.Time), (int .i64 u18.Size), s22, (str u18.Link)]), (oBox g29 42 [(str ((a2 ++ ([47] : List UInt8)) ++ u18.Name)), (int .i64 u18.Kind), (int .i64 u18.Mode), (int .i64 u18.Time), (str j30s14_4)]), (oRow v8 168 tyS_api_Node r7.1)] [(fDat (tyList tyA8u8) [s22] u18.Parts), (fDat tyS_api_Node [(str u18.Name), (int .i64 u18.Kind), (int .i64 u18.Mode), (int .i64 u18.Time), (int .i64 u18.Size), s22, (str u18.Link)] u18), uTabs]) X_ Y_) (S := over (put (tab [(0, (ptr bx0 0)), (2, (str a2)), (3, (int .i64 a3)), (13, (ptr g24 0)), (14, (ptr g29 0)), (33, v8), (34, (int .i64 (r7.1.length : Int))), (35, (int .i64 l12i35))]) 79 (ptr bx0 1)) F_) ?_
 refine al_val (ov_load (i := 2) (v := j30v0_1) rfl rfl Tryd.underlying36 sz36 rfl rfl rfl rfl) ?_
 refine al_nil ?_
 exact fr_fin hK_ ()⟩, ⟨_, rfl, [], rfl, by
 intro X_ Y_ F_ K_ hK_
 refine al_show (m := Mem.plus (memOf w0 Z0 [(oBox bx0 103 [(Value.map (some gm0_0)), v0_1]), (oMapK Tryd.prog 47 gm0_0 (fun x : A8u8 => ag (cA8u8 x)) (fun x : S_api_Blob => ag [(int .i64 x.Kind), (str x.Bytes)]) a0.blobs), (oRow v0_1 42 tyS_api_Item a0.out)] [(oMapK Tryd.prog 47 gm0_0 (fun x : A8u8 => ag (cA8u8 x)) (fun x : S_api_Blob => ag [(int .i64 x.Kind), (str x.Bytes)]) j30xm0_0), (oRow j30v0_1 42 tyS_api_Item j30x0_1), (oBox bx0 103 [(Value.map (some gm0_0)), j30v0_1]), (oBox g24 168 [(str u18.Name), (int .i64 u18.Kind), (int .i64 u18.Mode), (int .i64 u18.Time), (int .i64 u18.Size), s22, (str u18.Link)]), (oBox g29 42 [(str ((a2 ++ ([47] : List UInt8)) ++ u18.Name)), (int .i64 u18.Kind), (int .i64 u18.Mode), (int .i64 u18.Time), (str j30s14_4)]), (oRow v8 168 tyS_api_Node r7.1)] [(fDat (tyList tyA8u8) [s22] u18.Parts), (fDat tyS_api_Node [(str u18.Name), (int .i64 u18.Kind), (int .i64 u18.Mode), (int .i64 u18.Time), (int .i64 u18.Size), s22, (str u18.Link)] u18), uTabs]) X_ Y_) (S := over (tab [(0, (ptr bx0 0)), (2, (str a2)), (3, (int .i64 a3)), (13, (ptr g24 0)), (14, (ptr g29 0)), (33, v8), (34, (int .i64 (r7.1.length : Int))), (35, (int .i64 l12i35))]) F_) ?_
 refine al_val (ov_load (i := 4) (v := (ag [(str ((a2 ++ ([47] : List UInt8)) ++ u18.Name)), (int .i64 u18.Kind), (int .i64 u18.Mode), (int .i64 u18.Time), (str j30s14_4)])) rfl rfl Tryd.underlying42 sz42 rfl rfl rfl rfl) ?_
 refine al_nil ?_
 exact fr_fin hK_ ()⟩, ⟨_, rfl, [5], rfl, by
 intro _
 intro X_ Y_ F_ K_ hK_
 refine al_show (m := Mem.plus (memOf w0 Z0 [(oBox bx0 103 [(Value.map (some gm0_0)), v0_1]), (oMapK Tryd.prog 47 gm0_0 (fun x : A8u8 => ag (cA8u8 x)) (fun x : S_api_Blob => ag [(int .i64 x.Kind), (str x.Bytes)]) a0.blobs), (oRow v0_1 42 tyS_api_Item a0.out)] [(oMapK Tryd.prog 47 gm0_0 (fun x : A8u8 => ag (cA8u8 x)) (fun x : S_api_Blob => ag [(int .i64 x.Kind), (str x.Bytes)]) j30xm0_0), (oRow j30v0_1 42 tyS_api_Item j30x0_1), (oBox bx0 103 [(Value.map (some gm0_0)), j30v0_1]), (oBox g24 168 [(str u18.Name), (int .i64 u18.Kind), (int .i64 u18.Mode), (int .i64 u18.Time), (int .i64 u18.Size), s22, (str u18.Link)]), (oBox g29 42 [(str ((a2 ++ ([47] : List UInt8)) ++ u18.Name)), (int .i64 u18.Kind), (int .i64 u18.Mode), (int .i64 u18.Time), (str j30s14_4)]), (oRow v8 168 tyS_api_Node r7.1)] [(fDat (tyList tyA8u8) [s22] u18.Parts), (fDat tyS_api_Node [(str u18.Name), (int .i64 u18.Kind), (int .i64 u18.Mode), (int .i64 u18.Time), (int .i64 u18.Size), s22, (str u18.Link)] u18), uTabs]) X_ Y_) (S := over (put (tab [(0, (ptr bx0 0)), (2, (str a2)), (3, (int .i64 a3)), (13, (ptr g24 0)), (14, (ptr g29 0)), (33, v8), (34, (int .i64 (r7.1.length : Int))), (35, (int .i64 l12i35))]) 81 (ag [(str ((a2 ++ ([47] : List UInt8)) ++ u18.Name)), (int .i64 u18.Kind), (int .i64 u18.Mode), (int .i64 u18.Time), (str j30s14_4)])) F_) ?_
 refine al_buildSlice (τ := tyS_api_Item) (e := 42) (k := 1) (sz := 0) (by_ := 0) (z := undef) (cs := [(str ((a2 ++ ([47] : List UInt8)) ++ u18.Name)), (int .i64 u18.Kind), (int .i64 u18.Mode), (int .i64 u18.Time), (str j30s14_4)]) (xs := [(S_api_Item.mk ((a2 ++ ([47] : List UInt8)) ++ u18.Name) u18.Kind u18.Mode u18.Time j30s14_4)]) rfl (by decide) (fun w a hm hs => ⟨([(str ((a2 ++ ([47] : List UInt8)) ++ u18.Name)), (int .i64 u18.Kind), (int .i64 u18.Mode), (int .i64 u18.Time), (str j30s14_4)]).toArray, rfl, by simp only [List.map_toArray, List.map_cons, List.map_nil, hs.ev (x := .tmp 81) rfl]; exact run_bs [(ag [(str ((a2 ++ ([47] : List UInt8)) ++ u18.Name)), (int .i64 u18.Kind), (int .i64 u18.Mode), (int .i64 u18.Time), (str j30s14_4)])] [(str ((a2 ++ ([47] : List UInt8)) ++ u18.Name)), (int .i64 u18.Kind), (int .i64 u18.Mode), (int .i64 u18.Time), (str j30s14_4)] Tryd.underlying36 to42 rfl rfl (bs_cons (l := [(str ((a2 ++ ([47] : List UInt8)) ++ u18.Name)), (int .i64 u18.Kind), (int .i64 u18.Mode), (int .i64 u18.Time), (str j30s14_4)]) (cs := []) (cv_rfl rfl) rfl bs_nil) hm⟩) (fun hm => ⟨_, _, rfl, (fun _ => mkS_api_Item rfl) hm, rfl⟩) rfl (fun v32 => ?_)
 refine al_nil ?_
 exact fr_fin hK_ v32⟩, trivial⟩ ?_
          intro _
          intro _
          intro _
          intro _
          intro _
          intro v32
          intro X_ Y_ F_ K_ hK_
          refine al_show (m := Mem.plus (memOf w0 Z0 [(oBox bx0 103 [(Value.map (some gm0_0)), v0_1]), (oMapK Tryd.prog 47 gm0_0 (fun x : A8u8 => ag (cA8u8 x)) (fun x : S_api_Blob => ag [(int .i64 x.Kind), (str x.Bytes)]) a0.blobs), (oRow v0_1 42 tyS_api_Item a0.out)] [(oRow v32 42 tyS_api_Item [(S_api_Item.mk ((a2 ++ ([47] : List UInt8)) ++ u18.Name) u18.Kind u18.Mode u18.Time j30s14_4)]), (oMapK Tryd.prog 47 gm0_0 (fun x : A8u8 => ag (cA8u8 x)) (fun x : S_api_Blob => ag [(int .i64 x.Kind), (str x.Bytes)]) j30xm0_0), (oRow j30v0_1 42 tyS_api_Item j30x0_1), (oBox bx0 103 [(Value.map (some gm0_0)), j30v0_1]), (oBox g24 168 [(str u18.Name), (int .i64 u18.Kind), (int .i64 u18.Mode), (int .i64 u18.Time), (int .i64 u18.Size), s22, (str u18.Link)]), (oBox g29 42 [(str ((a2 ++ ([47] : List UInt8)) ++ u18.Name)), (int .i64 u18.Kind), (int .i64 u18.Mode), (int .i64 u18.Time), (str j30s14_4)]), (oRow v8 168 tyS_api_Node r7.1)] [(fDat (tyList tyA8u8) [s22] u18.Parts), (fDat tyS_api_Node [(str u18.Name), (int .i64 u18.Kind), (int .i64 u18.Mode), (int .i64 u18.Time), (int .i64 u18.Size), s22, (str u18.Link)] u18), uTabs]) X_ Y_) (S := over (put (put (put (put (put (put (tab [(0, (ptr bx0 0)), (2, (str a2)), (3, (int .i64 a3)), (13, (ptr g24 0)), (14, (ptr g29 0)), (33, v8), (34, (int .i64 (r7.1.length : Int))), (35, (int .i64 l12i35))]) 77 (ptr bx0 0)) 78 (ptr bx0 0)) 79 (ptr bx0 1)) 80 j30v0_1) 81 (ag [(str ((a2 ++ ([47] : List UInt8)) ++ u18.Name)), (int .i64 u18.Kind), (int .i64 u18.Mode), (int .i64 u18.Time), (str j30s14_4)])) 82 v32) F_) ?_
          obtain ⟨hc33, h⟩ := req_some h
          refine al_append 2 hc33.1 hc33.2 rfl (src_own (i := 2) 0 rfl) rfl rfl Tryd.underlying36 to42 rfl rfl rfl (fun v34 => ?_)
          refine al_nil ?_
          refine aq_show (m := Mem.plus (memOf w0 Z0 [(oBox bx0 103 [(Value.map (some gm0_0)), v0_1]), (oMapK Tryd.prog 47 gm0_0 (fun x : A8u8 => ag (cA8u8 x)) (fun x : S_api_Blob => ag [(int .i64 x.Kind), (str x.Bytes)]) a0.blobs), (oRow v0_1 42 tyS_api_Item a0.out)] [(oRow v32 42 tyS_api_Item [(S_api_Item.mk ((a2 ++ ([47] : List UInt8)) ++ u18.Name) u18.Kind u18.Mode u18.Time j30s14_4)]), (oMapK Tryd.prog 47 gm0_0 (fun x : A8u8 => ag (cA8u8 x)) (fun x : S_api_Blob => ag [(int .i64 x.Kind), (str x.Bytes)]) j30xm0_0), (oRow v34 42 tyS_api_Item (j30x0_1 ++ ([(S_api_Item.mk ((a2 ++ ([47] : List UInt8)) ++ u18.Name) u18.Kind u18.Mode u18.Time j30s14_4)]))), (oBox bx0 103 [(Value.map (some gm0_0)), j30v0_1]), (oBox g24 168 [(str u18.Name), (int .i64 u18.Kind), (int .i64 u18.Mode), (int .i64 u18.Time), (int .i64 u18.Size), s22, (str u18.Link)]), (oBox g29 42 [(str ((a2 ++ ([47] : List UInt8)) ++ u18.Name)), (int .i64 u18.Kind), (int .i64 u18.Mode), (int .i64 u18.Time), (str j30s14_4)]), (oRow v8 168 tyS_api_Node r7.1)] [(fDat (tyList tyA8u8) [s22] u18.Parts), (fDat tyS_api_Node [(str u18.Name), (int .i64 u18.Kind), (int .i64 u18.Mode), (int .i64 u18.Time), (int .i64 u18.Size), s22, (str u18.Link)] u18), uTabs]) X_ Y_) ?_
          refine aq_next hK_ [0, 1, 2, 3, 4, 5, 6] [0, 1, 2] [(0, (ptr bx0 0)), (2, (str a2)), (3, (int .i64 a3)), (13, (ptr g24 0)), (14, (ptr g29 0)), (33, v8), (34, (int .i64 (r7.1.length : Int))), (35, (int .i64 l12i35)), (83, v34)] [76] [⟨8, 84, Unit, fun _ => { val := (ptr bx0 0) }⟩, ⟨9, 85, Unit, fun _ => { val := (ptr bx0 1) }⟩] rfl rfl (by decide) rfl ⟨rfl, rfl, rfl, rfl, rfl, rfl, rfl, rfl, rfl, trivial⟩ ⟨rfl, trivial⟩ ?_
          clear hK_ K_ F_ X_ Y_
          refine ta_show (m := (memOf w0 Z0 [(oBox bx0 103 [(Value.map (some gm0_0)), v0_1]), (oMapK Tryd.prog 47 gm0_0 (fun x : A8u8 => ag (cA8u8 x)) (fun x : S_api_Blob => ag [(int .i64 x.Kind), (str x.Bytes)]) a0.blobs), (oRow v0_1 42 tyS_api_Item a0.out)] [(oRow v32 42 tyS_api_Item [(S_api_Item.mk ((a2 ++ ([47] : List UInt8)) ++ u18.Name) u18.Kind u18.Mode u18.Time j30s14_4)]), (oMapK Tryd.prog 47 gm0_0 (fun x : A8u8 => ag (cA8u8 x)) (fun x : S_api_Blob => ag [(int .i64 x.Kind), (str x.Bytes)]) j30xm0_0), (oRow v34 42 tyS_api_Item (j30x0_1 ++ ([(S_api_Item.mk ((a2 ++ ([47] : List UInt8)) ++ u18.Name) u18.Kind u18.Mode u18.Time j30s14_4)]))), (oBox bx0 103 [(Value.map (some gm0_0)), j30v0_1]), (oBox g24 168 [(str u18.Name), (int .i64 u18.Kind), (int .i64 u18.Mode), (int .i64 u18.Time), (int .i64 u18.Size), s22, (str u18.Link)]), (oBox g29 42 [(str ((a2 ++ ([47] : List UInt8)) ++ u18.Name)), (int .i64 u18.Kind), (int .i64 u18.Mode), (int .i64 u18.Time), (str j30s14_4)]), (oRow v8 168 tyS_api_Node r7.1)] [(fDat (tyList tyA8u8) [s22] u18.Parts), (fDat tyS_api_Node [(str u18.Name), (int .i64 u18.Kind), (int .i64 u18.Mode), (int .i64 u18.Time), (int .i64 u18.Size), s22, (str u18.Link)] u18), uTabs])) (S := (tab [(0, (ptr bx0 0)), (2, (str a2)), (3, (int .i64 a3)), (13, (ptr g24 0)), (14, (ptr g29 0)), (33, v8), (34, (int .i64 (r7.1.length : Int))), (35, (int .i64 l12i35)), (83, v34)])) ?_
          refine ta_step 10 _ [0, 8, 9] [76, 84, 85] [0, 8, 9] [] [⟨0, 76, Unit, fun _ => { val := (ptr bx0 0) }⟩, ⟨8, 84, Unit, fun _ => { val := (ptr bx0 0) }⟩, ⟨9, 85, Unit, fun _ => { val := (ptr bx0 1) }⟩] [] rfl rfl rfl (by kernel_rfl) rfl rfl rfl ⟨⟨_, rfl, [], rfl, by
 intro X_ Y_ F_ K_ hK_
 refine al_show (m := Mem.plus (memOf w0 Z0 [(oBox bx0 103 [(Value.map (some gm0_0)), v0_1]), (oMapK Tryd.prog 47 gm0_0 (fun x : A8u8 => ag (cA8u8 x)) (fun x : S_api_Blob => ag [(int .i64 x.Kind), (str x.Bytes)]) a0.blobs), (oRow v0_1 42 tyS_api_Item a0.out)] [(oRow v32 42 tyS_api_Item [(S_api_Item.mk ((a2 ++ ([47] : List UInt8)) ++ u18.Name) u18.Kind u18.Mode u18.Time j30s14_4)]), (oMapK Tryd.prog 47 gm0_0 (fun x : A8u8 => ag (cA8u8 x)) (fun x : S_api_Blob => ag [(int .i64 x.Kind), (str x.Bytes)]) j30xm0_0), (oRow v34 42 tyS_api_Item (j30x0_1 ++ ([(S_api_Item.mk ((a2 ++ ([47] : List UInt8)) ++ u18.Name) u18.Kind u18.Mode u18.Time j30s14_4)]))), (oBox bx0 103 [(Value.map (some gm0_0)), j30v0_1]), (oBox g24 168 [(str u18.Name), (int .i64 u18.Kind), (int .i64 u18.Mode), (int .i64 u18.Time), (int .i64 u18.Size), s22, (str u18.Link)]), (oBox g29 42 [(str ((a2 ++ ([47] : List UInt8)) ++ u18.Name)), (int .i64 u18.Kind), (int .i64 u18.Mode), (int .i64 u18.Time), (str j30s14_4)]), (oRow v8 168 tyS_api_Node r7.1)] [(fDat (tyList tyA8u8) [s22] u18.Parts), (fDat tyS_api_Node [(str u18.Name), (int .i64 u18.Kind), (int .i64 u18.Mode), (int .i64 u18.Time), (int .i64 u18.Size), s22, (str u18.Link)] u18), uTabs]) X_ Y_) (S := over (tab [(0, (ptr bx0 0)), (2, (str a2)), (3, (int .i64 a3)), (13, (ptr g24 0)), (14, (ptr g29 0)), (33, v8), (34, (int .i64 (r7.1.length : Int))), (35, (int .i64 l12i35)), (83, v34)]) F_) ?_
 refine al_mv rfl rfl ?_
 refine al_nil ?_
 exact fr_fin hK_ ()⟩, ⟨_, rfl, [0], rfl, by
 intro _
 intro X_ Y_ F_ K_ hK_
 refine al_show (m := Mem.plus (memOf w0 Z0 [(oBox bx0 103 [(Value.map (some gm0_0)), v0_1]), (oMapK Tryd.prog 47 gm0_0 (fun x : A8u8 => ag (cA8u8 x)) (fun x : S_api_Blob => ag [(int .i64 x.Kind), (str x.Bytes)]) a0.blobs), (oRow v0_1 42 tyS_api_Item a0.out)] [(oRow v32 42 tyS_api_Item [(S_api_Item.mk ((a2 ++ ([47] : List UInt8)) ++ u18.Name) u18.Kind u18.Mode u18.Time j30s14_4)]), (oMapK Tryd.prog 47 gm0_0 (fun x : A8u8 => ag (cA8u8 x)) (fun x : S_api_Blob => ag [(int .i64 x.Kind), (str x.Bytes)]) j30xm0_0), (oRow v34 42 tyS_api_Item (j30x0_1 ++ ([(S_api_Item.mk ((a2 ++ ([47] : List UInt8)) ++ u18.Name) u18.Kind u18.Mode u18.Time j30s14_4)]))), (oBox bx0 103 [(Value.map (some gm0_0)), j30v0_1]), (oBox g24 168 [(str u18.Name), (int .i64 u18.Kind), (int .i64 u18.Mode), (int .i64 u18.Time), (int .i64 u18.Size), s22, (str u18.Link)]), (oBox g29 42 [(str ((a2 ++ ([47] : List UInt8)) ++ u18.Name)), (int .i64 u18.Kind), (int .i64 u18.Mode), (int .i64 u18.Time), (str j30s14_4)]), (oRow v8 168 tyS_api_Node r7.1)] [(fDat (tyList tyA8u8) [s22] u18.Parts), (fDat tyS_api_Node [(str u18.Name), (int .i64 u18.Kind), (int .i64 u18.Mode), (int .i64 u18.Time), (int .i64 u18.Size), s22, (str u18.Link)] u18), uTabs]) X_ Y_) (S := over (put (tab [(0, (ptr bx0 0)), (2, (str a2)), (3, (int .i64 a3)), (13, (ptr g24 0)), (14, (ptr g29 0)), (33, v8), (34, (int .i64 (r7.1.length : Int))), (35, (int .i64 l12i35)), (83, v34)]) 76 (ptr bx0 0)) F_) ?_
 refine al_val (ov_nilCheck rfl rfl) ?_
 refine al_nil ?_
 exact fr_fin hK_ ()⟩, ⟨_, rfl, [0, 1], rfl, by
 intro _
 intro _
 intro X_ Y_ F_ K_ hK_
 refine al_show (m := Mem.plus (memOf w0 Z0 [(oBox bx0 103 [(Value.map (some gm0_0)), v0_1]), (oMapK Tryd.prog 47 gm0_0 (fun x : A8u8 => ag (cA8u8 x)) (fun x : S_api_Blob => ag [(int .i64 x.Kind), (str x.Bytes)]) a0.blobs), (oRow v0_1 42 tyS_api_Item a0.out)] [(oRow v32 42 tyS_api_Item [(S_api_Item.mk ((a2 ++ ([47] : List UInt8)) ++ u18.Name) u18.Kind u18.Mode u18.Time j30s14_4)]), (oMapK Tryd.prog 47 gm0_0 (fun x : A8u8 => ag (cA8u8 x)) (fun x : S_api_Blob => ag [(int .i64 x.Kind), (str x.Bytes)]) j30xm0_0), (oRow v34 42 tyS_api_Item (j30x0_1 ++ ([(S_api_Item.mk ((a2 ++ ([47] : List UInt8)) ++ u18.Name) u18.Kind u18.Mode u18.Time j30s14_4)]))), (oBox bx0 103 [(Value.map (some gm0_0)), j30v0_1]), (oBox g24 168 [(str u18.Name), (int .i64 u18.Kind), (int .i64 u18.Mode), (int .i64 u18.Time), (int .i64 u18.Size), s22, (str u18.Link)]), (oBox g29 42 [(str ((a2 ++ ([47] : List UInt8)) ++ u18.Name)), (int .i64 u18.Kind), (int .i64 u18.Mode), (int .i64 u18.Time), (str j30s14_4)]), (oRow v8 168 tyS_api_Node r7.1)] [(fDat (tyList tyA8u8) [s22] u18.Parts), (fDat tyS_api_Node [(str u18.Name), (int .i64 u18.Kind), (int .i64 u18.Mode), (int .i64 u18.Time), (int .i64 u18.Size), s22, (str u18.Link)] u18), uTabs]) X_ Y_) (S := over (put (put (tab [(0, (ptr bx0 0)), (2, (str a2)), (3, (int .i64 a3)), (13, (ptr g24 0)), (14, (ptr g29 0)), (33, v8), (34, (int .i64 (r7.1.length : Int))), (35, (int .i64 l12i35)), (83, v34)]) 76 (ptr bx0 0)) 84 (ptr bx0 0)) F_) ?_
 refine al_val (ov_fieldA (p := 1) rfl Tryd.underlying103 rfl sz36 rfl rfl rfl) ?_
 refine al_nil ?_
 exact fr_fin hK_ ()⟩, trivial⟩ ?_
          intro _
          intro _
          intro _
          intro X_ Y_ F_ K_ hK_
          refine al_show (m := Mem.plus (memOf w0 Z0 [(oBox bx0 103 [(Value.map (some gm0_0)), v0_1]), (oMapK Tryd.prog 47 gm0_0 (fun x : A8u8 => ag (cA8u8 x)) (fun x : S_api_Blob => ag [(int .i64 x.Kind), (str x.Bytes)]) a0.blobs), (oRow v0_1 42 tyS_api_Item a0.out)] [(oRow v32 42 tyS_api_Item [(S_api_Item.mk ((a2 ++ ([47] : List UInt8)) ++ u18.Name) u18.Kind u18.Mode u18.Time j30s14_4)]), (oMapK Tryd.prog 47 gm0_0 (fun x : A8u8 => ag (cA8u8 x)) (fun x : S_api_Blob => ag [(int .i64 x.Kind), (str x.Bytes)]) j30xm0_0), (oRow v34 42 tyS_api_Item (j30x0_1 ++ ([(S_api_Item.mk ((a2 ++ ([47] : List UInt8)) ++ u18.Name) u18.Kind u18.Mode u18.Time j30s14_4)]))), (oBox bx0 103 [(Value.map (some gm0_0)), j30v0_1]), (oBox g24 168 [(str u18.Name), (int .i64 u18.Kind), (int .i64 u18.Mode), (int .i64 u18.Time), (int .i64 u18.Size), s22, (str u18.Link)]), (oBox g29 42 [(str ((a2 ++ ([47] : List UInt8)) ++ u18.Name)), (int .i64 u18.Kind), (int .i64 u18.Mode), (int .i64 u18.Time), (str j30s14_4)]), (oRow v8 168 tyS_api_Node r7.1)] [(fDat (tyList tyA8u8) [s22] u18.Parts), (fDat tyS_api_Node [(str u18.Name), (int .i64 u18.Kind), (int .i64 u18.Mode), (int .i64 u18.Time), (int .i64 u18.Size), s22, (str u18.Link)] u18), uTabs]) X_ Y_) (S := over (put (put (put (tab [(0, (ptr bx0 0)), (2, (str a2)), (3, (int .i64 a3)), (13, (ptr g24 0)), (14, (ptr g29 0)), (33, v8), (34, (int .i64 (r7.1.length : Int))), (35, (int .i64 l12i35)), (83, v34)]) 76 (ptr bx0 0)) 84 (ptr bx0 0)) 85 (ptr bx0 1)) F_) ?_
          refine al_store (i := 3) (vs := [v34]) (cs' := [(Value.map (some gm0_0)), v34]) rfl rfl rfl sz36 (cv_own 2 rfl) rfl (co_own 2 rfl co_nil) (Nat.le_of_ble_eq_true rfl) rfl rfl ?_
          refine al_nil ?_
          refine aq_show (m := Mem.plus (memOf w0 Z0 [(oBox bx0 103 [(Value.map (some gm0_0)), v0_1]), (oMapK Tryd.prog 47 gm0_0 (fun x : A8u8 => ag (cA8u8 x)) (fun x : S_api_Blob => ag [(int .i64 x.Kind), (str x.Bytes)]) a0.blobs), (oRow v0_1 42 tyS_api_Item a0.out)] [(oRow v32 42 tyS_api_Item [(S_api_Item.mk ((a2 ++ ([47] : List UInt8)) ++ u18.Name) u18.Kind u18.Mode u18.Time j30s14_4)]), (oMapK Tryd.prog 47 gm0_0 (fun x : A8u8 => ag (cA8u8 x)) (fun x : S_api_Blob => ag [(int .i64 x.Kind), (str x.Bytes)]) j30xm0_0), (oRow v34 42 tyS_api_Item (j30x0_1 ++ ([(S_api_Item.mk ((a2 ++ ([47] : List UInt8)) ++ u18.Name) u18.Kind u18.Mode u18.Time j30s14_4)]))), (oBox bx0 103 [(Value.map (some gm0_0)), v34]), (oBox g24 168 [(str u18.Name), (int .i64 u18.Kind), (int .i64 u18.Mode), (int .i64 u18.Time), (int .i64 u18.Size), s22, (str u18.Link)]), (oBox g29 42 [(str ((a2 ++ ([47] : List UInt8)) ++ u18.Name)), (int .i64 u18.Kind), (int .i64 u18.Mode), (int .i64 u18.Time), (str j30s14_4)]), (oRow v8 168 tyS_api_Node r7.1)] [(fDat (tyList tyA8u8) [s22] u18.Parts), (fDat tyS_api_Node [(str u18.Name), (int .i64 u18.Kind), (int .i64 u18.Mode), (int .i64 u18.Time), (int .i64 u18.Size), s22, (str u18.Link)] u18), uTabs]) X_ Y_) ?_
          refine aq_next hK_ [0, 1, 2, 3, 4, 5, 6] [0, 1, 2] [(0, (ptr bx0 0)), (2, (str a2)), (3, (int .i64 a3)), (13, (ptr g24 0)), (14, (ptr g29 0)), (33, v8), (34, (int .i64 (r7.1.length : Int))), (35, (int .i64 l12i35))] [] [] rfl rfl (by decide) rfl ⟨rfl, rfl, rfl, rfl, rfl, rfl, rfl, rfl, trivial⟩ trivial ?_
          clear hK_ K_ F_ X_ Y_
          refine ta_show (m := (memOf w0 Z0 [(oBox bx0 103 [(Value.map (some gm0_0)), v0_1]), (oMapK Tryd.prog 47 gm0_0 (fun x : A8u8 => ag (cA8u8 x)) (fun x : S_api_Blob => ag [(int .i64 x.Kind), (str x.Bytes)]) a0.blobs), (oRow v0_1 42 tyS_api_Item a0.out)] [(oRow v32 42 tyS_api_Item [(S_api_Item.mk ((a2 ++ ([47] : List UInt8)) ++ u18.Name) u18.Kind u18.Mode u18.Time j30s14_4)]), (oMapK Tryd.prog 47 gm0_0 (fun x : A8u8 => ag (cA8u8 x)) (fun x : S_api_Blob => ag [(int .i64 x.Kind), (str x.Bytes)]) j30xm0_0), (oRow v34 42 tyS_api_Item (j30x0_1 ++ ([(S_api_Item.mk ((a2 ++ ([47] : List UInt8)) ++ u18.Name) u18.Kind u18.Mode u18.Time j30s14_4)]))), (oBox bx0 103 [(Value.map (some gm0_0)), v34]), (oBox g24 168 [(str u18.Name), (int .i64 u18.Kind), (int .i64 u18.Mode), (int .i64 u18.Time), (int .i64 u18.Size), s22, (str u18.Link)]), (oBox g29 42 [(str ((a2 ++ ([47] : List UInt8)) ++ u18.Name)), (int .i64 u18.Kind), (int .i64 u18.Mode), (int .i64 u18.Time), (str j30s14_4)]), (oRow v8 168 tyS_api_Node r7.1)] [(fDat (tyList tyA8u8) [s22] u18.Parts), (fDat tyS_api_Node [(str u18.Name), (int .i64 u18.Kind), (int .i64 u18.Mode), (int .i64 u18.Time), (int .i64 u18.Size), s22, (str u18.Link)] u18), uTabs])) (S := (tab [(0, (ptr bx0 0)), (2, (str a2)), (3, (int .i64 a3)), (13, (ptr g24 0)), (14, (ptr g29 0)), (33, v8), (34, (int .i64 (r7.1.length : Int))), (35, (int .i64 l12i35))])) ?_
          refine ta_end [] [] rfl rfl (by kernel_rfl) rfl trivial ?_
          refine aq_show (m := (memOf w0 Z0 [(oBox bx0 103 [(Value.map (some gm0_0)), v0_1]), (oMapK Tryd.prog 47 gm0_0 (fun x : A8u8 => ag (cA8u8 x)) (fun x : S_api_Blob => ag [(int .i64 x.Kind), (str x.Bytes)]) a0.blobs), (oRow v0_1 42 tyS_api_Item a0.out)] [(oRow v32 42 tyS_api_Item [(S_api_Item.mk ((a2 ++ ([47] : List UInt8)) ++ u18.Name) u18.Kind u18.Mode u18.Time j30s14_4)]), (oMapK Tryd.prog 47 gm0_0 (fun x : A8u8 => ag (cA8u8 x)) (fun x : S_api_Blob => ag [(int .i64 x.Kind), (str x.Bytes)]) j30xm0_0), (oRow v34 42 tyS_api_Item (j30x0_1 ++ ([(S_api_Item.mk ((a2 ++ ([47] : List UInt8)) ++ u18.Name) u18.Kind u18.Mode u18.Time j30s14_4)]))), (oBox bx0 103 [(Value.map (some gm0_0)), v34]), (oBox g24 168 [(str u18.Name), (int .i64 u18.Kind), (int .i64 u18.Mode), (int .i64 u18.Time), (int .i64 u18.Size), s22, (str u18.Link)]), (oBox g29 42 [(str ((a2 ++ ([47] : List UInt8)) ++ u18.Name)), (int .i64 u18.Kind), (int .i64 u18.Mode), (int .i64 u18.Time), (str j30s14_4)]), (oRow v8 168 tyS_api_Node r7.1)] [(fDat (tyList tyA8u8) [s22] u18.Parts), (fDat tyS_api_Node [(str u18.Name), (int .i64 u18.Kind), (int .i64 u18.Mode), (int .i64 u18.Time), (int .i64 u18.Size), s22, (str u18.Link)] u18), uTabs])) (S := (tab [(0, (ptr bx0 0)), (2, (str a2)), (3, (int .i64 a3)), (13, (ptr g24 0)), (14, (ptr g29 0)), (33, v8), (34, (int .i64 (r7.1.length : Int))), (35, (int .i64 l12i35))])) ?_
          refine aq_tr ?_
          refine al_val (ov_fieldA (p := 1) rfl Tryd.underlying168 rfl sz3 rfl rfl rfl) ?_
          refine al_val (ov_load (i := 4) (v := (int .i64 u18.Kind)) rfl rfl Tryd.underlying3 sz3 rfl rfl rfl rfl) ?_
          refine al_in rfl rfl rfl rfl ?_
          refine al_nt ?_
          refine aw_cond rfl (fun hb35 => ?_) (fun hb35 => ?_)
          ·replace h := bif_t hb35 h
           refine aw_seq ?_
           obtain ⟨u36, hu37, h⟩ := opt_some h
           refine aw_region_open [⟨0, 89, Unit, fun _ => { val := (ptr bx0 0) }⟩, ⟨1, 90, Unit, fun _ => { val := (ptr g24 5) }⟩, ⟨2, 91, Unit, fun _ => { val := s22 }⟩, ⟨3, 92, Value, fun (i : Value) => { val := i, fz := [(fPtr tyA8u8 i u36)] }⟩, ⟨4, 93, Unit, fun _ => { val := (ag (cA8u8 u36)) }⟩, ⟨5, 94, Unit, fun _ => { val := (ptr g29 0) }⟩, ⟨6, 95, Unit, fun _ => { val := (str ((a2 ++ ([47] : List UInt8)) ++ u18.Name)) }⟩, ⟨7, 96, Unit, fun _ => { val := (int .i64 a3) }⟩, ⟨8, 97, Unit, fun _ => { val := (int .i64 (IntKind.i64.wrap (a3 + (1 : Int)))) }⟩] (tab [(0, (ptr bx0 0)), (2, (str a2)), (3, (int .i64 a3)), (13, (ptr g24 0)), (14, (ptr g29 0)), (33, v8), (34, (int .i64 (r7.1.length : Int))), (35, (int .i64 l12i35))]) mixed (fun a hs => hs.tab _ (allT_mem ⟨rfl, rfl, rfl, rfl, rfl, rfl, rfl, rfl, trivial⟩)) ?_
           refine ta_show (m := (memOf w0 Z0 [(oBox bx0 103 [(Value.map (some gm0_0)), v0_1]), (oMapK Tryd.prog 47 gm0_0 (fun x : A8u8 => ag (cA8u8 x)) (fun x : S_api_Blob => ag [(int .i64 x.Kind), (str x.Bytes)]) a0.blobs), (oRow v0_1 42 tyS_api_Item a0.out)] [(oRow v32 42 tyS_api_Item [(S_api_Item.mk ((a2 ++ ([47] : List UInt8)) ++ u18.Name) u18.Kind u18.Mode u18.Time j30s14_4)]), (oMapK Tryd.prog 47 gm0_0 (fun x : A8u8 => ag (cA8u8 x)) (fun x : S_api_Blob => ag [(int .i64 x.Kind), (str x.Bytes)]) j30xm0_0), (oRow v34 42 tyS_api_Item (j30x0_1 ++ ([(S_api_Item.mk ((a2 ++ ([47] : List UInt8)) ++ u18.Name) u18.Kind u18.Mode u18.Time j30s14_4)]))), (oBox bx0 103 [(Value.map (some gm0_0)), v34]), (oBox g24 168 [(str u18.Name), (int .i64 u18.Kind), (int .i64 u18.Mode), (int .i64 u18.Time), (int .i64 u18.Size), s22, (str u18.Link)]), (oBox g29 42 [(str ((a2 ++ ([47] : List UInt8)) ++ u18.Name)), (int .i64 u18.Kind), (int .i64 u18.Mode), (int .i64 u18.Time), (str j30s14_4)]), (oRow v8 168 tyS_api_Node r7.1)] [(fDat (tyList tyA8u8) [s22] u18.Parts), (fDat tyS_api_Node [(str u18.Name), (int .i64 u18.Kind), (int .i64 u18.Mode), (int .i64 u18.Time), (int .i64 u18.Size), s22, (str u18.Link)] u18), uTabs])) (S := (tab [(0, (ptr bx0 0)), (2, (str a2)), (3, (int .i64 a3)), (13, (ptr g24 0)), (14, (ptr g29 0)), (33, v8), (34, (int .i64 (r7.1.length : Int))), (35, (int .i64 l12i35))])) ?_
           refine ta_step 9 _ [0, 1, 2, 3, 4, 5, 6, 7, 8] [89, 90, 91, 92, 93, 94, 95, 96, 97] [0, 1, 2, 3, 4, 5, 6, 7, 8] [] [⟨0, 89, Unit, fun _ => { val := (ptr bx0 0) }⟩, ⟨1, 90, Unit, fun _ => { val := (ptr g24 5) }⟩, ⟨2, 91, Unit, fun _ => { val := s22 }⟩, ⟨3, 92, Value, fun (i : Value) => { val := i, fz := [(fPtr tyA8u8 i u36)] }⟩, ⟨4, 93, Unit, fun _ => { val := (ag (cA8u8 u36)) }⟩, ⟨5, 94, Unit, fun _ => { val := (ptr g29 0) }⟩, ⟨6, 95, Unit, fun _ => { val := (str ((a2 ++ ([47] : List UInt8)) ++ u18.Name)) }⟩, ⟨7, 96, Unit, fun _ => { val := (int .i64 a3) }⟩, ⟨8, 97, Unit, fun _ => { val := (int .i64 (IntKind.i64.wrap (a3 + (1 : Int)))) }⟩] [] rfl rfl rfl (by kernel_rfl) rfl rfl rfl ⟨⟨_, rfl, [], rfl, by
 intro X_ Y_ F_ K_ hK_
 refine al_show (m := Mem.plus (memOf w0 Z0 [(oBox bx0 103 [(Value.map (some gm0_0)), v0_1]), (oMapK Tryd.prog 47 gm0_0 (fun x : A8u8 => ag (cA8u8 x)) (fun x : S_api_Blob => ag [(int .i64 x.Kind), (str x.Bytes)]) a0.blobs), (oRow v0_1 42 tyS_api_Item a0.out)] [(oRow v32 42 tyS_api_Item [(S_api_Item.mk ((a2 ++ ([47] : List UInt8)) ++ u18.Name) u18.Kind u18.Mode u18.Time j30s14_4)]), (oMapK Tryd.prog 47 gm0_0 (fun x : A8u8 => ag (cA8u8 x)) (fun x : S_api_Blob => ag [(int .i64 x.Kind), (str x.Bytes)]) j30xm0_0), (oRow v34 42 tyS_api_Item (j30x0_1 ++ ([(S_api_Item.mk ((a2 ++ ([47] : List UInt8)) ++ u18.Name) u18.Kind u18.Mode u18.Time j30s14_4)]))), (oBox bx0 103 [(Value.map (some gm0_0)), v34]), (oBox g24 168 [(str u18.Name), (int .i64 u18.Kind), (int .i64 u18.Mode), (int .i64 u18.Time), (int .i64 u18.Size), s22, (str u18.Link)]), (oBox g29 42 [(str ((a2 ++ ([47] : List UInt8)) ++ u18.Name)), (int .i64 u18.Kind), (int .i64 u18.Mode), (int .i64 u18.Time), (str j30s14_4)]), (oRow v8 168 tyS_api_Node r7.1)] [(fDat (tyList tyA8u8) [s22] u18.Parts), (fDat tyS_api_Node [(str u18.Name), (int .i64 u18.Kind), (int .i64 u18.Mode), (int .i64 u18.Time), (int .i64 u18.Size), s22, (str u18.Link)] u18), uTabs]) X_ Y_) (S := over (tab [(0, (ptr bx0 0)), (2, (str a2)), (3, (int .i64 a3)), (13, (ptr g24 0)), (14, (ptr g29 0)), (33, v8), (34, (int .i64 (r7.1.length : Int))), (35, (int .i64 l12i35))]) F_) ?_
 refine al_mv rfl rfl ?_
 refine al_nil ?_
 exact fr_fin hK_ ()⟩, ⟨_, rfl, [], rfl, by
 intro X_ Y_ F_ K_ hK_
 refine al_show (m := Mem.plus (memOf w0 Z0 [(oBox bx0 103 [(Value.map (some gm0_0)), v0_1]), (oMapK Tryd.prog 47 gm0_0 (fun x : A8u8 => ag (cA8u8 x)) (fun x : S_api_Blob => ag [(int .i64 x.Kind), (str x.Bytes)]) a0.blobs), (oRow v0_1 42 tyS_api_Item a0.out)] [(oRow v32 42 tyS_api_Item [(S_api_Item.mk ((a2 ++ ([47] : List UInt8)) ++ u18.Name) u18.Kind u18.Mode u18.Time j30s14_4)]), (oMapK Tryd.prog 47 gm0_0 (fun x : A8u8 => ag (cA8u8 x)) (fun x : S_api_Blob => ag [(int .i64 x.Kind), (str x.Bytes)]) j30xm0_0), (oRow v34 42 tyS_api_Item (j30x0_1 ++ ([(S_api_Item.mk ((a2 ++ ([47] : List UInt8)) ++ u18.Name) u18.Kind u18.Mode u18.Time j30s14_4)]))), (oBox bx0 103 [(Value.map (some gm0_0)), v34]), (oBox g24 168 [(str u18.Name), (int .i64 u18.Kind), (int .i64 u18.Mode), (int .i64 u18.Time), (int .i64 u18.Size), s22, (str u18.Link)]), (oBox g29 42 [(str ((a2 ++ ([47] : List UInt8)) ++ u18.Name)), (int .i64 u18.Kind), (int .i64 u18.Mode), (int .i64 u18.Time), (str j30s14_4)]), (oRow v8 168 tyS_api_Node r7.1)] [(fDat (tyList tyA8u8) [s22] u18.Parts), (fDat tyS_api_Node [(str u18.Name), (int .i64 u18.Kind), (int .i64 u18.Mode), (int .i64 u18.Time), (int .i64 u18.Size), s22, (str u18.Link)] u18), uTabs]) X_ Y_) (S := over (tab [(0, (ptr bx0 0)), (2, (str a2)), (3, (int .i64 a3)), (13, (ptr g24 0)), (14, (ptr g29 0)), (33, v8), (34, (int .i64 (r7.1.length : Int))), (35, (int .i64 l12i35))]) F_) ?_
 refine al_val (ov_fieldA (p := 5) rfl Tryd.underlying168 rfl sz27 rfl rfl rfl) ?_
 refine al_nil ?_
 exact fr_fin hK_ ()⟩, ⟨_, rfl, [1], rfl, by
 intro _
 intro X_ Y_ F_ K_ hK_
 refine al_show (m := Mem.plus (memOf w0 Z0 [(oBox bx0 103 [(Value.map (some gm0_0)), v0_1]), (oMapK Tryd.prog 47 gm0_0 (fun x : A8u8 => ag (cA8u8 x)) (fun x : S_api_Blob => ag [(int .i64 x.Kind), (str x.Bytes)]) a0.blobs), (oRow v0_1 42 tyS_api_Item a0.out)] [(oRow v32 42 tyS_api_Item [(S_api_Item.mk ((a2 ++ ([47] : List UInt8)) ++ u18.Name) u18.Kind u18.Mode u18.Time j30s14_4)]), (oMapK Tryd.prog 47 gm0_0 (fun x : A8u8 => ag (cA8u8 x)) (fun x : S_api_Blob => ag [(int .i64 x.Kind), (str x.Bytes)]) j30xm0_0), (oRow v34 42 tyS_api_Item (j30x0_1 ++ ([(S_api_Item.mk ((a2 ++ ([47] : List UInt8)) ++ u18.Name) u18.Kind u18.Mode u18.Time j30s14_4)]))), (oBox bx0 103 [(Value.map (some gm0_0)), v34]), (oBox g24 168 [(str u18.Name), (int .i64 u18.Kind), (int .i64 u18.Mode), (int .i64 u18.Time), (int .i64 u18.Size), s22, (str u18.Link)]), (oBox g29 42 [(str ((a2 ++ ([47] : List UInt8)) ++ u18.Name)), (int .i64 u18.Kind), (int .i64 u18.Mode), (int .i64 u18.Time), (str j30s14_4)]), (oRow v8 168 tyS_api_Node r7.1)] [(fDat (tyList tyA8u8) [s22] u18.Parts), (fDat tyS_api_Node [(str u18.Name), (int .i64 u18.Kind), (int .i64 u18.Mode), (int .i64 u18.Time), (int .i64 u18.Size), s22, (str u18.Link)] u18), uTabs]) X_ Y_) (S := over (put (tab [(0, (ptr bx0 0)), (2, (str a2)), (3, (int .i64 a3)), (13, (ptr g24 0)), (14, (ptr g29 0)), (33, v8), (34, (int .i64 (r7.1.length : Int))), (35, (int .i64 l12i35))]) 90 (ptr g24 5)) F_) ?_
 refine al_val (ov_load (i := 4) (v := s22) rfl rfl Tryd.underlying27 sz27 rfl rfl rfl rfl) ?_
 refine al_nil ?_
 exact fr_fin hK_ ()⟩, ⟨_, rfl, [2], rfl, by
 intro _
 intro X_ Y_ F_ K_ hK_
 refine al_show (m := Mem.plus (memOf w0 Z0 [(oBox bx0 103 [(Value.map (some gm0_0)), v0_1]), (oMapK Tryd.prog 47 gm0_0 (fun x : A8u8 => ag (cA8u8 x)) (fun x : S_api_Blob => ag [(int .i64 x.Kind), (str x.Bytes)]) a0.blobs), (oRow v0_1 42 tyS_api_Item a0.out)] [(oRow v32 42 tyS_api_Item [(S_api_Item.mk ((a2 ++ ([47] : List UInt8)) ++ u18.Name) u18.Kind u18.Mode u18.Time j30s14_4)]), (oMapK Tryd.prog 47 gm0_0 (fun x : A8u8 => ag (cA8u8 x)) (fun x : S_api_Blob => ag [(int .i64 x.Kind), (str x.Bytes)]) j30xm0_0), (oRow v34 42 tyS_api_Item (j30x0_1 ++ ([(S_api_Item.mk ((a2 ++ ([47] : List UInt8)) ++ u18.Name) u18.Kind u18.Mode u18.Time j30s14_4)]))), (oBox bx0 103 [(Value.map (some gm0_0)), v34]), (oBox g24 168 [(str u18.Name), (int .i64 u18.Kind), (int .i64 u18.Mode), (int .i64 u18.Time), (int .i64 u18.Size), s22, (str u18.Link)]), (oBox g29 42 [(str ((a2 ++ ([47] : List UInt8)) ++ u18.Name)), (int .i64 u18.Kind), (int .i64 u18.Mode), (int .i64 u18.Time), (str j30s14_4)]), (oRow v8 168 tyS_api_Node r7.1)] [(fDat (tyList tyA8u8) [s22] u18.Parts), (fDat tyS_api_Node [(str u18.Name), (int .i64 u18.Kind), (int .i64 u18.Mode), (int .i64 u18.Time), (int .i64 u18.Size), s22, (str u18.Link)] u18), uTabs]) X_ Y_) (S := over (put (tab [(0, (ptr bx0 0)), (2, (str a2)), (3, (int .i64 a3)), (13, (ptr g24 0)), (14, (ptr g29 0)), (33, v8), (34, (int .i64 (r7.1.length : Int))), (35, (int .i64 l12i35))]) 91 s22) F_) ?_
 refine al_idxD 0 hu37 rfl rfl rfl Tryd.underlying27 sz47 rfl (fun p38 => ?_)
 refine al_nil ?_
 exact fr_fin hK_ p38⟩, ⟨_, rfl, [3], rfl, by
 intro p38
 intro X_ Y_ F_ K_ hK_
 refine al_show (m := Mem.plus (memOf w0 Z0 [(oBox bx0 103 [(Value.map (some gm0_0)), v0_1]), (oMapK Tryd.prog 47 gm0_0 (fun x : A8u8 => ag (cA8u8 x)) (fun x : S_api_Blob => ag [(int .i64 x.Kind), (str x.Bytes)]) a0.blobs), (oRow v0_1 42 tyS_api_Item a0.out)] [(oRow v32 42 tyS_api_Item [(S_api_Item.mk ((a2 ++ ([47] : List UInt8)) ++ u18.Name) u18.Kind u18.Mode u18.Time j30s14_4)]), (oMapK Tryd.prog 47 gm0_0 (fun x : A8u8 => ag (cA8u8 x)) (fun x : S_api_Blob => ag [(int .i64 x.Kind), (str x.Bytes)]) j30xm0_0), (oRow v34 42 tyS_api_Item (j30x0_1 ++ ([(S_api_Item.mk ((a2 ++ ([47] : List UInt8)) ++ u18.Name) u18.Kind u18.Mode u18.Time j30s14_4)]))), (oBox bx0 103 [(Value.map (some gm0_0)), v34]), (oBox g24 168 [(str u18.Name), (int .i64 u18.Kind), (int .i64 u18.Mode), (int .i64 u18.Time), (int .i64 u18.Size), s22, (str u18.Link)]), (oBox g29 42 [(str ((a2 ++ ([47] : List UInt8)) ++ u18.Name)), (int .i64 u18.Kind), (int .i64 u18.Mode), (int .i64 u18.Time), (str j30s14_4)]), (oRow v8 168 tyS_api_Node r7.1)] [(fPtr tyA8u8 p38 u36), (fDat (tyList tyA8u8) [s22] u18.Parts), (fDat tyS_api_Node [(str u18.Name), (int .i64 u18.Kind), (int .i64 u18.Mode), (int .i64 u18.Time), (int .i64 u18.Size), s22, (str u18.Link)] u18), uTabs]) X_ Y_) (S := over (put (tab [(0, (ptr bx0 0)), (2, (str a2)), (3, (int .i64 a3)), (13, (ptr g24 0)), (14, (ptr g29 0)), (33, v8), (34, (int .i64 (r7.1.length : Int))), (35, (int .i64 l12i35))]) 92 p38) F_) ?_
 refine al_val (ov_loadP (ds := (cA8u8 u36)) 0 rfl encA8u8 rfl Tryd.underlying47 sz47 rfl rfl rfl) ?_
 refine al_nil ?_
 exact fr_fin hK_ ()⟩, ⟨_, rfl, [], rfl, by
 intro X_ Y_ F_ K_ hK_
 refine al_show (m := Mem.plus (memOf w0 Z0 [(oBox bx0 103 [(Value.map (some gm0_0)), v0_1]), (oMapK Tryd.prog 47 gm0_0 (fun x : A8u8 => ag (cA8u8 x)) (fun x : S_api_Blob => ag [(int .i64 x.Kind), (str x.Bytes)]) a0.blobs), (oRow v0_1 42 tyS_api_Item a0.out)] [(oRow v32 42 tyS_api_Item [(S_api_Item.mk ((a2 ++ ([47] : List UInt8)) ++ u18.Name) u18.Kind u18.Mode u18.Time j30s14_4)]), (oMapK Tryd.prog 47 gm0_0 (fun x : A8u8 => ag (cA8u8 x)) (fun x : S_api_Blob => ag [(int .i64 x.Kind), (str x.Bytes)]) j30xm0_0), (oRow v34 42 tyS_api_Item (j30x0_1 ++ ([(S_api_Item.mk ((a2 ++ ([47] : List UInt8)) ++ u18.Name) u18.Kind u18.Mode u18.Time j30s14_4)]))), (oBox bx0 103 [(Value.map (some gm0_0)), v34]), (oBox g24 168 [(str u18.Name), (int .i64 u18.Kind), (int .i64 u18.Mode), (int .i64 u18.Time), (int .i64 u18.Size), s22, (str u18.Link)]), (oBox g29 42 [(str ((a2 ++ ([47] : List UInt8)) ++ u18.Name)), (int .i64 u18.Kind), (int .i64 u18.Mode), (int .i64 u18.Time), (str j30s14_4)]), (oRow v8 168 tyS_api_Node r7.1)] [(fDat (tyList tyA8u8) [s22] u18.Parts), (fDat tyS_api_Node [(str u18.Name), (int .i64 u18.Kind), (int .i64 u18.Mode), (int .i64 u18.Time), (int .i64 u18.Size), s22, (str u18.Link)] u18), uTabs]) X_ Y_) (S := over (tab [(0, (ptr bx0 0)), (2, (str a2)), (3, (int .i64 a3)), (13, (ptr g24 0)), (14, (ptr g29 0)), (33, v8), (34, (int .i64 (r7.1.length : Int))), (35, (int .i64 l12i35))]) F_) ?_
 refine al_val (ov_fieldA (p := 0) rfl Tryd.underlying42 rfl sz9 rfl rfl rfl) ?_
 refine al_nil ?_
 exact fr_fin hK_ ()⟩, ⟨_, rfl, [5], rfl, by
 intro _
 intro X_ Y_ F_ K_ hK_
 refine al_show (m := Mem.plus (memOf w0 Z0 [(oBox bx0 103 [(Value.map (some gm0_0)), v0_1]), (oMapK Tryd.prog 47 gm0_0 (fun x : A8u8 => ag (cA8u8 x)) (fun x : S_api_Blob => ag [(int .i64 x.Kind), (str x.Bytes)]) a0.blobs), (oRow v0_1 42 tyS_api_Item a0.out)] [(oRow v32 42 tyS_api_Item [(S_api_Item.mk ((a2 ++ ([47] : List UInt8)) ++ u18.Name) u18.Kind u18.Mode u18.Time j30s14_4)]), (oMapK Tryd.prog 47 gm0_0 (fun x : A8u8 => ag (cA8u8 x)) (fun x : S_api_Blob => ag [(int .i64 x.Kind), (str x.Bytes)]) j30xm0_0), (oRow v34 42 tyS_api_Item (j30x0_1 ++ ([(S_api_Item.mk ((a2 ++ ([47] : List UInt8)) ++ u18.Name) u18.Kind u18.Mode u18.Time j30s14_4)]))), (oBox bx0 103 [(Value.map (some gm0_0)), v34]), (oBox g24 168 [(str u18.Name), (int .i64 u18.Kind), (int .i64 u18.Mode), (int .i64 u18.Time), (int .i64 u18.Size), s22, (str u18.Link)]), (oBox g29 42 [(str ((a2 ++ ([47] : List UInt8)) ++ u18.Name)), (int .i64 u18.Kind), (int .i64 u18.Mode), (int .i64 u18.Time), (str j30s14_4)]), (oRow v8 168 tyS_api_Node r7.1)] [(fDat (tyList tyA8u8) [s22] u18.Parts), (fDat tyS_api_Node [(str u18.Name), (int .i64 u18.Kind), (int .i64 u18.Mode), (int .i64 u18.Time), (int .i64 u18.Size), s22, (str u18.Link)] u18), uTabs]) X_ Y_) (S := over (put (tab [(0, (ptr bx0 0)), (2, (str a2)), (3, (int .i64 a3)), (13, (ptr g24 0)), (14, (ptr g29 0)), (33, v8), (34, (int .i64 (r7.1.length : Int))), (35, (int .i64 l12i35))]) 94 (ptr g29 0)) F_) ?_
 refine al_val (ov_load (i := 5) (v := (str ((a2 ++ ([47] : List UInt8)) ++ u18.Name))) rfl rfl Tryd.underlying9 sz9 rfl rfl rfl rfl) ?_
 refine al_nil ?_
 exact fr_fin hK_ ()⟩, ⟨_, rfl, [], rfl, by
 intro X_ Y_ F_ K_ hK_
 refine al_show (m := Mem.plus (memOf w0 Z0 [(oBox bx0 103 [(Value.map (some gm0_0)), v0_1]), (oMapK Tryd.prog 47 gm0_0 (fun x : A8u8 => ag (cA8u8 x)) (fun x : S_api_Blob => ag [(int .i64 x.Kind), (str x.Bytes)]) a0.blobs), (oRow v0_1 42 tyS_api_Item a0.out)] [(oRow v32 42 tyS_api_Item [(S_api_Item.mk ((a2 ++ ([47] : List UInt8)) ++ u18.Name) u18.Kind u18.Mode u18.Time j30s14_4)]), (oMapK Tryd.prog 47 gm0_0 (fun x : A8u8 => ag (cA8u8 x)) (fun x : S_api_Blob => ag [(int .i64 x.Kind), (str x.Bytes)]) j30xm0_0), (oRow v34 42 tyS_api_Item (j30x0_1 ++ ([(S_api_Item.mk ((a2 ++ ([47] : List UInt8)) ++ u18.Name) u18.Kind u18.Mode u18.Time j30s14_4)]))), (oBox bx0 103 [(Value.map (some gm0_0)), v34]), (oBox g24 168 [(str u18.Name), (int .i64 u18.Kind), (int .i64 u18.Mode), (int .i64 u18.Time), (int .i64 u18.Size), s22, (str u18.Link)]), (oBox g29 42 [(str ((a2 ++ ([47] : List UInt8)) ++ u18.Name)), (int .i64 u18.Kind), (int .i64 u18.Mode), (int .i64 u18.Time), (str j30s14_4)]), (oRow v8 168 tyS_api_Node r7.1)] [(fDat (tyList tyA8u8) [s22] u18.Parts), (fDat tyS_api_Node [(str u18.Name), (int .i64 u18.Kind), (int .i64 u18.Mode), (int .i64 u18.Time), (int .i64 u18.Size), s22, (str u18.Link)] u18), uTabs]) X_ Y_) (S := over (tab [(0, (ptr bx0 0)), (2, (str a2)), (3, (int .i64 a3)), (13, (ptr g24 0)), (14, (ptr g29 0)), (33, v8), (34, (int .i64 (r7.1.length : Int))), (35, (int .i64 l12i35))]) F_) ?_
 refine al_mv rfl rfl ?_
 refine al_nil ?_
 exact fr_fin hK_ ()⟩, ⟨_, rfl, [7], rfl, by
 intro _
 intro X_ Y_ F_ K_ hK_
 refine al_show (m := Mem.plus (memOf w0 Z0 [(oBox bx0 103 [(Value.map (some gm0_0)), v0_1]), (oMapK Tryd.prog 47 gm0_0 (fun x : A8u8 => ag (cA8u8 x)) (fun x : S_api_Blob => ag [(int .i64 x.Kind), (str x.Bytes)]) a0.blobs), (oRow v0_1 42 tyS_api_Item a0.out)] [(oRow v32 42 tyS_api_Item [(S_api_Item.mk ((a2 ++ ([47] : List UInt8)) ++ u18.Name) u18.Kind u18.Mode u18.Time j30s14_4)]), (oMapK Tryd.prog 47 gm0_0 (fun x : A8u8 => ag (cA8u8 x)) (fun x : S_api_Blob => ag [(int .i64 x.Kind), (str x.Bytes)]) j30xm0_0), (oRow v34 42 tyS_api_Item (j30x0_1 ++ ([(S_api_Item.mk ((a2 ++ ([47] : List UInt8)) ++ u18.Name) u18.Kind u18.Mode u18.Time j30s14_4)]))), (oBox bx0 103 [(Value.map (some gm0_0)), v34]), (oBox g24 168 [(str u18.Name), (int .i64 u18.Kind), (int .i64 u18.Mode), (int .i64 u18.Time), (int .i64 u18.Size), s22, (str u18.Link)]), (oBox g29 42 [(str ((a2 ++ ([47] : List UInt8)) ++ u18.Name)), (int .i64 u18.Kind), (int .i64 u18.Mode), (int .i64 u18.Time), (str j30s14_4)]), (oRow v8 168 tyS_api_Node r7.1)] [(fDat (tyList tyA8u8) [s22] u18.Parts), (fDat tyS_api_Node [(str u18.Name), (int .i64 u18.Kind), (int .i64 u18.Mode), (int .i64 u18.Time), (int .i64 u18.Size), s22, (str u18.Link)] u18), uTabs]) X_ Y_) (S := over (put (tab [(0, (ptr bx0 0)), (2, (str a2)), (3, (int .i64 a3)), (13, (ptr g24 0)), (14, (ptr g29 0)), (33, v8), (34, (int .i64 (r7.1.length : Int))), (35, (int .i64 l12i35))]) 96 (int .i64 a3)) F_) ?_
 refine al_in rfl rfl rfl rfl ?_
 refine al_nil ?_
 exact fr_fin hK_ ()⟩, trivial⟩ ?_
           intro _
           intro _
           intro _
           intro p38
           intro _
           intro _
           intro _
           intro _
           intro _
           intro X_ Y_ F_ K_ hK_
           refine al_show (m := Mem.plus (memOf w0 Z0 [(oBox bx0 103 [(Value.map (some gm0_0)), v0_1]), (oMapK Tryd.prog 47 gm0_0 (fun x : A8u8 => ag (cA8u8 x)) (fun x : S_api_Blob => ag [(int .i64 x.Kind), (str x.Bytes)]) a0.blobs), (oRow v0_1 42 tyS_api_Item a0.out)] [(oRow v32 42 tyS_api_Item [(S_api_Item.mk ((a2 ++ ([47] : List UInt8)) ++ u18.Name) u18.Kind u18.Mode u18.Time j30s14_4)]), (oMapK Tryd.prog 47 gm0_0 (fun x : A8u8 => ag (cA8u8 x)) (fun x : S_api_Blob => ag [(int .i64 x.Kind), (str x.Bytes)]) j30xm0_0), (oRow v34 42 tyS_api_Item (j30x0_1 ++ ([(S_api_Item.mk ((a2 ++ ([47] : List UInt8)) ++ u18.Name) u18.Kind u18.Mode u18.Time j30s14_4)]))), (oBox bx0 103 [(Value.map (some gm0_0)), v34]), (oBox g24 168 [(str u18.Name), (int .i64 u18.Kind), (int .i64 u18.Mode), (int .i64 u18.Time), (int .i64 u18.Size), s22, (str u18.Link)]), (oBox g29 42 [(str ((a2 ++ ([47] : List UInt8)) ++ u18.Name)), (int .i64 u18.Kind), (int .i64 u18.Mode), (int .i64 u18.Time), (str j30s14_4)]), (oRow v8 168 tyS_api_Node r7.1)] [(fPtr tyA8u8 p38 u36), (fDat (tyList tyA8u8) [s22] u18.Parts), (fDat tyS_api_Node [(str u18.Name), (int .i64 u18.Kind), (int .i64 u18.Mode), (int .i64 u18.Time), (int .i64 u18.Size), s22, (str u18.Link)] u18), uTabs]) X_ Y_) (S := over (put (put (put (put (put (put (put (put (put (tab [(0, (ptr bx0 0)), (2, (str a2)), (3, (int .i64 a3)), (13, (ptr g24 0)), (14, (ptr g29 0)), (33, v8), (34, (int .i64 (r7.1.length : Int))), (35, (int .i64 l12i35))]) 89 (ptr bx0 0)) 90 (ptr g24 5)) 91 s22) 92 p38) 93 (ag (cA8u8 u36))) 94 (ptr g29 0)) 95 (str ((a2 ++ ([47] : List UInt8)) ++ u18.Name))) 96 (int .i64 a3)) 97 (int .i64 (IntKind.i64.wrap (a3 + (1 : Int))))) F_) ?_
           obtain ⟨r40, hc39, h⟩ := opt_some h
           refine al_callX (vs := [(ptr bx0 0), (ag (cA8u8 u36)), (str ((a2 ++ ([47] : List UInt8)) ++ u18.Name)), (int .i64 (IntKind.i64.wrap (a3 + (1 : Int))))]) (f___walk_reaper__directory_ok fu bx0 gm0_0 v34 (D_walk_reaper.mk j30xm0_0 (j30x0_1 ++ ([(S_api_Item.mk ((a2 ++ ([47] : List UInt8)) ++ u18.Name) u18.Kind u18.Mode u18.Time j30s14_4)]))) u36 ((a2 ++ ([47] : List UInt8)) ++ u18.Name) (IntKind.i64.wrap (a3 + (1 : Int))) hc39) [] [3, 1, 2] [0, 4, 5, 6] (pre_fz 3 rfl pre_nil) rfl (by simp) (by decide) rfl (.inl rfl) rfl Tryd.func58 rfl rfl rfl (fun v41 => ?_)
           refine al_nil ?_
           refine aq_show (m := Mem.plus (memOf w0 Z0 [(oBox bx0 103 [(Value.map (some gm0_0)), v0_1]), (oMapK Tryd.prog 47 gm0_0 (fun x : A8u8 => ag (cA8u8 x)) (fun x : S_api_Blob => ag [(int .i64 x.Kind), (str x.Bytes)]) a0.blobs), (oRow v0_1 42 tyS_api_Item a0.out)] [(oBox bx0 103 [(Value.map (some gm0_0)), v41]), (oMapK Tryd.prog 47 gm0_0 (fun x : A8u8 => ag (cA8u8 x)) (fun x : S_api_Blob => ag [(int .i64 x.Kind), (str x.Bytes)]) r40.2.blobs), (oRow v41 42 tyS_api_Item r40.2.out), (oRow v32 42 tyS_api_Item [(S_api_Item.mk ((a2 ++ ([47] : List UInt8)) ++ u18.Name) u18.Kind u18.Mode u18.Time j30s14_4)]), (oBox g24 168 [(str u18.Name), (int .i64 u18.Kind), (int .i64 u18.Mode), (int .i64 u18.Time), (int .i64 u18.Size), s22, (str u18.Link)]), (oBox g29 42 [(str ((a2 ++ ([47] : List UInt8)) ++ u18.Name)), (int .i64 u18.Kind), (int .i64 u18.Mode), (int .i64 u18.Time), (str j30s14_4)]), (oRow v8 168 tyS_api_Node r7.1)] [(fPtr tyA8u8 p38 u36), (fDat (tyList tyA8u8) [s22] u18.Parts), (fDat tyS_api_Node [(str u18.Name), (int .i64 u18.Kind), (int .i64 u18.Mode), (int .i64 u18.Time), (int .i64 u18.Size), s22, (str u18.Link)] u18), uTabs]) X_ Y_) ?_
           refine aq_next hK_ [0, 1, 2, 3, 4, 5, 6] [1, 2, 3] [(0, (ptr bx0 0)), (2, (str a2)), (3, (int .i64 a3)), (33, v8), (34, (int .i64 (r7.1.length : Int))), (35, (int .i64 l12i35)), (98, (int .i64 r40.1))] [] [] rfl rfl (by decide) rfl ⟨rfl, rfl, rfl, rfl, rfl, rfl, rfl, trivial⟩ trivial ?_
           clear hK_ K_ F_ X_ Y_
           refine ta_show (m := (memOf w0 Z0 [(oBox bx0 103 [(Value.map (some gm0_0)), v0_1]), (oMapK Tryd.prog 47 gm0_0 (fun x : A8u8 => ag (cA8u8 x)) (fun x : S_api_Blob => ag [(int .i64 x.Kind), (str x.Bytes)]) a0.blobs), (oRow v0_1 42 tyS_api_Item a0.out)] [(oBox bx0 103 [(Value.map (some gm0_0)), v41]), (oMapK Tryd.prog 47 gm0_0 (fun x : A8u8 => ag (cA8u8 x)) (fun x : S_api_Blob => ag [(int .i64 x.Kind), (str x.Bytes)]) r40.2.blobs), (oRow v41 42 tyS_api_Item r40.2.out), (oRow v32 42 tyS_api_Item [(S_api_Item.mk ((a2 ++ ([47] : List UInt8)) ++ u18.Name) u18.Kind u18.Mode u18.Time j30s14_4)]), (oBox g24 168 [(str u18.Name), (int .i64 u18.Kind), (int .i64 u18.Mode), (int .i64 u18.Time), (int .i64 u18.Size), s22, (str u18.Link)]), (oBox g29 42 [(str ((a2 ++ ([47] : List UInt8)) ++ u18.Name)), (int .i64 u18.Kind), (int .i64 u18.Mode), (int .i64 u18.Time), (str j30s14_4)]), (oRow v8 168 tyS_api_Node r7.1)] [(fDat (tyList tyA8u8) [s22] u18.Parts), (fDat tyS_api_Node [(str u18.Name), (int .i64 u18.Kind), (int .i64 u18.Mode), (int .i64 u18.Time), (int .i64 u18.Size), s22, (str u18.Link)] u18), uTabs])) (S := (tab [(0, (ptr bx0 0)), (2, (str a2)), (3, (int .i64 a3)), (33, v8), (34, (int .i64 (r7.1.length : Int))), (35, (int .i64 l12i35)), (98, (int .i64 r40.1))])) ?_
           refine ta_step 10 _ [] [] [] [] [] [] rfl rfl rfl (by kernel_rfl) rfl rfl rfl trivial ?_
           intro X_ Y_ F_ K_ hK_
           refine al_show (m := Mem.plus (memOf w0 Z0 [(oBox bx0 103 [(Value.map (some gm0_0)), v0_1]), (oMapK Tryd.prog 47 gm0_0 (fun x : A8u8 => ag (cA8u8 x)) (fun x : S_api_Blob => ag [(int .i64 x.Kind), (str x.Bytes)]) a0.blobs), (oRow v0_1 42 tyS_api_Item a0.out)] [(oBox bx0 103 [(Value.map (some gm0_0)), v41]), (oMapK Tryd.prog 47 gm0_0 (fun x : A8u8 => ag (cA8u8 x)) (fun x : S_api_Blob => ag [(int .i64 x.Kind), (str x.Bytes)]) r40.2.blobs), (oRow v41 42 tyS_api_Item r40.2.out), (oRow v32 42 tyS_api_Item [(S_api_Item.mk ((a2 ++ ([47] : List UInt8)) ++ u18.Name) u18.Kind u18.Mode u18.Time j30s14_4)]), (oBox g24 168 [(str u18.Name), (int .i64 u18.Kind), (int .i64 u18.Mode), (int .i64 u18.Time), (int .i64 u18.Size), s22, (str u18.Link)]), (oBox g29 42 [(str ((a2 ++ ([47] : List UInt8)) ++ u18.Name)), (int .i64 u18.Kind), (int .i64 u18.Mode), (int .i64 u18.Time), (str j30s14_4)]), (oRow v8 168 tyS_api_Node r7.1)] [(fDat (tyList tyA8u8) [s22] u18.Parts), (fDat tyS_api_Node [(str u18.Name), (int .i64 u18.Kind), (int .i64 u18.Mode), (int .i64 u18.Time), (int .i64 u18.Size), s22, (str u18.Link)] u18), uTabs]) X_ Y_) (S := over (tab [(0, (ptr bx0 0)), (2, (str a2)), (3, (int .i64 a3)), (33, v8), (34, (int .i64 (r7.1.length : Int))), (35, (int .i64 l12i35)), (98, (int .i64 r40.1))]) F_) ?_
           refine al_as rfl rfl ?_
           refine al_nil ?_
           refine aq_show (m := Mem.plus (memOf w0 Z0 [(oBox bx0 103 [(Value.map (some gm0_0)), v0_1]), (oMapK Tryd.prog 47 gm0_0 (fun x : A8u8 => ag (cA8u8 x)) (fun x : S_api_Blob => ag [(int .i64 x.Kind), (str x.Bytes)]) a0.blobs), (oRow v0_1 42 tyS_api_Item a0.out)] [(oBox bx0 103 [(Value.map (some gm0_0)), v41]), (oMapK Tryd.prog 47 gm0_0 (fun x : A8u8 => ag (cA8u8 x)) (fun x : S_api_Blob => ag [(int .i64 x.Kind), (str x.Bytes)]) r40.2.blobs), (oRow v41 42 tyS_api_Item r40.2.out), (oRow v32 42 tyS_api_Item [(S_api_Item.mk ((a2 ++ ([47] : List UInt8)) ++ u18.Name) u18.Kind u18.Mode u18.Time j30s14_4)]), (oBox g24 168 [(str u18.Name), (int .i64 u18.Kind), (int .i64 u18.Mode), (int .i64 u18.Time), (int .i64 u18.Size), s22, (str u18.Link)]), (oBox g29 42 [(str ((a2 ++ ([47] : List UInt8)) ++ u18.Name)), (int .i64 u18.Kind), (int .i64 u18.Mode), (int .i64 u18.Time), (str j30s14_4)]), (oRow v8 168 tyS_api_Node r7.1)] [(fDat (tyList tyA8u8) [s22] u18.Parts), (fDat tyS_api_Node [(str u18.Name), (int .i64 u18.Kind), (int .i64 u18.Mode), (int .i64 u18.Time), (int .i64 u18.Size), s22, (str u18.Link)] u18), uTabs]) X_ Y_) ?_
           refine aq_next hK_ [0, 1, 2, 3, 4, 5, 6] [0, 1, 2] [(0, (ptr bx0 0)), (2, (str a2)), (3, (int .i64 a3)), (15, (int .i64 r40.1)), (33, v8), (34, (int .i64 (r7.1.length : Int))), (35, (int .i64 l12i35))] [] [] rfl rfl (by decide) rfl ⟨rfl, rfl, rfl, rfl, rfl, rfl, rfl, trivial⟩ trivial ?_
           clear hK_ K_ F_ X_ Y_
           refine ta_show (m := (memOf w0 Z0 [(oBox bx0 103 [(Value.map (some gm0_0)), v0_1]), (oMapK Tryd.prog 47 gm0_0 (fun x : A8u8 => ag (cA8u8 x)) (fun x : S_api_Blob => ag [(int .i64 x.Kind), (str x.Bytes)]) a0.blobs), (oRow v0_1 42 tyS_api_Item a0.out)] [(oBox bx0 103 [(Value.map (some gm0_0)), v41]), (oMapK Tryd.prog 47 gm0_0 (fun x : A8u8 => ag (cA8u8 x)) (fun x : S_api_Blob => ag [(int .i64 x.Kind), (str x.Bytes)]) r40.2.blobs), (oRow v41 42 tyS_api_Item r40.2.out), (oRow v32 42 tyS_api_Item [(S_api_Item.mk ((a2 ++ ([47] : List UInt8)) ++ u18.Name) u18.Kind u18.Mode u18.Time j30s14_4)]), (oBox g24 168 [(str u18.Name), (int .i64 u18.Kind), (int .i64 u18.Mode), (int .i64 u18.Time), (int .i64 u18.Size), s22, (str u18.Link)]), (oBox g29 42 [(str ((a2 ++ ([47] : List UInt8)) ++ u18.Name)), (int .i64 u18.Kind), (int .i64 u18.Mode), (int .i64 u18.Time), (str j30s14_4)]), (oRow v8 168 tyS_api_Node r7.1)] [(fDat (tyList tyA8u8) [s22] u18.Parts), (fDat tyS_api_Node [(str u18.Name), (int .i64 u18.Kind), (int .i64 u18.Mode), (int .i64 u18.Time), (int .i64 u18.Size), s22, (str u18.Link)] u18), uTabs])) (S := (tab [(0, (ptr bx0 0)), (2, (str a2)), (3, (int .i64 a3)), (15, (int .i64 r40.1)), (33, v8), (34, (int .i64 (r7.1.length : Int))), (35, (int .i64 l12i35))])) ?_
           refine ta_end [] [] rfl rfl (by kernel_rfl) rfl trivial ?_
           refine aq_show (m := (memOf w0 Z0 [(oBox bx0 103 [(Value.map (some gm0_0)), v0_1]), (oMapK Tryd.prog 47 gm0_0 (fun x : A8u8 => ag (cA8u8 x)) (fun x : S_api_Blob => ag [(int .i64 x.Kind), (str x.Bytes)]) a0.blobs), (oRow v0_1 42 tyS_api_Item a0.out)] [(oBox bx0 103 [(Value.map (some gm0_0)), v41]), (oMapK Tryd.prog 47 gm0_0 (fun x : A8u8 => ag (cA8u8 x)) (fun x : S_api_Blob => ag [(int .i64 x.Kind), (str x.Bytes)]) r40.2.blobs), (oRow v41 42 tyS_api_Item r40.2.out), (oRow v32 42 tyS_api_Item [(S_api_Item.mk ((a2 ++ ([47] : List UInt8)) ++ u18.Name) u18.Kind u18.Mode u18.Time j30s14_4)]), (oBox g24 168 [(str u18.Name), (int .i64 u18.Kind), (int .i64 u18.Mode), (int .i64 u18.Time), (int .i64 u18.Size), s22, (str u18.Link)]), (oBox g29 42 [(str ((a2 ++ ([47] : List UInt8)) ++ u18.Name)), (int .i64 u18.Kind), (int .i64 u18.Mode), (int .i64 u18.Time), (str j30s14_4)]), (oRow v8 168 tyS_api_Node r7.1)] [(fDat (tyList tyA8u8) [s22] u18.Parts), (fDat tyS_api_Node [(str u18.Name), (int .i64 u18.Kind), (int .i64 u18.Mode), (int .i64 u18.Time), (int .i64 u18.Size), s22, (str u18.Link)] u18), uTabs])) (S := (tab [(0, (ptr bx0 0)), (2, (str a2)), (3, (int .i64 a3)), (15, (int .i64 r40.1)), (33, v8), (34, (int .i64 (r7.1.length : Int))), (35, (int .i64 l12i35))])) ?_
           refine aq_tr ?_
           refine al_mv rfl rfl ?_
           refine al_in rfl rfl rfl rfl ?_
           refine al_nt ?_
           refine aw_cond rfl (fun hb42 => ?_) (fun hb42 => ?_)
           ·replace h := bif_t hb42 h
            refine aw_sr ?_
            refine al_mv rfl rfl ?_
            refine al_as rfl rfl ?_
            refine al_nt ?_
            refine aw_ret ?_
            refine aq_block_ret ?_
            refine aq_then_ret ?_
            refine aq_then_ret ?_
            refine aq_block_ret ?_
            refine aq_then_ret ?_
            obtain rfl := Option.some.inj h
            exact fn_ret v41 [0, 1, 2] [] rfl rfl rfl rfl (res1 rfl rfl) rfl rfl rfl (by decide)
           ·replace h := bif_f hb42 h
            refine aw_skip ?_
            refine aq_block ?_
            exact aq_join (r40.2.blobs, v41, r40.2.out) h (fun w a hm hs => norm hm hs [1, 2, 0, 6] [2] [(0, (ptr bx0 0)), (2, (str a2)), (3, (int .i64 a3)), (33, v8), (34, (int .i64 (r7.1.length : Int))), (35, (int .i64 l12i35))] (by decide) ⟨rfl, rfl, rfl, rfl, rfl, rfl, trivial⟩)
          ·replace h := bif_f hb35 h
           refine aw_skip ?_
           refine aq_block ?_
           exact aq_join (j30xm0_0, v34, (j30x0_1 ++ ([(S_api_Item.mk ((a2 ++ ([47] : List UInt8)) ++ u18.Name) u18.Kind u18.Mode u18.Time j30s14_4)]))) h (fun w a hm hs => norm hm hs [1, 2, 3, 6] [2] [(0, (ptr bx0 0)), (2, (str a2)), (3, (int .i64 a3)), (33, v8), (34, (int .i64 (r7.1.length : Int))), (35, (int .i64 l12i35))] (by decide) ⟨rfl, rfl, rfl, rfl, rfl, rfl, trivial⟩)
         ·clear hkk31
          refine aw_sr ?_
          refine al_val (ov_fieldA (p := 1) rfl Tryd.underlying168 rfl sz3 rfl rfl rfl) ?_
          refine al_val (ov_load (i := 1) (v := (int .i64 u18.Kind)) rfl rfl Tryd.underlying3 sz3 rfl rfl rfl rfl) ?_
          refine al_in rfl rfl rfl rfl ?_
          refine al_nt ?_
          refine aw_cond rfl (fun hb43 => ?_) (fun hb43 => ?_)
          ·replace h := bif_t hb43 h
           refine aw_sr ?_
           refine al_mv rfl rfl ?_
           refine al_val (ov_load (i := 1) (v := (ag [(str u18.Name), (int .i64 u18.Kind), (int .i64 u18.Mode), (int .i64 u18.Time), (int .i64 u18.Size), s22, (str u18.Link)])) rfl rfl Tryd.underlying168 sz168 rfl rfl rfl rfl) ?_
           obtain ⟨r45, hc44, h⟩ := opt_some h
           refine al_call (vs := [(ptr bx0 0), (ag [(str u18.Name), (int .i64 u18.Kind), (int .i64 u18.Mode), (int .i64 u18.Time), (int .i64 u18.Size), s22, (str u18.Link)])]) (f___walk_reaper__file_ok fu bx0 gm0_0 l12v0_1 (D_walk_reaper.mk l12xm0_0 l12x0_1) s22 u18 hc44) [] [4, 2, 3] [0, 1, 5] (pre_fz 0 rfl pre_nil) rfl (by simp) (by decide) (.inl rfl) rfl Tryd.func108 rfl rfl rfl (fun v46 => ?_)
           refine al_mv rfl rfl ?_
           refine al_ex rfl rfl rfl ?_
           refine al_ex rfl rfl rfl ?_
           refine al_val (ov_fieldA (p := 4) rfl Tryd.underlying42 rfl sz9 rfl rfl rfl) ?_
           refine al_store (i := 3) (vs := [(str r45.1)]) (cs' := [(str ((a2 ++ ([47] : List UInt8)) ++ u18.Name)), (int .i64 u18.Kind), (int .i64 u18.Mode), (int .i64 u18.Time), (str r45.1)]) rfl rfl rfl sz9 (cv_rfl rfl) rfl (co_val rfl co_nil) (Nat.le_of_ble_eq_true rfl) rfl rfl ?_
           refine al_as rfl rfl ?_
           refine al_nt ?_
           refine aw_seq ?_
           refine aw_state (m' := (memOf w0 Z0 [(oBox bx0 103 [(Value.map (some gm0_0)), v0_1]), (oMapK Tryd.prog 47 gm0_0 (fun x : A8u8 => ag (cA8u8 x)) (fun x : S_api_Blob => ag [(int .i64 x.Kind), (str x.Bytes)]) a0.blobs), (oRow v0_1 42 tyS_api_Item a0.out)] [(oBox bx0 103 [(Value.map (some gm0_0)), v46]), (oMapK Tryd.prog 47 gm0_0 (fun x : A8u8 => ag (cA8u8 x)) (fun x : S_api_Blob => ag [(int .i64 x.Kind), (str x.Bytes)]) r45.2.2.blobs), (oRow v46 42 tyS_api_Item r45.2.2.out), (oBox g29 42 [(str ((a2 ++ ([47] : List UInt8)) ++ u18.Name)), (int .i64 u18.Kind), (int .i64 u18.Mode), (int .i64 u18.Time), (str r45.1)]), (oBox g24 168 [(str u18.Name), (int .i64 u18.Kind), (int .i64 u18.Mode), (int .i64 u18.Time), (int .i64 u18.Size), s22, (str u18.Link)]), (oRow v8 168 tyS_api_Node r7.1)] [(fDat (tyList tyA8u8) [s22] u18.Parts), (fDat tyS_api_Node [(str u18.Name), (int .i64 u18.Kind), (int .i64 u18.Mode), (int .i64 u18.Time), (int .i64 u18.Size), s22, (str u18.Link)] u18), uTabs])) (S' := (tab [(0, (ptr bx0 0)), (2, (str a2)), (3, (int .i64 a3)), (10, (int .i64 r45.2.1)), (13, (ptr g24 0)), (14, (ptr g29 0)), (33, v8), (34, (int .i64 (r7.1.length : Int))), (35, (int .i64 l12i35))])) ?_ (fun w a hm hs => norm hm hs [0, 1, 2, 3, 4, 5] [0, 1, 2] [(0, (ptr bx0 0)), (2, (str a2)), (3, (int .i64 a3)), (10, (int .i64 r45.2.1)), (13, (ptr g24 0)), (14, (ptr g29 0)), (33, v8), (34, (int .i64 (r7.1.length : Int))), (35, (int .i64 l12i35))] (by decide) ⟨rfl, rfl, rfl, rfl, rfl, rfl, rfl, rfl, rfl, trivial⟩)
           refine aw_region ?_
           refine al_mv rfl rfl ?_
           refine al_in rfl rfl rfl rfl ?_
           refine al_nt ?_
           refine aw_cond rfl (fun hb47 => ?_) (fun hb47 => ?_)
           ·replace h := bif_t hb47 h
            refine aw_sr ?_
            refine al_mv rfl rfl ?_
            refine al_as rfl rfl ?_
            refine al_nt ?_
            refine aw_ret ?_
            refine aq_then_ret ?_
            refine aq_block_ret ?_
            refine aq_then_ret ?_
            refine aq_then_ret ?_
            refine aq_block_ret ?_
            refine aq_then_ret ?_
            obtain rfl := Option.some.inj h
            exact fn_ret v46 [0, 1, 2] [] rfl rfl rfl rfl (res1 rfl rfl) rfl rfl rfl (by decide)
           ·replace h := bif_f hb47 h
            refine aw_skip ?_
            exact aq_join (r45.2.2.blobs, v46, r45.2.2.out, r45.1) h (fun w a hm hs => norm hm hs [1, 2, 0, 4, 3, 5] [0, 1, 2] [(0, (ptr bx0 0)), (2, (str a2)), (3, (int .i64 a3)), (13, (ptr g24 0)), (14, (ptr g29 0)), (33, v8), (34, (int .i64 (r7.1.length : Int))), (35, (int .i64 l12i35))] (by decide) ⟨rfl, rfl, rfl, rfl, rfl, rfl, rfl, rfl, trivial⟩)
          ·replace h := bif_f hb43 h
           refine aw_skip ?_
           exact aq_join (l12xm0_0, l12v0_1, l12x0_1, u18.Link) h (fun w a hm hs => norm hm hs [2, 3, 4, 1, 0, 5] [0, 1, 2] [(0, (ptr bx0 0)), (2, (str a2)), (3, (int .i64 a3)), (13, (ptr g24 0)), (14, (ptr g29 0)), (33, v8), (34, (int .i64 (r7.1.length : Int))), (35, (int .i64 l12i35))] (by decide) ⟨rfl, rfl, rfl, rfl, rfl, rfl, rfl, rfl, trivial⟩)
     ·replace h := bif_f hb15 h
      refine aw_exit ?_
      refine aq_then_exit ?_
      refine aq_then_exit ?_
      refine aq_block_exit ?_
      exact aq_join (l12xm0_0, l12v0_1, l12x0_1) h (fun w a hm hs => norm hm hs [0, 1, 2] [0] [(0, (ptr bx0 0))] (by decide) ⟨rfl, trivial⟩)
def f_walk_Reap (fu : Nat) (a0 : (List S_api_Blob)) (a1 : A8u8) : Option ((List S_api_Item) × Int) := (opt (f_walk_Heap fu a0) fun (r3 : ((Option (List (A8u8 × S_api_Blob))) × Int)) => (bif (r3.2 != (0 : Int)) then (some (([] : List S_api_Item), r3.2)) else (opt r3.1 fun (lm6 : (List (A8u8 × S_api_Blob))) => (opt (f___walk_reaper__directory fu (D_walk_reaper.mk lm6 ([] : List S_api_Item)) a1 ([] : List UInt8) (0 : Int)) fun (r12 : (Int × D_walk_reaper)) => (bif (r12.1 != (0 : Int)) then (some (([] : List S_api_Item), r12.1)) else (some (r12.2.out, (0 : Int))))))))
set_option maxRecDepth 100000 in
theorem f_walk_Reap_ok (fu : Nat) (v0_0 : Value) (a0 : (List S_api_Blob)) (a1 : A8u8) {r : ((List S_api_Item) × Int)} (h : f_walk_Reap fu a0 a1 = some r) : FnOk Tryd.prog 20 [v0_0, (ag (cA8u8 a1))] [(fDat (tyList tyS_api_Blob) [v0_0] a0), uTabs] [] (fun (i : Value) => { val := (Value.tuple #[i, (int .i64 r.2)]), own := [(oRow i 42 tyS_api_Item r.1)] }) := by
 unfold f_walk_Reap at h
 refine fn_enter Tryd.func20 rfl Tryd.ntmps20 rfl (fun w0 Z0 => ?_)
 refine aw_sr ?_
 refine al_box (vs := (cA8u8 a1)) rfl (cv_rfl rfl) rfl (fun g1 => ?_)
 refine al_as rfl rfl ?_
 refine al_as rfl rfl ?_
 refine al_nt ?_
 refine aw_sr ?_
 refine al_mv rfl rfl ?_
 obtain ⟨r3, hc2, h⟩ := opt_some h
 refine al_call (vs := [v0_0]) (f_walk_Heap_ok fu v0_0 a0 hc2) [] [] [0] (pre_fz 0 rfl pre_nil) rfl (by simp) (by decide) (.inl rfl) rfl Tryd.func43 rfl rfl rfl (fun v4 => ?_)
 refine al_mv rfl rfl ?_
 refine al_ex rfl rfl rfl ?_
 refine al_ex rfl rfl rfl ?_
 refine al_as rfl rfl ?_
 refine al_as rfl rfl ?_
 refine al_nt ?_
 refine aw_seq ?_
 refine aw_sr ?_
 refine al_mv rfl rfl ?_
 refine al_in rfl rfl rfl rfl ?_
 refine al_nt ?_
 refine aw_cond rfl (fun hb5 => ?_) (fun hb5 => ?_)
 ·replace h := bif_t hb5 h
  refine aw_sr ?_
  refine al_mv rfl rfl ?_
  refine al_as rfl rfl ?_
  refine al_as rfl rfl ?_
  refine al_nt ?_
  refine aw_ret ?_
  refine aq_then_ret ?_
  refine aq_nilR 42 tyS_api_Item ?_
  obtain rfl := Option.some.inj h
  exact fn_ret (Value.slice none 0 0) [0] [] rfl rfl rfl rfl (res2 rfl rfl rfl) rfl rfl rfl (by decide)
 ·replace h := bif_f hb5 h
  refine aw_skip ?_
  refine aq_tr ?_
  refine al_mv rfl rfl ?_
  obtain ⟨lm6, hc7, h⟩ := opt_some h
  refine al_mapIs 0 rfl hc7 (fun g8 hv9 => ?_)
  subst hv9
  refine al_val (ov_build (cells := ([(Value.map (some g8)), (Value.slice none 0 0)]).toArray) (cs := [(Value.map (some g8)), (Value.slice none 0 0)]) rfl (fun w a hm hs => by simp only [List.map_toArray, List.map_cons, List.map_nil, List.toList_toArray, hs.ev (x := .tmp 18) rfl]; kernel_rfl)) ?_
  refine al_box (vs := [(Value.map (some g8)), (Value.slice none 0 0)]) rfl (cv_rfl rfl) rfl (fun g10 => ?_)
  refine al_as rfl rfl ?_
  refine al_nt ?_
  refine aw_seq ?_
  refine aw_sr ?_
  refine al_mv rfl rfl ?_
  refine al_val (ov_load (i := 2) (v := (ag (cA8u8 a1))) rfl rfl Tryd.underlying47 sz47 rfl rfl rfl rfl) ?_
  refine al_nilR 42 tyS_api_Item ?_
  obtain ⟨r12, hc11, h⟩ := opt_some h
  refine al_call (vs := [(ptr g10 0), (ag (cA8u8 a1)), (str ([] : List UInt8)), (int .i64 (0 : Int))]) (f___walk_reaper__directory_ok fu g10 g8 (Value.slice none 0 0) (D_walk_reaper.mk lm6 ([] : List S_api_Item)) a1 ([] : List UInt8) (0 : Int) hc11) [] [1, 2, 0] [3] (pre_fz 1 rfl pre_nil) rfl (by simp) (by decide) (.inl rfl) rfl Tryd.func58 rfl rfl rfl (fun v13 => ?_)
  refine al_as rfl rfl ?_
  refine al_nt ?_
  refine aw_sr ?_
  refine al_mv rfl rfl ?_
  refine al_in rfl rfl rfl rfl ?_
  refine al_nt ?_
  refine aw_cond rfl (fun hb14 => ?_) (fun hb14 => ?_)
  ·replace h := bif_t hb14 h
   refine aw_sr ?_
   refine al_mv rfl rfl ?_
   refine al_as rfl rfl ?_
   refine al_as rfl rfl ?_
   refine al_nt ?_
   refine aw_ret ?_
   refine aq_then_ret ?_
   refine aq_nilR 42 tyS_api_Item ?_
   obtain rfl := Option.some.inj h
   exact fn_ret (Value.slice none 0 0) [0] [] rfl rfl rfl rfl (res2 rfl rfl rfl) rfl rfl rfl (by decide)
  ·replace h := bif_f hb14 h
   refine aw_skip ?_
   refine aq_tr ?_
   refine al_mv rfl rfl ?_
   refine al_val (ov_nilCheck rfl rfl) ?_
   refine al_val (ov_fieldA (p := 1) rfl Tryd.underlying103 rfl sz36 rfl rfl rfl) ?_
   refine al_val (ov_load (i := 0) (v := v13) rfl rfl Tryd.underlying36 sz36 rfl rfl rfl rfl) ?_
   refine al_as rfl rfl ?_
   refine al_as rfl rfl ?_
   refine al_nt ?_
   refine aw_ret ?_
   obtain rfl := Option.some.inj h
   exact fn_ret v13 [2] [] rfl rfl rfl rfl (res2 rfl rfl rfl) rfl rfl rfl (by decide)
def f_lumref_kindOK (fu : Nat) (a0 : Int) : Option Bool := (lt (fun (j1b2 : Bool) => (some j1b2)) fun (kk2 : Bool → Option Bool) => (bif (a0 == (1 : Int)) then (kk2 true) else (bif (a0 == (2 : Int)) then (kk2 true) else (kk2 (a0 == (3 : Int))))))
set_option maxRecDepth 100000 in
theorem f_lumref_kindOK_ok (fu : Nat) (a0 : Int) {r : Bool} (h : f_lumref_kindOK fu a0 = some r) : FnOk Tryd.prog 78 [(int .i64 a0)] [] [] (fun (i : Unit) => { val := (bool r) }) := by
 unfold f_lumref_kindOK at h
 refine fn_enter Tryd.func78 rfl Tryd.ntmps78 rfl (fun w0 Z0 => ?_)
 refine aw_sr ?_
 refine al_as rfl rfl ?_
 refine al_nt ?_
 obtain ⟨kk2, hkk2, h⟩ := lt_some h
 refine aw_seq_join (ι := Bool) (fun i => (memOf w0 Z0 [] [] [])) (fun i => (tab [(2, (bool i))])) (fun i => kk2 i = some r) ?_ ?_
 ·rintro j1b2 h
  have h : kk2 j1b2 = some r := h
  rw [hkk2] at h
  dsimp only at h
  clear hkk2
  refine aw_show (m := (memOf w0 Z0 [] [] [])) (S := (tab [(2, (bool j1b2))])) ?_
  refine aw_ret ?_
  obtain rfl := Option.some.inj h
  exact fn_ret () [] [] rfl rfl rfl rfl (res1 rfl rfl) rfl rfl rfl (by decide)
 ·clear hkk2
  refine aw_region ?_
  refine al_mv rfl rfl ?_
  refine al_in rfl rfl rfl rfl ?_
  refine al_mv rfl rfl ?_
  refine al_caseB 5 rfl (fun hb3 => ?_) (fun hb3 => ?_)
  ·replace h := bif_t hb3 h
   refine al_skip ?_
   refine al_skip ?_
   refine al_val (ov_pick_t rfl rfl rfl) ?_
   refine al_mv rfl rfl ?_
   refine al_skip ?_
   refine al_skip ?_
   refine al_val (ov_pick_t rfl rfl rfl) ?_
   refine al_as rfl rfl ?_
   refine al_nil ?_
   exact aq_join true h (fun w a hm hs => norm hm hs [] [] [(2, (bool true))] (by decide) ⟨rfl, trivial⟩)
  ·replace h := bif_f hb3 h
   refine al_mv rfl rfl ?_
   refine al_in rfl rfl rfl rfl ?_
   refine al_val (ov_pick_f rfl rfl rfl) ?_
   refine al_mv rfl rfl ?_
   refine al_caseB 9 rfl (fun hb4 => ?_) (fun hb4 => ?_)
   ·replace h := bif_t hb4 h
    refine al_skip ?_
    refine al_skip ?_
    refine al_val (ov_pick_t rfl rfl rfl) ?_
    refine al_as rfl rfl ?_
    refine al_nil ?_
    exact aq_join true h (fun w a hm hs => norm hm hs [] [] [(2, (bool true))] (by decide) ⟨rfl, trivial⟩)
   ·replace h := bif_f hb4 h
    refine al_mv rfl rfl ?_
    refine al_in rfl rfl rfl rfl ?_
    refine al_val (ov_pick_f rfl rfl rfl) ?_
    refine al_as rfl rfl ?_
    refine al_nil ?_
    exact aq_join (a0 == (3 : Int)) h (fun w a hm hs => norm hm hs [] [] [(2, (bool (a0 == (3 : Int))))] (by decide) ⟨rfl, trivial⟩)
def f_lumref_Narrow_1 (fu : Nat) (a0 : Int) (a1 : Int) : Option Int := (bif (a1 == (64 : Int)) then (some a0) else (req (0 ≤ a1) (req ((IntKind.u64.wrap ((1 : Int) * 2 ^ min (a1).toNat (IntKind.bits .u64))) ≠ 0) (some ((a0).tmod (IntKind.u64.wrap ((1 : Int) * 2 ^ min (a1).toNat (IntKind.bits .u64))))))))
set_option maxRecDepth 100000 in
theorem f_lumref_Narrow_1_ok (fu : Nat) (a0 : Int) (c1 : Value) (a1 : Int) {r : Int} (h : f_lumref_Narrow_1 fu a0 a1 = some r) : FnOk Tryd.prog 187 [(int .u64 a0), c1] [(fPtr (tyInt .i64) c1 a1)] [] (fun (i : Unit) => { val := (int .u64 r) }) := by
 unfold f_lumref_Narrow_1 at h
 refine fn_enter Tryd.func187 rfl Tryd.ntmps187 rfl (fun w0 Z0 => ?_)
 refine aw_sr ?_
 refine al_as rfl rfl ?_
 refine al_nt ?_
 refine aw_seq ?_
 refine aw_sr ?_
 refine al_val (ov_loadP (ds := [(int .i64 a1)]) 0 rfl (fun h => h) rfl Tryd.underlying3 sz3 rfl rfl rfl) ?_
 refine al_in rfl rfl rfl rfl ?_
 refine al_nt ?_
 refine aw_cond rfl (fun hb1 => ?_) (fun hb1 => ?_)
 ·replace h := bif_t hb1 h
  refine aw_sr ?_
  refine al_mv rfl rfl ?_
  refine al_as rfl rfl ?_
  refine al_nt ?_
  refine aw_ret ?_
  refine aq_then_ret ?_
  obtain rfl := Option.some.inj h
  exact fn_ret () [] [] rfl rfl rfl rfl (res1 rfl rfl) rfl rfl rfl (by decide)
 ·replace h := bif_f hb1 h
  refine aw_skip ?_
  refine aq_tr ?_
  refine al_mv rfl rfl ?_
  refine al_val (ov_loadP (ds := [(int .i64 a1)]) 0 rfl (fun h => h) rfl Tryd.underlying3 sz3 rfl rfl rfl) ?_
  obtain ⟨hc2, h⟩ := req_some h
  refine al_val (ov_shl hc2 rfl rfl rfl) ?_
  obtain ⟨hc3, h⟩ := req_some h
  refine al_val (ov_rem hc3 rfl rfl rfl) ?_
  refine al_as rfl rfl ?_
  refine al_nt ?_
  refine aw_ret ?_
  obtain rfl := Option.some.inj h
  exact fn_ret () [] [] rfl rfl rfl rfl (res1 rfl rfl) rfl rfl rfl (by decide)
def f_strings_Repeat (fu : Nat) (a0 : List UInt8) (a1 : Int) : Option (List UInt8) := req (0 ≤ a1 ∧ a1 ≤ 9223372036854775807 ∧ a0.length * a1.toNat ≤ 140737488355328) (some (Lib.repeatL a0 a1.toNat))
theorem f_strings_Repeat_ok (fu : Nat) (a0 : List UInt8) (a1 : Int) {r : List UInt8} (h : f_strings_Repeat fu a0 a1 = some r) : FnOk Tryd.prog 132 [(str a0), (int .i64 a1)] [] [] (fun (i : Unit) => { val := (str r) }) := by
  unfold f_strings_Repeat at h
  obtain ⟨hc, h⟩ := req_some h
  obtain rfl := Option.some.inj h
  obtain ⟨n, rfl⟩ : ∃ n : Nat, a1 = n := ⟨a1.toNat, by omega⟩
  refine fnok_pure fun w => ?_
  exact (Tryd.strings_Repeat ⟨a0.toArray⟩ n w (by omega) (by simpa [ByteArray.size] using hc.2.2)).mono fun e w' h9 => by simpa [str] using h9
def f_lumref_product_L5 (a0 : Int) (a1 : Int) (kk2 : (Int → Option Int)) : Nat → Int → Int → Option Int
  | 0, _, _ => none
  | k4 + 1, l3i5, l3i7 => (bif (decide (l3i7 < (64 : Int))) then (lt (fun (j7i5 : Int) => (f_lumref_product_L5 a0 a1 kk2 k4 j7i5 (IntKind.i64.wrap (l3i7 + (1 : Int))))) fun (kk8 : Int → Option Int) => (req (0 ≤ l3i7) (bif ((bits .and .u64 ((a1).fdiv (2 ^ min (l3i7).toNat (IntKind.bits .u64))) (1 : Int)) == (1 : Int)) then (req (0 ≤ l3i7) (kk8 (IntKind.u64.wrap (l3i5 + (IntKind.u64.wrap (a0 * 2 ^ min (l3i7).toNat (IntKind.bits .u64))))))) else (kk8 l3i5)))) else (kk2 l3i5))
def f_lumref_product (fu : Nat) (a0 : Int) (a1 : Int) : Option Int := (lt (fun (j1i5 : Int) => (some j1i5)) fun (kk2 : Int → Option Int) => (f_lumref_product_L5 a0 a1 kk2 fu (0 : Int) (0 : Int)))
set_option maxRecDepth 100000 in
theorem f_lumref_product_ok (fu : Nat) (a0 : Int) (a1 : Int) {r : Int} (h : f_lumref_product fu a0 a1 = some r) : FnOk Tryd.prog 221 [(int .u64 a0), (int .u64 a1)] [] [] (fun (i : Unit) => { val := (int .u64 r) }) := by
 unfold f_lumref_product at h
 refine fn_enter Tryd.func221 rfl Tryd.ntmps221 rfl (fun w0 Z0 => ?_)
 refine aw_sr ?_
 refine al_as rfl rfl ?_
 refine al_nt ?_
 refine aw_sr ?_
 refine al_as rfl rfl ?_
 refine al_nt ?_
 obtain ⟨kk2, hkk2, h⟩ := lt_some h
 refine aw_seq_join (ι := Int) (fun i => (memOf w0 Z0 [] [] [])) (fun i => (tab [(5, (int .u64 i))])) (fun i => kk2 i = some r) ?_ ?_
 ·rintro j1i5 h
  have h : kk2 j1i5 = some r := h
  rw [hkk2] at h
  dsimp only at h
  clear hkk2
  refine aw_show (m := (memOf w0 Z0 [] [] [])) (S := (tab [(5, (int .u64 j1i5))])) ?_
  refine aw_sr ?_
  refine al_mv rfl rfl ?_
  refine al_as rfl rfl ?_
  refine al_nt ?_
  refine aw_ret ?_
  obtain rfl := Option.some.inj h
  exact fn_ret () [] [] rfl rfl rfl rfl (res1 rfl rfl) rfl rfl rfl (by decide)
 ·clear hkk2
  refine aw_sr ?_
  refine al_mv rfl rfl ?_
  refine al_nt ?_
  refine aw_block ?_
  refine aw_state (aw_loop (ι := Int × Int) (fun i => (memOf w0 Z0 [] [] [])) (fun i => (tab [(0, (int .u64 a0)), (1, (int .u64 a1)), (5, (int .u64 i.1)), (7, (int .i64 i.2))])) (fun q i => f_lumref_product_L5 a0 a1 kk2 q i.1 i.2 = some r) ?_ fu ((0 : Int), (0 : Int)) h) (fun w a hm hs => norm hm hs [] [] [(0, (int .u64 a0)), (1, (int .u64 a1)), (5, (int .u64 (0 : Int))), (7, (int .i64 (0 : Int)))] (by decide) ⟨rfl, rfl, rfl, rfl, trivial⟩)
  clear h
  rintro k4 ⟨l3i5, l3i7⟩ h
  have h : f_lumref_product_L5 a0 a1 kk2 k4 l3i5 l3i7 = some r := h
  obtain _ | k4 := k4
  · rw [f_lumref_product_L5] at h; cases h
  rw [f_lumref_product_L5] at h
  refine aw_show (m := (memOf w0 Z0 [] [] [])) (S := (tab [(0, (int .u64 a0)), (1, (int .u64 a1)), (5, (int .u64 l3i5)), (7, (int .i64 l3i7))])) ?_
  refine aw_sr ?_
  refine al_in rfl rfl rfl rfl ?_
  refine al_nt ?_
  refine aw_seq ?_
  refine aw_cond rfl (fun hb6 => ?_) (fun hb6 => ?_)
  ·replace h := bif_t hb6 h
   refine aw_skip ?_
   refine aq_then ?_
   obtain ⟨kk8, hkk8, h⟩ := lt_some h
   refine aw_seq_join (ι := Int) (fun i => (memOf w0 Z0 [] [] [])) (fun i => (tab [(0, (int .u64 a0)), (1, (int .u64 a1)), (5, (int .u64 i)), (7, (int .i64 l3i7))])) (fun i => kk8 i = some r) ?_ ?_
   ·rintro j7i5 h
    have h : kk8 j7i5 = some r := h
    rw [hkk8] at h
    dsimp only at h
    clear hkk8
    refine aw_show (m := (memOf w0 Z0 [] [] [])) (S := (tab [(0, (int .u64 a0)), (1, (int .u64 a1)), (5, (int .u64 j7i5)), (7, (int .i64 l3i7))])) ?_
    refine aw_region ?_
    refine al_in rfl rfl rfl rfl ?_
    refine al_mv rfl rfl ?_
    refine al_nil ?_
    exact aq_again k4 (j7i5, (IntKind.i64.wrap (l3i7 + (1 : Int)))) (Nat.lt_succ_self _) h (fun w a hm hs => norm hm hs [] [] [(0, (int .u64 a0)), (1, (int .u64 a1)), (5, (int .u64 j7i5)), (7, (int .i64 (IntKind.i64.wrap (l3i7 + (1 : Int)))))] (by decide) ⟨rfl, rfl, rfl, rfl, trivial⟩)
   ·clear hkk8
    refine aw_block ?_
    refine aw_sr ?_
    refine al_mv rfl rfl ?_
    refine al_as rfl rfl ?_
    refine al_nt ?_
    refine aw_sr ?_
    refine al_mv rfl rfl ?_
    refine al_mv rfl rfl ?_
    obtain ⟨hc9, h⟩ := req_some h
    refine al_val (ov_shr hc9 rfl rfl rfl) ?_
    refine al_in rfl rfl rfl rfl ?_
    refine al_in rfl rfl rfl rfl ?_
    refine al_nt ?_
    refine aw_cond rfl (fun hb10 => ?_) (fun hb10 => ?_)
    ·replace h := bif_t hb10 h
     refine aw_region ?_
     refine al_mv rfl rfl ?_
     refine al_mv rfl rfl ?_
     refine al_mv rfl rfl ?_
     obtain ⟨hc11, h⟩ := req_some h
     refine al_val (ov_shl hc11 rfl rfl rfl) ?_
     refine al_in rfl rfl rfl rfl ?_
     refine al_as rfl rfl ?_
     refine al_nil ?_
     refine aq_block ?_
     exact aq_join (IntKind.u64.wrap (l3i5 + (IntKind.u64.wrap (a0 * 2 ^ min (l3i7).toNat (IntKind.bits .u64))))) h (fun w a hm hs => norm hm hs [] [] [(0, (int .u64 a0)), (1, (int .u64 a1)), (5, (int .u64 (IntKind.u64.wrap (l3i5 + (IntKind.u64.wrap (a0 * 2 ^ min (l3i7).toNat (IntKind.bits .u64))))))), (7, (int .i64 l3i7))] (by decide) ⟨rfl, rfl, rfl, rfl, trivial⟩)
    ·replace h := bif_f hb10 h
     refine aw_skip ?_
     refine aq_block ?_
     exact aq_join l3i5 h (fun w a hm hs => norm hm hs [] [] [(0, (int .u64 a0)), (1, (int .u64 a1)), (5, (int .u64 l3i5)), (7, (int .i64 l3i7))] (by decide) ⟨rfl, rfl, rfl, rfl, trivial⟩)
  ·replace h := bif_f hb6 h
   refine aw_exit ?_
   refine aq_then_exit ?_
   refine aq_then_exit ?_
   refine aq_block_exit ?_
   exact aq_join l3i5 h (fun w a hm hs => norm hm hs [] [] [(5, (int .u64 l3i5))] (by decide) ⟨rfl, trivial⟩)
def f_lumref_Step (fu : Nat) (a0 : Int) (a1 : Int) : Option Int := (opt (f_lumref_product fu (bits .xor .u64 a0 a1) (11400714819323198485 : Int)) fun (r2 : Int) => (opt (f_lumref_product fu (bits .xor .u64 r2 (IntKind.u64.wrap ((r2).tdiv (536870912 : Int)))) (13787848793156543929 : Int)) fun (r4 : Int) => (some (bits .xor .u64 r4 (IntKind.u64.wrap ((r4).tdiv (4294967296 : Int)))))))
set_option maxRecDepth 100000 in
theorem f_lumref_Step_ok (fu : Nat) (a0 : Int) (a1 : Int) {r : Int} (h : f_lumref_Step fu a0 a1 = some r) : FnOk Tryd.prog 188 [(int .u64 a0), (int .u64 a1)] [] [] (fun (i : Unit) => { val := (int .u64 r) }) := by
 unfold f_lumref_Step at h
 refine fn_enter Tryd.func188 rfl Tryd.ntmps188 rfl (fun w0 Z0 => ?_)
 refine aw_sr ?_
 refine al_as rfl rfl ?_
 refine al_nt ?_
 refine aw_sr ?_
 refine al_mv rfl rfl ?_
 refine al_mv rfl rfl ?_
 refine al_in rfl rfl rfl rfl ?_
 obtain ⟨r2, hc1, h⟩ := opt_some h
 refine al_call (vs := [(int .u64 (bits .xor .u64 a0 a1)), (int .u64 (11400714819323198485 : Int))]) (f_lumref_product_ok fu (bits .xor .u64 a0 a1) (11400714819323198485 : Int) hc1) [] [] [] pre_nil rfl (by simp) (by decide) (.inl rfl) rfl Tryd.func221 rfl rfl rfl (fun _ => ?_)
 refine al_as rfl rfl ?_
 refine al_nt ?_
 refine aw_sr ?_
 refine al_mv rfl rfl ?_
 refine al_mv rfl rfl ?_
 refine al_val (ov_quo (by decide) rfl rfl rfl) ?_
 refine al_in rfl rfl rfl rfl ?_
 refine al_as rfl rfl ?_
 refine al_nt ?_
 refine aw_sr ?_
 refine al_mv rfl rfl ?_
 obtain ⟨r4, hc3, h⟩ := opt_some h
 refine al_call (vs := [(int .u64 (bits .xor .u64 r2 (IntKind.u64.wrap ((r2).tdiv (536870912 : Int))))), (int .u64 (13787848793156543929 : Int))]) (f_lumref_product_ok fu (bits .xor .u64 r2 (IntKind.u64.wrap ((r2).tdiv (536870912 : Int)))) (13787848793156543929 : Int) hc3) [] [] [] pre_nil rfl (by simp) (by decide) (.inl rfl) rfl Tryd.func221 rfl rfl rfl (fun _ => ?_)
 refine al_as rfl rfl ?_
 refine al_nt ?_
 refine aw_sr ?_
 refine al_mv rfl rfl ?_
 refine al_mv rfl rfl ?_
 refine al_val (ov_quo (by decide) rfl rfl rfl) ?_
 refine al_in rfl rfl rfl rfl ?_
 refine al_as rfl rfl ?_
 refine al_nt ?_
 refine aw_ret ?_
 obtain rfl := Option.some.inj h
 exact fn_ret () [] [] rfl rfl rfl rfl (res1 rfl rfl) rfl rfl rfl (by decide)
def f_lumref_Narrow_L27 (l11s7 : (List UInt8)) (kk20 : (Int → Option Int)) : Nat → Int → Int → Option Int
  | 0, _, _ => none
  | k26 + 1, l25i8, l25i9 => (bif (decide (l25i9 ≥ (0 : Int))) then (req (0 ≤ l25i9 ∧ l25i9 < (l11s7.length : Int)) (f_lumref_Narrow_L27 l11s7 kk20 k26 (IntKind.u64.wrap ((IntKind.u64.wrap ((256 : Int) * l25i8)) + (IntKind.u64.wrap (En.bAt l11s7 l25i9)))) (IntKind.i64.wrap (l25i9 - (1 : Int))))) else (kk20 l25i8))
def f_lumref_Narrow_L13 (a0 : Int) (kk6 : (Int → Option Int)) (fu : Nat) : Nat → Int → (List UInt8) → Option Int
  | 0, _, _ => none
  | k12 + 1, l11i5, l11s7 => (lt (fun (l11i5 : Int) (l11s7 : (List UInt8)) => (f_lumref_Narrow_L13 a0 kk6 fu k12 l11i5 l11s7)) fun (kk14 : Int → (List UInt8) → Option Int) => (bif (!(l11s7 == ([] : List UInt8))) then (lt (fun (j16i5 : Int) => (req (0 ≤ (8 : Int) ∧ (8 : Int) ≤ (l11s7.length : Int)) (kk14 j16i5 (l11s7.drop ((8 : Int)).toNat)))) fun (kk17 : Int → Option Int) => (lt (fun (j19i8 : Int) => (opt (f_lumref_Step fu l11i5 j19i8) fun (r22 : Int) => (opt (f_lumref_Narrow_1 fu r22 a0) fun (r24 : Int) => (kk17 r24)))) fun (kk20 : Int → Option Int) => (f_lumref_Narrow_L27 l11s7 kk20 fu (0 : Int) (7 : Int)))) else (kk6 l11i5)))
def f_lumref_Narrow (fu : Nat) (a0 : Int) (a1 : (List UInt8)) : Option Int := (opt (f_strings_Repeat fu ([0] : List UInt8) (((IntKind.i64.wrap ((8 : Int) - (((a1.length : Int)).tmod (8 : Int))))).tmod (8 : Int))) fun (r3 : (List UInt8)) => (req (a1.length + r3.length ≤ 9223372036854775807) (lt (fun (j5i5 : Int) => (opt (f_lumref_Step fu j5i5 (IntKind.u64.wrap (a1.length : Int))) fun (r8 : Int) => (opt (f_lumref_Narrow_1 fu r8 a0) fun (r10 : Int) => (some r10)))) fun (kk6 : Int → Option Int) => (f_lumref_Narrow_L13 a0 kk6 fu fu (0 : Int) (a1 ++ r3)))))
set_option maxRecDepth 100000 in
theorem f_lumref_Narrow_ok (fu : Nat) (a0 : Int) (a1 : (List UInt8)) {r : Int} (h : f_lumref_Narrow fu a0 a1 = some r) : FnOk Tryd.prog 138 [(int .i64 a0), (str a1)] [] [] (fun (i : Unit) => { val := (int .u64 r) }) := by
 unfold f_lumref_Narrow at h
 refine fn_enter Tryd.func138 rfl Tryd.ntmps138 rfl (fun w0 Z0 => ?_)
 refine aw_sr ?_
 refine al_box (vs := [(int .i64 a0)]) rfl (cv_rfl rfl) rfl (fun g1 => ?_)
 refine al_as rfl rfl ?_
 refine al_nt ?_
 refine aw_sr ?_
 refine al_as rfl rfl ?_
 refine al_nt ?_
 refine aw_sr ?_
 refine al_val (ov_makeFunc2 (vs := [(ptr g1 0)]) rfl rfl) ?_
 refine al_as rfl rfl ?_
 refine al_nt ?_
 refine aw_sr ?_
 refine al_mv rfl rfl ?_
 refine al_mv rfl rfl ?_
 refine al_val (ov_strLen Tryd.underlying9 rfl rfl) ?_
 refine al_val (ov_rem (by decide) rfl rfl rfl) ?_
 refine al_in rfl rfl rfl rfl ?_
 refine al_val (ov_rem (by decide) rfl rfl rfl) ?_
 obtain ⟨r3, hc2, h⟩ := opt_some h
 refine al_call (vs := [(str ([0] : List UInt8)), (int .i64 (((IntKind.i64.wrap ((8 : Int) - (((a1.length : Int)).tmod (8 : Int))))).tmod (8 : Int)))]) (f_strings_Repeat_ok fu ([0] : List UInt8) (((IntKind.i64.wrap ((8 : Int) - (((a1.length : Int)).tmod (8 : Int))))).tmod (8 : Int)) hc2) [] [] [0] pre_nil rfl (by simp) (by decide) (.inl rfl) rfl Tryd.func132 rfl rfl rfl (fun _ => ?_)
 obtain ⟨hc4, h⟩ := req_some h
 refine al_val (ov_strAdd hc4 rfl rfl rfl) ?_
 refine al_as rfl rfl ?_
 refine al_nt ?_
 obtain ⟨kk6, hkk6, h⟩ := lt_some h
 refine aw_seq_join (ι := Int) (fun i => (memOf w0 Z0 [] [(oBox g1 3 [(int .i64 a0)])] [])) (fun i => (tab [(1, (str a1)), (5, (int .u64 i)), (6, (Value.func (.func 187) #[] #[(ptr g1 0)]))])) (fun i => kk6 i = some r) ?_ ?_
 ·rintro j5i5 h
  have h : kk6 j5i5 = some r := h
  rw [hkk6] at h
  dsimp only at h
  clear hkk6
  refine aw_show (m := (memOf w0 Z0 [] [(oBox g1 3 [(int .i64 a0)])] [])) (S := (tab [(1, (str a1)), (5, (int .u64 j5i5)), (6, (Value.func (.func 187) #[] #[(ptr g1 0)]))])) ?_
  refine aw_sr ?_
  refine al_mv rfl rfl ?_
  refine al_mv rfl rfl ?_
  refine al_mv rfl rfl ?_
  refine al_val (ov_strLen Tryd.underlying9 rfl rfl) ?_
  refine al_val (ov_convInt (by rw [Tryd.underlying3]; rfl) Tryd.underlying115 rfl rfl) ?_
  obtain ⟨r8, hc7, h⟩ := opt_some h
  refine al_call (vs := [(int .u64 j5i5), (int .u64 (IntKind.u64.wrap (a1.length : Int)))]) (f_lumref_Step_ok fu j5i5 (IntKind.u64.wrap (a1.length : Int)) hc7) [] [] [0] pre_nil rfl (by simp) (by decide) (.inl rfl) rfl Tryd.func188 rfl rfl rfl (fun _ => ?_)
  obtain ⟨r10, hc9, h⟩ := opt_some h
  refine al_callF (vs := [(int .u64 r8)]) (caps := [(ptr g1 0)]) (f_lumref_Narrow_1_ok fu r8 (ptr g1 0) a0 hc9) rfl [0] [] [0] (pre_boxP (x := a0) 0 rfl rfl (fun _ _ => rfl) pre_nil) rfl (by simp) (by decide) (.inr flat_res0) rfl rfl Tryd.func187 rfl rfl rfl (fun _ => ?_)
  refine al_as rfl rfl ?_
  refine al_nt ?_
  refine aw_ret ?_
  obtain rfl := Option.some.inj h
  exact fn_ret () [] [] rfl rfl rfl rfl (res1 rfl rfl) rfl rfl rfl (by decide)
 ·clear hkk6
  refine aw_block ?_
  refine aw_state (aw_loop (ι := Int × (List UInt8)) (fun i => (memOf w0 Z0 [] [(oBox g1 3 [(int .i64 a0)])] [])) (fun i => (tab [(1, (str a1)), (5, (int .u64 i.1)), (6, (Value.func (.func 187) #[] #[(ptr g1 0)])), (7, (str i.2))])) (fun q i => f_lumref_Narrow_L13 a0 kk6 fu q i.1 i.2 = some r) ?_ fu ((0 : Int), (a1 ++ r3)) h) (fun w a hm hs => norm hm hs [0] [] [(1, (str a1)), (5, (int .u64 (0 : Int))), (6, (Value.func (.func 187) #[] #[(ptr g1 0)])), (7, (str (a1 ++ r3)))] (by decide) ⟨rfl, rfl, rfl, rfl, trivial⟩)
  clear h
  rintro k12 ⟨l11i5, l11s7⟩ h
  have h : f_lumref_Narrow_L13 a0 kk6 fu k12 l11i5 l11s7 = some r := h
  obtain _ | k12 := k12
  · rw [f_lumref_Narrow_L13] at h; cases h
  rw [f_lumref_Narrow_L13] at h
  refine aw_show (m := (memOf w0 Z0 [] [(oBox g1 3 [(int .i64 a0)])] [])) (S := (tab [(1, (str a1)), (5, (int .u64 l11i5)), (6, (Value.func (.func 187) #[] #[(ptr g1 0)])), (7, (str l11s7))])) ?_
  obtain ⟨kk14, hkk14, h⟩ := lt_some h
  refine aw_body_join (ι := Int × (List UInt8)) (fun i => (memOf w0 Z0 [] [(oBox g1 3 [(int .i64 a0)])] [])) (fun i => (tab [(1, (str a1)), (5, (int .u64 i.1)), (6, (Value.func (.func 187) #[] #[(ptr g1 0)])), (7, (str i.2))])) (fun i => kk14 i.1 i.2 = some r) (fun i h => aq_again k12 i (Nat.lt_succ_self _) (by rw [hkk14] at h; exact h) (fun w a hm hs => ⟨hm, hs⟩)) ?_
  clear hkk14
  refine aw_seq ?_
  refine aw_sr ?_
  refine al_mv rfl rfl ?_
  refine al_val (ov_strCmp rfl rfl rfl rfl) ?_
  refine al_nt ?_
  refine aw_cond rfl (fun hb15 => ?_) (fun hb15 => ?_)
  ·replace h := bif_t hb15 h
   refine aw_skip ?_
   refine aq_then ?_
   obtain ⟨kk17, hkk17, h⟩ := lt_some h
   refine aw_seq_join (ι := Int) (fun i => (memOf w0 Z0 [] [(oBox g1 3 [(int .i64 a0)])] [])) (fun i => (tab [(1, (str a1)), (5, (int .u64 i)), (6, (Value.func (.func 187) #[] #[(ptr g1 0)])), (7, (str l11s7))])) (fun i => kk17 i = some r) ?_ ?_
   ·rintro j16i5 h
    have h : kk17 j16i5 = some r := h
    rw [hkk17] at h
    dsimp only at h
    clear hkk17
    refine aw_show (m := (memOf w0 Z0 [] [(oBox g1 3 [(int .i64 a0)])] [])) (S := (tab [(1, (str a1)), (5, (int .u64 j16i5)), (6, (Value.func (.func 187) #[] #[(ptr g1 0)])), (7, (str l11s7))])) ?_
    refine aw_region ?_
    refine al_mv rfl rfl ?_
    obtain ⟨hc18, h⟩ := req_some h
    refine al_val (ov_strFrom hc18.1 hc18.2 Tryd.underlying9 rfl rfl rfl) ?_
    refine al_as rfl rfl ?_
    refine al_nil ?_
    exact aq_join (j16i5, (l11s7.drop ((8 : Int)).toNat)) h (fun w a hm hs => norm hm hs [0] [] [(1, (str a1)), (5, (int .u64 j16i5)), (6, (Value.func (.func 187) #[] #[(ptr g1 0)])), (7, (str (l11s7.drop ((8 : Int)).toNat)))] (by decide) ⟨rfl, rfl, rfl, rfl, trivial⟩)
   ·clear hkk17
    refine aw_block ?_
    refine aw_sr ?_
    refine al_as rfl rfl ?_
    refine al_nt ?_
    obtain ⟨kk20, hkk20, h⟩ := lt_some h
    refine aw_seq_join (ι := Int) (fun i => (memOf w0 Z0 [] [(oBox g1 3 [(int .i64 a0)])] [])) (fun i => (tab [(1, (str a1)), (5, (int .u64 l11i5)), (6, (Value.func (.func 187) #[] #[(ptr g1 0)])), (7, (str l11s7)), (8, (int .u64 i))])) (fun i => kk20 i = some r) ?_ ?_
    ·rintro j19i8 h
     have h : kk20 j19i8 = some r := h
     rw [hkk20] at h
     dsimp only at h
     clear hkk20
     refine aw_show (m := (memOf w0 Z0 [] [(oBox g1 3 [(int .i64 a0)])] [])) (S := (tab [(1, (str a1)), (5, (int .u64 l11i5)), (6, (Value.func (.func 187) #[] #[(ptr g1 0)])), (7, (str l11s7)), (8, (int .u64 j19i8))])) ?_
     refine aw_region ?_
     refine al_mv rfl rfl ?_
     refine al_mv rfl rfl ?_
     refine al_mv rfl rfl ?_
     obtain ⟨r22, hc21, h⟩ := opt_some h
     refine al_call (vs := [(int .u64 l11i5), (int .u64 j19i8)]) (f_lumref_Step_ok fu l11i5 j19i8 hc21) [] [] [0] pre_nil rfl (by simp) (by decide) (.inl rfl) rfl Tryd.func188 rfl rfl rfl (fun _ => ?_)
     obtain ⟨r24, hc23, h⟩ := opt_some h
     refine al_callF (vs := [(int .u64 r22)]) (caps := [(ptr g1 0)]) (f_lumref_Narrow_1_ok fu r22 (ptr g1 0) a0 hc23) rfl [0] [] [0] (pre_boxP (x := a0) 0 rfl rfl (fun _ _ => rfl) pre_nil) rfl (by simp) (by decide) (.inr flat_res0) rfl rfl Tryd.func187 rfl rfl rfl (fun _ => ?_)
     refine al_as rfl rfl ?_
     refine al_nil ?_
     refine aq_block ?_
     exact aq_join r24 h (fun w a hm hs => norm hm hs [0] [] [(1, (str a1)), (5, (int .u64 r24)), (6, (Value.func (.func 187) #[] #[(ptr g1 0)])), (7, (str l11s7))] (by decide) ⟨rfl, rfl, rfl, rfl, trivial⟩)
    ·clear hkk20
     refine aw_sr ?_
     refine al_as rfl rfl ?_
     refine al_nt ?_
     refine aw_block ?_
     refine aw_state (aw_loop (ι := Int × Int) (fun i => (memOf w0 Z0 [] [(oBox g1 3 [(int .i64 a0)])] [])) (fun i => (tab [(1, (str a1)), (5, (int .u64 l11i5)), (6, (Value.func (.func 187) #[] #[(ptr g1 0)])), (7, (str l11s7)), (8, (int .u64 i.1)), (9, (int .i64 i.2))])) (fun q i => f_lumref_Narrow_L27 l11s7 kk20 q i.1 i.2 = some r) ?_ fu ((0 : Int), (7 : Int)) h) (fun w a hm hs => norm hm hs [0] [] [(1, (str a1)), (5, (int .u64 l11i5)), (6, (Value.func (.func 187) #[] #[(ptr g1 0)])), (7, (str l11s7)), (8, (int .u64 (0 : Int))), (9, (int .i64 (7 : Int)))] (by decide) ⟨rfl, rfl, rfl, rfl, rfl, rfl, trivial⟩)
     clear h
     rintro k26 ⟨l25i8, l25i9⟩ h
     have h : f_lumref_Narrow_L27 l11s7 kk20 k26 l25i8 l25i9 = some r := h
     obtain _ | k26 := k26
     · rw [f_lumref_Narrow_L27] at h; cases h
     rw [f_lumref_Narrow_L27] at h
     refine aw_show (m := (memOf w0 Z0 [] [(oBox g1 3 [(int .i64 a0)])] [])) (S := (tab [(1, (str a1)), (5, (int .u64 l11i5)), (6, (Value.func (.func 187) #[] #[(ptr g1 0)])), (7, (str l11s7)), (8, (int .u64 l25i8)), (9, (int .i64 l25i9))])) ?_
     refine aw_seq ?_
     refine aw_sr ?_
     refine al_mv rfl rfl ?_
     refine al_in rfl rfl rfl rfl ?_
     refine al_nt ?_
     refine aw_cond rfl (fun hb28 => ?_) (fun hb28 => ?_)
     ·replace h := bif_t hb28 h
      refine aw_skip ?_
      refine aq_then ?_
      refine aw_seq ?_
      refine aw_block ?_
      refine aw_region ?_
      refine al_mv rfl rfl ?_
      refine al_in rfl rfl rfl rfl ?_
      refine al_mv rfl rfl ?_
      refine al_mv rfl rfl ?_
      obtain ⟨hc29, h⟩ := req_some h
      refine al_val (ov_strIdx hc29.1 hc29.2 Tryd.underlying9 rfl rfl rfl) ?_
      refine al_val (ov_convInt (by rw [Tryd.underlying5]; rfl) Tryd.underlying115 rfl rfl) ?_
      refine al_in rfl rfl rfl rfl ?_
      refine al_as rfl rfl ?_
      refine al_nil ?_
      refine aq_block ?_
      refine aq_then ?_
      refine aw_region ?_
      refine al_mv rfl rfl ?_
      refine al_in rfl rfl rfl rfl ?_
      refine al_as rfl rfl ?_
      refine al_nil ?_
      exact aq_again k26 ((IntKind.u64.wrap ((IntKind.u64.wrap ((256 : Int) * l25i8)) + (IntKind.u64.wrap (En.bAt l11s7 l25i9)))), (IntKind.i64.wrap (l25i9 - (1 : Int)))) (Nat.lt_succ_self _) h (fun w a hm hs => norm hm hs [0] [] [(1, (str a1)), (5, (int .u64 l11i5)), (6, (Value.func (.func 187) #[] #[(ptr g1 0)])), (7, (str l11s7)), (8, (int .u64 (IntKind.u64.wrap ((IntKind.u64.wrap ((256 : Int) * l25i8)) + (IntKind.u64.wrap (En.bAt l11s7 l25i9)))))), (9, (int .i64 (IntKind.i64.wrap (l25i9 - (1 : Int)))))] (by decide) ⟨rfl, rfl, rfl, rfl, rfl, rfl, trivial⟩)
     ·replace h := bif_f hb28 h
      refine aw_exit ?_
      refine aq_then_exit ?_
      refine aq_then_exit ?_
      refine aq_block_exit ?_
      exact aq_join l25i8 h (fun w a hm hs => norm hm hs [0] [] [(1, (str a1)), (5, (int .u64 l11i5)), (6, (Value.func (.func 187) #[] #[(ptr g1 0)])), (7, (str l11s7)), (8, (int .u64 l25i8))] (by decide) ⟨rfl, rfl, rfl, rfl, rfl, trivial⟩)
  ·replace h := bif_f hb15 h
   refine aw_exit ?_
   refine aq_then_exit ?_
   refine aq_then_exit ?_
   refine aq_block_exit ?_
   exact aq_join l11i5 h (fun w a hm hs => norm hm hs [0] [] [(1, (str a1)), (5, (int .u64 l11i5)), (6, (Value.func (.func 187) #[] #[(ptr g1 0)]))] (by decide) ⟨rfl, rfl, rfl, trivial⟩)
def f_lumref_digits : Nat → Int → Option (List UInt8)
  | 0, _ => none
  | fu + 1, a0 => (bif (a0 == (0 : Int)) then (some ([] : List UInt8)) else (opt (f_lumref_digits fu (IntKind.u64.wrap ((a0).tdiv (256 : Int)))) fun (r3 : (List UInt8)) => (req (0 ≤ (IntKind.u8.wrap ((a0).tmod (256 : Int))) ∧ (IntKind.u8.wrap ((a0).tmod (256 : Int))) ≤ 255) (req (r3.length + ([(UInt8.ofNat ((IntKind.u8.wrap ((a0).tmod (256 : Int)))).toNat)]).length ≤ 9223372036854775807) (some (r3 ++ ([(UInt8.ofNat ((IntKind.u8.wrap ((a0).tmod (256 : Int)))).toNat)])))))))
set_option maxRecDepth 100000 in
theorem f_lumref_digits_ok (fu : Nat) (a0 : Int) {r : (List UInt8)} (h : f_lumref_digits fu a0 = some r) : FnOk Tryd.prog 139 [(int .u64 a0)] [] [] (fun (i : Unit) => { val := (str r) }) := by
 cases fu with
 | zero => rw [f_lumref_digits] at h; cases h
 | succ fu =>
  rw [f_lumref_digits] at h
  refine fn_enter Tryd.func139 rfl Tryd.ntmps139 rfl (fun w0 Z0 => ?_)
  refine aw_sr ?_
  refine al_as rfl rfl ?_
  refine al_nt ?_
  refine aw_seq ?_
  refine aw_sr ?_
  refine al_mv rfl rfl ?_
  refine al_in rfl rfl rfl rfl ?_
  refine al_nt ?_
  refine aw_cond rfl (fun hb1 => ?_) (fun hb1 => ?_)
  ·replace h := bif_t hb1 h
   refine aw_sr ?_
   refine al_as rfl rfl ?_
   refine al_nt ?_
   refine aw_ret ?_
   refine aq_then_ret ?_
   obtain rfl := Option.some.inj h
   exact fn_ret () [] [] rfl rfl rfl rfl (res1 rfl rfl) rfl rfl rfl (by decide)
  ·replace h := bif_f hb1 h
   refine aw_skip ?_
   refine aq_then ?_
   refine aw_seq ?_
   obtain ⟨r3, hc2, h⟩ := opt_some h
   obtain ⟨hc5, h⟩ := req_some h
   obtain ⟨hc6, h⟩ := req_some h
   refine aw_region_draw 9 [(5, (fun u => fEq u (int .u64 a0))), (6, (fun u => fEq u (int .u64 (IntKind.u64.wrap ((a0).tdiv (256 : Int)))))), (7, (fun u => fEq u (str r3))), (8, (fun u => fEq u (int .u64 a0))), (9, (fun u => fEq u (int .u64 ((a0).tmod (256 : Int))))), (10, (fun u => fEq u (int .u8 (IntKind.u8.wrap ((a0).tmod (256 : Int)))))), (11, (fun v4 => (fDat (tyList tyU8) [v4] [(UInt8.ofNat ((IntKind.u8.wrap ((a0).tmod (256 : Int)))).toNat)]))), (12, (fun u => fEq u (str [(UInt8.ofNat ((IntKind.u8.wrap ((a0).tmod (256 : Int)))).toNat)]))), (13, (fun u => fEq u (str (r3 ++ ([(UInt8.ofNat ((IntKind.u8.wrap ((a0).tmod (256 : Int)))).toNat)])))))] (tab [(0, (int .u64 a0)), (2, (str ([] : List UInt8)))]) mixed (by kernel_rfl) rfl rfl rfl (fun a hs => hs.tab _ (allT_mem ⟨rfl, rfl, trivial⟩)) ⟨⟨rfl, ld_val (ov_move rfl rfl)⟩, ⟨rfl, ld_eq (j := 0) rfl rfl (ld_val (ov_quo (by decide) rfl rfl rfl))⟩, ⟨rfl, ld_eq (j := 1) rfl rfl (ld_callV (vs := [(int .u64 (IntKind.u64.wrap ((a0).tdiv (256 : Int))))]) (f_lumref_digits_ok fu (IntKind.u64.wrap ((a0).tdiv (256 : Int))) hc2) [] pre_nil rfl Tryd.func139 rfl rfl rfl)⟩, ⟨rfl, ld_val (ov_move rfl rfl)⟩, ⟨rfl, ld_eq (j := 3) rfl rfl (ld_val (ov_rem (by decide) rfl rfl rfl))⟩, ⟨rfl, ld_eq (j := 4) rfl rfl (ld_val (ov_convInt (by rw [Tryd.underlying115]; rfl) Tryd.underlying5 rfl rfl))⟩, ⟨rfl, ld_eq (j := 5) rfl rfl (ld_buildSlice (τ := tyU8) (e := 5) (k := 1) (cs := [(int .u8 (IntKind.u8.wrap ((a0).tmod (256 : Int))))]) (xs := [(UInt8.ofNat ((IntKind.u8.wrap ((a0).tmod (256 : Int)))).toNat)]) rfl (by decide) rfl (fun w a hm hs => ⟨([(int .u8 (IntKind.u8.wrap ((a0).tmod (256 : Int))))]).toArray, rfl, by simp only [List.map_toArray, List.map_cons, List.map_nil, hs.ev (x := .tmp 10) rfl]; exact run_bs [(int .u8 (IntKind.u8.wrap ((a0).tmod (256 : Int))))] [(int .u8 (IntKind.u8.wrap ((a0).tmod (256 : Int))))] Tryd.underlying113 to5 rfl rfl (bs_cons (l := [(int .u8 (IntKind.u8.wrap ((a0).tmod (256 : Int))))]) (cs := []) (cv_rfl rfl) rfl bs_nil) hm⟩) (fun hm => ⟨_, _, rfl, (fun _ => u8_rep hc5) hm, rfl⟩) rfl)⟩, ⟨rfl, ld_fact (j := 6) rfl rfl (fun v4 => ld_val (ov_toStr 0 rfl rfl Tryd.underlying113 Tryd.underlying5 Tryd.underlying9 rfl))⟩, ⟨rfl, ld_eq (j := 2) rfl rfl (ld_eq (j := 7) rfl rfl (ld_val (ov_strAdd hc6 rfl rfl rfl)))⟩, trivial⟩ ?_
   refine tl_eq 8 rfl ?_
   refine tl_done ?_
   refine al_as rfl rfl ?_
   refine al_nt ?_
   refine aw_ret ?_
   obtain rfl := Option.some.inj h
   exact fn_ret () [] [] rfl rfl rfl rfl (res1 rfl rfl) rfl rfl rfl (by decide)
def f_lumref_wide (fu : Nat) (a0 : Int) : Option (List UInt8) := (opt (f_lumref_digits fu a0) fun (r2 : (List UInt8)) => (opt (f_strings_Repeat fu ([0] : List UInt8) (IntKind.i64.wrap ((8 : Int) - (r2.length : Int)))) fun (r4 : (List UInt8)) => (req (r4.length + r2.length ≤ 9223372036854775807) (some (r4 ++ r2)))))
set_option maxRecDepth 100000 in
theorem f_lumref_wide_ok (fu : Nat) (a0 : Int) {r : (List UInt8)} (h : f_lumref_wide fu a0 = some r) : FnOk Tryd.prog 137 [(int .u64 a0)] [] [] (fun (i : Unit) => { val := (str r) }) := by
 unfold f_lumref_wide at h
 refine fn_enter Tryd.func137 rfl Tryd.ntmps137 rfl (fun w0 Z0 => ?_)
 refine aw_sr ?_
 refine al_as rfl rfl ?_
 refine al_nt ?_
 refine aw_sr ?_
 refine al_mv rfl rfl ?_
 obtain ⟨r2, hc1, h⟩ := opt_some h
 refine al_call (vs := [(int .u64 a0)]) (f_lumref_digits_ok fu a0 hc1) [] [] [] pre_nil rfl (by simp) (by decide) (.inl rfl) rfl Tryd.func139 rfl rfl rfl (fun _ => ?_)
 refine al_as rfl rfl ?_
 refine al_nt ?_
 refine aw_sr ?_
 refine al_mv rfl rfl ?_
 refine al_val (ov_strLen Tryd.underlying9 rfl rfl) ?_
 refine al_in rfl rfl rfl rfl ?_
 obtain ⟨r4, hc3, h⟩ := opt_some h
 refine al_call (vs := [(str ([0] : List UInt8)), (int .i64 (IntKind.i64.wrap ((8 : Int) - (r2.length : Int))))]) (f_strings_Repeat_ok fu ([0] : List UInt8) (IntKind.i64.wrap ((8 : Int) - (r2.length : Int))) hc3) [] [] [] pre_nil rfl (by simp) (by decide) (.inl rfl) rfl Tryd.func132 rfl rfl rfl (fun _ => ?_)
 refine al_mv rfl rfl ?_
 obtain ⟨hc5, h⟩ := req_some h
 refine al_val (ov_strAdd hc5 rfl rfl rfl) ?_
 refine al_as rfl rfl ?_
 refine al_nt ?_
 refine aw_ret ?_
 obtain rfl := Option.some.inj h
 exact fn_ret () [] [] rfl rfl rfl rfl (res1 rfl rfl) rfl rfl rfl (by decide)
def f_lumref_ID (fu : Nat) (a0 : (List UInt8)) : Option A8u8 := (opt (f_lumref_Narrow fu (64 : Int) a0) fun (r3 : Int) => (opt (f_lumref_wide fu r3) fun (r5 : (List UInt8)) => (req (r5.length ≤ 9223372036854775807) (req (8 ≤ r5.length) (some (ofA8u8 r5))))))
set_option maxRecDepth 100000 in
theorem f_lumref_ID_ok (fu : Nat) (a0 : (List UInt8)) {r : A8u8} (h : f_lumref_ID fu a0 = some r) : FnOk Tryd.prog 79 [(str a0)] [] [] (fun (i : Unit) => { val := (ag (cA8u8 r)) }) := by
 unfold f_lumref_ID at h
 refine fn_enter Tryd.func79 rfl Tryd.ntmps79 rfl (fun w0 Z0 => ?_)
 refine aw_sr ?_
 refine al_alloc (zs := (cA8u8 (A8u8.mk (0 : UInt8) (0 : UInt8) (0 : UInt8) (0 : UInt8) (0 : UInt8) (0 : UInt8) (0 : UInt8) (0 : UInt8)))) (zeroOf_to to47) rfl rfl (fun g1 => ?_)
 refine al_nt ?_
 refine aw_sr ?_
 refine al_mv rfl rfl ?_
 obtain ⟨r3, hc2, h⟩ := opt_some h
 refine al_call (vs := [(int .i64 (64 : Int)), (str a0)]) (f_lumref_Narrow_ok fu (64 : Int) a0 hc2) [] [] [0] pre_nil rfl (by simp) (by decide) (.inl rfl) rfl Tryd.func138 rfl rfl rfl (fun _ => ?_)
 obtain ⟨r5, hc4, h⟩ := opt_some h
 refine al_call (vs := [(int .u64 r3)]) (f_lumref_wide_ok fu r3 hc4) [] [] [0] pre_nil rfl (by simp) (by decide) (.inl rfl) rfl Tryd.func137 rfl rfl rfl (fun _ => ?_)
 obtain ⟨hc6, h⟩ := req_some h
 refine al_bytes hc6 rfl Tryd.underlying9 Tryd.underlying113 Tryd.underlying5 rfl (fun s7 => ?_)
 obtain ⟨hc9, h⟩ := req_some h
 refine al_s2ap (τA := tyA8u8) (x := (ofA8u8 r5)) 0 8 hc9 rfl (fun h9 => oflA8u8 hc9 h9) rfl rfl Tryd.underlying47 rfl (fun p8 => ?_)
 refine al_val (ov_loadP (ds := (cA8u8 (ofA8u8 r5))) 0 rfl encA8u8 rfl Tryd.underlying47 sz47 rfl rfl rfl) ?_
 refine al_store (i := 0) (vs := (cA8u8 (ofA8u8 r5))) (cs' := (cA8u8 (ofA8u8 r5))) rfl rfl rfl sz47 (cv_rfl rfl) rfl (co_all (oneA8u8 (ofA8u8 r5))) (Nat.le_of_ble_eq_true rfl) rfl rfl ?_
 refine al_nt ?_
 refine aw_ret ?_
 obtain rfl := Option.some.inj h
 exact fn_ret () [] [] rfl rfl rfl rfl (resC rfl (resB (i := 0) rfl rfl Tryd.underlying47 sz47 rfl rfl rfl (resN)) rfl) rfl rfl rfl (by decide)
def f_lumref_BlobID (fu : Nat) (a0 : S_api_Blob) : Option (A8u8 × Int) := (opt (f_lumref_kindOK fu a0.Kind) fun (r4 : Bool) => (bif (!r4) then (some ((A8u8.mk (0 : UInt8) (0 : UInt8) (0 : UInt8) (0 : UInt8) (0 : UInt8) (0 : UInt8) (0 : UInt8) (0 : UInt8)), (5 : Int))) else (bif (decide ((a0.Bytes.length : Int) > (4096 : Int))) then (some ((A8u8.mk (0 : UInt8) (0 : UInt8) (0 : UInt8) (0 : UInt8) (0 : UInt8) (0 : UInt8) (0 : UInt8) (0 : UInt8)), (2 : Int))) else (req (0 ≤ (IntKind.u8.wrap a0.Kind) ∧ (IntKind.u8.wrap a0.Kind) ≤ 255) (req (([(UInt8.ofNat ((IntKind.u8.wrap a0.Kind)).toNat)]).length + a0.Bytes.length ≤ 9223372036854775807) (opt (f_lumref_ID fu (([(UInt8.ofNat ((IntKind.u8.wrap a0.Kind)).toNat)]) ++ a0.Bytes)) fun (r11 : A8u8) => (some (r11, (0 : Int)))))))))
set_option maxRecDepth 100000 in
theorem f_lumref_BlobID_ok (fu : Nat) (a0 : S_api_Blob) {r : (A8u8 × Int)} (h : f_lumref_BlobID fu a0 = some r) : FnOk Tryd.prog 32 [(ag [(int .i64 a0.Kind), (str a0.Bytes)])] [] [] (fun (i : Unit) => { val := (Value.tuple #[(ag (cA8u8 r.1)), (int .i64 r.2)]) }) := by
 unfold f_lumref_BlobID at h
 refine fn_enter Tryd.func32 rfl Tryd.ntmps32 rfl (fun w0 Z0 => ?_)
 refine aw_sr ?_
 refine al_box (vs := [(int .i64 a0.Kind), (str a0.Bytes)]) rfl (cv_rfl rfl) rfl (fun g1 => ?_)
 refine al_alloc (zs := (cA8u8 (A8u8.mk (0 : UInt8) (0 : UInt8) (0 : UInt8) (0 : UInt8) (0 : UInt8) (0 : UInt8) (0 : UInt8) (0 : UInt8)))) (zeroOf_to to47) rfl rfl (fun g2 => ?_)
 refine al_as rfl rfl ?_
 refine al_nt ?_
 refine aw_seq ?_
 refine aw_sr ?_
 refine al_val (ov_fieldA (p := 0) rfl Tryd.underlying34 rfl sz3 rfl rfl rfl) ?_
 refine al_val (ov_load (i := 1) (v := (int .i64 a0.Kind)) rfl rfl Tryd.underlying3 sz3 rfl rfl rfl rfl) ?_
 obtain ⟨r4, hc3, h⟩ := opt_some h
 refine al_call (vs := [(int .i64 a0.Kind)]) (f_lumref_kindOK_ok fu a0.Kind hc3) [] [] [0, 1] pre_nil rfl (by simp) (by decide) (.inl rfl) rfl Tryd.func78 rfl rfl rfl (fun _ => ?_)
 refine al_val (ov_not rfl rfl) ?_
 refine al_nt ?_
 refine aw_cond rfl (fun hb5 => ?_) (fun hb5 => ?_)
 ·replace h := bif_t hb5 h
  refine aw_sr ?_
  refine al_val (ov_build (cells := ((cA8u8 (A8u8.mk (0 : UInt8) (0 : UInt8) (0 : UInt8) (0 : UInt8) (0 : UInt8) (0 : UInt8) (0 : UInt8) (0 : UInt8)))).toArray) (cs := (cA8u8 (A8u8.mk (0 : UInt8) (0 : UInt8) (0 : UInt8) (0 : UInt8) (0 : UInt8) (0 : UInt8) (0 : UInt8) (0 : UInt8)))) rfl (fun w a hm hs => by simp only [List.map_toArray, List.map_cons, List.map_nil, List.toList_toArray]; kernel_rfl)) ?_
  refine al_store (i := 0) (vs := (cA8u8 (A8u8.mk (0 : UInt8) (0 : UInt8) (0 : UInt8) (0 : UInt8) (0 : UInt8) (0 : UInt8) (0 : UInt8) (0 : UInt8)))) (cs' := (cA8u8 (A8u8.mk (0 : UInt8) (0 : UInt8) (0 : UInt8) (0 : UInt8) (0 : UInt8) (0 : UInt8) (0 : UInt8) (0 : UInt8)))) rfl rfl rfl sz47 (cv_rfl rfl) rfl (co_all (oneA8u8 (A8u8.mk (0 : UInt8) (0 : UInt8) (0 : UInt8) (0 : UInt8) (0 : UInt8) (0 : UInt8) (0 : UInt8) (0 : UInt8)))) (Nat.le_of_ble_eq_true rfl) rfl rfl ?_
  refine al_as rfl rfl ?_
  refine al_nt ?_
  refine aw_ret ?_
  refine aq_then_ret ?_
  obtain rfl := Option.some.inj h
  exact fn_ret () [] [] rfl rfl rfl rfl (resC rfl (resB (i := 0) rfl rfl Tryd.underlying47 sz47 rfl rfl rfl (resT rfl (resN))) rfl) rfl rfl rfl (by decide)
 ·replace h := bif_f hb5 h
  refine aw_skip ?_
  refine aq_then ?_
  refine aw_seq ?_
  refine aw_sr ?_
  refine al_val (ov_fieldA (p := 1) rfl Tryd.underlying34 rfl sz9 rfl rfl rfl) ?_
  refine al_val (ov_load (i := 1) (v := (str a0.Bytes)) rfl rfl Tryd.underlying9 sz9 rfl rfl rfl rfl) ?_
  refine al_val (ov_strLen Tryd.underlying9 rfl rfl) ?_
  refine al_in rfl rfl rfl rfl ?_
  refine al_nt ?_
  refine aw_cond rfl (fun hb6 => ?_) (fun hb6 => ?_)
  ·replace h := bif_t hb6 h
   refine aw_sr ?_
   refine al_val (ov_build (cells := ((cA8u8 (A8u8.mk (0 : UInt8) (0 : UInt8) (0 : UInt8) (0 : UInt8) (0 : UInt8) (0 : UInt8) (0 : UInt8) (0 : UInt8)))).toArray) (cs := (cA8u8 (A8u8.mk (0 : UInt8) (0 : UInt8) (0 : UInt8) (0 : UInt8) (0 : UInt8) (0 : UInt8) (0 : UInt8) (0 : UInt8)))) rfl (fun w a hm hs => by simp only [List.map_toArray, List.map_cons, List.map_nil, List.toList_toArray]; kernel_rfl)) ?_
   refine al_store (i := 0) (vs := (cA8u8 (A8u8.mk (0 : UInt8) (0 : UInt8) (0 : UInt8) (0 : UInt8) (0 : UInt8) (0 : UInt8) (0 : UInt8) (0 : UInt8)))) (cs' := (cA8u8 (A8u8.mk (0 : UInt8) (0 : UInt8) (0 : UInt8) (0 : UInt8) (0 : UInt8) (0 : UInt8) (0 : UInt8) (0 : UInt8)))) rfl rfl rfl sz47 (cv_rfl rfl) rfl (co_all (oneA8u8 (A8u8.mk (0 : UInt8) (0 : UInt8) (0 : UInt8) (0 : UInt8) (0 : UInt8) (0 : UInt8) (0 : UInt8) (0 : UInt8)))) (Nat.le_of_ble_eq_true rfl) rfl rfl ?_
   refine al_as rfl rfl ?_
   refine al_nt ?_
   refine aw_ret ?_
   refine aq_then_ret ?_
   obtain rfl := Option.some.inj h
   exact fn_ret () [] [] rfl rfl rfl rfl (resC rfl (resB (i := 0) rfl rfl Tryd.underlying47 sz47 rfl rfl rfl (resT rfl (resN))) rfl) rfl rfl rfl (by decide)
  ·replace h := bif_f hb6 h
   refine aw_skip ?_
   refine aq_tr ?_
   refine al_val (ov_fieldA (p := 0) rfl Tryd.underlying34 rfl sz3 rfl rfl rfl) ?_
   refine al_val (ov_load (i := 1) (v := (int .i64 a0.Kind)) rfl rfl Tryd.underlying3 sz3 rfl rfl rfl rfl) ?_
   refine al_val (ov_convInt (by rw [Tryd.underlying3]; rfl) Tryd.underlying5 rfl rfl) ?_
   obtain ⟨hc8, h⟩ := req_some h
   refine al_buildSlice (τ := tyU8) (e := 5) (k := 1) (sz := 0) (by_ := 0) (z := undef) (cs := [(int .u8 (IntKind.u8.wrap a0.Kind))]) (xs := [(UInt8.ofNat ((IntKind.u8.wrap a0.Kind)).toNat)]) rfl (by decide) (fun w a hm hs => ⟨([(int .u8 (IntKind.u8.wrap a0.Kind))]).toArray, rfl, by simp only [List.map_toArray, List.map_cons, List.map_nil, hs.ev (x := .tmp 16) rfl]; exact run_bs [(int .u8 (IntKind.u8.wrap a0.Kind))] [(int .u8 (IntKind.u8.wrap a0.Kind))] Tryd.underlying113 to5 rfl rfl (bs_cons (l := [(int .u8 (IntKind.u8.wrap a0.Kind))]) (cs := []) (cv_rfl rfl) rfl bs_nil) hm⟩) (fun hm => ⟨_, _, rfl, (fun _ => u8_rep hc8) hm, rfl⟩) rfl (fun v7 => ?_)
   refine al_val (ov_toStrR 0 rfl rfl Tryd.underlying113 Tryd.underlying5 Tryd.underlying9 rfl) ?_
   refine al_val (ov_fieldA (p := 1) rfl Tryd.underlying34 rfl sz9 rfl rfl rfl) ?_
   refine al_val (ov_load (i := 2) (v := (str a0.Bytes)) rfl rfl Tryd.underlying9 sz9 rfl rfl rfl rfl) ?_
   obtain ⟨hc9, h⟩ := req_some h
   refine al_val (ov_strAdd hc9 rfl rfl rfl) ?_
   obtain ⟨r11, hc10, h⟩ := opt_some h
   refine al_call (vs := [(str (([(UInt8.ofNat ((IntKind.u8.wrap a0.Kind)).toNat)]) ++ a0.Bytes))]) (f_lumref_ID_ok fu (([(UInt8.ofNat ((IntKind.u8.wrap a0.Kind)).toNat)]) ++ a0.Bytes) hc10) [] [] [0, 1, 2] pre_nil rfl (by simp) (by decide) (.inl rfl) rfl Tryd.func79 rfl rfl rfl (fun _ => ?_)
   refine al_store (i := 1) (vs := (cA8u8 r11)) (cs' := (cA8u8 r11)) rfl rfl rfl sz47 (cv_rfl rfl) rfl (co_all (oneA8u8 r11)) (Nat.le_of_ble_eq_true rfl) rfl rfl ?_
   refine al_as rfl rfl ?_
   refine al_nt ?_
   refine aw_ret ?_
   obtain rfl := Option.some.inj h
   exact fn_ret () [] [] rfl rfl rfl rfl (resC rfl (resB (i := 1) rfl rfl Tryd.underlying47 sz47 rfl rfl rfl (resT rfl (resN))) rfl) rfl rfl rfl (by decide)
def f_slices_Index___api_ID_api_ID__L6 (a0 : (List A8u8)) (a1 : A8u8) (kk3 : (Unit → Option Int)) : Nat → Int → Option Int
  | 0, _ => none
  | k5 + 1, l4i8 => (bif (decide (l4i8 < (a0.length : Int))) then (opt (at? a0 l4i8) fun (u8 : A8u8) => (bif (a1 == u8) then (some l4i8) else (f_slices_Index___api_ID_api_ID__L6 a0 a1 kk3 k5 (IntKind.i64.wrap (l4i8 + (1 : Int)))))) else (kk3 ()))
def f_slices_Index___api_ID_api_ID_ (fu : Nat) (a0 : (List A8u8)) (a1 : A8u8) : Option Int := (lt (fun (_ : Unit) => (some (-1 : Int))) fun (kk3 : Unit → Option Int) => (f_slices_Index___api_ID_api_ID__L6 a0 a1 kk3 fu (0 : Int)))
set_option maxRecDepth 100000 in
theorem f_slices_Index___api_ID_api_ID__ok (fu : Nat) (v0_0 : Value) (a0 : (List A8u8)) (a1 : A8u8) {r : Int} (h : f_slices_Index___api_ID_api_ID_ fu a0 a1 = some r) : FnOk Tryd.prog 99 [v0_0, (ag (cA8u8 a1))] [(fDat (tyList tyA8u8) [v0_0] a0)] [] (fun (i : Unit) => { val := (int .i64 r) }) := by
 unfold f_slices_Index___api_ID_api_ID_ at h
 refine fn_enter Tryd.func99 rfl Tryd.ntmps99 rfl (fun w0 Z0 => ?_)
 refine aw_sr ?_
 refine al_box (vs := (cA8u8 a1)) rfl (cv_rfl rfl) rfl (fun g1 => ?_)
 refine al_as rfl rfl ?_
 refine al_nt ?_
 obtain ⟨kk3, hkk3, h⟩ := lt_some h
 refine aw_seq_join (ι := Unit) (fun i => (memOf w0 Z0 [] [] [(fDat (tyList tyA8u8) [v0_0] a0)])) (fun i => (tab [])) (fun i => kk3 () = some r) ?_ ?_
 ·rintro _ h
  have h : kk3 () = some r := h
  rw [hkk3] at h
  dsimp only at h
  clear hkk3
  refine aw_show (m := (memOf w0 Z0 [] [] [(fDat (tyList tyA8u8) [v0_0] a0)])) (S := (tab [])) ?_
  refine aw_sr ?_
  refine al_as rfl rfl ?_
  refine al_nt ?_
  refine aw_ret ?_
  obtain rfl := Option.some.inj h
  exact fn_ret () [] [] rfl rfl rfl rfl (res1 rfl rfl) rfl rfl rfl (by decide)
 ·clear hkk3
  refine aw_sr ?_
  refine al_mv rfl rfl ?_
  refine al_val (ov_lenD 0 rfl rfl Tryd.underlying27 rfl) ?_
  refine al_mv rfl rfl ?_
  refine al_nt ?_
  refine aw_block ?_
  refine aw_state (aw_loop (ι := Int) (fun i => (memOf w0 Z0 [] [(oBox g1 47 (cA8u8 a1))] [(fDat (tyList tyA8u8) [v0_0] a0)])) (fun i => (tab [(0, v0_0), (3, (ptr g1 0)), (7, (int .i64 (a0.length : Int))), (8, (int .i64 i))])) (fun q i => f_slices_Index___api_ID_api_ID__L6 a0 a1 kk3 q i = some r) ?_ fu (0 : Int) h) (fun w a hm hs => norm hm hs [0] [0] [(0, v0_0), (3, (ptr g1 0)), (7, (int .i64 (a0.length : Int))), (8, (int .i64 (0 : Int)))] (by decide) ⟨rfl, rfl, rfl, rfl, trivial⟩)
  clear h
  rintro k5 l4i8 h
  have h : f_slices_Index___api_ID_api_ID__L6 a0 a1 kk3 k5 l4i8 = some r := h
  obtain _ | k5 := k5
  · rw [f_slices_Index___api_ID_api_ID__L6] at h; cases h
  rw [f_slices_Index___api_ID_api_ID__L6] at h
  refine aw_show (m := (memOf w0 Z0 [] [(oBox g1 47 (cA8u8 a1))] [(fDat (tyList tyA8u8) [v0_0] a0)])) (S := (tab [(0, v0_0), (3, (ptr g1 0)), (7, (int .i64 (a0.length : Int))), (8, (int .i64 l4i8))])) ?_
  refine aw_sr ?_
  refine al_in rfl rfl rfl rfl ?_
  refine al_nt ?_
  refine aw_seq ?_
  refine aw_cond rfl (fun hb7 => ?_) (fun hb7 => ?_)
  ·replace h := bif_t hb7 h
   refine aw_skip ?_
   refine aq_then ?_
   refine aw_seq ?_
   refine aw_block ?_
   refine aw_sr ?_
   refine al_mv rfl rfl ?_
   refine al_as rfl rfl ?_
   refine al_nt ?_
   refine aw_seq ?_
   obtain ⟨u8, hu9, h⟩ := opt_some h
   refine aw_region_draw 5 [(11, (fun u => fEq u (ag (cA8u8 a1)))), (12, (fun u => fEq u v0_0)), (13, (fun u => fEq u (int .i64 l4i8))), (14, (fun p10 => (fPtr tyA8u8 p10 u8))), (15, (fun u => fEq u (ag (cA8u8 u8))))] (tab [(0, v0_0), (3, (ptr g1 0)), (5, (int .i64 l4i8)), (7, (int .i64 (a0.length : Int))), (8, (int .i64 l4i8))]) mixed (by kernel_rfl) rfl rfl rfl (fun a hs => hs.tab _ (allT_mem ⟨rfl, rfl, rfl, rfl, rfl, trivial⟩)) ⟨⟨rfl, ld_val (ov_load (i := 0) (v := (ag (cA8u8 a1))) rfl rfl Tryd.underlying47 sz47 rfl rfl rfl rfl)⟩, ⟨rfl, ld_val (ov_move rfl rfl)⟩, ⟨rfl, ld_val (ov_move rfl rfl)⟩, ⟨rfl, ld_eq (j := 1) rfl rfl (ld_eq (j := 2) rfl rfl (ld_of (of_idxD 0 hu9 rfl rfl rfl Tryd.underlying27 sz47 rfl)))⟩, ⟨rfl, ld_fact (j := 3) rfl rfl (fun p10 => ld_val (ov_loadP (ds := (cA8u8 u8)) 0 rfl encA8u8 rfl Tryd.underlying47 sz47 rfl rfl rfl))⟩, trivial⟩ ?_
   refine tl_eq 0 rfl ?_
   refine tl_eq 4 rfl ?_
   refine tl_done ?_
   refine al_val (ov_eqlA (cs := (cA8u8 a1)) (ds := (cA8u8 u8)) (ls := [5, 5, 5, 5, 5, 5, 5, 5]) (p := (a1 == u8)) eg47 kt47 lv47 rfl rfl (by kernel_rfl) (by kernel_rfl) (fit_cons (fit_u8 Tryd.underlying5) (fit_cons (fit_u8 Tryd.underlying5) (fit_cons (fit_u8 Tryd.underlying5) (fit_cons (fit_u8 Tryd.underlying5) (fit_cons (fit_u8 Tryd.underlying5) (fit_cons (fit_u8 Tryd.underlying5) (fit_cons (fit_u8 Tryd.underlying5) (fit_cons (fit_u8 Tryd.underlying5) fit_nil)))))))) (fit_cons (fit_u8 Tryd.underlying5) (fit_cons (fit_u8 Tryd.underlying5) (fit_cons (fit_u8 Tryd.underlying5) (fit_cons (fit_u8 Tryd.underlying5) (fit_cons (fit_u8 Tryd.underlying5) (fit_cons (fit_u8 Tryd.underlying5) (fit_cons (fit_u8 Tryd.underlying5) (fit_cons (fit_u8 Tryd.underlying5) fit_nil)))))))) (injA8u8 (x := a1) (y := u8)) rfl) ?_
   refine al_nt ?_
   refine aw_cond rfl (fun hb11 => ?_) (fun hb11 => ?_)
   ·replace h := bif_t hb11 h
    refine aw_sr ?_
    refine al_mv rfl rfl ?_
    refine al_as rfl rfl ?_
    refine al_nt ?_
    refine aw_ret ?_
    refine aq_block_ret ?_
    refine aq_then_ret ?_
    refine aq_then_ret ?_
    refine aq_block_ret ?_
    refine aq_then_ret ?_
    obtain rfl := Option.some.inj h
    exact fn_ret () [] [] rfl rfl rfl rfl (res1 rfl rfl) rfl rfl rfl (by decide)
   ·replace h := bif_f hb11 h
    refine aw_skip ?_
    refine aq_block ?_
    refine aq_then ?_
    refine aw_region ?_
    refine al_in rfl rfl rfl rfl ?_
    refine al_mv rfl rfl ?_
    refine al_nil ?_
    exact aq_again k5 (IntKind.i64.wrap (l4i8 + (1 : Int))) (Nat.lt_succ_self _) h (fun w a hm hs => norm hm hs [0] [0] [(0, v0_0), (3, (ptr g1 0)), (7, (int .i64 (a0.length : Int))), (8, (int .i64 (IntKind.i64.wrap (l4i8 + (1 : Int)))))] (by decide) ⟨rfl, rfl, rfl, rfl, trivial⟩)
  ·replace h := bif_f hb7 h
   refine aw_exit ?_
   refine aq_then_exit ?_
   refine aq_then_exit ?_
   refine aq_block_exit ?_
   exact aq_join () h (fun w a hm hs => norm hm hs [] [0] [] (by decide) trivial)
def f_lumref_blobOf (fu : Nat) (a0 : (List S_api_Blob)) (a1 : (List A8u8)) (a2 : A8u8) (a3 : Int) : Option ((List UInt8) × Int) := (opt (f_slices_Index___api_ID_api_ID_ fu a1 a2) fun (r3 : Int) => (bif (decide (r3 < (0 : Int))) then (some (([] : List UInt8), (9 : Int))) else (opt (at? a0 r3) fun (u5 : S_api_Blob) => (bif (u5.Kind != a3) then (some (([] : List UInt8), (5 : Int))) else (opt (at? a0 r3) fun (u10 : S_api_Blob) => (some (u10.Bytes, (0 : Int))))))))
set_option maxRecDepth 100000 in
theorem f_lumref_blobOf_ok (fu : Nat) (v0_0 : Value) (a0 : (List S_api_Blob)) (v1_0 : Value) (a1 : (List A8u8)) (a2 : A8u8) (a3 : Int) {r : ((List UInt8) × Int)} (h : f_lumref_blobOf fu a0 a1 a2 a3 = some r) : FnOk Tryd.prog 109 [v0_0, v1_0, (ag (cA8u8 a2)), (int .i64 a3)] [(fDat (tyList tyS_api_Blob) [v0_0] a0), (fDat (tyList tyA8u8) [v1_0] a1)] [] (fun (i : Unit) => { val := (Value.tuple #[(str r.1), (int .i64 r.2)]) }) := by
 unfold f_lumref_blobOf at h
 refine fn_enter Tryd.func109 rfl Tryd.ntmps109 rfl (fun w0 Z0 => ?_)
 refine aw_sr ?_
 refine al_box (vs := (cA8u8 a2)) rfl (cv_rfl rfl) rfl (fun g1 => ?_)
 refine al_as rfl rfl ?_
 refine al_as rfl rfl ?_
 refine al_nt ?_
 refine aw_sr ?_
 refine al_mv rfl rfl ?_
 refine al_val (ov_load (i := 0) (v := (ag (cA8u8 a2))) rfl rfl Tryd.underlying47 sz47 rfl rfl rfl rfl) ?_
 obtain ⟨r3, hc2, h⟩ := opt_some h
 refine al_call (vs := [v1_0, (ag (cA8u8 a2))]) (f_slices_Index___api_ID_api_ID__ok fu v1_0 a1 a2 hc2) [] [] [0] (pre_fz 1 rfl pre_nil) rfl (by simp) (by decide) (.inl rfl) rfl Tryd.func99 rfl rfl rfl (fun _ => ?_)
 refine al_as rfl rfl ?_
 refine al_nt ?_
 refine aw_seq ?_
 refine aw_sr ?_
 refine al_mv rfl rfl ?_
 refine al_in rfl rfl rfl rfl ?_
 refine al_nt ?_
 refine aw_cond rfl (fun hb4 => ?_) (fun hb4 => ?_)
 ·replace h := bif_t hb4 h
  refine aw_sr ?_
  refine al_as rfl rfl ?_
  refine al_as rfl rfl ?_
  refine al_nt ?_
  refine aw_ret ?_
  refine aq_then_ret ?_
  obtain rfl := Option.some.inj h
  exact fn_ret () [] [] rfl rfl rfl rfl (res2 rfl rfl rfl) rfl rfl rfl (by decide)
 ·replace h := bif_f hb4 h
  refine aw_skip ?_
  refine aq_then ?_
  refine aw_seq ?_
  refine aw_sr ?_
  refine al_mv rfl rfl ?_
  refine al_mv rfl rfl ?_
  obtain ⟨u5, hu6, h⟩ := opt_some h
  refine al_idxD 0 hu6 rfl rfl rfl Tryd.underlying28 sz34 rfl (fun p7 => ?_)
  refine al_fieldD (pr := fun (y : S_api_Blob) => y.Kind) 0 rfl subS_api_Blob_0 rfl Tryd.underlying34 rfl sz3 rfl rfl (fun p8 => ?_)
  refine al_val (ov_loadP (ds := [(int .i64 u5.Kind)]) 0 rfl (fun h => h) rfl Tryd.underlying3 sz3 rfl rfl rfl) ?_
  refine al_mv rfl rfl ?_
  refine al_in rfl rfl rfl rfl ?_
  refine al_nt ?_
  refine aw_cond rfl (fun hb9 => ?_) (fun hb9 => ?_)
  ·replace h := bif_t hb9 h
   refine aw_sr ?_
   refine al_as rfl rfl ?_
   refine al_as rfl rfl ?_
   refine al_nt ?_
   refine aw_ret ?_
   refine aq_then_ret ?_
   obtain rfl := Option.some.inj h
   exact fn_ret () [] [] rfl rfl rfl rfl (res2 rfl rfl rfl) rfl rfl rfl (by decide)
  ·replace h := bif_f hb9 h
   refine aw_skip ?_
   refine aq_tr ?_
   refine al_mv rfl rfl ?_
   refine al_mv rfl rfl ?_
   obtain ⟨u10, hu11, h⟩ := opt_some h
   refine al_idxD 2 hu11 rfl rfl rfl Tryd.underlying28 sz34 rfl (fun p12 => ?_)
   refine al_fieldD (pr := fun (y : S_api_Blob) => y.Bytes) 0 rfl subS_api_Blob_1 rfl Tryd.underlying34 rfl sz9 rfl rfl (fun p13 => ?_)
   refine al_val (ov_loadP (ds := [(str u10.Bytes)]) 0 rfl (fun h => h) rfl Tryd.underlying9 sz9 rfl rfl rfl) ?_
   refine al_as rfl rfl ?_
   refine al_as rfl rfl ?_
   refine al_nt ?_
   refine aw_ret ?_
   obtain rfl := Option.some.inj h
   exact fn_ret () [] [] rfl rfl rfl rfl (res2 rfl rfl rfl) rfl rfl rfl (by decide)
def f_stringslite_HasPrefix (fu : Nat) (a0 : (List UInt8)) (a1 : (List UInt8)) : Option Bool := (lt (fun (j1b4 : Bool) => (some j1b4)) fun (kk2 : Bool → Option Bool) => (bif (decide ((a0.length : Int) ≥ (a1.length : Int))) then (req (0 ≤ (a1.length : Int) ∧ (a1.length : Int) ≤ (a0.length : Int)) (kk2 ((a0.take ((a1.length : Int)).toNat) == a1))) else (kk2 false)))
set_option maxRecDepth 100000 in
theorem f_stringslite_HasPrefix_ok (fu : Nat) (a0 : (List UInt8)) (a1 : (List UInt8)) {r : Bool} (h : f_stringslite_HasPrefix fu a0 a1 = some r) : FnOk Tryd.prog 91 [(str a0), (str a1)] [] [] (fun (i : Unit) => { val := (bool r) }) := by
 unfold f_stringslite_HasPrefix at h
 refine fn_enter Tryd.func91 rfl Tryd.ntmps91 rfl (fun w0 Z0 => ?_)
 refine aw_sr ?_
 refine al_as rfl rfl ?_
 refine al_nt ?_
 obtain ⟨kk2, hkk2, h⟩ := lt_some h
 refine aw_seq_join (ι := Bool) (fun i => (memOf w0 Z0 [] [] [])) (fun i => (tab [(4, (bool i))])) (fun i => kk2 i = some r) ?_ ?_
 ·rintro j1b4 h
  have h : kk2 j1b4 = some r := h
  rw [hkk2] at h
  dsimp only at h
  clear hkk2
  refine aw_show (m := (memOf w0 Z0 [] [] [])) (S := (tab [(4, (bool j1b4))])) ?_
  refine aw_ret ?_
  obtain rfl := Option.some.inj h
  exact fn_ret () [] [] rfl rfl rfl rfl (res1 rfl rfl) rfl rfl rfl (by decide)
 ·clear hkk2
  refine aw_region ?_
  refine al_mv rfl rfl ?_
  refine al_val (ov_strLen Tryd.underlying9 rfl rfl) ?_
  refine al_mv rfl rfl ?_
  refine al_val (ov_strLen Tryd.underlying9 rfl rfl) ?_
  refine al_in rfl rfl rfl rfl ?_
  refine al_mv rfl rfl ?_
  refine al_caseB 10 rfl (fun hb3 => ?_) (fun hb3 => ?_)
  ·replace h := bif_t hb3 h
   refine al_mv rfl rfl ?_
   refine al_mv rfl rfl ?_
   refine al_val (ov_strLen Tryd.underlying9 rfl rfl) ?_
   obtain ⟨hc4, h⟩ := req_some h
   refine al_val (ov_strTo hc4.1 hc4.2 Tryd.underlying9 rfl rfl rfl) ?_
   refine al_mv rfl rfl ?_
   refine al_val (ov_strCmp rfl rfl rfl rfl) ?_
   refine al_val (ov_pick_t rfl rfl rfl) ?_
   refine al_as rfl rfl ?_
   refine al_nil ?_
   exact aq_join ((a0.take ((a1.length : Int)).toNat) == a1) h (fun w a hm hs => norm hm hs [] [] [(4, (bool ((a0.take ((a1.length : Int)).toNat) == a1)))] (by decide) ⟨rfl, trivial⟩)
  ·replace h := bif_f hb3 h
   refine al_skip ?_
   refine al_skip ?_
   refine al_skip ?_
   refine al_skip ?_
   refine al_skip ?_
   refine al_skip ?_
   refine al_val (ov_pick_f rfl rfl rfl) ?_
   refine al_as rfl rfl ?_
   refine al_nil ?_
   exact aq_join false h (fun w a hm hs => norm hm hs [] [] [(4, (bool false))] (by decide) ⟨rfl, trivial⟩)
def f_strings_HasPrefix (fu : Nat) (a0 : (List UInt8)) (a1 : (List UInt8)) : Option Bool := (opt (f_stringslite_HasPrefix fu a0 a1) fun (r2 : Bool) => (some r2))
set_option maxRecDepth 100000 in
theorem f_strings_HasPrefix_ok (fu : Nat) (a0 : (List UInt8)) (a1 : (List UInt8)) {r : Bool} (h : f_strings_HasPrefix fu a0 a1 = some r) : FnOk Tryd.prog 39 [(str a0), (str a1)] [] [] (fun (i : Unit) => { val := (bool r) }) := by
 unfold f_strings_HasPrefix at h
 refine fn_enter Tryd.func39 rfl Tryd.ntmps39 rfl (fun w0 Z0 => ?_)
 refine aw_sr ?_
 refine al_as rfl rfl ?_
 refine al_nt ?_
 refine aw_sr ?_
 refine al_mv rfl rfl ?_
 refine al_mv rfl rfl ?_
 obtain ⟨r2, hc1, h⟩ := opt_some h
 refine al_call (vs := [(str a0), (str a1)]) (f_stringslite_HasPrefix_ok fu a0 a1 hc1) [] [] [] pre_nil rfl (by simp) (by decide) (.inl rfl) rfl Tryd.func91 rfl rfl rfl (fun _ => ?_)
 refine al_as rfl rfl ?_
 refine al_nt ?_
 refine aw_ret ?_
 obtain rfl := Option.some.inj h
 exact fn_ret () [] [] rfl rfl rfl rfl (res1 rfl rfl) rfl rfl rfl (by decide)
def f_lumref_number : Nat → (List UInt8) → Option Int
  | 0, _ => none
  | fu + 1, a0 => (bif (a0 == ([] : List UInt8)) then (some (0 : Int)) else (req (0 ≤ (IntKind.i64.wrap ((a0.length : Int) - (1 : Int))) ∧ (IntKind.i64.wrap ((a0.length : Int) - (1 : Int))) ≤ (a0.length : Int)) (opt (f_lumref_number fu (a0.take ((IntKind.i64.wrap ((a0.length : Int) - (1 : Int)))).toNat)) fun (r4 : Int) => (req (0 ≤ (IntKind.i64.wrap ((a0.length : Int) - (1 : Int))) ∧ (IntKind.i64.wrap ((a0.length : Int) - (1 : Int))) < (a0.length : Int)) (some (IntKind.u64.wrap ((IntKind.u64.wrap ((256 : Int) * r4)) + (IntKind.u64.wrap (En.bAt a0 (IntKind.i64.wrap ((a0.length : Int) - (1 : Int))))))))))))
set_option maxRecDepth 100000 in
theorem f_lumref_number_ok (fu : Nat) (a0 : (List UInt8)) {r : Int} (h : f_lumref_number fu a0 = some r) : FnOk Tryd.prog 231 [(str a0)] [] [] (fun (i : Unit) => { val := (int .u64 r) }) := by
 cases fu with
 | zero => rw [f_lumref_number] at h; cases h
 | succ fu =>
  rw [f_lumref_number] at h
  refine fn_enter Tryd.func231 rfl Tryd.ntmps231 rfl (fun w0 Z0 => ?_)
  refine aw_sr ?_
  refine al_as rfl rfl ?_
  refine al_nt ?_
  refine aw_seq ?_
  refine aw_sr ?_
  refine al_mv rfl rfl ?_
  refine al_val (ov_strCmp rfl rfl rfl rfl) ?_
  refine al_nt ?_
  refine aw_cond rfl (fun hb1 => ?_) (fun hb1 => ?_)
  ·replace h := bif_t hb1 h
   refine aw_sr ?_
   refine al_as rfl rfl ?_
   refine al_nt ?_
   refine aw_ret ?_
   refine aq_then_ret ?_
   obtain rfl := Option.some.inj h
   exact fn_ret () [] [] rfl rfl rfl rfl (res1 rfl rfl) rfl rfl rfl (by decide)
  ·replace h := bif_f hb1 h
   refine aw_skip ?_
   refine aq_then ?_
   refine aw_seq ?_
   obtain ⟨hc2, h⟩ := req_some h
   obtain ⟨r4, hc3, h⟩ := opt_some h
   obtain ⟨hc5, h⟩ := req_some h
   refine aw_region_draw 14 [(5, (fun u => fEq u (str a0))), (6, (fun u => fEq u (str a0))), (7, (fun u => fEq u (int .i64 (a0.length : Int)))), (8, (fun u => fEq u (int .i64 (IntKind.i64.wrap ((a0.length : Int) - (1 : Int)))))), (9, (fun u => fEq u (str (a0.take ((IntKind.i64.wrap ((a0.length : Int) - (1 : Int)))).toNat)))), (10, (fun u => fEq u (int .u64 r4))), (11, (fun u => fEq u (int .u64 (IntKind.u64.wrap ((256 : Int) * r4))))), (12, (fun u => fEq u (str a0))), (13, (fun u => fEq u (str a0))), (14, (fun u => fEq u (int .i64 (a0.length : Int)))), (15, (fun u => fEq u (int .i64 (IntKind.i64.wrap ((a0.length : Int) - (1 : Int)))))), (16, (fun u => fEq u (int .u8 (En.bAt a0 (IntKind.i64.wrap ((a0.length : Int) - (1 : Int))))))), (17, (fun u => fEq u (int .u64 (IntKind.u64.wrap (En.bAt a0 (IntKind.i64.wrap ((a0.length : Int) - (1 : Int)))))))), (18, (fun u => fEq u (int .u64 (IntKind.u64.wrap ((IntKind.u64.wrap ((256 : Int) * r4)) + (IntKind.u64.wrap (En.bAt a0 (IntKind.i64.wrap ((a0.length : Int) - (1 : Int))))))))))] (tab [(0, (str a0)), (2, (int .u64 (0 : Int)))]) mixed (by kernel_rfl) rfl rfl rfl (fun a hs => hs.tab _ (allT_mem ⟨rfl, rfl, trivial⟩)) ⟨⟨rfl, ld_val (ov_move rfl rfl)⟩, ⟨rfl, ld_val (ov_move rfl rfl)⟩, ⟨rfl, ld_eq (j := 1) rfl rfl (ld_val (ov_strLen Tryd.underlying9 rfl rfl))⟩, ⟨rfl, ld_eq (j := 2) rfl rfl (ld_val (ov_int rfl rfl rfl rfl))⟩, ⟨rfl, ld_eq (j := 0) rfl rfl (ld_eq (j := 3) rfl rfl (ld_val (ov_strTo hc2.1 hc2.2 Tryd.underlying9 rfl rfl rfl)))⟩, ⟨rfl, ld_eq (j := 4) rfl rfl (ld_callV (vs := [(str (a0.take ((IntKind.i64.wrap ((a0.length : Int) - (1 : Int)))).toNat))]) (f_lumref_number_ok fu (a0.take ((IntKind.i64.wrap ((a0.length : Int) - (1 : Int)))).toNat) hc3) [] pre_nil rfl Tryd.func231 rfl rfl rfl)⟩, ⟨rfl, ld_eq (j := 5) rfl rfl (ld_val (ov_int rfl rfl rfl rfl))⟩, ⟨rfl, ld_val (ov_move rfl rfl)⟩, ⟨rfl, ld_val (ov_move rfl rfl)⟩, ⟨rfl, ld_eq (j := 8) rfl rfl (ld_val (ov_strLen Tryd.underlying9 rfl rfl))⟩, ⟨rfl, ld_eq (j := 9) rfl rfl (ld_val (ov_int rfl rfl rfl rfl))⟩, ⟨rfl, ld_eq (j := 7) rfl rfl (ld_eq (j := 10) rfl rfl (ld_val (ov_strIdx hc5.1 hc5.2 Tryd.underlying9 rfl rfl rfl)))⟩, ⟨rfl, ld_eq (j := 11) rfl rfl (ld_val (ov_convInt (by rw [Tryd.underlying5]; rfl) Tryd.underlying115 rfl rfl))⟩, ⟨rfl, ld_eq (j := 6) rfl rfl (ld_eq (j := 12) rfl rfl (ld_val (ov_int rfl rfl rfl rfl)))⟩, trivial⟩ ?_
   refine tl_eq 13 rfl ?_
   refine tl_done ?_
   refine al_as rfl rfl ?_
   refine al_nt ?_
   refine aw_ret ?_
   obtain rfl := Option.some.inj h
   exact fn_ret () [] [] rfl rfl rfl rfl (res1 rfl rfl) rfl rfl rfl (by decide)
def f_lumref_Get (fu : Nat) (a0 : (List UInt8)) : Option (Int × Int × Int) := (bif ((a0.length : Int) == (0 : Int)) then (some ((0 : Int), (0 : Int), (3 : Int))) else (req (0 ≤ (0 : Int) ∧ (0 : Int) < (a0.length : Int)) (bif (decide ((En.bAt a0 (0 : Int)) > (8 : Int))) then (some ((0 : Int), (0 : Int), (4 : Int))) else (req (0 ≤ (0 : Int) ∧ (0 : Int) < (a0.length : Int)) (bif (decide ((a0.length : Int) < (IntKind.i64.wrap ((1 : Int) + (IntKind.i64.wrap (En.bAt a0 (0 : Int))))))) then (some ((0 : Int), (0 : Int), (3 : Int))) else (req (0 ≤ (1 : Int) ∧ (1 : Int) ≤ (IntKind.i64.wrap ((1 : Int) + (IntKind.i64.wrap (En.bAt a0 (0 : Int))))) ∧ (IntKind.i64.wrap ((1 : Int) + (IntKind.i64.wrap (En.bAt a0 (0 : Int))))) ≤ (a0.length : Int)) (opt (f_strings_HasPrefix fu (cut a0 (1 : Int) (IntKind.i64.wrap ((1 : Int) + (IntKind.i64.wrap (En.bAt a0 (0 : Int)))))) ([0] : List UInt8)) fun (r8 : Bool) => (bif r8 then (some ((0 : Int), (0 : Int), (4 : Int))) else (req (0 ≤ (1 : Int) ∧ (1 : Int) ≤ (IntKind.i64.wrap ((1 : Int) + (IntKind.i64.wrap (En.bAt a0 (0 : Int))))) ∧ (IntKind.i64.wrap ((1 : Int) + (IntKind.i64.wrap (En.bAt a0 (0 : Int))))) ≤ (a0.length : Int)) (opt (f_lumref_number fu (cut a0 (1 : Int) (IntKind.i64.wrap ((1 : Int) + (IntKind.i64.wrap (En.bAt a0 (0 : Int))))))) fun (r12 : Int) => (some (r12, (IntKind.i64.wrap ((1 : Int) + (IntKind.i64.wrap (En.bAt a0 (0 : Int))))), (0 : Int)))))))))))))
set_option maxRecDepth 100000 in
theorem f_lumref_Get_ok (fu : Nat) (a0 : (List UInt8)) {r : (Int × Int × Int)} (h : f_lumref_Get fu a0 = some r) : FnOk Tryd.prog 206 [(str a0)] [] [] (fun (i : Unit) => { val := (Value.tuple #[(int .u64 r.1), (int .i64 r.2.1), (int .i64 r.2.2)]) }) := by
 unfold f_lumref_Get at h
 refine fn_enter Tryd.func206 rfl Tryd.ntmps206 rfl (fun w0 Z0 => ?_)
 refine aw_sr ?_
 refine al_as rfl rfl ?_
 refine al_as rfl rfl ?_
 refine al_as rfl rfl ?_
 refine al_nt ?_
 refine aw_seq ?_
 refine aw_sr ?_
 refine al_mv rfl rfl ?_
 refine al_val (ov_strLen Tryd.underlying9 rfl rfl) ?_
 refine al_in rfl rfl rfl rfl ?_
 refine al_nt ?_
 refine aw_cond rfl (fun hb1 => ?_) (fun hb1 => ?_)
 ·replace h := bif_t hb1 h
  refine aw_sr ?_
  refine al_as rfl rfl ?_
  refine al_as rfl rfl ?_
  refine al_as rfl rfl ?_
  refine al_nt ?_
  refine aw_ret ?_
  refine aq_then_ret ?_
  obtain rfl := Option.some.inj h
  exact fn_ret () [] [] rfl rfl rfl rfl (res3 rfl rfl rfl rfl) rfl rfl rfl (by decide)
 ·replace h := bif_f hb1 h
  refine aw_skip ?_
  refine aq_then ?_
  refine aw_seq ?_
  refine aw_sr ?_
  refine al_mv rfl rfl ?_
  obtain ⟨hc2, h⟩ := req_some h
  refine al_val (ov_strIdx hc2.1 hc2.2 Tryd.underlying9 rfl rfl rfl) ?_
  refine al_in rfl rfl rfl rfl ?_
  refine al_nt ?_
  refine aw_cond rfl (fun hb3 => ?_) (fun hb3 => ?_)
  ·replace h := bif_t hb3 h
   refine aw_sr ?_
   refine al_as rfl rfl ?_
   refine al_as rfl rfl ?_
   refine al_as rfl rfl ?_
   refine al_nt ?_
   refine aw_ret ?_
   refine aq_then_ret ?_
   obtain rfl := Option.some.inj h
   exact fn_ret () [] [] rfl rfl rfl rfl (res3 rfl rfl rfl rfl) rfl rfl rfl (by decide)
  ·replace h := bif_f hb3 h
   refine aw_skip ?_
   refine aq_tr ?_
   refine al_mv rfl rfl ?_
   obtain ⟨hc4, h⟩ := req_some h
   refine al_val (ov_strIdx hc4.1 hc4.2 Tryd.underlying9 rfl rfl rfl) ?_
   refine al_val (ov_convInt (by rw [Tryd.underlying5]; rfl) Tryd.underlying3 rfl rfl) ?_
   refine al_in rfl rfl rfl rfl ?_
   refine al_as rfl rfl ?_
   refine al_nt ?_
   refine aw_seq ?_
   refine aw_sr ?_
   refine al_mv rfl rfl ?_
   refine al_val (ov_strLen Tryd.underlying9 rfl rfl) ?_
   refine al_mv rfl rfl ?_
   refine al_in rfl rfl rfl rfl ?_
   refine al_nt ?_
   refine aw_cond rfl (fun hb5 => ?_) (fun hb5 => ?_)
   ·replace h := bif_t hb5 h
    refine aw_sr ?_
    refine al_as rfl rfl ?_
    refine al_as rfl rfl ?_
    refine al_as rfl rfl ?_
    refine al_nt ?_
    refine aw_ret ?_
    refine aq_then_ret ?_
    obtain rfl := Option.some.inj h
    exact fn_ret () [] [] rfl rfl rfl rfl (res3 rfl rfl rfl rfl) rfl rfl rfl (by decide)
   ·replace h := bif_f hb5 h
    refine aw_skip ?_
    refine aq_then ?_
    refine aw_seq ?_
    refine aw_sr ?_
    refine al_mv rfl rfl ?_
    refine al_mv rfl rfl ?_
    obtain ⟨hc6, h⟩ := req_some h
    refine al_val (ov_strCut hc6.1 hc6.2.1 hc6.2.2 Tryd.underlying9 rfl rfl rfl rfl) ?_
    obtain ⟨r8, hc7, h⟩ := opt_some h
    refine al_call (vs := [(str (cut a0 (1 : Int) (IntKind.i64.wrap ((1 : Int) + (IntKind.i64.wrap (En.bAt a0 (0 : Int))))))), (str ([0] : List UInt8))]) (f_strings_HasPrefix_ok fu (cut a0 (1 : Int) (IntKind.i64.wrap ((1 : Int) + (IntKind.i64.wrap (En.bAt a0 (0 : Int)))))) ([0] : List UInt8) hc7) [] [] [] pre_nil rfl (by simp) (by decide) (.inl rfl) rfl Tryd.func39 rfl rfl rfl (fun _ => ?_)
    refine al_nt ?_
    refine aw_cond rfl (fun hb9 => ?_) (fun hb9 => ?_)
    ·replace h := bif_t hb9 h
     refine aw_sr ?_
     refine al_as rfl rfl ?_
     refine al_as rfl rfl ?_
     refine al_as rfl rfl ?_
     refine al_nt ?_
     refine aw_ret ?_
     refine aq_then_ret ?_
     obtain rfl := Option.some.inj h
     exact fn_ret () [] [] rfl rfl rfl rfl (res3 rfl rfl rfl rfl) rfl rfl rfl (by decide)
    ·replace h := bif_f hb9 h
     refine aw_skip ?_
     refine aq_tr ?_
     refine al_mv rfl rfl ?_
     refine al_mv rfl rfl ?_
     obtain ⟨hc10, h⟩ := req_some h
     refine al_val (ov_strCut hc10.1 hc10.2.1 hc10.2.2 Tryd.underlying9 rfl rfl rfl rfl) ?_
     obtain ⟨r12, hc11, h⟩ := opt_some h
     refine al_call (vs := [(str (cut a0 (1 : Int) (IntKind.i64.wrap ((1 : Int) + (IntKind.i64.wrap (En.bAt a0 (0 : Int)))))))]) (f_lumref_number_ok fu (cut a0 (1 : Int) (IntKind.i64.wrap ((1 : Int) + (IntKind.i64.wrap (En.bAt a0 (0 : Int)))))) hc11) [] [] [] pre_nil rfl (by simp) (by decide) (.inl rfl) rfl Tryd.func231 rfl rfl rfl (fun _ => ?_)
     refine al_mv rfl rfl ?_
     refine al_as rfl rfl ?_
     refine al_as rfl rfl ?_
     refine al_as rfl rfl ?_
     refine al_nt ?_
     refine aw_ret ?_
     obtain rfl := Option.some.inj h
     exact fn_ret () [] [] rfl rfl rfl rfl (res3 rfl rfl rfl rfl) rfl rfl rfl (by decide)
def f_lumref_numberAt (fu : Nat) (a0 : (List UInt8)) (a1 : Int) : Option (Int × (List UInt8) × Int) := (opt (f_lumref_Get fu a0) fun (r2 : (Int × Int × Int)) => (lt (fun (j3i9 : Int) => (bif (j3i9 != (0 : Int)) then (some ((0 : Int), ([] : List UInt8), j3i9)) else (req (0 ≤ r2.2.1 ∧ r2.2.1 ≤ (a0.length : Int)) (some ((IntKind.i64.wrap r2.1), (a0.drop (r2.2.1).toNat), (0 : Int)))))) fun (kk4 : Int → Option (Int × (List UInt8) × Int)) => (lt (fun (j7b22 : Bool) => (bif j7b22 then (kk4 (2 : Int)) else (kk4 r2.2.2))) fun (kk8 : Bool → Option (Int × (List UInt8) × Int)) => (bif (r2.2.2 == (0 : Int)) then (kk8 (decide (r2.1 > a1))) else (kk8 false)))))
set_option maxRecDepth 100000 in
theorem f_lumref_numberAt_ok (fu : Nat) (a0 : (List UInt8)) (a1 : Int) {r : (Int × (List UInt8) × Int)} (h : f_lumref_numberAt fu a0 a1 = some r) : FnOk Tryd.prog 168 [(str a0), (int .u64 a1)] [] [] (fun (i : Unit) => { val := (Value.tuple #[(int .i64 r.1), (str r.2.1), (int .i64 r.2.2)]) }) := by
 unfold f_lumref_numberAt at h
 refine fn_enter Tryd.func168 rfl Tryd.ntmps168 rfl (fun w0 Z0 => ?_)
 refine aw_sr ?_
 refine al_as rfl rfl ?_
 refine al_as rfl rfl ?_
 refine al_as rfl rfl ?_
 refine al_nt ?_
 refine aw_sr ?_
 refine al_mv rfl rfl ?_
 obtain ⟨r2, hc1, h⟩ := opt_some h
 refine al_call (vs := [(str a0)]) (f_lumref_Get_ok fu a0 hc1) [] [] [] pre_nil rfl (by simp) (by decide) (.inl rfl) rfl Tryd.func206 rfl rfl rfl (fun _ => ?_)
 refine al_mv rfl rfl ?_
 refine al_ex rfl rfl rfl ?_
 refine al_ex rfl rfl rfl ?_
 refine al_ex rfl rfl rfl ?_
 refine al_as rfl rfl ?_
 refine al_as rfl rfl ?_
 refine al_as rfl rfl ?_
 refine al_nt ?_
 obtain ⟨kk4, hkk4, h⟩ := lt_some h
 refine aw_seq_join (ι := Int) (fun i => (memOf w0 Z0 [] [] [])) (fun i => (tab [(0, (str a0)), (7, (int .u64 r2.1)), (8, (int .i64 r2.2.1)), (9, (int .i64 i))])) (fun i => kk4 i = some r) ?_ ?_
 ·rintro j3i9 h
  have h : kk4 j3i9 = some r := h
  rw [hkk4] at h
  dsimp only at h
  clear hkk4
  refine aw_show (m := (memOf w0 Z0 [] [] [])) (S := (tab [(0, (str a0)), (7, (int .u64 r2.1)), (8, (int .i64 r2.2.1)), (9, (int .i64 j3i9))])) ?_
  refine aw_seq ?_
  refine aw_sr ?_
  refine al_mv rfl rfl ?_
  refine al_in rfl rfl rfl rfl ?_
  refine al_nt ?_
  refine aw_cond rfl (fun hb5 => ?_) (fun hb5 => ?_)
  ·replace h := bif_t hb5 h
   refine aw_sr ?_
   refine al_mv rfl rfl ?_
   refine al_as rfl rfl ?_
   refine al_as rfl rfl ?_
   refine al_as rfl rfl ?_
   refine al_nt ?_
   refine aw_ret ?_
   refine aq_then_ret ?_
   obtain rfl := Option.some.inj h
   exact fn_ret () [] [] rfl rfl rfl rfl (res3 rfl rfl rfl rfl) rfl rfl rfl (by decide)
  ·replace h := bif_f hb5 h
   refine aw_skip ?_
   refine aq_then ?_
   refine aw_seq ?_
   obtain ⟨hc6, h⟩ := req_some h
   refine aw_region_draw 7 [(26, (fun u => fEq u (int .u64 r2.1))), (27, (fun u => fEq u (int .i64 (IntKind.i64.wrap r2.1)))), (28, (fun u => fEq u (str a0))), (29, (fun u => fEq u (int .i64 r2.2.1))), (30, (fun u => fEq u (str (a0.drop (r2.2.1).toNat)))), (4, (fun u => fEq u (int .i64 (IntKind.i64.wrap r2.1)))), (5, (fun u => fEq u (str (a0.drop (r2.2.1).toNat))))] (tab [(0, (str a0)), (7, (int .u64 r2.1)), (8, (int .i64 r2.2.1))]) mixed (by kernel_rfl) rfl rfl rfl (fun a hs => hs.tab _ (allT_mem ⟨rfl, rfl, rfl, trivial⟩)) ⟨⟨rfl, ld_val (ov_move rfl rfl)⟩, ⟨rfl, ld_eq (j := 0) rfl rfl (ld_val (ov_convInt (by rw [Tryd.underlying115]; rfl) Tryd.underlying3 rfl rfl))⟩, ⟨rfl, ld_val (ov_move rfl rfl)⟩, ⟨rfl, ld_val (ov_move rfl rfl)⟩, ⟨rfl, ld_eq (j := 2) rfl rfl (ld_eq (j := 3) rfl rfl (ld_val (ov_strFrom hc6.1 hc6.2 Tryd.underlying9 rfl rfl rfl)))⟩, ⟨rfl, ld_eq (j := 1) rfl rfl (ld_val (ov_assign rfl rfl))⟩, ⟨rfl, ld_eq (j := 4) rfl rfl (ld_val (ov_assign rfl rfl))⟩, trivial⟩ ?_
   refine tl_eq 5 rfl ?_
   refine tl_eq 6 rfl ?_
   refine tl_done ?_
   refine al_as rfl rfl ?_
   refine al_nt ?_
   refine aw_ret ?_
   obtain rfl := Option.some.inj h
   exact fn_ret () [] [] rfl rfl rfl rfl (res3 rfl rfl rfl rfl) rfl rfl rfl (by decide)
 ·clear hkk4
  obtain ⟨kk8, hkk8, h⟩ := lt_some h
  refine aw_seq_join (ι := Bool) (fun i => (memOf w0 Z0 [] [] [])) (fun i => (tab [(0, (str a0)), (7, (int .u64 r2.1)), (8, (int .i64 r2.2.1)), (9, (int .i64 r2.2.2)), (22, (bool i))])) (fun i => kk8 i = some r) ?_ ?_
  ·rintro j7b22 h
   have h : kk8 j7b22 = some r := h
   rw [hkk8] at h
   dsimp only at h
   clear hkk8
   refine aw_show (m := (memOf w0 Z0 [] [] [])) (S := (tab [(0, (str a0)), (7, (int .u64 r2.1)), (8, (int .i64 r2.2.1)), (9, (int .i64 r2.2.2)), (22, (bool j7b22))])) ?_
   refine aw_cond rfl (fun hb9 => ?_) (fun hb9 => ?_)
   ·replace h := bif_t hb9 h
    refine aw_region ?_
    refine al_as rfl rfl ?_
    refine al_nil ?_
    exact aq_join (2 : Int) h (fun w a hm hs => norm hm hs [] [] [(0, (str a0)), (7, (int .u64 r2.1)), (8, (int .i64 r2.2.1)), (9, (int .i64 (2 : Int)))] (by decide) ⟨rfl, rfl, rfl, rfl, trivial⟩)
   ·replace h := bif_f hb9 h
    refine aw_skip ?_
    exact aq_join r2.2.2 h (fun w a hm hs => norm hm hs [] [] [(0, (str a0)), (7, (int .u64 r2.1)), (8, (int .i64 r2.2.1)), (9, (int .i64 r2.2.2))] (by decide) ⟨rfl, rfl, rfl, rfl, trivial⟩)
  ·clear hkk8
   refine aw_region ?_
   refine al_mv rfl rfl ?_
   refine al_in rfl rfl rfl rfl ?_
   refine al_mv rfl rfl ?_
   refine al_caseB 18 rfl (fun hb10 => ?_) (fun hb10 => ?_)
   ·replace h := bif_t hb10 h
    refine al_mv rfl rfl ?_
    refine al_mv rfl rfl ?_
    refine al_in rfl rfl rfl rfl ?_
    refine al_val (ov_pick_t rfl rfl rfl) ?_
    refine al_nil ?_
    exact aq_join (decide (r2.1 > a1)) h (fun w a hm hs => norm hm hs [] [] [(0, (str a0)), (7, (int .u64 r2.1)), (8, (int .i64 r2.2.1)), (9, (int .i64 r2.2.2)), (22, (bool (decide (r2.1 > a1))))] (by decide) ⟨rfl, rfl, rfl, rfl, rfl, trivial⟩)
   ·replace h := bif_f hb10 h
    refine al_skip ?_
    refine al_skip ?_
    refine al_skip ?_
    refine al_val (ov_pick_f rfl rfl rfl) ?_
    refine al_nil ?_
    exact aq_join false h (fun w a hm hs => norm hm hs [] [] [(0, (str a0)), (7, (int .u64 r2.1)), (8, (int .i64 r2.2.1)), (9, (int .i64 r2.2.2)), (22, (bool false))] (by decide) ⟨rfl, rfl, rfl, rfl, rfl, trivial⟩)
def f_lumref_GetText_L3 (a0 : (List UInt8)) : Nat → (List UInt8) → Int → Option ((List UInt8) × Int × Int)
  | 0, _, _ => none
  | k2 + 1, l1s5, l1i6 => (lt (fun (j4b24 : Bool) => (bif j4b24 then (some (([] : List UInt8), (0 : Int), (3 : Int))) else (lt (fun (j7i7 : Int) => (bif ((l1s5.length : Int) == (1024 : Int)) then (some (([] : List UInt8), (0 : Int), (2 : Int))) else (req (0 ≤ l1i6 ∧ l1i6 ≤ (IntKind.i64.wrap (l1i6 + (1 : Int))) ∧ (IntKind.i64.wrap (l1i6 + (1 : Int))) ≤ (a0.length : Int)) (req (l1s5.length + (cut a0 l1i6 (IntKind.i64.wrap (l1i6 + (1 : Int)))).length ≤ 9223372036854775807) (f_lumref_GetText_L3 a0 k2 (l1s5 ++ (cut a0 l1i6 (IntKind.i64.wrap (l1i6 + (1 : Int))))) (IntKind.i64.wrap (l1i6 + j7i7))))))) fun (kk8 : Int → Option ((List UInt8) × Int × Int)) => (req (0 ≤ l1i6 ∧ l1i6 < (a0.length : Int)) (bif ((En.bAt a0 l1i6) == (0 : Int)) then (req (0 ≤ (IntKind.i64.wrap (l1i6 + (1 : Int))) ∧ (IntKind.i64.wrap (l1i6 + (1 : Int))) < (a0.length : Int)) (bif ((En.bAt a0 (IntKind.i64.wrap (l1i6 + (1 : Int)))) == (0 : Int)) then (some (l1s5, (IntKind.i64.wrap (l1i6 + (2 : Int))), (0 : Int))) else (req (0 ≤ (IntKind.i64.wrap (l1i6 + (1 : Int))) ∧ (IntKind.i64.wrap (l1i6 + (1 : Int))) < (a0.length : Int)) (bif ((En.bAt a0 (IntKind.i64.wrap (l1i6 + (1 : Int)))) != (255 : Int)) then (some (([] : List UInt8), (0 : Int), (4 : Int))) else (kk8 (2 : Int)))))) else (kk8 (1 : Int))))))) fun (kk5 : Bool → Option ((List UInt8) × Int × Int)) => (bif (decide (l1i6 ≥ (a0.length : Int))) then (kk5 true) else (req (0 ≤ l1i6 ∧ l1i6 < (a0.length : Int)) (bif ((En.bAt a0 l1i6) == (0 : Int)) then (kk5 (decide ((IntKind.i64.wrap (l1i6 + (1 : Int))) ≥ (a0.length : Int)))) else (kk5 false)))))
def f_lumref_GetText (fu : Nat) (a0 : (List UInt8)) : Option ((List UInt8) × Int × Int) := (f_lumref_GetText_L3 a0 fu ([] : List UInt8) (0 : Int))
set_option maxRecDepth 100000 in
theorem f_lumref_GetText_ok (fu : Nat) (a0 : (List UInt8)) {r : ((List UInt8) × Int × Int)} (h : f_lumref_GetText fu a0 = some r) : FnOk Tryd.prog 207 [(str a0)] [] [] (fun (i : Unit) => { val := (Value.tuple #[(str r.1), (int .i64 r.2.1), (int .i64 r.2.2)]) }) := by
 unfold f_lumref_GetText at h
 refine fn_enter Tryd.func207 rfl Tryd.ntmps207 rfl (fun w0 Z0 => ?_)
 refine aw_sr ?_
 refine al_as rfl rfl ?_
 refine al_as rfl rfl ?_
 refine al_as rfl rfl ?_
 refine al_nt ?_
 refine aw_sr ?_
 refine al_as rfl rfl ?_
 refine al_as rfl rfl ?_
 refine al_nt ?_
 refine aw_block ?_
 refine aw_state (aw_loop (ι := (List UInt8) × Int) (fun i => (memOf w0 Z0 [] [] [])) (fun i => (tab [(0, (str a0)), (5, (str i.1)), (6, (int .i64 i.2))])) (fun q i => f_lumref_GetText_L3 a0 q i.1 i.2 = some r) ?_ fu (([] : List UInt8), (0 : Int)) h) (fun w a hm hs => norm hm hs [] [] [(0, (str a0)), (5, (str ([] : List UInt8))), (6, (int .i64 (0 : Int)))] (by decide) ⟨rfl, rfl, rfl, trivial⟩)
 clear h
 rintro k2 ⟨l1s5, l1i6⟩ h
 have h : f_lumref_GetText_L3 a0 k2 l1s5 l1i6 = some r := h
 obtain _ | k2 := k2
 · rw [f_lumref_GetText_L3] at h; cases h
 rw [f_lumref_GetText_L3] at h
 refine aw_show (m := (memOf w0 Z0 [] [] [])) (S := (tab [(0, (str a0)), (5, (str l1s5)), (6, (int .i64 l1i6))])) ?_
 refine aw_block ?_
 refine aw_seq ?_
 obtain ⟨kk5, hkk5, h⟩ := lt_some h
 refine aw_seq_join (ι := Bool) (fun i => (memOf w0 Z0 [] [] [])) (fun i => (tab [(0, (str a0)), (5, (str l1s5)), (6, (int .i64 l1i6)), (24, (bool i))])) (fun i => kk5 i = some r) ?_ ?_
 ·rintro j4b24 h
  have h : kk5 j4b24 = some r := h
  rw [hkk5] at h
  dsimp only at h
  clear hkk5
  refine aw_show (m := (memOf w0 Z0 [] [] [])) (S := (tab [(0, (str a0)), (5, (str l1s5)), (6, (int .i64 l1i6)), (24, (bool j4b24))])) ?_
  refine aw_cond rfl (fun hb6 => ?_) (fun hb6 => ?_)
  ·replace h := bif_t hb6 h
   refine aw_sr ?_
   refine al_as rfl rfl ?_
   refine al_as rfl rfl ?_
   refine al_as rfl rfl ?_
   refine al_nt ?_
   refine aw_ret ?_
   refine aq_then_ret ?_
   refine aq_block_ret ?_
   refine aq_then_ret ?_
   refine aq_block_ret ?_
   obtain rfl := Option.some.inj h
   exact fn_ret () [] [] rfl rfl rfl rfl (res3 rfl rfl rfl rfl) rfl rfl rfl (by decide)
  ·replace h := bif_f hb6 h
   refine aw_skip ?_
   refine aq_tr ?_
   refine al_as rfl rfl ?_
   refine al_nt ?_
   obtain ⟨kk8, hkk8, h⟩ := lt_some h
   refine aw_seq_join (ι := Int) (fun i => (memOf w0 Z0 [] [] [])) (fun i => (tab [(0, (str a0)), (5, (str l1s5)), (6, (int .i64 l1i6)), (7, (int .i64 i))])) (fun i => kk8 i = some r) ?_ ?_
   ·rintro j7i7 h
    have h : kk8 j7i7 = some r := h
    rw [hkk8] at h
    dsimp only at h
    clear hkk8
    refine aw_show (m := (memOf w0 Z0 [] [] [])) (S := (tab [(0, (str a0)), (5, (str l1s5)), (6, (int .i64 l1i6)), (7, (int .i64 j7i7))])) ?_
    refine aw_seq ?_
    refine aw_sr ?_
    refine al_mv rfl rfl ?_
    refine al_val (ov_strLen Tryd.underlying9 rfl rfl) ?_
    refine al_in rfl rfl rfl rfl ?_
    refine al_nt ?_
    refine aw_cond rfl (fun hb9 => ?_) (fun hb9 => ?_)
    ·replace h := bif_t hb9 h
     refine aw_sr ?_
     refine al_as rfl rfl ?_
     refine al_as rfl rfl ?_
     refine al_as rfl rfl ?_
     refine al_nt ?_
     refine aw_ret ?_
     refine aq_then_ret ?_
     refine aq_block_ret ?_
     refine aq_then_ret ?_
     refine aq_block_ret ?_
     obtain rfl := Option.some.inj h
     exact fn_ret () [] [] rfl rfl rfl rfl (res3 rfl rfl rfl rfl) rfl rfl rfl (by decide)
    ·replace h := bif_f hb9 h
     refine aw_skip ?_
     refine aq_tr ?_
     refine al_mv rfl rfl ?_
     refine al_mv rfl rfl ?_
     refine al_mv rfl rfl ?_
     refine al_mv rfl rfl ?_
     refine al_in rfl rfl rfl rfl ?_
     obtain ⟨hc10, h⟩ := req_some h
     refine al_val (ov_strCut hc10.1 hc10.2.1 hc10.2.2 Tryd.underlying9 rfl rfl rfl rfl) ?_
     obtain ⟨hc11, h⟩ := req_some h
     refine al_val (ov_strAdd hc11 rfl rfl rfl) ?_
     refine al_as rfl rfl ?_
     refine al_nt ?_
     refine aw_region ?_
     refine al_mv rfl rfl ?_
     refine al_mv rfl rfl ?_
     refine al_in rfl rfl rfl rfl ?_
     refine al_as rfl rfl ?_
     refine al_nil ?_
     refine aq_block ?_
     exact aq_again k2 ((l1s5 ++ (cut a0 l1i6 (IntKind.i64.wrap (l1i6 + (1 : Int))))), (IntKind.i64.wrap (l1i6 + j7i7))) (Nat.lt_succ_self _) h (fun w a hm hs => norm hm hs [] [] [(0, (str a0)), (5, (str (l1s5 ++ (cut a0 l1i6 (IntKind.i64.wrap (l1i6 + (1 : Int))))))), (6, (int .i64 (IntKind.i64.wrap (l1i6 + j7i7))))] (by decide) ⟨rfl, rfl, rfl, trivial⟩)
   ·clear hkk8
    refine aw_sr ?_
    refine al_mv rfl rfl ?_
    refine al_mv rfl rfl ?_
    obtain ⟨hc12, h⟩ := req_some h
    refine al_val (ov_strIdx hc12.1 hc12.2 Tryd.underlying9 rfl rfl rfl) ?_
    refine al_in rfl rfl rfl rfl ?_
    refine al_nt ?_
    refine aw_cond rfl (fun hb13 => ?_) (fun hb13 => ?_)
    ·replace h := bif_t hb13 h
     refine aw_seq ?_
     refine aw_sr ?_
     refine al_mv rfl rfl ?_
     refine al_mv rfl rfl ?_
     refine al_in rfl rfl rfl rfl ?_
     obtain ⟨hc14, h⟩ := req_some h
     refine al_val (ov_strIdx hc14.1 hc14.2 Tryd.underlying9 rfl rfl rfl) ?_
     refine al_in rfl rfl rfl rfl ?_
     refine al_nt ?_
     refine aw_cond rfl (fun hb15 => ?_) (fun hb15 => ?_)
     ·replace h := bif_t hb15 h
      refine aw_sr ?_
      refine al_mv rfl rfl ?_
      refine al_mv rfl rfl ?_
      refine al_in rfl rfl rfl rfl ?_
      refine al_as rfl rfl ?_
      refine al_as rfl rfl ?_
      refine al_as rfl rfl ?_
      refine al_nt ?_
      refine aw_ret ?_
      refine aq_then_ret ?_
      refine aq_then_ret ?_
      refine aq_block_ret ?_
      refine aq_then_ret ?_
      refine aq_block_ret ?_
      obtain rfl := Option.some.inj h
      exact fn_ret () [] [] rfl rfl rfl rfl (res3 rfl rfl rfl rfl) rfl rfl rfl (by decide)
     ·replace h := bif_f hb15 h
      refine aw_skip ?_
      refine aq_then ?_
      refine aw_seq ?_
      refine aw_sr ?_
      refine al_mv rfl rfl ?_
      refine al_mv rfl rfl ?_
      refine al_in rfl rfl rfl rfl ?_
      obtain ⟨hc16, h⟩ := req_some h
      refine al_val (ov_strIdx hc16.1 hc16.2 Tryd.underlying9 rfl rfl rfl) ?_
      refine al_in rfl rfl rfl rfl ?_
      refine al_nt ?_
      refine aw_cond rfl (fun hb17 => ?_) (fun hb17 => ?_)
      ·replace h := bif_t hb17 h
       refine aw_sr ?_
       refine al_as rfl rfl ?_
       refine al_as rfl rfl ?_
       refine al_as rfl rfl ?_
       refine al_nt ?_
       refine aw_ret ?_
       refine aq_then_ret ?_
       refine aq_then_ret ?_
       refine aq_block_ret ?_
       refine aq_then_ret ?_
       refine aq_block_ret ?_
       obtain rfl := Option.some.inj h
       exact fn_ret () [] [] rfl rfl rfl rfl (res3 rfl rfl rfl rfl) rfl rfl rfl (by decide)
      ·replace h := bif_f hb17 h
       refine aw_skip ?_
       refine aq_then ?_
       refine aw_region ?_
       refine al_as rfl rfl ?_
       refine al_nil ?_
       exact aq_join (2 : Int) h (fun w a hm hs => norm hm hs [] [] [(0, (str a0)), (5, (str l1s5)), (6, (int .i64 l1i6)), (7, (int .i64 (2 : Int)))] (by decide) ⟨rfl, rfl, rfl, rfl, trivial⟩)
    ·replace h := bif_f hb13 h
     refine aw_skip ?_
     exact aq_join (1 : Int) h (fun w a hm hs => norm hm hs [] [] [(0, (str a0)), (5, (str l1s5)), (6, (int .i64 l1i6)), (7, (int .i64 (1 : Int)))] (by decide) ⟨rfl, rfl, rfl, rfl, trivial⟩)
 ·clear hkk5
  refine aw_region ?_
  refine al_mv rfl rfl ?_
  refine al_mv rfl rfl ?_
  refine al_val (ov_strLen Tryd.underlying9 rfl rfl) ?_
  refine al_in rfl rfl rfl rfl ?_
  refine al_mv rfl rfl ?_
  refine al_caseB 12 rfl (fun hb18 => ?_) (fun hb18 => ?_)
  ·replace h := bif_t hb18 h
   refine al_skip ?_
   refine al_skip ?_
   refine al_skip ?_
   refine al_skip ?_
   refine al_skip ?_
   refine al_skip ?_
   refine al_skip ?_
   refine al_skip ?_
   refine al_skip ?_
   refine al_skip ?_
   refine al_skip ?_
   refine al_val (ov_pick_t rfl rfl rfl) ?_
   refine al_nil ?_
   exact aq_join true h (fun w a hm hs => norm hm hs [] [] [(0, (str a0)), (5, (str l1s5)), (6, (int .i64 l1i6)), (24, (bool true))] (by decide) ⟨rfl, rfl, rfl, rfl, trivial⟩)
  ·replace h := bif_f hb18 h
   refine al_mv rfl rfl ?_
   refine al_mv rfl rfl ?_
   obtain ⟨hc19, h⟩ := req_some h
   refine al_val (ov_strIdx hc19.1 hc19.2 Tryd.underlying9 rfl rfl rfl) ?_
   refine al_in rfl rfl rfl rfl ?_
   refine al_mv rfl rfl ?_
   refine al_caseB 17 rfl (fun hb20 => ?_) (fun hb20 => ?_)
   ·replace h := bif_t hb20 h
    refine al_mv rfl rfl ?_
    refine al_in rfl rfl rfl rfl ?_
    refine al_mv rfl rfl ?_
    refine al_val (ov_strLen Tryd.underlying9 rfl rfl) ?_
    refine al_in rfl rfl rfl rfl ?_
    refine al_val (ov_pick_t rfl rfl rfl) ?_
    refine al_val (ov_pick_f rfl rfl rfl) ?_
    refine al_nil ?_
    exact aq_join (decide ((IntKind.i64.wrap (l1i6 + (1 : Int))) ≥ (a0.length : Int))) h (fun w a hm hs => norm hm hs [] [] [(0, (str a0)), (5, (str l1s5)), (6, (int .i64 l1i6)), (24, (bool (decide ((IntKind.i64.wrap (l1i6 + (1 : Int))) ≥ (a0.length : Int)))))] (by decide) ⟨rfl, rfl, rfl, rfl, trivial⟩)
   ·replace h := bif_f hb20 h
    refine al_skip ?_
    refine al_skip ?_
    refine al_skip ?_
    refine al_skip ?_
    refine al_skip ?_
    refine al_val (ov_pick_f rfl rfl rfl) ?_
    refine al_val (ov_pick_f rfl rfl rfl) ?_
    refine al_nil ?_
    exact aq_join false h (fun w a hm hs => norm hm hs [] [] [(0, (str a0)), (5, (str l1s5)), (6, (int .i64 l1i6)), (24, (bool false))] (by decide) ⟨rfl, rfl, rfl, rfl, trivial⟩)
def f_lumref_turned_L7 (a0 : (List UInt8)) (kk4 : ((List UInt8) → Option (List UInt8))) : Nat → (List UInt8) → Int → Option (List UInt8)
  | 0, _, _ => none
  | k6 + 1, l5x3, l5i9 => (bif (decide (l5i9 < (a0.length : Int))) then (opt (at? l5x3 l5i9) fun (u9 : UInt8) => (opt (at? l5x3 l5i9) fun (u13 : UInt8) => (req (0 ≤ (IntKind.u8.wrap ((255 : Int) - (u9.toNat : Int))) ∧ (IntKind.u8.wrap ((255 : Int) - (u9.toNat : Int))) ≤ 255) (f_lumref_turned_L7 a0 kk4 k6 (l5x3.set (l5i9).toNat (UInt8.ofNat ((IntKind.u8.wrap ((255 : Int) - (u9.toNat : Int)))).toNat)) (IntKind.i64.wrap (l5i9 + (1 : Int))))))) else (kk4 l5x3))
def f_lumref_turned (fu : Nat) (a0 : (List UInt8)) : Option (List UInt8) := (req (a0.length ≤ 9223372036854775807) (lt (fun (j3x3 : (List UInt8)) => (some j3x3)) fun (kk4 : (List UInt8) → Option (List UInt8)) => (f_lumref_turned_L7 a0 kk4 fu a0 (0 : Int))))
set_option maxRecDepth 100000 in
theorem f_lumref_turned_ok (fu : Nat) (a0 : (List UInt8)) {r : (List UInt8)} (h : f_lumref_turned fu a0 = some r) : FnOk Tryd.prog 232 [(str a0)] [] [] (fun (i : Unit) => { val := (str r) }) := by
 unfold f_lumref_turned at h
 refine fn_enter Tryd.func232 rfl Tryd.ntmps232 rfl (fun w0 Z0 => ?_)
 refine aw_sr ?_
 refine al_as rfl rfl ?_
 refine al_nt ?_
 refine aw_sr ?_
 refine al_mv rfl rfl ?_
 obtain ⟨hc1, h⟩ := req_some h
 refine al_bytesO hc1 rfl Tryd.underlying9 Tryd.underlying113 Tryd.underlying5 rfl (fun s2 => ?_)
 refine al_as rfl rfl ?_
 refine al_nt ?_
 obtain ⟨kk4, hkk4, h⟩ := lt_some h
 refine aw_seq_join (ι := (List UInt8)) (fun i => (memOf w0 Z0 [] [(oBy s2 5 i)] [])) (fun i => (tab [(3, s2)])) (fun i => kk4 i = some r) ?_ ?_
 ·rintro j3x3 h
  have h : kk4 j3x3 = some r := h
  rw [hkk4] at h
  dsimp only at h
  clear hkk4
  refine aw_show (m := (memOf w0 Z0 [] [(oBy s2 5 j3x3)] [])) (S := (tab [(3, s2)])) ?_
  refine aw_sr ?_
  refine al_mv rfl rfl ?_
  refine al_val (ov_toStrO 0 rfl rfl Tryd.underlying113 Tryd.underlying5 Tryd.underlying9 rfl) ?_
  refine al_as rfl rfl ?_
  refine al_nt ?_
  refine aw_ret ?_
  obtain rfl := Option.some.inj h
  exact fn_ret () [] [] rfl rfl rfl rfl (res1 rfl rfl) rfl rfl rfl (by decide)
 ·clear hkk4
  refine aw_sr ?_
  refine al_mv rfl rfl ?_
  refine al_val (ov_lenO 0 rfl rfl Tryd.underlying113 rfl) ?_
  refine al_mv rfl rfl ?_
  refine al_nt ?_
  refine aw_block ?_
  refine aw_state (aw_loop (ι := (List UInt8) × Int) (fun i => (memOf w0 Z0 [] [(oBy s2 5 i.1)] [])) (fun i => (tab [(3, s2), (8, (int .i64 (a0.length : Int))), (9, (int .i64 i.2))])) (fun q i => f_lumref_turned_L7 a0 kk4 q i.1 i.2 = some r) ?_ fu (a0, (0 : Int)) h) (fun w a hm hs => norm hm hs [0] [] [(3, s2), (8, (int .i64 (a0.length : Int))), (9, (int .i64 (0 : Int)))] (by decide) ⟨rfl, rfl, rfl, trivial⟩)
  clear h
  rintro k6 ⟨l5x3, l5i9⟩ h
  have h : f_lumref_turned_L7 a0 kk4 k6 l5x3 l5i9 = some r := h
  obtain _ | k6 := k6
  · rw [f_lumref_turned_L7] at h; cases h
  rw [f_lumref_turned_L7] at h
  refine aw_show (m := (memOf w0 Z0 [] [(oBy s2 5 l5x3)] [])) (S := (tab [(3, s2), (8, (int .i64 (a0.length : Int))), (9, (int .i64 l5i9))])) ?_
  refine aw_sr ?_
  refine al_in rfl rfl rfl rfl ?_
  refine al_nt ?_
  refine aw_seq ?_
  refine aw_cond rfl (fun hb8 => ?_) (fun hb8 => ?_)
  ·replace h := bif_t hb8 h
   refine aw_skip ?_
   refine aq_then ?_
   refine aw_seq ?_
   refine aw_block ?_
   refine aw_sr ?_
   refine al_mv rfl rfl ?_
   refine al_as rfl rfl ?_
   refine al_nt ?_
   refine aw_region ?_
   refine al_mv rfl rfl ?_
   refine al_mv rfl rfl ?_
   refine al_mv rfl rfl ?_
   refine al_mv rfl rfl ?_
   obtain ⟨u9, hu10, h⟩ := opt_some h
   refine al_idxO 0 (at_some hu10).1 (at_some hu10).2.1 rfl rfl rfl Tryd.underlying113 sz5 rfl (fun p11 hp12 => ?_)
   refine al_val (ov_loadO (ds := [(int .u8 (u9.toNat : Int))]) 0 rfl hp12 (at_some hu10).2.2 (fun h => h) rfl Tryd.underlying5 sz5 rfl rfl rfl) ?_
   refine al_in rfl rfl rfl rfl ?_
   obtain ⟨u13, hu14, h⟩ := opt_some h
   refine al_idxO 0 (at_some hu14).1 (at_some hu14).2.1 rfl rfl rfl Tryd.underlying113 sz5 rfl (fun p15 hp16 => ?_)
   obtain ⟨hc17, h⟩ := req_some h
   refine al_storeO (k := (l5i9).toNat) (x := (UInt8.ofNat ((IntKind.u8.wrap ((255 : Int) - (u9.toNat : Int)))).toNat)) (vs := [(int .u8 (IntKind.u8.wrap ((255 : Int) - (u9.toNat : Int))))]) 0 rfl hp16 (idx_lt hu14) rfl rfl (cv_rfl rfl) (fun _ => u8_rep hc17) sz5 rfl ?_
   refine al_nil ?_
   refine aq_block ?_
   refine aq_then ?_
   refine aw_region ?_
   refine al_in rfl rfl rfl rfl ?_
   refine al_mv rfl rfl ?_
   refine al_nil ?_
   exact aq_again k6 ((l5x3.set (l5i9).toNat (UInt8.ofNat ((IntKind.u8.wrap ((255 : Int) - (u9.toNat : Int)))).toNat)), (IntKind.i64.wrap (l5i9 + (1 : Int)))) (Nat.lt_succ_self _) h (fun w a hm hs => norm hm hs [0] [] [(3, s2), (8, (int .i64 (a0.length : Int))), (9, (int .i64 (IntKind.i64.wrap (l5i9 + (1 : Int)))))] (by decide) ⟨rfl, rfl, rfl, trivial⟩)
  ·replace h := bif_f hb8 h
   refine aw_exit ?_
   refine aq_then_exit ?_
   refine aq_then_exit ?_
   refine aq_block_exit ?_
   exact aq_join l5x3 h (fun w a hm hs => norm hm hs [0] [] [(3, s2)] (by decide) ⟨rfl, trivial⟩)
def f_lumref_GetInt (fu : Nat) (a0 : (List UInt8)) : Option (Int × Int × Int) := (bif ((a0.length : Int) == (0 : Int)) then (some ((0 : Int), (0 : Int), (3 : Int))) else (lt (fun (j2b19 : Bool) => (bif j2b19 then (some ((0 : Int), (0 : Int), (4 : Int))) else (req (0 ≤ (0 : Int) ∧ (0 : Int) < (a0.length : Int)) (bif (decide ((En.bAt a0 (0 : Int)) ≥ (128 : Int))) then (req (0 ≤ (0 : Int) ∧ (0 : Int) < (a0.length : Int)) (bif (decide ((a0.length : Int) < (IntKind.i64.wrap ((IntKind.i64.wrap ((1 : Int) + (IntKind.i64.wrap (En.bAt a0 (0 : Int))))) - (128 : Int))))) then (some ((0 : Int), (0 : Int), (3 : Int))) else (req (0 ≤ (1 : Int) ∧ (1 : Int) ≤ (IntKind.i64.wrap ((IntKind.i64.wrap ((1 : Int) + (IntKind.i64.wrap (En.bAt a0 (0 : Int))))) - (128 : Int))) ∧ (IntKind.i64.wrap ((IntKind.i64.wrap ((1 : Int) + (IntKind.i64.wrap (En.bAt a0 (0 : Int))))) - (128 : Int))) ≤ (a0.length : Int)) (opt (f_lumref_number fu (cut a0 (1 : Int) (IntKind.i64.wrap ((IntKind.i64.wrap ((1 : Int) + (IntKind.i64.wrap (En.bAt a0 (0 : Int))))) - (128 : Int))))) fun (r11 : Int) => (lt (fun (j12b43 : Bool) => (bif j12b43 then (some ((0 : Int), (0 : Int), (4 : Int))) else (some ((IntKind.i64.wrap r11), (IntKind.i64.wrap ((IntKind.i64.wrap ((1 : Int) + (IntKind.i64.wrap (En.bAt a0 (0 : Int))))) - (128 : Int))), (0 : Int))))) fun (kk13 : Bool → Option (Int × Int × Int)) => (req (0 ≤ (1 : Int) ∧ (1 : Int) ≤ (IntKind.i64.wrap ((IntKind.i64.wrap ((1 : Int) + (IntKind.i64.wrap (En.bAt a0 (0 : Int))))) - (128 : Int))) ∧ (IntKind.i64.wrap ((IntKind.i64.wrap ((1 : Int) + (IntKind.i64.wrap (En.bAt a0 (0 : Int))))) - (128 : Int))) ≤ (a0.length : Int)) (opt (f_strings_HasPrefix fu (cut a0 (1 : Int) (IntKind.i64.wrap ((IntKind.i64.wrap ((1 : Int) + (IntKind.i64.wrap (En.bAt a0 (0 : Int))))) - (128 : Int)))) ([0] : List UInt8)) fun (r17 : Bool) => (bif r17 then (kk13 true) else (kk13 (decide (r11 ≥ (9223372036854775808 : Int)))))))))))) else (req (0 ≤ (0 : Int) ∧ (0 : Int) < (a0.length : Int)) (bif (decide ((a0.length : Int) < (IntKind.i64.wrap ((128 : Int) - (IntKind.i64.wrap (En.bAt a0 (0 : Int))))))) then (some ((0 : Int), (0 : Int), (3 : Int))) else (req (0 ≤ (1 : Int) ∧ (1 : Int) ≤ (IntKind.i64.wrap ((128 : Int) - (IntKind.i64.wrap (En.bAt a0 (0 : Int))))) ∧ (IntKind.i64.wrap ((128 : Int) - (IntKind.i64.wrap (En.bAt a0 (0 : Int))))) ≤ (a0.length : Int)) (opt (f_lumref_turned fu (cut a0 (1 : Int) (IntKind.i64.wrap ((128 : Int) - (IntKind.i64.wrap (En.bAt a0 (0 : Int))))))) fun (r23 : (List UInt8)) => (opt (f_lumref_number fu r23) fun (r25 : Int) => (lt (fun (j26b67 : Bool) => (bif j26b67 then (some ((0 : Int), (0 : Int), (4 : Int))) else (some ((IntKind.i64.wrap ((-1 : Int) - (IntKind.i64.wrap r25))), (IntKind.i64.wrap ((128 : Int) - (IntKind.i64.wrap (En.bAt a0 (0 : Int))))), (0 : Int))))) fun (kk27 : Bool → Option (Int × Int × Int)) => (req (0 ≤ (1 : Int) ∧ (1 : Int) ≤ (IntKind.i64.wrap ((128 : Int) - (IntKind.i64.wrap (En.bAt a0 (0 : Int))))) ∧ (IntKind.i64.wrap ((128 : Int) - (IntKind.i64.wrap (En.bAt a0 (0 : Int))))) ≤ (a0.length : Int)) (opt (f_strings_HasPrefix fu (cut a0 (1 : Int) (IntKind.i64.wrap ((128 : Int) - (IntKind.i64.wrap (En.bAt a0 (0 : Int)))))) ([255] : List UInt8)) fun (r31 : Bool) => (bif r31 then (kk27 true) else (kk27 (decide (r25 ≥ (9223372036854775808 : Int))))))))))))))))) fun (kk3 : Bool → Option (Int × Int × Int)) => (req (0 ≤ (0 : Int) ∧ (0 : Int) < (a0.length : Int)) (bif (decide ((En.bAt a0 (0 : Int)) < (119 : Int))) then (kk3 true) else (req (0 ≤ (0 : Int) ∧ (0 : Int) < (a0.length : Int)) (kk3 (decide ((En.bAt a0 (0 : Int)) > (136 : Int)))))))))
set_option maxRecDepth 100000 in
set_option maxHeartbeats 2000000 in
theorem f_lumref_GetInt_ok (fu : Nat) (a0 : (List UInt8)) {r : (Int × Int × Int)} (h : f_lumref_GetInt fu a0 = some r) : FnOk Tryd.prog 208 [(str a0)] [] [] (fun (i : Unit) => { val := (Value.tuple #[(int .i64 r.1), (int .i64 r.2.1), (int .i64 r.2.2)]) }) := by
 unfold f_lumref_GetInt at h
 refine fn_enter Tryd.func208 rfl Tryd.ntmps208 rfl (fun w0 Z0 => ?_)
 refine aw_sr ?_
 refine al_as rfl rfl ?_
 refine al_as rfl rfl ?_
 refine al_as rfl rfl ?_
 refine al_nt ?_
 refine aw_seq ?_
 refine aw_sr ?_
 refine al_mv rfl rfl ?_
 refine al_val (ov_strLen Tryd.underlying9 rfl rfl) ?_
 refine al_in rfl rfl rfl rfl ?_
 refine al_nt ?_
 refine aw_cond rfl (fun hb1 => ?_) (fun hb1 => ?_)
 ·replace h := bif_t hb1 h
  refine aw_sr ?_
  refine al_as rfl rfl ?_
  refine al_as rfl rfl ?_
  refine al_as rfl rfl ?_
  refine al_nt ?_
  refine aw_ret ?_
  refine aq_then_ret ?_
  obtain rfl := Option.some.inj h
  exact fn_ret () [] [] rfl rfl rfl rfl (res3 rfl rfl rfl rfl) rfl rfl rfl (by decide)
 ·replace h := bif_f hb1 h
  refine aw_skip ?_
  refine aq_then ?_
  refine aw_seq ?_
  obtain ⟨kk3, hkk3, h⟩ := lt_some h
  refine aw_seq_join (ι := Bool) (fun i => (memOf w0 Z0 [] [] [])) (fun i => (tab [(0, (str a0)), (19, (bool i))])) (fun i => kk3 i = some r) ?_ ?_
  ·rintro j2b19 h
   have h : kk3 j2b19 = some r := h
   rw [hkk3] at h
   dsimp only at h
   clear hkk3
   refine aw_show (m := (memOf w0 Z0 [] [] [])) (S := (tab [(0, (str a0)), (19, (bool j2b19))])) ?_
   refine aw_cond rfl (fun hb4 => ?_) (fun hb4 => ?_)
   ·replace h := bif_t hb4 h
    refine aw_sr ?_
    refine al_as rfl rfl ?_
    refine al_as rfl rfl ?_
    refine al_as rfl rfl ?_
    refine al_nt ?_
    refine aw_ret ?_
    refine aq_then_ret ?_
    obtain rfl := Option.some.inj h
    exact fn_ret () [] [] rfl rfl rfl rfl (res3 rfl rfl rfl rfl) rfl rfl rfl (by decide)
   ·replace h := bif_f hb4 h
    refine aw_skip ?_
    refine aq_then ?_
    refine aw_seq ?_
    refine aw_sr ?_
    refine al_mv rfl rfl ?_
    obtain ⟨hc5, h⟩ := req_some h
    refine al_val (ov_strIdx hc5.1 hc5.2 Tryd.underlying9 rfl rfl rfl) ?_
    refine al_in rfl rfl rfl rfl ?_
    refine al_nt ?_
    refine aw_cond rfl (fun hb6 => ?_) (fun hb6 => ?_)
    ·replace h := bif_t hb6 h
     refine aw_sr ?_
     refine al_mv rfl rfl ?_
     obtain ⟨hc7, h⟩ := req_some h
     refine al_val (ov_strIdx hc7.1 hc7.2 Tryd.underlying9 rfl rfl rfl) ?_
     refine al_val (ov_convInt (by rw [Tryd.underlying5]; rfl) Tryd.underlying3 rfl rfl) ?_
     refine al_in rfl rfl rfl rfl ?_
     refine al_in rfl rfl rfl rfl ?_
     refine al_as rfl rfl ?_
     refine al_nt ?_
     refine aw_seq ?_
     refine aw_sr ?_
     refine al_mv rfl rfl ?_
     refine al_val (ov_strLen Tryd.underlying9 rfl rfl) ?_
     refine al_mv rfl rfl ?_
     refine al_in rfl rfl rfl rfl ?_
     refine al_nt ?_
     refine aw_cond rfl (fun hb8 => ?_) (fun hb8 => ?_)
     ·replace h := bif_t hb8 h
      refine aw_sr ?_
      refine al_as rfl rfl ?_
      refine al_as rfl rfl ?_
      refine al_as rfl rfl ?_
      refine al_nt ?_
      refine aw_ret ?_
      refine aq_then_ret ?_
      refine aq_then_ret ?_
      obtain rfl := Option.some.inj h
      exact fn_ret () [] [] rfl rfl rfl rfl (res3 rfl rfl rfl rfl) rfl rfl rfl (by decide)
     ·replace h := bif_f hb8 h
      refine aw_skip ?_
      refine aq_tr ?_
      refine al_mv rfl rfl ?_
      refine al_mv rfl rfl ?_
      obtain ⟨hc9, h⟩ := req_some h
      refine al_val (ov_strCut hc9.1 hc9.2.1 hc9.2.2 Tryd.underlying9 rfl rfl rfl rfl) ?_
      obtain ⟨r11, hc10, h⟩ := opt_some h
      refine al_call (vs := [(str (cut a0 (1 : Int) (IntKind.i64.wrap ((IntKind.i64.wrap ((1 : Int) + (IntKind.i64.wrap (En.bAt a0 (0 : Int))))) - (128 : Int)))))]) (f_lumref_number_ok fu (cut a0 (1 : Int) (IntKind.i64.wrap ((IntKind.i64.wrap ((1 : Int) + (IntKind.i64.wrap (En.bAt a0 (0 : Int))))) - (128 : Int)))) hc10) [] [] [] pre_nil rfl (by simp) (by decide) (.inl rfl) rfl Tryd.func231 rfl rfl rfl (fun _ => ?_)
      refine al_as rfl rfl ?_
      refine al_nt ?_
      refine aw_seq ?_
      obtain ⟨kk13, hkk13, h⟩ := lt_some h
      refine aw_seq_join (ι := Bool) (fun i => (memOf w0 Z0 [] [] [])) (fun i => (tab [(5, (int .i64 (IntKind.i64.wrap ((IntKind.i64.wrap ((1 : Int) + (IntKind.i64.wrap (En.bAt a0 (0 : Int))))) - (128 : Int))))), (6, (int .u64 r11)), (43, (bool i))])) (fun i => kk13 i = some r) ?_ ?_
      ·rintro j12b43 h
       have h : kk13 j12b43 = some r := h
       rw [hkk13] at h
       dsimp only at h
       clear hkk13
       refine aw_show (m := (memOf w0 Z0 [] [] [])) (S := (tab [(5, (int .i64 (IntKind.i64.wrap ((IntKind.i64.wrap ((1 : Int) + (IntKind.i64.wrap (En.bAt a0 (0 : Int))))) - (128 : Int))))), (6, (int .u64 r11)), (43, (bool j12b43))])) ?_
       refine aw_cond rfl (fun hb14 => ?_) (fun hb14 => ?_)
       ·replace h := bif_t hb14 h
        refine aw_sr ?_
        refine al_as rfl rfl ?_
        refine al_as rfl rfl ?_
        refine al_as rfl rfl ?_
        refine al_nt ?_
        refine aw_ret ?_
        refine aq_then_ret ?_
        refine aq_then_ret ?_
        obtain rfl := Option.some.inj h
        exact fn_ret () [] [] rfl rfl rfl rfl (res3 rfl rfl rfl rfl) rfl rfl rfl (by decide)
       ·replace h := bif_f hb14 h
        refine aw_skip ?_
        refine aq_tr ?_
        refine al_mv rfl rfl ?_
        refine al_val (ov_convInt (by rw [Tryd.underlying115]; rfl) Tryd.underlying3 rfl rfl) ?_
        refine al_mv rfl rfl ?_
        refine al_as rfl rfl ?_
        refine al_as rfl rfl ?_
        refine al_as rfl rfl ?_
        refine al_nt ?_
        refine aw_ret ?_
        refine aq_then_ret ?_
        obtain rfl := Option.some.inj h
        exact fn_ret () [] [] rfl rfl rfl rfl (res3 rfl rfl rfl rfl) rfl rfl rfl (by decide)
      ·clear hkk13
       refine aw_region ?_
       refine al_mv rfl rfl ?_
       refine al_mv rfl rfl ?_
       obtain ⟨hc15, h⟩ := req_some h
       refine al_val (ov_strCut hc15.1 hc15.2.1 hc15.2.2 Tryd.underlying9 rfl rfl rfl rfl) ?_
       obtain ⟨r17, hc16, h⟩ := opt_some h
       refine al_call (vs := [(str (cut a0 (1 : Int) (IntKind.i64.wrap ((IntKind.i64.wrap ((1 : Int) + (IntKind.i64.wrap (En.bAt a0 (0 : Int))))) - (128 : Int))))), (str ([0] : List UInt8))]) (f_strings_HasPrefix_ok fu (cut a0 (1 : Int) (IntKind.i64.wrap ((IntKind.i64.wrap ((1 : Int) + (IntKind.i64.wrap (En.bAt a0 (0 : Int))))) - (128 : Int)))) ([0] : List UInt8) hc16) [] [] [] pre_nil rfl (by simp) (by decide) (.inl rfl) rfl Tryd.func39 rfl rfl rfl (fun _ => ?_)
       refine al_mv rfl rfl ?_
       refine al_caseB 40 rfl (fun hb18 => ?_) (fun hb18 => ?_)
       ·replace h := bif_t hb18 h
        refine al_skip ?_
        refine al_skip ?_
        refine al_val (ov_pick_t rfl rfl rfl) ?_
        refine al_nil ?_
        exact aq_join true h (fun w a hm hs => norm hm hs [] [] [(5, (int .i64 (IntKind.i64.wrap ((IntKind.i64.wrap ((1 : Int) + (IntKind.i64.wrap (En.bAt a0 (0 : Int))))) - (128 : Int))))), (6, (int .u64 r11)), (43, (bool true))] (by decide) ⟨rfl, rfl, rfl, trivial⟩)
       ·replace h := bif_f hb18 h
        refine al_mv rfl rfl ?_
        refine al_in rfl rfl rfl rfl ?_
        refine al_val (ov_pick_f rfl rfl rfl) ?_
        refine al_nil ?_
        exact aq_join (decide (r11 ≥ (9223372036854775808 : Int))) h (fun w a hm hs => norm hm hs [] [] [(5, (int .i64 (IntKind.i64.wrap ((IntKind.i64.wrap ((1 : Int) + (IntKind.i64.wrap (En.bAt a0 (0 : Int))))) - (128 : Int))))), (6, (int .u64 r11)), (43, (bool (decide (r11 ≥ (9223372036854775808 : Int)))))] (by decide) ⟨rfl, rfl, rfl, trivial⟩)
    ·replace h := bif_f hb6 h
     refine aw_skip ?_
     refine aq_tr ?_
     refine al_mv rfl rfl ?_
     obtain ⟨hc19, h⟩ := req_some h
     refine al_val (ov_strIdx hc19.1 hc19.2 Tryd.underlying9 rfl rfl rfl) ?_
     refine al_val (ov_convInt (by rw [Tryd.underlying5]; rfl) Tryd.underlying3 rfl rfl) ?_
     refine al_in rfl rfl rfl rfl ?_
     refine al_as rfl rfl ?_
     refine al_nt ?_
     refine aw_seq ?_
     refine aw_sr ?_
     refine al_mv rfl rfl ?_
     refine al_val (ov_strLen Tryd.underlying9 rfl rfl) ?_
     refine al_mv rfl rfl ?_
     refine al_in rfl rfl rfl rfl ?_
     refine al_nt ?_
     refine aw_cond rfl (fun hb20 => ?_) (fun hb20 => ?_)
     ·replace h := bif_t hb20 h
      refine aw_sr ?_
      refine al_as rfl rfl ?_
      refine al_as rfl rfl ?_
      refine al_as rfl rfl ?_
      refine al_nt ?_
      refine aw_ret ?_
      refine aq_then_ret ?_
      obtain rfl := Option.some.inj h
      exact fn_ret () [] [] rfl rfl rfl rfl (res3 rfl rfl rfl rfl) rfl rfl rfl (by decide)
     ·replace h := bif_f hb20 h
      refine aw_skip ?_
      refine aq_tr ?_
      refine al_mv rfl rfl ?_
      refine al_mv rfl rfl ?_
      obtain ⟨hc21, h⟩ := req_some h
      refine al_val (ov_strCut hc21.1 hc21.2.1 hc21.2.2 Tryd.underlying9 rfl rfl rfl rfl) ?_
      obtain ⟨r23, hc22, h⟩ := opt_some h
      refine al_call (vs := [(str (cut a0 (1 : Int) (IntKind.i64.wrap ((128 : Int) - (IntKind.i64.wrap (En.bAt a0 (0 : Int)))))))]) (f_lumref_turned_ok fu (cut a0 (1 : Int) (IntKind.i64.wrap ((128 : Int) - (IntKind.i64.wrap (En.bAt a0 (0 : Int)))))) hc22) [] [] [] pre_nil rfl (by simp) (by decide) (.inl rfl) rfl Tryd.func232 rfl rfl rfl (fun _ => ?_)
      obtain ⟨r25, hc24, h⟩ := opt_some h
      refine al_call (vs := [(str r23)]) (f_lumref_number_ok fu r23 hc24) [] [] [] pre_nil rfl (by simp) (by decide) (.inl rfl) rfl Tryd.func231 rfl rfl rfl (fun _ => ?_)
      refine al_as rfl rfl ?_
      refine al_nt ?_
      refine aw_seq ?_
      obtain ⟨kk27, hkk27, h⟩ := lt_some h
      refine aw_seq_join (ι := Bool) (fun i => (memOf w0 Z0 [] [] [])) (fun i => (tab [(7, (int .i64 (IntKind.i64.wrap ((128 : Int) - (IntKind.i64.wrap (En.bAt a0 (0 : Int))))))), (8, (int .u64 r25)), (67, (bool i))])) (fun i => kk27 i = some r) ?_ ?_
      ·rintro j26b67 h
       have h : kk27 j26b67 = some r := h
       rw [hkk27] at h
       dsimp only at h
       clear hkk27
       refine aw_show (m := (memOf w0 Z0 [] [] [])) (S := (tab [(7, (int .i64 (IntKind.i64.wrap ((128 : Int) - (IntKind.i64.wrap (En.bAt a0 (0 : Int))))))), (8, (int .u64 r25)), (67, (bool j26b67))])) ?_
       refine aw_cond rfl (fun hb28 => ?_) (fun hb28 => ?_)
       ·replace h := bif_t hb28 h
        refine aw_sr ?_
        refine al_as rfl rfl ?_
        refine al_as rfl rfl ?_
        refine al_as rfl rfl ?_
        refine al_nt ?_
        refine aw_ret ?_
        refine aq_then_ret ?_
        obtain rfl := Option.some.inj h
        exact fn_ret () [] [] rfl rfl rfl rfl (res3 rfl rfl rfl rfl) rfl rfl rfl (by decide)
       ·replace h := bif_f hb28 h
        refine aw_skip ?_
        refine aq_tr ?_
        refine al_mv rfl rfl ?_
        refine al_val (ov_convInt (by rw [Tryd.underlying115]; rfl) Tryd.underlying3 rfl rfl) ?_
        refine al_in rfl rfl rfl rfl ?_
        refine al_mv rfl rfl ?_
        refine al_as rfl rfl ?_
        refine al_as rfl rfl ?_
        refine al_as rfl rfl ?_
        refine al_nt ?_
        refine aw_ret ?_
        obtain rfl := Option.some.inj h
        exact fn_ret () [] [] rfl rfl rfl rfl (res3 rfl rfl rfl rfl) rfl rfl rfl (by decide)
      ·clear hkk27
       refine aw_region ?_
       refine al_mv rfl rfl ?_
       refine al_mv rfl rfl ?_
       obtain ⟨hc29, h⟩ := req_some h
       refine al_val (ov_strCut hc29.1 hc29.2.1 hc29.2.2 Tryd.underlying9 rfl rfl rfl rfl) ?_
       obtain ⟨r31, hc30, h⟩ := opt_some h
       refine al_call (vs := [(str (cut a0 (1 : Int) (IntKind.i64.wrap ((128 : Int) - (IntKind.i64.wrap (En.bAt a0 (0 : Int))))))), (str ([255] : List UInt8))]) (f_strings_HasPrefix_ok fu (cut a0 (1 : Int) (IntKind.i64.wrap ((128 : Int) - (IntKind.i64.wrap (En.bAt a0 (0 : Int)))))) ([255] : List UInt8) hc30) [] [] [] pre_nil rfl (by simp) (by decide) (.inl rfl) rfl Tryd.func39 rfl rfl rfl (fun _ => ?_)
       refine al_mv rfl rfl ?_
       refine al_caseB 64 rfl (fun hb32 => ?_) (fun hb32 => ?_)
       ·replace h := bif_t hb32 h
        refine al_skip ?_
        refine al_skip ?_
        refine al_val (ov_pick_t rfl rfl rfl) ?_
        refine al_nil ?_
        exact aq_join true h (fun w a hm hs => norm hm hs [] [] [(7, (int .i64 (IntKind.i64.wrap ((128 : Int) - (IntKind.i64.wrap (En.bAt a0 (0 : Int))))))), (8, (int .u64 r25)), (67, (bool true))] (by decide) ⟨rfl, rfl, rfl, trivial⟩)
       ·replace h := bif_f hb32 h
        refine al_mv rfl rfl ?_
        refine al_in rfl rfl rfl rfl ?_
        refine al_val (ov_pick_f rfl rfl rfl) ?_
        refine al_nil ?_
        exact aq_join (decide (r25 ≥ (9223372036854775808 : Int))) h (fun w a hm hs => norm hm hs [] [] [(7, (int .i64 (IntKind.i64.wrap ((128 : Int) - (IntKind.i64.wrap (En.bAt a0 (0 : Int))))))), (8, (int .u64 r25)), (67, (bool (decide (r25 ≥ (9223372036854775808 : Int)))))] (by decide) ⟨rfl, rfl, rfl, trivial⟩)
  ·clear hkk3
   refine aw_region ?_
   refine al_mv rfl rfl ?_
   obtain ⟨hc33, h⟩ := req_some h
   refine al_val (ov_strIdx hc33.1 hc33.2 Tryd.underlying9 rfl rfl rfl) ?_
   refine al_in rfl rfl rfl rfl ?_
   refine al_mv rfl rfl ?_
   refine al_caseB 15 rfl (fun hb34 => ?_) (fun hb34 => ?_)
   ·replace h := bif_t hb34 h
    refine al_skip ?_
    refine al_skip ?_
    refine al_skip ?_
    refine al_val (ov_pick_t rfl rfl rfl) ?_
    refine al_nil ?_
    exact aq_join true h (fun w a hm hs => norm hm hs [] [] [(0, (str a0)), (19, (bool true))] (by decide) ⟨rfl, rfl, trivial⟩)
   ·replace h := bif_f hb34 h
    refine al_mv rfl rfl ?_
    obtain ⟨hc35, h⟩ := req_some h
    refine al_val (ov_strIdx hc35.1 hc35.2 Tryd.underlying9 rfl rfl rfl) ?_
    refine al_in rfl rfl rfl rfl ?_
    refine al_val (ov_pick_f rfl rfl rfl) ?_
    refine al_nil ?_
    exact aq_join (decide ((En.bAt a0 (0 : Int)) > (136 : Int))) h (fun w a hm hs => norm hm hs [] [] [(0, (str a0)), (19, (bool (decide ((En.bAt a0 (0 : Int)) > (136 : Int)))))] (by decide) ⟨rfl, rfl, trivial⟩)
def f_lumref_nodeRead_L32 (r21 : (Int × (List UInt8) × Int)) (kk25 : ((List UInt8) → (List A8u8) → Option (S_api_Node × (List UInt8) × Int))) : Nat → (List UInt8) → (List A8u8) → Int → Option (S_api_Node × (List UInt8) × Int)
  | 0, _, _, _ => none
  | k31 + 1, l30s0, l30x5_5, l30i85 => (bif (decide (l30i85 < r21.1)) then (req (0 ≤ (8 : Int) ∧ (8 : Int) ≤ (l30s0.length : Int)) (req ((l30s0.take ((8 : Int)).toNat).length ≤ 9223372036854775807) (req (8 ≤ (l30s0.take ((8 : Int)).toNat).length) (req (((l30x5_5.length + ([(ofA8u8 (l30s0.take ((8 : Int)).toNat))]).length) * 8 : Nat) ≤ 140737488355328 ∧ l30x5_5.length + ([(ofA8u8 (l30s0.take ((8 : Int)).toNat))]).length ≤ 9223372036854775807) (req (0 ≤ (8 : Int) ∧ (8 : Int) ≤ (l30s0.length : Int)) (f_lumref_nodeRead_L32 r21 kk25 k31 (l30s0.drop ((8 : Int)).toNat) (l30x5_5 ++ ([(ofA8u8 (l30s0.take ((8 : Int)).toNat))])) (IntKind.i64.wrap (l30i85 + (1 : Int))))))))) else (kk25 l30s0 l30x5_5))
def f_lumref_nodeRead (fu : Nat) (a0 : (List UInt8)) : Option (S_api_Node × (List UInt8) × Int) := (opt (f_lumref_GetText fu a0) fun (r4 : ((List UInt8) × Int × Int)) => (bif (r4.2.2 != (0 : Int)) then (some ((S_api_Node.mk ([] : List UInt8) (0 : Int) (0 : Int) (0 : Int) (0 : Int) ([] : (List A8u8)) ([] : List UInt8)), ([] : List UInt8), r4.2.2)) else (req (0 ≤ r4.2.1 ∧ r4.2.1 ≤ (a0.length : Int)) (bif ((a0.drop (r4.2.1).toNat) == ([] : List UInt8)) then (some ((S_api_Node.mk ([] : List UInt8) (0 : Int) (0 : Int) (0 : Int) (0 : Int) ([] : (List A8u8)) ([] : List UInt8)), ([] : List UInt8), (3 : Int))) else (req (0 ≤ (0 : Int) ∧ (0 : Int) < ((a0.drop (r4.2.1).toNat).length : Int)) (req (0 ≤ (1 : Int) ∧ (1 : Int) ≤ ((a0.drop (r4.2.1).toNat).length : Int)) (opt (f_lumref_numberAt fu ((a0.drop (r4.2.1).toNat).drop ((1 : Int)).toNat) (511 : Int)) fun (r11 : (Int × (List UInt8) × Int)) => (bif (r11.2.2 != (0 : Int)) then (some ((S_api_Node.mk r4.1 (IntKind.i64.wrap (En.bAt (a0.drop (r4.2.1).toNat) (0 : Int))) r11.1 (0 : Int) (0 : Int) ([] : (List A8u8)) ([] : List UInt8)), ([] : List UInt8), r11.2.2)) else (opt (f_lumref_GetInt fu r11.2.1) fun (r14 : (Int × Int × Int)) => (bif (r14.2.2 != (0 : Int)) then (some ((S_api_Node.mk r4.1 (IntKind.i64.wrap (En.bAt (a0.drop (r4.2.1).toNat) (0 : Int))) r11.1 r14.1 (0 : Int) ([] : (List A8u8)) ([] : List UInt8)), ([] : List UInt8), r14.2.2)) else (req (0 ≤ r14.2.1 ∧ r14.2.1 ≤ (r11.2.1.length : Int)) (opt (f_lumref_numberAt fu (r11.2.1.drop (r14.2.1).toNat) (4096 : Int)) fun (r18 : (Int × (List UInt8) × Int)) => (bif (r18.2.2 != (0 : Int)) then (some ((S_api_Node.mk r4.1 (IntKind.i64.wrap (En.bAt (a0.drop (r4.2.1).toNat) (0 : Int))) r11.1 r14.1 r18.1 ([] : (List A8u8)) ([] : List UInt8)), ([] : List UInt8), r18.2.2)) else (opt (f_lumref_numberAt fu r18.2.1 (300 : Int)) fun (r21 : (Int × (List UInt8) × Int)) => (bif (r21.2.2 != (0 : Int)) then (some ((S_api_Node.mk r4.1 (IntKind.i64.wrap (En.bAt (a0.drop (r4.2.1).toNat) (0 : Int))) r11.1 r14.1 r18.1 ([] : (List A8u8)) ([] : List UInt8)), ([] : List UInt8), r21.2.2)) else (bif (decide ((r21.2.1.length : Int) < (IntKind.i64.wrap ((8 : Int) * r21.1)))) then (some ((S_api_Node.mk r4.1 (IntKind.i64.wrap (En.bAt (a0.drop (r4.2.1).toNat) (0 : Int))) r11.1 r14.1 r18.1 ([] : (List A8u8)) ([] : List UInt8)), ([] : List UInt8), (3 : Int))) else (lt (fun (j24s0 : (List UInt8)) (j24x5_5 : (List A8u8)) => (opt (f_lumref_GetText fu j24s0) fun (r27 : ((List UInt8) × Int × Int)) => (bif (r27.2.2 != (0 : Int)) then (some ((S_api_Node.mk r4.1 (IntKind.i64.wrap (En.bAt (a0.drop (r4.2.1).toNat) (0 : Int))) r11.1 r14.1 r18.1 j24x5_5 r27.1), ([] : List UInt8), r27.2.2)) else (req (0 ≤ r27.2.1 ∧ r27.2.1 ≤ (j24s0.length : Int)) (some ((S_api_Node.mk r4.1 (IntKind.i64.wrap (En.bAt (a0.drop (r4.2.1).toNat) (0 : Int))) r11.1 r14.1 r18.1 j24x5_5 r27.1), (j24s0.drop (r27.2.1).toNat), (0 : Int))))))) fun (kk25 : (List UInt8) → (List A8u8) → Option (S_api_Node × (List UInt8) × Int)) => (f_lumref_nodeRead_L32 r21 kk25 fu r21.2.1 ([] : List A8u8) (0 : Int)))))))))))))))))))
end Go.Proofs.YtgmggcpceemnnaaDoor
