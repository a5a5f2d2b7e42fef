/- Walks by program. No condition. -/
import Derived.Test.YtjbgahmcobcojaaDoorEn19
import Derived.Test.YtjbgahmcobcojaaDoorChecked
import Derived.Test.YtjbgahmcobcojaaDoorShBEPut
import Derived.Test.YtjbgahmcobcojaaDoorEnU
import Derived.Test.YtjbgahmcobcojaaDoorShRepeat
import Derived.Test.YtjbgahmcobcojaaDoorWWalkNeeds_a
namespace Go.Proofs.YtjbgahmcobcojaaDoor
open Go.RowKit YtjbgahmcobcojaaDoor.En
set_option linter.unusedVariables false
set_option linter.unusedSimpArgs false
set_option maxRecDepth 100000 in
theorem f_tree_Read_ok (fu : Nat) (a0 : (List UInt8)) {r : ((List S_api_Node) × Int)} (h : f_tree_Read fu a0 = some r) : FnOk Tryd.prog 70 [(str a0)] [uTabs] [] (fun (i : Value) => { val := (Value.tuple #[i, (Value.int .i64 r.2)]), own := [(oRow i 40 tyS_api_Node r.1)] }) := by
  unfold f_tree_Read at h
  refine fn_enter Tryd.func70 rfl Tryd.ntmps70 rfl (fun w0 Z0 => ?_)
  refine aw_seq ?_
  refine aw_region ?_
  refine al_val (ov_assign rfl rfl) ?_
  refine al_val (ov_assign rfl rfl) ?_
  refine al_nil ?_
  refine aq_then ?_
  refine aw_seq ?_
  refine aw_seq ?_
  refine aw_region ?_
  refine al_val (ov_move rfl rfl) ?_
  refine al_val (ov_strLen Tryd.underlying9 rfl rfl) ?_
  refine al_val (ov_int rfl rfl rfl rfl) ?_
  refine al_nil ?_
  refine aq_then ?_
  refine aw_cond rfl (fun hb1 => ?_) (fun hb1 => ?_)
  · replace h := bif_t hb1 h
    refine aw_seq ?_
    refine aw_region ?_
    refine al_val (ov_assign rfl rfl) ?_
    refine al_val (ov_assign rfl rfl) ?_
    refine al_nil ?_
    refine aq_then ?_
    refine aw_ret ?_
    refine aq_then_ret ?_
    refine aq_nilR 40 tyS_api_Node ?_
    obtain rfl := Option.some.inj h
    exact fn_ret (Value.slice none 0 0) [0] [] rfl rfl rfl rfl (res2 rfl rfl rfl) rfl rfl rfl (by decide)
  · replace h := bif_f hb1 h
    refine aw_skip ?_
    refine aq_then ?_
    refine aw_seq ?_
    refine aw_region ?_
    refine al_val (ov_move rfl rfl) ?_
    refine al_val (ov_build (cells := ([(str a0), (Value.int .i64 (0 : Int))]).toArray) (cs := [(str a0), (Value.int .i64 (0 : Int))]) rfl (fun w a hm hs => by simp only [List.map_toArray, List.map_cons, List.map_nil, List.toList_toArray, hs.ev (x := .tmp 9) rfl]; kernel_rfl)) ?_
    refine al_box (vs := [(str a0), (Value.int .i64 (0 : Int))]) rfl (cv_rfl rfl) rfl (fun g2 => ?_)
    refine al_val (ov_assign rfl rfl) ?_
    refine al_nil ?_
    refine aq_then ?_
    refine aw_seq ?_
    refine aw_region ?_
    refine al_val (ov_assign rfl rfl) ?_
    refine al_nil ?_
    refine aq_then ?_
    obtain ⟨kk4, hkk4, h⟩ := lt_some h
    refine aw_seq_join (ι := (List UInt8) × Int × Value × (List S_api_Node)) (fun i => (memOf w0 Z0 [] [(oBox g2 136 [(str i.1), (Value.int .i64 i.2.1)]), (oRow i.2.2.1 40 tyS_api_Node i.2.2.2)] [uTabs])) (fun i => (tab [(4, (ptr g2 0)), (5, i.2.2.1)])) (fun i => kk4 i.1 i.2.1 i.2.2.2 = some r) ?_ ?_
    · rintro ⟨j3s4_0, j3i4_1, j3v5, j3x5⟩ h
      have h : kk4 j3s4_0 j3i4_1 j3x5 = some r := h
      rw [hkk4] at h
      dsimp only at h
      clear hkk4
      refine aw_show (m := (memOf w0 Z0 [] [(oBox g2 136 [(str j3s4_0), (Value.int .i64 j3i4_1)]), (oRow j3v5 40 tyS_api_Node j3x5)] [uTabs])) (S := (tab [(4, (ptr g2 0)), (5, j3v5)])) ?_
      obtain ⟨kk6, hkk6, h⟩ := lt_some h
      refine aw_seq_join (ι := (List UInt8) × Int) (fun i => (memOf w0 Z0 [] [(oBox g2 136 [(str i.1), (Value.int .i64 i.2)]), (oRow j3v5 40 tyS_api_Node j3x5)] [uTabs])) (fun i => (tab [(4, (ptr g2 0)), (5, j3v5)])) (fun i => kk6 i.1 i.2 = some r) ?_ ?_
      · rintro ⟨j5s4_0, j5i4_1⟩ h
        have h : kk6 j5s4_0 j5i4_1 = some r := h
        rw [hkk6] at h
        dsimp only at h
        clear hkk6
        refine aw_show (m := (memOf w0 Z0 [] [(oBox g2 136 [(str j5s4_0), (Value.int .i64 j5i4_1)]), (oRow j3v5 40 tyS_api_Node j3x5)] [uTabs])) (S := (tab [(4, (ptr g2 0)), (5, j3v5)])) ?_
        obtain ⟨kk8, hkk8, h⟩ := lt_some h
        refine aw_seq_join (ι := (List UInt8) × Int) (fun i => (memOf w0 Z0 [] [(oBox g2 136 [(str i.1), (Value.int .i64 i.2)]), (oRow j3v5 40 tyS_api_Node j3x5)] [uTabs])) (fun i => (tab [(4, (ptr g2 0)), (5, j3v5)])) (fun i => kk8 i.1 i.2 = some r) ?_ ?_
        · rintro ⟨j7s4_0, j7i4_1⟩ h
          have h : kk8 j7s4_0 j7i4_1 = some r := h
          rw [hkk8] at h
          dsimp only at h
          clear hkk8
          refine aw_show (m := (memOf w0 Z0 [] [(oBox g2 136 [(str j7s4_0), (Value.int .i64 j7i4_1)]), (oRow j3v5 40 tyS_api_Node j3x5)] [uTabs])) (S := (tab [(4, (ptr g2 0)), (5, j3v5)])) ?_
          refine aw_seq ?_
          refine aw_seq ?_
          refine aw_region ?_
          refine al_val (ov_move rfl rfl) ?_
          refine al_val (ov_nilCheck rfl rfl) ?_
          refine al_val (ov_fieldA (p := 1) rfl Tryd.underlying136 rfl sz23 rfl rfl rfl) ?_
          refine al_val (ov_load (i := 0) (v := (Value.int .i64 j7i4_1)) rfl rfl Tryd.underlying23 sz23 rfl rfl rfl rfl) ?_
          refine al_val (ov_int rfl rfl rfl rfl) ?_
          refine al_nil ?_
          refine aq_then ?_
          refine aw_cond rfl (fun hb9 => ?_) (fun hb9 => ?_)
          · replace h := bif_t hb9 h
            refine aw_seq ?_
            refine aw_region_open [⟨0, 43, Unit, fun _ => { val := (ptr g2 0) }⟩, ⟨1, 44, Unit, fun _ => { val := (ptr g2 0) }⟩, ⟨2, 45, Unit, fun _ => { val := (ptr g2 1) }⟩, ⟨3, 46, Unit, fun _ => { val := (Value.int .i64 j7i4_1) }⟩] (tab [(4, (ptr g2 0))]) mixed (fun a hs => hs.tab _ (allT_mem ⟨rfl, trivial⟩)) ?_
            refine ta_show (m := (memOf w0 Z0 [] [(oBox g2 136 [(str j7s4_0), (Value.int .i64 j7i4_1)]), (oRow j3v5 40 tyS_api_Node j3x5)] [uTabs])) (S := (tab [(4, (ptr g2 0))])) ?_
            refine ta_step 4 _ [0, 1, 2, 3] [43, 44, 45, 46] [] [] [] [⟨0, 43, Unit, fun _ => { val := (ptr g2 0) }⟩, ⟨1, 44, Unit, fun _ => { val := (ptr g2 0) }⟩, ⟨2, 45, Unit, fun _ => { val := (ptr g2 1) }⟩, ⟨3, 46, Unit, fun _ => { val := (Value.int .i64 j7i4_1) }⟩] rfl rfl rfl (by kernel_rfl) rfl rfl rfl ⟨⟨_, rfl, [], rfl, by
    intro X_ Y_ F_ K_ hK_
    refine al_show (m := Mem.plus (memOf w0 Z0 [] [(oBox g2 136 [(str j7s4_0), (Value.int .i64 j7i4_1)]), (oRow j3v5 40 tyS_api_Node j3x5)] [uTabs]) X_ Y_) (S := over (tab [(4, (ptr g2 0))]) F_) ?_
    refine al_val (ov_move rfl rfl) ?_
    refine al_nil ?_
    exact fr_fin hK_ ()⟩, ⟨_, rfl, [0], rfl, by
    intro _
    intro X_ Y_ F_ K_ hK_
    refine al_show (m := Mem.plus (memOf w0 Z0 [] [(oBox g2 136 [(str j7s4_0), (Value.int .i64 j7i4_1)]), (oRow j3v5 40 tyS_api_Node j3x5)] [uTabs]) X_ Y_) (S := over (put (tab [(4, (ptr g2 0))]) 43 (ptr g2 0)) F_) ?_
    refine al_val (ov_nilCheck rfl rfl) ?_
    refine al_nil ?_
    exact fr_fin hK_ ()⟩, ⟨_, rfl, [1], rfl, by
    intro _
    intro X_ Y_ F_ K_ hK_
    refine al_show (m := Mem.plus (memOf w0 Z0 [] [(oBox g2 136 [(str j7s4_0), (Value.int .i64 j7i4_1)]), (oRow j3v5 40 tyS_api_Node j3x5)] [uTabs]) X_ Y_) (S := over (put (tab [(4, (ptr g2 0))]) 44 (ptr g2 0)) F_) ?_
    refine al_val (ov_fieldA (p := 1) rfl Tryd.underlying136 rfl sz23 rfl rfl rfl) ?_
    refine al_nil ?_
    exact fr_fin hK_ ()⟩, ⟨_, rfl, [2], rfl, by
    intro _
    intro X_ Y_ F_ K_ hK_
    refine al_show (m := Mem.plus (memOf w0 Z0 [] [(oBox g2 136 [(str j7s4_0), (Value.int .i64 j7i4_1)]), (oRow j3v5 40 tyS_api_Node j3x5)] [uTabs]) X_ Y_) (S := over (put (tab [(4, (ptr g2 0))]) 45 (ptr g2 1)) F_) ?_
    refine al_val (ov_load (i := 0) (v := (Value.int .i64 j7i4_1)) rfl rfl Tryd.underlying23 sz23 rfl rfl rfl rfl) ?_
    refine al_nil ?_
    exact fr_fin hK_ ()⟩, trivial⟩ ?_
            intro X_ Y_ F_ K_ hK_
            refine al_show (m := Mem.plus (memOf w0 Z0 [] [(oBox g2 136 [(str j7s4_0), (Value.int .i64 j7i4_1)]), (oRow j3v5 40 tyS_api_Node j3x5)] [uTabs]) X_ Y_) (S := over (tab [(4, (ptr g2 0))]) F_) ?_
            refine al_val (ov_assign rfl rfl) ?_
            refine al_nil ?_
            refine aq_show (m := Mem.plus (memOf w0 Z0 [] [(oBox g2 136 [(str j7s4_0), (Value.int .i64 j7i4_1)]), (oRow j3v5 40 tyS_api_Node j3x5)] [uTabs]) X_ Y_) ?_
            refine aq_next hK_ [0, 1] [0] [(2, (Value.slice none 0 0)), (4, (ptr g2 0))] [43, 44, 45, 46] [] rfl rfl (by decide) rfl ⟨rfl, rfl, trivial⟩ ⟨rfl, rfl, rfl, rfl, trivial⟩ ?_
            clear hK_ K_ F_ X_ Y_
            refine ta_show (m := (memOf w0 Z0 [] [(oBox g2 136 [(str j7s4_0), (Value.int .i64 j7i4_1)]), (oRow j3v5 40 tyS_api_Node j3x5)] [uTabs])) (S := (tab [(2, (Value.slice none 0 0)), (4, (ptr g2 0))])) ?_
            refine ta_step 5 _ [0, 1, 2, 3] [43, 44, 45, 46] [0, 1, 2, 3] [] [⟨0, 43, Unit, fun _ => { val := (ptr g2 0) }⟩, ⟨1, 44, Unit, fun _ => { val := (ptr g2 0) }⟩, ⟨2, 45, Unit, fun _ => { val := (ptr g2 1) }⟩, ⟨3, 46, Unit, fun _ => { val := (Value.int .i64 j7i4_1) }⟩] [] rfl rfl rfl (by kernel_rfl) rfl rfl rfl ⟨⟨_, rfl, [], rfl, by
    intro X_ Y_ F_ K_ hK_
    refine al_show (m := Mem.plus (memOf w0 Z0 [] [(oBox g2 136 [(str j7s4_0), (Value.int .i64 j7i4_1)]), (oRow j3v5 40 tyS_api_Node j3x5)] [uTabs]) X_ Y_) (S := over (tab [(2, (Value.slice none 0 0)), (4, (ptr g2 0))]) F_) ?_
    refine al_val (ov_move rfl rfl) ?_
    refine al_nil ?_
    exact fr_fin hK_ ()⟩, ⟨_, rfl, [0], rfl, by
    intro _
    intro X_ Y_ F_ K_ hK_
    refine al_show (m := Mem.plus (memOf w0 Z0 [] [(oBox g2 136 [(str j7s4_0), (Value.int .i64 j7i4_1)]), (oRow j3v5 40 tyS_api_Node j3x5)] [uTabs]) X_ Y_) (S := over (put (tab [(2, (Value.slice none 0 0)), (4, (ptr g2 0))]) 43 (ptr g2 0)) F_) ?_
    refine al_val (ov_nilCheck rfl rfl) ?_
    refine al_nil ?_
    exact fr_fin hK_ ()⟩, ⟨_, rfl, [1], rfl, by
    intro _
    intro X_ Y_ F_ K_ hK_
    refine al_show (m := Mem.plus (memOf w0 Z0 [] [(oBox g2 136 [(str j7s4_0), (Value.int .i64 j7i4_1)]), (oRow j3v5 40 tyS_api_Node j3x5)] [uTabs]) X_ Y_) (S := over (put (tab [(2, (Value.slice none 0 0)), (4, (ptr g2 0))]) 44 (ptr g2 0)) F_) ?_
    refine al_val (ov_fieldA (p := 1) rfl Tryd.underlying136 rfl sz23 rfl rfl rfl) ?_
    refine al_nil ?_
    exact fr_fin hK_ ()⟩, ⟨_, rfl, [2], rfl, by
    intro _
    intro X_ Y_ F_ K_ hK_
    refine al_show (m := Mem.plus (memOf w0 Z0 [] [(oBox g2 136 [(str j7s4_0), (Value.int .i64 j7i4_1)]), (oRow j3v5 40 tyS_api_Node j3x5)] [uTabs]) X_ Y_) (S := over (put (tab [(2, (Value.slice none 0 0)), (4, (ptr g2 0))]) 45 (ptr g2 1)) F_) ?_
    refine al_val (ov_load (i := 0) (v := (Value.int .i64 j7i4_1)) rfl rfl Tryd.underlying23 sz23 rfl rfl rfl rfl) ?_
    refine al_nil ?_
    exact fr_fin hK_ ()⟩, trivial⟩ ?_
            intro _
            intro _
            intro _
            intro _
            intro X_ Y_ F_ K_ hK_
            refine al_show (m := Mem.plus (memOf w0 Z0 [] [(oBox g2 136 [(str j7s4_0), (Value.int .i64 j7i4_1)]), (oRow j3v5 40 tyS_api_Node j3x5)] [uTabs]) X_ Y_) (S := over (put (put (put (put (tab [(2, (Value.slice none 0 0)), (4, (ptr g2 0))]) 43 (ptr g2 0)) 44 (ptr g2 0)) 45 (ptr g2 1)) 46 (Value.int .i64 j7i4_1)) F_) ?_
            refine al_val (ov_assign rfl rfl) ?_
            refine al_nil ?_
            refine aq_show (m := Mem.plus (memOf w0 Z0 [] [(oBox g2 136 [(str j7s4_0), (Value.int .i64 j7i4_1)]), (oRow j3v5 40 tyS_api_Node j3x5)] [uTabs]) X_ Y_) ?_
            refine aq_next hK_ [0, 1] [0] [(2, (Value.slice none 0 0)), (3, (Value.int .i64 j7i4_1))] [] [] rfl rfl (by decide) rfl ⟨rfl, rfl, trivial⟩ trivial ?_
            clear hK_ K_ F_ X_ Y_
            refine ta_show (m := (memOf w0 Z0 [] [(oBox g2 136 [(str j7s4_0), (Value.int .i64 j7i4_1)]), (oRow j3v5 40 tyS_api_Node j3x5)] [uTabs])) (S := (tab [(2, (Value.slice none 0 0)), (3, (Value.int .i64 j7i4_1))])) ?_
            refine ta_end [] [] rfl rfl (by kernel_rfl) rfl trivial ?_
            refine aq_show (m := (memOf w0 Z0 [] [(oBox g2 136 [(str j7s4_0), (Value.int .i64 j7i4_1)]), (oRow j3v5 40 tyS_api_Node j3x5)] [uTabs])) (S := (tab [(2, (Value.slice none 0 0)), (3, (Value.int .i64 j7i4_1))])) ?_
            refine aq_then ?_
            refine aw_ret ?_
            refine aq_then_ret ?_
            refine aq_nilR 40 tyS_api_Node ?_
            obtain rfl := Option.some.inj h
            exact fn_ret (Value.slice none 0 0) [0] [] rfl rfl rfl rfl (res2 rfl rfl rfl) rfl rfl rfl (by decide)
          · replace h := bif_f hb9 h
            refine aw_skip ?_
            refine aq_then ?_
            refine aw_seq ?_
            refine aw_region ?_
            refine al_val (ov_move rfl rfl) ?_
            refine al_val (ov_assign rfl rfl) ?_
            refine al_val (ov_assign rfl rfl) ?_
            refine al_nil ?_
            refine aq_then ?_
            refine aw_ret ?_
            obtain rfl := Option.some.inj h
            exact fn_ret j3v5 [1] [] rfl rfl rfl rfl (res2 rfl rfl rfl) rfl rfl rfl (by decide)
        · clear hkk8
          refine aw_seq ?_
          refine aw_region ?_
          refine al_val (ov_move rfl rfl) ?_
          refine al_val (ov_nilCheck rfl rfl) ?_
          refine al_val (ov_fieldA (p := 1) rfl Tryd.underlying136 rfl sz23 rfl rfl rfl) ?_
          refine al_val (ov_load (i := 0) (v := (Value.int .i64 j5i4_1)) rfl rfl Tryd.underlying23 sz23 rfl rfl rfl rfl) ?_
          refine al_val (ov_int rfl rfl rfl rfl) ?_
          refine al_nil ?_
          refine aq_then ?_
          refine aw_cond rfl (fun hb10 => ?_) (fun hb10 => ?_)
          · replace h := bif_t hb10 h
            refine aw_region ?_
            refine al_val (ov_move rfl rfl) ?_
            refine al_val (ov_move rfl rfl) ?_
            obtain ⟨r12, hc11, h⟩ := opt_some h
            refine al_call (vs := [j3v5]) (f_tree_Check_ok fu j3v5 j3x5 hc11) [1] [] [0, 1] (pre_own 1 rfl rfl (pre_fz 0 rfl pre_nil)) rfl (by simp) (by decide) (.inr flat_res0) rfl Tryd.func23 rfl rfl rfl (fun _ => ?_)
            obtain ⟨r14, hc13, h⟩ := opt_some h
            refine al_call (vs := [(ptr g2 0), (Value.int .i64 r12)]) (f___tree_reader__fail_ok fu g2 (S_tree_reader.mk j5s4_0 j5i4_1) r12 hc13) [] [0] [1] pre_nil rfl (by simp) (by decide) (.inl rfl) rfl Tryd.func110 rfl rfl rfl (fun _ => ?_)
            refine al_nil ?_
            exact aq_join (r14.s, r14.e) h (fun w a hm hs => norm hm hs [0, 1] [0] [(4, (ptr g2 0)), (5, j3v5)] (by decide) ⟨rfl, rfl, trivial⟩)
          · replace h := bif_f hb10 h
            refine aw_skip ?_
            exact aq_join (j5s4_0, j5i4_1) h (fun w a hm hs => norm hm hs [0, 1] [0] [(4, (ptr g2 0)), (5, j3v5)] (by decide) ⟨rfl, rfl, trivial⟩)
      · clear hkk6
        refine aw_seq ?_
        refine aw_region ?_
        refine al_val (ov_move rfl rfl) ?_
        refine al_val (ov_nilCheck rfl rfl) ?_
        refine al_val (ov_fieldA (p := 0) rfl Tryd.underlying136 rfl sz9 rfl rfl rfl) ?_
        refine al_val (ov_load (i := 0) (v := (str j3s4_0)) rfl rfl Tryd.underlying9 sz9 rfl rfl rfl rfl) ?_
        refine al_val (ov_strCmp rfl rfl rfl rfl) ?_
        refine al_nil ?_
        refine aq_then ?_
        refine aw_cond rfl (fun hb15 => ?_) (fun hb15 => ?_)
        · replace h := bif_t hb15 h
          refine aw_region ?_
          refine al_val (ov_move rfl rfl) ?_
          obtain ⟨r17, hc16, h⟩ := opt_some h
          refine al_call (vs := [(ptr g2 0), (Value.int .i64 (4 : Int))]) (f___tree_reader__fail_ok fu g2 (S_tree_reader.mk j3s4_0 j3i4_1) (4 : Int) hc16) [] [0] [1] pre_nil rfl (by simp) (by decide) (.inl rfl) rfl Tryd.func110 rfl rfl rfl (fun _ => ?_)
          refine al_nil ?_
          exact aq_join (r17.s, r17.e) h (fun w a hm hs => norm hm hs [0, 1] [0] [(4, (ptr g2 0)), (5, j3v5)] (by decide) ⟨rfl, rfl, trivial⟩)
        · replace h := bif_f hb15 h
          refine aw_skip ?_
          exact aq_join (j3s4_0, j3i4_1) h (fun w a hm hs => norm hm hs [0, 1] [0] [(4, (ptr g2 0)), (5, j3v5)] (by decide) ⟨rfl, rfl, trivial⟩)
    · clear hkk4
      refine aw_seq ?_
      refine aw_region ?_
      refine al_val (ov_move rfl rfl) ?_
      obtain ⟨r19, hc18, h⟩ := opt_some h
      refine al_call (vs := [(ptr g2 0), (Value.int .u64 (64 : Int))]) (f___tree_reader__number_ok fu g2 (S_tree_reader.mk a0 (0 : Int)) (64 : Int) hc18) [] [0] [] pre_nil rfl (by simp) (by decide) (.inl rfl) rfl Tryd.func108 rfl rfl rfl (fun _ => ?_)
      refine al_val (ov_move rfl rfl) ?_
      refine al_nil ?_
      refine aq_then ?_
      refine aw_block ?_
      refine aw_nilR 40 tyS_api_Node ?_
      refine aw_state (aw_loop (ι := (List UInt8) × Int × Value × (List S_api_Node) × Int) (fun i => (memOf w0 Z0 [] [(oBox g2 136 [(str i.1), (Value.int .i64 i.2.1)]), (oRow i.2.2.1 40 tyS_api_Node i.2.2.2.1)] [uTabs])) (fun i => (tab [(4, (ptr g2 0)), (5, i.2.2.1), (13, (Value.int .i64 r19.1)), (14, (Value.int .i64 i.2.2.2.2))])) (fun q i => f_tree_Read_L22 kk4 r19 fu q i.1 i.2.1 i.2.2.2.1 i.2.2.2.2 = some r) ?_ fu (r19.2.s, r19.2.e, (Value.slice none 0 0), ([] : List S_api_Node), (0 : Int)) h) (fun w a hm hs => norm hm hs [1, 0] [0] [(4, (ptr g2 0)), (5, (Value.slice none 0 0)), (13, (Value.int .i64 r19.1)), (14, (Value.int .i64 (0 : Int)))] (by decide) ⟨rfl, rfl, rfl, rfl, trivial⟩)
      clear h
      rintro k21 ⟨l20s4_0, l20i4_1, l20v5, l20x5, l20i14⟩ h
      have h : f_tree_Read_L22 kk4 r19 fu k21 l20s4_0 l20i4_1 l20x5 l20i14 = some r := h
      obtain _ | k21 := k21
      · rw [f_tree_Read_L22] at h; cases h
      rw [f_tree_Read_L22] at h
      refine aw_show (m := (memOf w0 Z0 [] [(oBox g2 136 [(str l20s4_0), (Value.int .i64 l20i4_1)]), (oRow l20v5 40 tyS_api_Node l20x5)] [uTabs])) (S := (tab [(4, (ptr g2 0)), (5, l20v5), (13, (Value.int .i64 r19.1)), (14, (Value.int .i64 l20i14))])) ?_
      refine aw_seq ?_
      refine aw_region ?_
      refine al_val (ov_int rfl rfl rfl rfl) ?_
      refine al_nil ?_
      refine aq_then ?_
      refine aw_seq ?_
      refine aw_cond rfl (fun hb23 => ?_) (fun hb23 => ?_)
      · replace h := bif_t hb23 h
        refine aw_skip ?_
        refine aq_then ?_
        refine aw_seq ?_
        refine aw_block ?_
        refine aw_region ?_
        refine al_val (ov_move rfl rfl) ?_
        refine al_val (ov_move rfl rfl) ?_
        obtain ⟨r25, hc24, h⟩ := opt_some h
        refine al_call (vs := [(ptr g2 0)]) (f___tree_reader__node_ok fu g2 (S_tree_reader.mk l20s4_0 l20i4_1) hc24) [] [0] [1] pre_nil rfl (by simp) (by decide) (.inl rfl) rfl Tryd.func109 rfl rfl rfl (fun v26 => ?_)
        refine al_buildSlice (τ := tyS_api_Node) (e := 40) (k := 1) (sz := 0) (by_ := 0) (z := undef) (cs := [(str r25.1.Name), (Value.int .i64 r25.1.Kind), (Value.int .i64 r25.1.Mode), (Value.int .i64 r25.1.Time), (Value.int .i64 r25.1.Size), v26, (str r25.1.Link)]) (xs := [(S_api_Node.mk r25.1.Name r25.1.Kind r25.1.Mode r25.1.Time r25.1.Size r25.1.Parts r25.1.Link)]) rfl (by decide) (fun w a hm hs => ⟨([(str r25.1.Name), (Value.int .i64 r25.1.Kind), (Value.int .i64 r25.1.Mode), (Value.int .i64 r25.1.Time), (Value.int .i64 r25.1.Size), v26, (str r25.1.Link)]).toArray, rfl, by simp only [List.map_toArray, List.map_cons, List.map_nil, hs.ev (x := .tmp 18) rfl]; exact run_bs [(ag [(str r25.1.Name), (Value.int .i64 r25.1.Kind), (Value.int .i64 r25.1.Mode), (Value.int .i64 r25.1.Time), (Value.int .i64 r25.1.Size), v26, (str r25.1.Link)])] [(str r25.1.Name), (Value.int .i64 r25.1.Kind), (Value.int .i64 r25.1.Mode), (Value.int .i64 r25.1.Time), (Value.int .i64 r25.1.Size), v26, (str r25.1.Link)] Tryd.underlying32 to40 rfl rfl (bs_cons (l := [(str r25.1.Name), (Value.int .i64 r25.1.Kind), (Value.int .i64 r25.1.Mode), (Value.int .i64 r25.1.Time), (Value.int .i64 r25.1.Size), v26, (str r25.1.Link)]) (cs := []) (cv_rfl rfl) rfl bs_nil) hm⟩) (fun hm => ⟨_, _, rfl, (fun hm => mknS_api_Node rfl (fz_at (i := 0) hm rfl)) hm, rfl⟩) rfl (fun v27 => ?_)
        obtain ⟨hc28, h⟩ := req_some h
        refine al_append 2 hc28.1 hc28.2 rfl (src_own (i := 2) 0 rfl) rfl rfl Tryd.underlying32 to40 rfl rfl rfl (fun v29 => ?_)
        refine al_val (ov_assign rfl rfl) ?_
        refine al_nil ?_
        refine aq_block ?_
        refine aq_then ?_
        refine aw_region ?_
        refine al_val (ov_int rfl rfl rfl rfl) ?_
        refine al_val (ov_move rfl rfl) ?_
        refine al_nil ?_
        exact aq_again k21 (r25.2.s, r25.2.e, v29, (l20x5 ++ ([(S_api_Node.mk r25.1.Name r25.1.Kind r25.1.Mode r25.1.Time r25.1.Size r25.1.Parts r25.1.Link)])), (IntKind.i64.wrap (l20i14 + (1 : Int)))) (Nat.lt_succ_self _) h (fun w a hm hs => norm hm hs [1, 2] [1] [(4, (ptr g2 0)), (5, v29), (13, (Value.int .i64 r19.1)), (14, (Value.int .i64 (IntKind.i64.wrap (l20i14 + (1 : Int)))))] (by decide) ⟨rfl, rfl, rfl, rfl, trivial⟩)
      · replace h := bif_f hb23 h
        refine aw_exit ?_
        refine aq_then_exit ?_
        refine aq_then_exit ?_
        refine aq_block_exit ?_
        exact aq_join (l20s4_0, l20i4_1, l20v5, l20x5) h (fun w a hm hs => norm hm hs [0, 1] [0] [(4, (ptr g2 0)), (5, l20v5)] (by decide) ⟨rfl, rfl, trivial⟩)
def f_slices_Index___api_ID_api_ID__L6 (a0 : (List A8u8)) (a1 : A8u8) (kk3 : (Unit → Option Int)) : Nat → Int → Option Int
  | 0, _ => none
  | k5 + 1, l4i8 => (bif (decide (l4i8 < (a0.length : Int))) then (opt (at? a0 l4i8) fun (u8 : A8u8) => (bif (a1 == u8) then (some l4i8) else (f_slices_Index___api_ID_api_ID__L6 a0 a1 kk3 k5 (IntKind.i64.wrap (l4i8 + (1 : Int)))))) else (kk3 ()))
def f_slices_Index___api_ID_api_ID_ (fu : Nat) (a0 : (List A8u8)) (a1 : A8u8) : Option Int := (lt (fun (_ : Unit) => (some (-1 : Int))) fun (kk3 : Unit → Option Int) => (f_slices_Index___api_ID_api_ID__L6 a0 a1 kk3 fu (0 : Int)))
set_option maxRecDepth 100000 in
theorem f_slices_Index___api_ID_api_ID__ok (fu : Nat) (v0_0 : Value) (a0 : (List A8u8)) (a1 : A8u8) {r : Int} (h : f_slices_Index___api_ID_api_ID_ fu a0 a1 = some r) : FnOk Tryd.prog 111 [v0_0, (ag (cA8u8 a1))] [(fDat (tyList tyA8u8) [v0_0] a0)] [] (fun (i : Unit) => { val := (Value.int .i64 r) }) := by
  unfold f_slices_Index___api_ID_api_ID_ at h
  refine fn_enter Tryd.func111 rfl Tryd.ntmps111 rfl (fun w0 Z0 => ?_)
  refine aw_seq ?_
  refine aw_region ?_
  refine al_box (vs := (cA8u8 a1)) rfl (cv_rfl rfl) rfl (fun g1 => ?_)
  refine al_val (ov_assign rfl rfl) ?_
  refine al_nil ?_
  refine aq_then ?_
  obtain ⟨kk3, hkk3, h⟩ := lt_some h
  refine aw_seq_join (ι := Unit) (fun i => (memOf w0 Z0 [] [] [(fDat (tyList tyA8u8) [v0_0] a0)])) (fun i => (tab [])) (fun i => kk3 () = some r) ?_ ?_
  · rintro _ h
    have h : kk3 () = some r := h
    rw [hkk3] at h
    dsimp only at h
    clear hkk3
    refine aw_show (m := (memOf w0 Z0 [] [] [(fDat (tyList tyA8u8) [v0_0] a0)])) (S := (tab [])) ?_
    refine aw_seq ?_
    refine aw_region ?_
    refine al_val (ov_assign rfl rfl) ?_
    refine al_nil ?_
    refine aq_then ?_
    refine aw_ret ?_
    obtain rfl := Option.some.inj h
    exact fn_ret () [] [] rfl rfl rfl rfl (res1 rfl rfl) rfl rfl rfl (by decide)
  · clear hkk3
    refine aw_seq ?_
    refine aw_region ?_
    refine al_val (ov_move rfl rfl) ?_
    refine al_val (ov_lenD 0 rfl rfl Tryd.underlying38 rfl) ?_
    refine al_val (ov_move rfl rfl) ?_
    refine al_nil ?_
    refine aq_then ?_
    refine aw_block ?_
    refine aw_state (aw_loop (ι := Int) (fun i => (memOf w0 Z0 [] [(oBox g1 49 (cA8u8 a1))] [(fDat (tyList tyA8u8) [v0_0] a0)])) (fun i => (tab [(0, v0_0), (3, (ptr g1 0)), (7, (Value.int .i64 (a0.length : Int))), (8, (Value.int .i64 i))])) (fun q i => f_slices_Index___api_ID_api_ID__L6 a0 a1 kk3 q i = some r) ?_ fu (0 : Int) h) (fun w a hm hs => norm hm hs [0] [0] [(0, v0_0), (3, (ptr g1 0)), (7, (Value.int .i64 (a0.length : Int))), (8, (Value.int .i64 (0 : Int)))] (by decide) ⟨rfl, rfl, rfl, rfl, trivial⟩)
    clear h
    rintro k5 l4i8 h
    have h : f_slices_Index___api_ID_api_ID__L6 a0 a1 kk3 k5 l4i8 = some r := h
    obtain _ | k5 := k5
    · rw [f_slices_Index___api_ID_api_ID__L6] at h; cases h
    rw [f_slices_Index___api_ID_api_ID__L6] at h
    refine aw_show (m := (memOf w0 Z0 [] [(oBox g1 49 (cA8u8 a1))] [(fDat (tyList tyA8u8) [v0_0] a0)])) (S := (tab [(0, v0_0), (3, (ptr g1 0)), (7, (Value.int .i64 (a0.length : Int))), (8, (Value.int .i64 l4i8))])) ?_
    refine aw_seq ?_
    refine aw_region ?_
    refine al_val (ov_int rfl rfl rfl rfl) ?_
    refine al_nil ?_
    refine aq_then ?_
    refine aw_seq ?_
    refine aw_cond rfl (fun hb7 => ?_) (fun hb7 => ?_)
    · replace h := bif_t hb7 h
      refine aw_skip ?_
      refine aq_then ?_
      refine aw_seq ?_
      refine aw_block ?_
      refine aw_seq ?_
      refine aw_region ?_
      refine al_val (ov_move rfl rfl) ?_
      refine al_val (ov_assign rfl rfl) ?_
      refine al_nil ?_
      refine aq_then ?_
      refine aw_seq ?_
      obtain ⟨u8, hu9, h⟩ := opt_some h
      refine aw_region_draw 5 [(11, (fun u => fEq u (ag (cA8u8 a1)))), (12, (fun u => fEq u v0_0)), (13, (fun u => fEq u (Value.int .i64 l4i8))), (14, (fun p10 => (fPtr tyA8u8 p10 u8))), (15, (fun u => fEq u (ag (cA8u8 u8))))] (tab [(0, v0_0), (3, (ptr g1 0)), (5, (Value.int .i64 l4i8)), (7, (Value.int .i64 (a0.length : Int))), (8, (Value.int .i64 l4i8))]) mixed (by kernel_rfl) rfl rfl rfl (fun a hs => hs.tab _ (allT_mem ⟨rfl, rfl, rfl, rfl, rfl, trivial⟩)) ⟨⟨rfl, ld_val (ov_load (i := 0) (v := (ag (cA8u8 a1))) rfl rfl Tryd.underlying49 sz49 rfl rfl rfl rfl)⟩, ⟨rfl, ld_val (ov_move rfl rfl)⟩, ⟨rfl, ld_val (ov_move rfl rfl)⟩, ⟨rfl, ld_eq (j := 1) rfl rfl (ld_eq (j := 2) rfl rfl (ld_of (of_idxD 0 hu9 rfl rfl rfl Tryd.underlying38 sz49 rfl)))⟩, ⟨rfl, ld_fact (j := 3) rfl rfl (fun p10 => ld_val (ov_loadP (ds := (cA8u8 u8)) 0 rfl encA8u8 rfl Tryd.underlying49 sz49 rfl rfl rfl))⟩, trivial⟩ ?_
      refine tl_eq 0 rfl ?_
      refine tl_eq 4 rfl ?_
      refine tl_done ?_
      refine al_val (ov_eqlA (cs := (cA8u8 a1)) (ds := (cA8u8 u8)) (ls := [5, 5, 5, 5, 5, 5, 5, 5]) (p := (a1 == u8)) eg49 kt49 lv49 rfl rfl (by kernel_rfl) (by kernel_rfl) (fit_cons (fit_u8 Tryd.underlying5) (fit_cons (fit_u8 Tryd.underlying5) (fit_cons (fit_u8 Tryd.underlying5) (fit_cons (fit_u8 Tryd.underlying5) (fit_cons (fit_u8 Tryd.underlying5) (fit_cons (fit_u8 Tryd.underlying5) (fit_cons (fit_u8 Tryd.underlying5) (fit_cons (fit_u8 Tryd.underlying5) fit_nil)))))))) (fit_cons (fit_u8 Tryd.underlying5) (fit_cons (fit_u8 Tryd.underlying5) (fit_cons (fit_u8 Tryd.underlying5) (fit_cons (fit_u8 Tryd.underlying5) (fit_cons (fit_u8 Tryd.underlying5) (fit_cons (fit_u8 Tryd.underlying5) (fit_cons (fit_u8 Tryd.underlying5) (fit_cons (fit_u8 Tryd.underlying5) fit_nil)))))))) (injA8u8 (x := a1) (y := u8)) rfl) ?_
      refine al_nil ?_
      refine aq_then ?_
      refine aw_cond rfl (fun hb11 => ?_) (fun hb11 => ?_)
      · replace h := bif_t hb11 h
        refine aw_seq ?_
        refine aw_region ?_
        refine al_val (ov_move rfl rfl) ?_
        refine al_val (ov_assign rfl rfl) ?_
        refine al_nil ?_
        refine aq_then ?_
        refine aw_ret ?_
        refine aq_block_ret ?_
        refine aq_then_ret ?_
        refine aq_then_ret ?_
        refine aq_block_ret ?_
        refine aq_then_ret ?_
        obtain rfl := Option.some.inj h
        exact fn_ret () [] [] rfl rfl rfl rfl (res1 rfl rfl) rfl rfl rfl (by decide)
      · replace h := bif_f hb11 h
        refine aw_skip ?_
        refine aq_block ?_
        refine aq_then ?_
        refine aw_region ?_
        refine al_val (ov_int rfl rfl rfl rfl) ?_
        refine al_val (ov_move rfl rfl) ?_
        refine al_nil ?_
        exact aq_again k5 (IntKind.i64.wrap (l4i8 + (1 : Int))) (Nat.lt_succ_self _) h (fun w a hm hs => norm hm hs [0] [0] [(0, v0_0), (3, (ptr g1 0)), (7, (Value.int .i64 (a0.length : Int))), (8, (Value.int .i64 (IntKind.i64.wrap (l4i8 + (1 : Int)))))] (by decide) ⟨rfl, rfl, rfl, rfl, trivial⟩)
    · replace h := bif_f hb7 h
      refine aw_exit ?_
      refine aq_then_exit ?_
      refine aq_then_exit ?_
      refine aq_block_exit ?_
      exact aq_join () h (fun w a hm hs => norm hm hs [] [0] [] (by decide) trivial)
def f_slices_Contains___api_ID_api_ID_ (fu : Nat) (a0 : (List A8u8)) (a1 : A8u8) : Option Bool := (opt (f_slices_Index___api_ID_api_ID_ fu a0 a1) fun (r3 : Int) => (some (decide (r3 ≥ (0 : Int)))))
set_option maxRecDepth 100000 in
theorem f_slices_Contains___api_ID_api_ID__ok (fu : Nat) (v0_0 : Value) (a0 : (List A8u8)) (a1 : A8u8) {r : Bool} (h : f_slices_Contains___api_ID_api_ID_ fu a0 a1 = some r) : FnOk Tryd.prog 71 [v0_0, (ag (cA8u8 a1))] [(fDat (tyList tyA8u8) [v0_0] a0)] [] (fun (i : Unit) => { val := (Value.bool r) }) := by
  unfold f_slices_Contains___api_ID_api_ID_ at h
  refine fn_enter Tryd.func71 rfl Tryd.ntmps71 rfl (fun w0 Z0 => ?_)
  refine aw_seq ?_
  refine aw_region ?_
  refine al_box (vs := (cA8u8 a1)) rfl (cv_rfl rfl) rfl (fun g1 => ?_)
  refine al_val (ov_assign rfl rfl) ?_
  refine al_nil ?_
  refine aq_then ?_
  refine aw_seq ?_
  refine aw_region ?_
  refine al_val (ov_move rfl rfl) ?_
  refine al_val (ov_load (i := 0) (v := (ag (cA8u8 a1))) rfl rfl Tryd.underlying49 sz49 rfl rfl rfl rfl) ?_
  obtain ⟨r3, hc2, h⟩ := opt_some h
  refine al_call (vs := [v0_0, (ag (cA8u8 a1))]) (f_slices_Index___api_ID_api_ID__ok fu v0_0 a0 a1 hc2) [] [] [0] (pre_fz 0 rfl pre_nil) rfl (by simp) (by decide) (.inl rfl) rfl Tryd.func111 rfl rfl rfl (fun _ => ?_)
  refine al_val (ov_int rfl rfl rfl rfl) ?_
  refine al_val (ov_assign rfl rfl) ?_
  refine al_nil ?_
  refine aq_then ?_
  refine aw_ret ?_
  obtain rfl := Option.some.inj h
  exact fn_ret () [] [] rfl rfl rfl rfl (res1 rfl rfl) rfl rfl rfl (by decide)
def f_walk_Needs_L29 (kk19 : ((List A8u8) → Option ((List A8u8) × Int))) (u20 : S_api_Node) (fu : Nat) : Nat → (List A8u8) → Int → Option ((List A8u8) × Int)
  | 0, _, _ => none
  | k28 + 1, l27x8, l27i42 => (bif (decide (l27i42 < (u20.Parts.length : Int))) then (lt (fun (j31x8 : (List A8u8)) => (f_walk_Needs_L29 kk19 u20 fu k28 j31x8 (IntKind.i64.wrap (l27i42 + (1 : Int))))) fun (kk32 : (List A8u8) → Option ((List A8u8) × Int)) => (opt (at? u20.Parts l27i42) fun (u33 : A8u8) => (opt (f_slices_Contains___api_ID_api_ID_ fu l27x8 u33) fun (r38 : Bool) => (bif (!r38) then (req (((l27x8.length + ([u33]).length) * 8 : Nat) ≤ 140737488355328 ∧ l27x8.length + ([u33]).length ≤ 9223372036854775807) (kk32 (l27x8 ++ ([u33])))) else (kk32 l27x8))))) else (kk19 l27x8))
def f_walk_Needs_L15 (r8 : ((List S_api_Node) × Int)) (kk12 : ((List A8u8) → Option ((List A8u8) × Int))) (fu : Nat) : Nat → (List A8u8) → Int → Option ((List A8u8) × Int)
  | 0, _, _ => none
  | k14 + 1, l13x8, l13i35 => (lt (fun (l13x8 : (List A8u8)) (l13i35 : Int) => (f_walk_Needs_L15 r8 kk12 fu k14 l13x8 l13i35)) fun (kk16 : (List A8u8) → Int → Option ((List A8u8) × Int)) => (bif (decide (l13i35 < (r8.1.length : Int))) then (lt (fun (j18x8 : (List A8u8)) => (kk16 j18x8 (IntKind.i64.wrap (l13i35 + (1 : Int))))) fun (kk19 : (List A8u8) → Option ((List A8u8) × Int)) => (opt (at? r8.1 l13i35) fun (u20 : S_api_Node) => (f_walk_Needs_L29 kk19 u20 fu fu l13x8 (0 : Int)))) else (kk12 l13x8)))
def f_walk_Needs (fu : Nat) (a0 : S_api_Blob) : Option ((List A8u8) × Int) := (opt (f_pack_ID fu a0) fun (r3 : (A8u8 × Int)) => (bif (r3.2 != (0 : Int)) then (some (([] : List A8u8), r3.2)) else (bif (a0.Kind != (2 : Int)) then (some (([] : List A8u8), (0 : Int))) else (opt (f_tree_Read fu a0.Bytes) fun (r8 : ((List S_api_Node) × Int)) => (bif (r8.2 != (0 : Int)) then (some (([] : List A8u8), r8.2)) else (lt (fun (j11x8 : (List A8u8)) => (some (j11x8, (0 : Int)))) fun (kk12 : (List A8u8) → Option ((List A8u8) × Int)) => (f_walk_Needs_L15 r8 kk12 fu fu ([] : List A8u8) (0 : Int))))))))
set_option maxRecDepth 100000 in
theorem f_walk_Needs_ok (fu : Nat) (a0 : S_api_Blob) {r : ((List A8u8) × Int)} (h : f_walk_Needs fu a0 = some r) : FnOk Tryd.prog 24 [(ag [(Value.int .i64 a0.Kind), (str a0.Bytes)])] [uTabs] [] (fun (i : Value) => { val := (Value.tuple #[i, (Value.int .i64 r.2)]), own := [(oRow i 49 tyA8u8 r.1)] }) := by
  unfold f_walk_Needs at h
  refine fn_enter Tryd.func24 rfl Tryd.ntmps24 rfl (fun w0 Z0 => ?_)
  refine aw_seq ?_
  refine aw_region ?_
  refine al_box (vs := [(Value.int .i64 a0.Kind), (str a0.Bytes)]) rfl (cv_rfl rfl) rfl (fun g1 => ?_)
  refine al_val (ov_assign rfl rfl) ?_
  refine al_val (ov_assign rfl rfl) ?_
  refine al_nil ?_
  refine aq_then ?_
  refine aw_seq ?_
  refine aw_seq ?_
  refine aw_region ?_
  refine al_val (ov_load (i := 0) (v := (ag [(Value.int .i64 a0.Kind), (str a0.Bytes)])) rfl rfl Tryd.underlying44 sz44 rfl rfl rfl rfl) ?_
  obtain ⟨r3, hc2, h⟩ := opt_some h
  refine al_call (vs := [(ag [(Value.int .i64 a0.Kind), (str a0.Bytes)])]) (f_pack_ID_ok fu a0 hc2) [] [] [0] pre_nil rfl (by simp) (by decide) (.inl rfl) rfl Tryd.func69 rfl rfl rfl (fun _ => ?_)
  refine al_val (ov_move rfl rfl) ?_
  refine al_val (ov_extract rfl rfl rfl) ?_
  refine al_val (ov_extract rfl rfl rfl) ?_
  refine al_alloc (zs := (cA8u8 (A8u8.mk (0 : UInt8) (0 : UInt8) (0 : UInt8) (0 : UInt8) (0 : UInt8) (0 : UInt8) (0 : UInt8) (0 : UInt8)))) (zeroOf_to to49) rfl rfl (fun g4 => ?_)
  refine al_store (i := 0) (vs := (cA8u8 r3.1)) (cs' := (cA8u8 r3.1)) rfl rfl rfl sz49 (cv_rfl rfl) rfl (co_all (oneA8u8 r3.1)) (Nat.le_of_ble_eq_true rfl) rfl rfl ?_
  refine al_val (ov_assign rfl rfl) ?_
  refine al_nil ?_
  refine aq_then ?_
  refine aw_seq ?_
  refine aw_region ?_
  refine al_val (ov_move rfl rfl) ?_
  refine al_val (ov_int rfl rfl rfl rfl) ?_
  refine al_nil ?_
  refine aq_then ?_
  refine aw_cond rfl (fun hb5 => ?_) (fun hb5 => ?_)
  · replace h := bif_t hb5 h
    refine aw_seq ?_
    refine aw_region ?_
    refine al_val (ov_move rfl rfl) ?_
    refine al_val (ov_assign rfl rfl) ?_
    refine al_val (ov_assign rfl rfl) ?_
    refine al_nil ?_
    refine aq_then ?_
    refine aw_ret ?_
    refine aq_then_ret ?_
    refine aq_nilR 49 tyA8u8 ?_
    obtain rfl := Option.some.inj h
    exact fn_ret (Value.slice none 0 0) [0] [] rfl rfl rfl rfl (res2 rfl rfl rfl) rfl rfl rfl (by decide)
  · replace h := bif_f hb5 h
    refine aw_skip ?_
    refine aq_then ?_
    refine aw_seq ?_
    refine aw_seq ?_
    refine aw_region ?_
    refine al_val (ov_fieldA (p := 0) rfl Tryd.underlying44 rfl sz3 rfl rfl rfl) ?_
    refine al_val (ov_load (i := 1) (v := (Value.int .i64 a0.Kind)) rfl rfl Tryd.underlying3 sz3 rfl rfl rfl rfl) ?_
    refine al_val (ov_int rfl rfl rfl rfl) ?_
    refine al_nil ?_
    refine aq_then ?_
    refine aw_cond rfl (fun hb6 => ?_) (fun hb6 => ?_)
    · replace h := bif_t hb6 h
      refine aw_seq ?_
      refine aw_region ?_
      refine al_val (ov_assign rfl rfl) ?_
      refine al_val (ov_assign rfl rfl) ?_
      refine al_nil ?_
      refine aq_then ?_
      refine aw_ret ?_
      refine aq_then_ret ?_
      refine aq_nilR 49 tyA8u8 ?_
      obtain rfl := Option.some.inj h
      exact fn_ret (Value.slice none 0 0) [0] [] rfl rfl rfl rfl (res2 rfl rfl rfl) rfl rfl rfl (by decide)
    · replace h := bif_f hb6 h
      refine aw_skip ?_
      refine aq_then ?_
      refine aw_seq ?_
      refine aw_region ?_
      refine al_val (ov_fieldA (p := 1) rfl Tryd.underlying44 rfl sz9 rfl rfl rfl) ?_
      refine al_val (ov_load (i := 1) (v := (str a0.Bytes)) rfl rfl Tryd.underlying9 sz9 rfl rfl rfl rfl) ?_
      obtain ⟨r8, hc7, h⟩ := opt_some h
      refine al_call (vs := [(str a0.Bytes)]) (f_tree_Read_ok fu a0.Bytes hc7) [] [] [0, 1] (pre_fz 0 rfl pre_nil) rfl (by simp) (by decide) (.inl rfl) rfl Tryd.func70 rfl rfl rfl (fun v9 => ?_)
      refine al_val (ov_move rfl rfl) ?_
      refine al_val (ov_extract rfl rfl rfl) ?_
      refine al_val (ov_extract rfl rfl rfl) ?_
      refine al_val (ov_assign rfl rfl) ?_
      refine al_val (ov_assign rfl rfl) ?_
      refine al_nil ?_
      refine aq_then ?_
      refine aw_seq ?_
      refine aw_seq ?_
      refine aw_region ?_
      refine al_val (ov_move rfl rfl) ?_
      refine al_val (ov_int rfl rfl rfl rfl) ?_
      refine al_nil ?_
      refine aq_then ?_
      refine aw_cond rfl (fun hb10 => ?_) (fun hb10 => ?_)
      · replace h := bif_t hb10 h
        refine aw_seq ?_
        refine aw_region ?_
        refine al_val (ov_move rfl rfl) ?_
        refine al_val (ov_assign rfl rfl) ?_
        refine al_val (ov_assign rfl rfl) ?_
        refine al_nil ?_
        refine aq_then ?_
        refine aw_ret ?_
        refine aq_then_ret ?_
        refine aq_nilR 49 tyA8u8 ?_
        obtain rfl := Option.some.inj h
        exact fn_ret (Value.slice none 0 0) [0] [] rfl rfl rfl rfl (res2 rfl rfl rfl) rfl rfl rfl (by decide)
      · replace h := bif_f hb10 h
        refine aw_skip ?_
        refine aq_then ?_
        refine aw_seq ?_
        refine aw_region ?_
        refine al_val (ov_assign rfl rfl) ?_
        refine al_nil ?_
        refine aq_then ?_
        obtain ⟨kk12, hkk12, h⟩ := lt_some h
        refine aw_seq_join (ι := Value × (List A8u8)) (fun i => (memOf w0 Z0 [] [(oRow i.1 49 tyA8u8 i.2)] [uTabs])) (fun i => (tab [(8, i.1)])) (fun i => kk12 i.2 = some r) ?_ ?_
        · rintro ⟨j11v8, j11x8⟩ h
          have h : kk12 j11x8 = some r := h
          rw [hkk12] at h
          dsimp only at h
          clear hkk12
          refine aw_show (m := (memOf w0 Z0 [] [(oRow j11v8 49 tyA8u8 j11x8)] [uTabs])) (S := (tab [(8, j11v8)])) ?_
          refine aw_seq ?_
          refine aw_region ?_
          refine al_val (ov_move rfl rfl) ?_
          refine al_val (ov_assign rfl rfl) ?_
          refine al_val (ov_assign rfl rfl) ?_
          refine al_nil ?_
          refine aq_then ?_
          refine aw_ret ?_
          obtain rfl := Option.some.inj h
          exact fn_ret j11v8 [0] [] rfl rfl rfl rfl (res2 rfl rfl rfl) rfl rfl rfl (by decide)
        · clear hkk12
          refine aw_seq ?_
          refine aw_region ?_
          refine al_val (ov_move rfl rfl) ?_
          refine al_val (ov_lenR 0 rfl rfl Tryd.underlying32 rfl) ?_
          refine al_val (ov_move rfl rfl) ?_
          refine al_nil ?_
          refine aq_then ?_
          refine aw_block ?_
          refine aw_nilR 49 tyA8u8 ?_
          refine aw_state (aw_loop (ι := Value × (List A8u8) × Int) (fun i => (memOf w0 Z0 [] [(oRow i.1 49 tyA8u8 i.2.1), (oRow v9 40 tyS_api_Node r8.1)] [uTabs])) (fun i => (tab [(8, i.1), (33, v9), (34, (Value.int .i64 (r8.1.length : Int))), (35, (Value.int .i64 i.2.2))])) (fun q i => f_walk_Needs_L15 r8 kk12 fu q i.2.1 i.2.2 = some r) ?_ fu ((Value.slice none 0 0), ([] : List A8u8), (0 : Int)) h) (fun w a hm hs => norm hm hs [0, 1] [0] [(8, (Value.slice none 0 0)), (33, v9), (34, (Value.int .i64 (r8.1.length : Int))), (35, (Value.int .i64 (0 : Int)))] (by decide) ⟨rfl, rfl, rfl, rfl, trivial⟩)
          clear h
          rintro k14 ⟨l13v8, l13x8, l13i35⟩ h
          have h : f_walk_Needs_L15 r8 kk12 fu k14 l13x8 l13i35 = some r := h
          obtain _ | k14 := k14
          · rw [f_walk_Needs_L15] at h; cases h
          rw [f_walk_Needs_L15] at h
          refine aw_show (m := (memOf w0 Z0 [] [(oRow l13v8 49 tyA8u8 l13x8), (oRow v9 40 tyS_api_Node r8.1)] [uTabs])) (S := (tab [(8, l13v8), (33, v9), (34, (Value.int .i64 (r8.1.length : Int))), (35, (Value.int .i64 l13i35))])) ?_
          obtain ⟨kk16, hkk16, h⟩ := lt_some h
          refine aw_body_join (ι := Value × (List A8u8) × Int) (fun i => (memOf w0 Z0 [] [(oRow i.1 49 tyA8u8 i.2.1), (oRow v9 40 tyS_api_Node r8.1)] [uTabs])) (fun i => (tab [(8, i.1), (33, v9), (34, (Value.int .i64 (r8.1.length : Int))), (35, (Value.int .i64 i.2.2))])) (fun i => kk16 i.2.1 i.2.2 = some r) (fun i h => aq_again k14 i (Nat.lt_succ_self _) (by rw [hkk16] at h; exact h) (fun w a hm hs => ⟨hm, hs⟩)) ?_
          clear hkk16
          refine aw_seq ?_
          refine aw_region ?_
          refine al_val (ov_int rfl rfl rfl rfl) ?_
          refine al_nil ?_
          refine aq_then ?_
          refine aw_seq ?_
          refine aw_cond rfl (fun hb17 => ?_) (fun hb17 => ?_)
          · replace h := bif_t hb17 h
            refine aw_skip ?_
            refine aq_then ?_
            obtain ⟨kk19, hkk19, h⟩ := lt_some h
            refine aw_seq_join (ι := Value × (List A8u8)) (fun i => (memOf w0 Z0 [] [(oRow i.1 49 tyA8u8 i.2), (oRow v9 40 tyS_api_Node r8.1)] [uTabs])) (fun i => (tab [(8, i.1), (33, v9), (34, (Value.int .i64 (r8.1.length : Int))), (35, (Value.int .i64 l13i35))])) (fun i => kk19 i.2 = some r) ?_ ?_
            · rintro ⟨j18v8, j18x8⟩ h
              have h : kk19 j18x8 = some r := h
              rw [hkk19] at h
              dsimp only at h
              clear hkk19
              refine aw_show (m := (memOf w0 Z0 [] [(oRow j18v8 49 tyA8u8 j18x8), (oRow v9 40 tyS_api_Node r8.1)] [uTabs])) (S := (tab [(8, j18v8), (33, v9), (34, (Value.int .i64 (r8.1.length : Int))), (35, (Value.int .i64 l13i35))])) ?_
              refine aw_region ?_
              refine al_val (ov_int rfl rfl rfl rfl) ?_
              refine al_val (ov_move rfl rfl) ?_
              refine al_nil ?_
              exact aq_join (j18v8, j18x8, (IntKind.i64.wrap (l13i35 + (1 : Int)))) h (fun w a hm hs => norm hm hs [0, 1] [0] [(8, j18v8), (33, v9), (34, (Value.int .i64 (r8.1.length : Int))), (35, (Value.int .i64 (IntKind.i64.wrap (l13i35 + (1 : Int)))))] (by decide) ⟨rfl, rfl, rfl, rfl, trivial⟩)
            · clear hkk19
              refine aw_block ?_
              refine aw_seq ?_
              refine aw_region ?_
              obtain ⟨u20, hu21, h⟩ := opt_some h
              refine al_idxR 1 (at_some hu21).1 (at_some hu21).2.1 rfl rfl rfl Tryd.underlying32 sz40 rfl (fun p22 hp23 => ?_)
              refine al_loadRA 1 rfl hp23 (at_some hu21).2.2 rfl Tryd.underlying40 sz40 rfl rfl (fun cs25 => ?_)
              refine al_use (ι := Value) 0 rfl (fun j => cs25 = [(str u20.Name), (Value.int .i64 u20.Kind), (Value.int .i64 u20.Mode), (Value.int .i64 u20.Time), (Value.int .i64 u20.Size), j, (str u20.Link)]) (fun j => [(fDat (tyList tyA8u8) [j] u20.Parts)]) encnS_api_Node (fun s24 hq => ?_)
              subst hq
              refine al_alloc (zs := [(str ([] : List UInt8)), (Value.int .i64 (0 : Int)), (Value.int .i64 (0 : Int)), (Value.int .i64 (0 : Int)), (Value.int .i64 (0 : Int)), (Value.slice none 0 0), (str ([] : List UInt8))]) (zeroOf_to to40) rfl rfl (fun g26 => ?_)
              refine al_store (i := 0) (vs := [(str u20.Name), (Value.int .i64 u20.Kind), (Value.int .i64 u20.Mode), (Value.int .i64 u20.Time), (Value.int .i64 u20.Size), s24, (str u20.Link)]) (cs' := [(str u20.Name), (Value.int .i64 u20.Kind), (Value.int .i64 u20.Mode), (Value.int .i64 u20.Time), (Value.int .i64 u20.Size), s24, (str u20.Link)]) rfl rfl rfl sz40 (cv_rfl rfl) rfl (co_val rfl (co_val rfl (co_val rfl (co_val rfl (co_val rfl (co_fz 0 rfl (co_val rfl co_nil))))))) (Nat.le_of_ble_eq_true rfl) rfl rfl ?_
              refine al_nil ?_
              refine aq_then ?_
              refine aw_seq ?_
              refine aw_region ?_
              refine al_val (ov_fieldA (p := 5) rfl Tryd.underlying40 rfl sz38 rfl rfl rfl) ?_
              refine al_val (ov_load (i := 0) (v := s24) rfl rfl Tryd.underlying38 sz38 rfl rfl rfl rfl) ?_
              refine al_val (ov_lenD 0 rfl rfl Tryd.underlying38 rfl) ?_
              refine al_val (ov_move rfl rfl) ?_
              refine al_nil ?_
              refine aq_then ?_
              refine aw_block ?_
              refine aw_state (aw_loop (ι := Value × (List A8u8) × Int) (fun i => (memOf w0 Z0 [] [(oRow i.1 49 tyA8u8 i.2.1), (oRow v9 40 tyS_api_Node r8.1)] [(fDat (tyList tyA8u8) [s24] u20.Parts), (fDat tyS_api_Node [(str u20.Name), (Value.int .i64 u20.Kind), (Value.int .i64 u20.Mode), (Value.int .i64 u20.Time), (Value.int .i64 u20.Size), s24, (str u20.Link)] u20), uTabs])) (fun i => (tab [(8, i.1), (33, v9), (34, (Value.int .i64 (r8.1.length : Int))), (35, (Value.int .i64 l13i35)), (40, s24), (41, (Value.int .i64 (u20.Parts.length : Int))), (42, (Value.int .i64 i.2.2))])) (fun q i => f_walk_Needs_L29 kk19 u20 fu q i.2.1 i.2.2 = some r) ?_ fu (l13v8, l13x8, (0 : Int)) h) (fun w a hm hs => norm hm hs [1, 2] [0, 1, 2] [(8, l13v8), (33, v9), (34, (Value.int .i64 (r8.1.length : Int))), (35, (Value.int .i64 l13i35)), (40, s24), (41, (Value.int .i64 (u20.Parts.length : Int))), (42, (Value.int .i64 (0 : Int)))] (by decide) ⟨rfl, rfl, rfl, rfl, rfl, rfl, rfl, trivial⟩)
              clear h
              rintro k28 ⟨l27v8, l27x8, l27i42⟩ h
              have h : f_walk_Needs_L29 kk19 u20 fu k28 l27x8 l27i42 = some r := h
              obtain _ | k28 := k28
              · rw [f_walk_Needs_L29] at h; cases h
              rw [f_walk_Needs_L29] at h
              refine aw_show (m := (memOf w0 Z0 [] [(oRow l27v8 49 tyA8u8 l27x8), (oRow v9 40 tyS_api_Node r8.1)] [(fDat (tyList tyA8u8) [s24] u20.Parts), (fDat tyS_api_Node [(str u20.Name), (Value.int .i64 u20.Kind), (Value.int .i64 u20.Mode), (Value.int .i64 u20.Time), (Value.int .i64 u20.Size), s24, (str u20.Link)] u20), uTabs])) (S := (tab [(8, l27v8), (33, v9), (34, (Value.int .i64 (r8.1.length : Int))), (35, (Value.int .i64 l13i35)), (40, s24), (41, (Value.int .i64 (u20.Parts.length : Int))), (42, (Value.int .i64 l27i42))])) ?_
              refine aw_seq ?_
              refine aw_region ?_
              refine al_val (ov_int rfl rfl rfl rfl) ?_
              refine al_nil ?_
              refine aq_then ?_
              refine aw_seq ?_
              refine aw_cond rfl (fun hb30 => ?_) (fun hb30 => ?_)
              · replace h := bif_t hb30 h
                refine aw_skip ?_
                refine aq_then ?_
                obtain ⟨kk32, hkk32, h⟩ := lt_some h
                refine aw_seq_join (ι := Value × (List A8u8)) (fun i => (memOf w0 Z0 [] [(oRow i.1 49 tyA8u8 i.2), (oRow v9 40 tyS_api_Node r8.1)] [(fDat (tyList tyA8u8) [s24] u20.Parts), (fDat tyS_api_Node [(str u20.Name), (Value.int .i64 u20.Kind), (Value.int .i64 u20.Mode), (Value.int .i64 u20.Time), (Value.int .i64 u20.Size), s24, (str u20.Link)] u20), uTabs])) (fun i => (tab [(8, i.1), (33, v9), (34, (Value.int .i64 (r8.1.length : Int))), (35, (Value.int .i64 l13i35)), (40, s24), (41, (Value.int .i64 (u20.Parts.length : Int))), (42, (Value.int .i64 l27i42))])) (fun i => kk32 i.2 = some r) ?_ ?_
                · rintro ⟨j31v8, j31x8⟩ h
                  have h : kk32 j31x8 = some r := h
                  rw [hkk32] at h
                  dsimp only at h
                  clear hkk32
                  refine aw_show (m := (memOf w0 Z0 [] [(oRow j31v8 49 tyA8u8 j31x8), (oRow v9 40 tyS_api_Node r8.1)] [(fDat (tyList tyA8u8) [s24] u20.Parts), (fDat tyS_api_Node [(str u20.Name), (Value.int .i64 u20.Kind), (Value.int .i64 u20.Mode), (Value.int .i64 u20.Time), (Value.int .i64 u20.Size), s24, (str u20.Link)] u20), uTabs])) (S := (tab [(8, j31v8), (33, v9), (34, (Value.int .i64 (r8.1.length : Int))), (35, (Value.int .i64 l13i35)), (40, s24), (41, (Value.int .i64 (u20.Parts.length : Int))), (42, (Value.int .i64 l27i42))])) ?_
                  refine aw_region ?_
                  refine al_val (ov_int rfl rfl rfl rfl) ?_
                  refine al_val (ov_move rfl rfl) ?_
                  refine al_nil ?_
                  exact aq_again k28 (j31v8, j31x8, (IntKind.i64.wrap (l27i42 + (1 : Int)))) (Nat.lt_succ_self _) h (fun w a hm hs => norm hm hs [0, 1] [0, 1, 2] [(8, j31v8), (33, v9), (34, (Value.int .i64 (r8.1.length : Int))), (35, (Value.int .i64 l13i35)), (40, s24), (41, (Value.int .i64 (u20.Parts.length : Int))), (42, (Value.int .i64 (IntKind.i64.wrap (l27i42 + (1 : Int)))))] (by decide) ⟨rfl, rfl, rfl, rfl, rfl, rfl, rfl, trivial⟩)
                · clear hkk32
                  refine aw_block ?_
                  refine aw_seq ?_
                  refine aw_region ?_
                  obtain ⟨u33, hu34, h⟩ := opt_some h
                  refine al_idxD 0 hu34 rfl rfl rfl Tryd.underlying38 sz49 rfl (fun p35 => ?_)
                  refine al_val (ov_loadP (ds := (cA8u8 u33)) 0 rfl encA8u8 rfl Tryd.underlying49 sz49 rfl rfl rfl) ?_
                  refine al_alloc (zs := (cA8u8 (A8u8.mk (0 : UInt8) (0 : UInt8) (0 : UInt8) (0 : UInt8) (0 : UInt8) (0 : UInt8) (0 : UInt8) (0 : UInt8)))) (zeroOf_to to49) rfl rfl (fun g36 => ?_)
                  refine al_store (i := 0) (vs := (cA8u8 u33)) (cs' := (cA8u8 u33)) rfl rfl rfl sz49 (cv_rfl rfl) rfl (co_all (oneA8u8 u33)) (Nat.le_of_ble_eq_true rfl) rfl rfl ?_
                  refine al_nil ?_
                  refine aq_then ?_
                  refine aw_seq ?_
                  refine aw_region ?_
                  refine al_val (ov_move rfl rfl) ?_
                  refine al_val (ov_load (i := 0) (v := (ag (cA8u8 u33))) rfl rfl Tryd.underlying49 sz49 rfl rfl rfl rfl) ?_
                  obtain ⟨r38, hc37, h⟩ := opt_some h
                  refine al_call (vs := [l27v8, (ag (cA8u8 u33))]) (f_slices_Contains___api_ID_api_ID__ok fu l27v8 l27x8 u33 hc37) [1] [] [0, 1, 2] (pre_own 1 rfl rfl pre_nil) rfl (by simp) (by decide) (.inr flat_res0) rfl Tryd.func71 rfl rfl rfl (fun _ => ?_)
                  refine al_val (ov_not rfl rfl) ?_
                  refine al_nil ?_
                  refine aq_then ?_
                  refine aw_cond rfl (fun hb39 => ?_) (fun hb39 => ?_)
                  · replace h := bif_t hb39 h
                    refine aw_region ?_
                    refine al_val (ov_move rfl rfl) ?_
                    refine al_val (ov_load (i := 0) (v := (ag (cA8u8 u33))) rfl rfl Tryd.underlying49 sz49 rfl rfl rfl rfl) ?_
                    refine al_buildSlice (τ := tyA8u8) (e := 49) (k := 1) (sz := 0) (by_ := 0) (z := undef) (cs := (cA8u8 u33)) (xs := [u33]) rfl (by decide) (fun w a hm hs => ⟨((cA8u8 u33)).toArray, rfl, by simp only [List.map_toArray, List.map_cons, List.map_nil, hs.ev (x := .tmp 51) rfl]; exact run_bs [(ag (cA8u8 u33))] (cA8u8 u33) Tryd.underlying38 to49 rfl rfl (bs_cons (l := (cA8u8 u33)) (cs := []) (cv_rfl rfl) rfl bs_nil) hm⟩) (fun hm => ⟨_, _, rfl, (fun _ => mkA8u8 rfl) hm, rfl⟩) rfl (fun v40 => ?_)
                    obtain ⟨hc41, h⟩ := req_some h
                    refine al_append 2 hc41.1 hc41.2 rfl (src_own (i := 2) 0 rfl) rfl rfl Tryd.underlying38 to49 rfl rfl rfl (fun v42 => ?_)
                    refine al_val (ov_assign rfl rfl) ?_
                    refine al_nil ?_
                    refine aq_block ?_
                    exact aq_join (v42, (l27x8 ++ ([u33]))) h (fun w a hm hs => norm hm hs [2, 3] [1, 2, 3] [(8, v42), (33, v9), (34, (Value.int .i64 (r8.1.length : Int))), (35, (Value.int .i64 l13i35)), (40, s24), (41, (Value.int .i64 (u20.Parts.length : Int))), (42, (Value.int .i64 l27i42))] (by decide) ⟨rfl, rfl, rfl, rfl, rfl, rfl, rfl, trivial⟩)
                  · replace h := bif_f hb39 h
                    refine aw_skip ?_
                    refine aq_block ?_
                    exact aq_join (l27v8, l27x8) h (fun w a hm hs => norm hm hs [1, 2] [1, 2, 3] [(8, l27v8), (33, v9), (34, (Value.int .i64 (r8.1.length : Int))), (35, (Value.int .i64 l13i35)), (40, s24), (41, (Value.int .i64 (u20.Parts.length : Int))), (42, (Value.int .i64 l27i42))] (by decide) ⟨rfl, rfl, rfl, rfl, rfl, rfl, rfl, trivial⟩)
              · replace h := bif_f hb30 h
                refine aw_exit ?_
                refine aq_then_exit ?_
                refine aq_then_exit ?_
                refine aq_block_exit ?_
                refine aq_block ?_
                exact aq_join (l27v8, l27x8) h (fun w a hm hs => norm hm hs [0, 1] [2] [(8, l27v8), (33, v9), (34, (Value.int .i64 (r8.1.length : Int))), (35, (Value.int .i64 l13i35))] (by decide) ⟨rfl, rfl, rfl, rfl, trivial⟩)
          · replace h := bif_f hb17 h
            refine aw_exit ?_
            refine aq_then_exit ?_
            refine aq_then_exit ?_
            refine aq_block_exit ?_
            exact aq_join (l13v8, l13x8) h (fun w a hm hs => norm hm hs [0] [0] [(8, l13v8)] (by decide) ⟨rfl, trivial⟩)
def f_lumref_kindOK (fu : Nat) (a0 : Int) : Option Bool := (lt (fun (j1b2 : Bool) => (some j1b2)) fun (kk2 : Bool → Option Bool) => (bif (a0 == (1 : Int)) then (kk2 true) else (bif (a0 == (2 : Int)) then (kk2 true) else (kk2 (a0 == (3 : Int))))))
set_option maxRecDepth 100000 in
theorem f_lumref_kindOK_ok (fu : Nat) (a0 : Int) {r : Bool} (h : f_lumref_kindOK fu a0 = some r) : FnOk Tryd.prog 112 [(Value.int .i64 a0)] [] [] (fun (i : Unit) => { val := (Value.bool r) }) := by
  unfold f_lumref_kindOK at h
  refine fn_enter Tryd.func112 rfl Tryd.ntmps112 rfl (fun w0 Z0 => ?_)
  refine aw_seq ?_
  refine aw_region ?_
  refine al_val (ov_assign rfl rfl) ?_
  refine al_nil ?_
  refine aq_then ?_
  obtain ⟨kk2, hkk2, h⟩ := lt_some h
  refine aw_seq_join (ι := Bool) (fun i => (memOf w0 Z0 [] [] [])) (fun i => (tab [(2, (Value.bool i))])) (fun i => kk2 i = some r) ?_ ?_
  · rintro j1b2 h
    have h : kk2 j1b2 = some r := h
    rw [hkk2] at h
    dsimp only at h
    clear hkk2
    refine aw_show (m := (memOf w0 Z0 [] [] [])) (S := (tab [(2, (Value.bool j1b2))])) ?_
    refine aw_ret ?_
    obtain rfl := Option.some.inj h
    exact fn_ret () [] [] rfl rfl rfl rfl (res1 rfl rfl) rfl rfl rfl (by decide)
  · clear hkk2
    refine aw_region ?_
    refine al_val (ov_move rfl rfl) ?_
    refine al_val (ov_int rfl rfl rfl rfl) ?_
    refine al_val (ov_move rfl rfl) ?_
    refine al_caseB 5 rfl (fun hb3 => ?_) (fun hb3 => ?_)
    · replace h := bif_t hb3 h
      refine al_skip ?_
      refine al_skip ?_
      refine al_val (ov_pick_t rfl rfl rfl) ?_
      refine al_val (ov_move rfl rfl) ?_
      refine al_skip ?_
      refine al_skip ?_
      refine al_val (ov_pick_t rfl rfl rfl) ?_
      refine al_val (ov_assign rfl rfl) ?_
      refine al_nil ?_
      exact aq_join true h (fun w a hm hs => norm hm hs [] [] [(2, (Value.bool true))] (by decide) ⟨rfl, trivial⟩)
    · replace h := bif_f hb3 h
      refine al_val (ov_move rfl rfl) ?_
      refine al_val (ov_int rfl rfl rfl rfl) ?_
      refine al_val (ov_pick_f rfl rfl rfl) ?_
      refine al_val (ov_move rfl rfl) ?_
      refine al_caseB 9 rfl (fun hb4 => ?_) (fun hb4 => ?_)
      · replace h := bif_t hb4 h
        refine al_skip ?_
        refine al_skip ?_
        refine al_val (ov_pick_t rfl rfl rfl) ?_
        refine al_val (ov_assign rfl rfl) ?_
        refine al_nil ?_
        exact aq_join true h (fun w a hm hs => norm hm hs [] [] [(2, (Value.bool true))] (by decide) ⟨rfl, trivial⟩)
      · replace h := bif_f hb4 h
        refine al_val (ov_move rfl rfl) ?_
        refine al_val (ov_int rfl rfl rfl rfl) ?_
        refine al_val (ov_pick_f rfl rfl rfl) ?_
        refine al_val (ov_assign rfl rfl) ?_
        refine al_nil ?_
        exact aq_join (a0 == (3 : Int)) h (fun w a hm hs => norm hm hs [] [] [(2, (Value.bool (a0 == (3 : Int))))] (by decide) ⟨rfl, trivial⟩)
def f_lumref_Narrow_1 (fu : Nat) (a0 : Int) (a1 : Int) : Option Int := (bif (a1 == (64 : Int)) then (some a0) else (req (0 ≤ a1) (req ((IntKind.u64.wrap ((1 : Int) * 2 ^ min (a1).toNat (IntKind.bits .u64))) ≠ 0) (some ((a0).tmod (IntKind.u64.wrap ((1 : Int) * 2 ^ min (a1).toNat (IntKind.bits .u64))))))))
set_option maxRecDepth 100000 in
theorem f_lumref_Narrow_1_ok (fu : Nat) (a0 : Int) (c1 : Value) (a1 : Int) {r : Int} (h : f_lumref_Narrow_1 fu a0 a1 = some r) : FnOk Tryd.prog 132 [(Value.int .u64 a0), c1] [(fPtr (tyInt .i64) c1 a1)] [] (fun (i : Unit) => { val := (Value.int .u64 r) }) := by
  unfold f_lumref_Narrow_1 at h
  refine fn_enter Tryd.func132 rfl Tryd.ntmps132 rfl (fun w0 Z0 => ?_)
  refine aw_seq ?_
  refine aw_region ?_
  refine al_val (ov_assign rfl rfl) ?_
  refine al_nil ?_
  refine aq_then ?_
  refine aw_seq ?_
  refine aw_seq ?_
  refine aw_region ?_
  refine al_val (ov_loadP (ds := [(Value.int .i64 a1)]) 0 rfl (fun h => h) rfl Tryd.underlying3 sz3 rfl rfl rfl) ?_
  refine al_val (ov_int rfl rfl rfl rfl) ?_
  refine al_nil ?_
  refine aq_then ?_
  refine aw_cond rfl (fun hb1 => ?_) (fun hb1 => ?_)
  · replace h := bif_t hb1 h
    refine aw_seq ?_
    refine aw_region ?_
    refine al_val (ov_move rfl rfl) ?_
    refine al_val (ov_assign rfl rfl) ?_
    refine al_nil ?_
    refine aq_then ?_
    refine aw_ret ?_
    refine aq_then_ret ?_
    obtain rfl := Option.some.inj h
    exact fn_ret () [] [] rfl rfl rfl rfl (res1 rfl rfl) rfl rfl rfl (by decide)
  · replace h := bif_f hb1 h
    refine aw_skip ?_
    refine aq_then ?_
    refine aw_seq ?_
    refine aw_region ?_
    refine al_val (ov_move rfl rfl) ?_
    refine al_val (ov_loadP (ds := [(Value.int .i64 a1)]) 0 rfl (fun h => h) rfl Tryd.underlying3 sz3 rfl rfl rfl) ?_
    obtain ⟨hc2, h⟩ := req_some h
    refine al_val (ov_shl hc2 rfl rfl rfl) ?_
    obtain ⟨hc3, h⟩ := req_some h
    refine al_val (ov_rem hc3 rfl rfl rfl) ?_
    refine al_val (ov_assign rfl rfl) ?_
    refine al_nil ?_
    refine aq_then ?_
    refine aw_ret ?_
    obtain rfl := Option.some.inj h
    exact fn_ret () [] [] rfl rfl rfl rfl (res1 rfl rfl) rfl rfl rfl (by decide)
def f_strings_Repeat (fu : Nat) (a0 : List UInt8) (a1 : Int) : Option (List UInt8) := req (0 ≤ a1 ∧ a1 ≤ 9223372036854775807 ∧ a0.length * a1.toNat ≤ 140737488355328) (some (Lib.repeatL a0 a1.toNat))
theorem f_strings_Repeat_ok (fu : Nat) (a0 : List UInt8) (a1 : Int) {r : List UInt8} (h : f_strings_Repeat fu a0 a1 = some r) : FnOk Tryd.prog 131 [(str a0), (Value.int .i64 a1)] [] [] (fun (i : Unit) => { val := (str r) }) := by
  unfold f_strings_Repeat at h
  obtain ⟨hc, h⟩ := req_some h
  obtain rfl := Option.some.inj h
  obtain ⟨n, rfl⟩ : ∃ n : Nat, a1 = n := ⟨a1.toNat, by omega⟩
  refine fnok_pure fun w => ?_
  exact (Tryd.strings_Repeat ⟨a0.toArray⟩ n w (by omega) (by simpa [ByteArray.size] using hc.2.2)).mono fun e w' h9 => by simpa [str] using h9
def f_lumref_product_L5 (a0 : Int) (a1 : Int) (kk2 : (Int → Option Int)) : Nat → Int → Int → Option Int
  | 0, _, _ => none
  | k4 + 1, l3i5, l3i7 => (bif (decide (l3i7 < (64 : Int))) then (lt (fun (j7i5 : Int) => (f_lumref_product_L5 a0 a1 kk2 k4 j7i5 (IntKind.i64.wrap (l3i7 + (1 : Int))))) fun (kk8 : Int → Option Int) => (req (0 ≤ l3i7) (bif ((bits .and .u64 ((a1).fdiv (2 ^ min (l3i7).toNat (IntKind.bits .u64))) (1 : Int)) == (1 : Int)) then (req (0 ≤ l3i7) (kk8 (IntKind.u64.wrap (l3i5 + (IntKind.u64.wrap (a0 * 2 ^ min (l3i7).toNat (IntKind.bits .u64))))))) else (kk8 l3i5)))) else (kk2 l3i5))
def f_lumref_product (fu : Nat) (a0 : Int) (a1 : Int) : Option Int := (lt (fun (j1i5 : Int) => (some j1i5)) fun (kk2 : Int → Option Int) => (f_lumref_product_L5 a0 a1 kk2 fu (0 : Int) (0 : Int)))
set_option maxRecDepth 100000 in
theorem f_lumref_product_ok (fu : Nat) (a0 : Int) (a1 : Int) {r : Int} (h : f_lumref_product fu a0 a1 = some r) : FnOk Tryd.prog 157 [(Value.int .u64 a0), (Value.int .u64 a1)] [] [] (fun (i : Unit) => { val := (Value.int .u64 r) }) := by
  unfold f_lumref_product at h
  refine fn_enter Tryd.func157 rfl Tryd.ntmps157 rfl (fun w0 Z0 => ?_)
  refine aw_seq ?_
  refine aw_region ?_
  refine al_val (ov_assign rfl rfl) ?_
  refine al_nil ?_
  refine aq_then ?_
  refine aw_seq ?_
  refine aw_region ?_
  refine al_val (ov_assign rfl rfl) ?_
  refine al_nil ?_
  refine aq_then ?_
  obtain ⟨kk2, hkk2, h⟩ := lt_some h
  refine aw_seq_join (ι := Int) (fun i => (memOf w0 Z0 [] [] [])) (fun i => (tab [(5, (Value.int .u64 i))])) (fun i => kk2 i = some r) ?_ ?_
  · rintro j1i5 h
    have h : kk2 j1i5 = some r := h
    rw [hkk2] at h
    dsimp only at h
    clear hkk2
    refine aw_show (m := (memOf w0 Z0 [] [] [])) (S := (tab [(5, (Value.int .u64 j1i5))])) ?_
    refine aw_seq ?_
    refine aw_region ?_
    refine al_val (ov_move rfl rfl) ?_
    refine al_val (ov_assign rfl rfl) ?_
    refine al_nil ?_
    refine aq_then ?_
    refine aw_ret ?_
    obtain rfl := Option.some.inj h
    exact fn_ret () [] [] rfl rfl rfl rfl (res1 rfl rfl) rfl rfl rfl (by decide)
  · clear hkk2
    refine aw_seq ?_
    refine aw_region ?_
    refine al_val (ov_move rfl rfl) ?_
    refine al_nil ?_
    refine aq_then ?_
    refine aw_block ?_
    refine aw_state (aw_loop (ι := Int × Int) (fun i => (memOf w0 Z0 [] [] [])) (fun i => (tab [(0, (Value.int .u64 a0)), (1, (Value.int .u64 a1)), (5, (Value.int .u64 i.1)), (7, (Value.int .i64 i.2))])) (fun q i => f_lumref_product_L5 a0 a1 kk2 q i.1 i.2 = some r) ?_ fu ((0 : Int), (0 : Int)) h) (fun w a hm hs => norm hm hs [] [] [(0, (Value.int .u64 a0)), (1, (Value.int .u64 a1)), (5, (Value.int .u64 (0 : Int))), (7, (Value.int .i64 (0 : Int)))] (by decide) ⟨rfl, rfl, rfl, rfl, trivial⟩)
    clear h
    rintro k4 ⟨l3i5, l3i7⟩ h
    have h : f_lumref_product_L5 a0 a1 kk2 k4 l3i5 l3i7 = some r := h
    obtain _ | k4 := k4
    · rw [f_lumref_product_L5] at h; cases h
    rw [f_lumref_product_L5] at h
    refine aw_show (m := (memOf w0 Z0 [] [] [])) (S := (tab [(0, (Value.int .u64 a0)), (1, (Value.int .u64 a1)), (5, (Value.int .u64 l3i5)), (7, (Value.int .i64 l3i7))])) ?_
    refine aw_seq ?_
    refine aw_region ?_
    refine al_val (ov_int rfl rfl rfl rfl) ?_
    refine al_nil ?_
    refine aq_then ?_
    refine aw_seq ?_
    refine aw_cond rfl (fun hb6 => ?_) (fun hb6 => ?_)
    · replace h := bif_t hb6 h
      refine aw_skip ?_
      refine aq_then ?_
      obtain ⟨kk8, hkk8, h⟩ := lt_some h
      refine aw_seq_join (ι := Int) (fun i => (memOf w0 Z0 [] [] [])) (fun i => (tab [(0, (Value.int .u64 a0)), (1, (Value.int .u64 a1)), (5, (Value.int .u64 i)), (7, (Value.int .i64 l3i7))])) (fun i => kk8 i = some r) ?_ ?_
      · rintro j7i5 h
        have h : kk8 j7i5 = some r := h
        rw [hkk8] at h
        dsimp only at h
        clear hkk8
        refine aw_show (m := (memOf w0 Z0 [] [] [])) (S := (tab [(0, (Value.int .u64 a0)), (1, (Value.int .u64 a1)), (5, (Value.int .u64 j7i5)), (7, (Value.int .i64 l3i7))])) ?_
        refine aw_region ?_
        refine al_val (ov_int rfl rfl rfl rfl) ?_
        refine al_val (ov_move rfl rfl) ?_
        refine al_nil ?_
        exact aq_again k4 (j7i5, (IntKind.i64.wrap (l3i7 + (1 : Int)))) (Nat.lt_succ_self _) h (fun w a hm hs => norm hm hs [] [] [(0, (Value.int .u64 a0)), (1, (Value.int .u64 a1)), (5, (Value.int .u64 j7i5)), (7, (Value.int .i64 (IntKind.i64.wrap (l3i7 + (1 : Int)))))] (by decide) ⟨rfl, rfl, rfl, rfl, trivial⟩)
      · clear hkk8
        refine aw_block ?_
        refine aw_seq ?_
        refine aw_region ?_
        refine al_val (ov_move rfl rfl) ?_
        refine al_val (ov_assign rfl rfl) ?_
        refine al_nil ?_
        refine aq_then ?_
        refine aw_seq ?_
        refine aw_region ?_
        refine al_val (ov_move rfl rfl) ?_
        refine al_val (ov_move rfl rfl) ?_
        obtain ⟨hc9, h⟩ := req_some h
        refine al_val (ov_shr hc9 rfl rfl rfl) ?_
        refine al_val (ov_int rfl rfl rfl rfl) ?_
        refine al_val (ov_int rfl rfl rfl rfl) ?_
        refine al_nil ?_
        refine aq_then ?_
        refine aw_cond rfl (fun hb10 => ?_) (fun hb10 => ?_)
        · replace h := bif_t hb10 h
          refine aw_region ?_
          refine al_val (ov_move rfl rfl) ?_
          refine al_val (ov_move rfl rfl) ?_
          refine al_val (ov_move rfl rfl) ?_
          obtain ⟨hc11, h⟩ := req_some h
          refine al_val (ov_shl hc11 rfl rfl rfl) ?_
          refine al_val (ov_int rfl rfl rfl rfl) ?_
          refine al_val (ov_assign rfl rfl) ?_
          refine al_nil ?_
          refine aq_block ?_
          exact aq_join (IntKind.u64.wrap (l3i5 + (IntKind.u64.wrap (a0 * 2 ^ min (l3i7).toNat (IntKind.bits .u64))))) h (fun w a hm hs => norm hm hs [] [] [(0, (Value.int .u64 a0)), (1, (Value.int .u64 a1)), (5, (Value.int .u64 (IntKind.u64.wrap (l3i5 + (IntKind.u64.wrap (a0 * 2 ^ min (l3i7).toNat (IntKind.bits .u64))))))), (7, (Value.int .i64 l3i7))] (by decide) ⟨rfl, rfl, rfl, rfl, trivial⟩)
        · replace h := bif_f hb10 h
          refine aw_skip ?_
          refine aq_block ?_
          exact aq_join l3i5 h (fun w a hm hs => norm hm hs [] [] [(0, (Value.int .u64 a0)), (1, (Value.int .u64 a1)), (5, (Value.int .u64 l3i5)), (7, (Value.int .i64 l3i7))] (by decide) ⟨rfl, rfl, rfl, rfl, trivial⟩)
    · replace h := bif_f hb6 h
      refine aw_exit ?_
      refine aq_then_exit ?_
      refine aq_then_exit ?_
      refine aq_block_exit ?_
      exact aq_join l3i5 h (fun w a hm hs => norm hm hs [] [] [(5, (Value.int .u64 l3i5))] (by decide) ⟨rfl, trivial⟩)
def f_lumref_Step (fu : Nat) (a0 : Int) (a1 : Int) : Option Int := (opt (f_lumref_product fu (bits .xor .u64 a0 a1) (11400714819323198485 : Int)) fun (r2 : Int) => (opt (f_lumref_product fu (bits .xor .u64 r2 (IntKind.u64.wrap ((r2).tdiv (536870912 : Int)))) (13787848793156543929 : Int)) fun (r4 : Int) => (some (bits .xor .u64 r4 (IntKind.u64.wrap ((r4).tdiv (4294967296 : Int)))))))
set_option maxRecDepth 100000 in
theorem f_lumref_Step_ok (fu : Nat) (a0 : Int) (a1 : Int) {r : Int} (h : f_lumref_Step fu a0 a1 = some r) : FnOk Tryd.prog 133 [(Value.int .u64 a0), (Value.int .u64 a1)] [] [] (fun (i : Unit) => { val := (Value.int .u64 r) }) := by
  unfold f_lumref_Step at h
  refine fn_enter Tryd.func133 rfl Tryd.ntmps133 rfl (fun w0 Z0 => ?_)
  refine aw_seq ?_
  refine aw_region ?_
  refine al_val (ov_assign rfl rfl) ?_
  refine al_nil ?_
  refine aq_then ?_
  refine aw_seq ?_
  refine aw_region ?_
  refine al_val (ov_move rfl rfl) ?_
  refine al_val (ov_move rfl rfl) ?_
  refine al_val (ov_int rfl rfl rfl rfl) ?_
  obtain ⟨r2, hc1, h⟩ := opt_some h
  refine al_call (vs := [(Value.int .u64 (bits .xor .u64 a0 a1)), (Value.int .u64 (11400714819323198485 : Int))]) (f_lumref_product_ok fu (bits .xor .u64 a0 a1) (11400714819323198485 : Int) hc1) [] [] [] pre_nil rfl (by simp) (by decide) (.inl rfl) rfl Tryd.func157 rfl rfl rfl (fun _ => ?_)
  refine al_val (ov_assign rfl rfl) ?_
  refine al_nil ?_
  refine aq_then ?_
  refine aw_seq ?_
  refine aw_region ?_
  refine al_val (ov_move rfl rfl) ?_
  refine al_val (ov_move rfl rfl) ?_
  refine al_val (ov_quo (by decide) rfl rfl rfl) ?_
  refine al_val (ov_int rfl rfl rfl rfl) ?_
  refine al_val (ov_assign rfl rfl) ?_
  refine al_nil ?_
  refine aq_then ?_
  refine aw_seq ?_
  refine aw_region ?_
  refine al_val (ov_move rfl rfl) ?_
  obtain ⟨r4, hc3, h⟩ := opt_some h
  refine al_call (vs := [(Value.int .u64 (bits .xor .u64 r2 (IntKind.u64.wrap ((r2).tdiv (536870912 : Int))))), (Value.int .u64 (13787848793156543929 : Int))]) (f_lumref_product_ok fu (bits .xor .u64 r2 (IntKind.u64.wrap ((r2).tdiv (536870912 : Int)))) (13787848793156543929 : Int) hc3) [] [] [] pre_nil rfl (by simp) (by decide) (.inl rfl) rfl Tryd.func157 rfl rfl rfl (fun _ => ?_)
  refine al_val (ov_assign rfl rfl) ?_
  refine al_nil ?_
  refine aq_then ?_
  refine aw_seq ?_
  refine aw_region ?_
  refine al_val (ov_move rfl rfl) ?_
  refine al_val (ov_move rfl rfl) ?_
  refine al_val (ov_quo (by decide) rfl rfl rfl) ?_
  refine al_val (ov_int rfl rfl rfl rfl) ?_
  refine al_val (ov_assign rfl rfl) ?_
  refine al_nil ?_
  refine aq_then ?_
  refine aw_ret ?_
  obtain rfl := Option.some.inj h
  exact fn_ret () [] [] rfl rfl rfl rfl (res1 rfl rfl) rfl rfl rfl (by decide)
def f_lumref_Narrow_L27 (l11s7 : (List UInt8)) (kk20 : (Int → Option Int)) : Nat → Int → Int → Option Int
  | 0, _, _ => none
  | k26 + 1, l25i8, l25i9 => (bif (decide (l25i9 ≥ (0 : Int))) then (req (0 ≤ l25i9 ∧ l25i9 < (l11s7.length : Int)) (f_lumref_Narrow_L27 l11s7 kk20 k26 (IntKind.u64.wrap ((IntKind.u64.wrap ((256 : Int) * l25i8)) + (IntKind.u64.wrap (En.bAt l11s7 l25i9)))) (IntKind.i64.wrap (l25i9 - (1 : Int))))) else (kk20 l25i8))
def f_lumref_Narrow_L13 (a0 : Int) (kk6 : (Int → Option Int)) (fu : Nat) : Nat → Int → (List UInt8) → Option Int
  | 0, _, _ => none
  | k12 + 1, l11i5, l11s7 => (lt (fun (l11i5 : Int) (l11s7 : (List UInt8)) => (f_lumref_Narrow_L13 a0 kk6 fu k12 l11i5 l11s7)) fun (kk14 : Int → (List UInt8) → Option Int) => (bif (!(l11s7 == ([] : List UInt8))) then (lt (fun (j16i5 : Int) => (req (0 ≤ (8 : Int) ∧ (8 : Int) ≤ (l11s7.length : Int)) (kk14 j16i5 (l11s7.drop ((8 : Int)).toNat)))) fun (kk17 : Int → Option Int) => (lt (fun (j19i8 : Int) => (opt (f_lumref_Step fu l11i5 j19i8) fun (r22 : Int) => (opt (f_lumref_Narrow_1 fu r22 a0) fun (r24 : Int) => (kk17 r24)))) fun (kk20 : Int → Option Int) => (f_lumref_Narrow_L27 l11s7 kk20 fu (0 : Int) (7 : Int)))) else (kk6 l11i5)))
def f_lumref_Narrow (fu : Nat) (a0 : Int) (a1 : (List UInt8)) : Option Int := (opt (f_strings_Repeat fu ([0] : List UInt8) (((IntKind.i64.wrap ((8 : Int) - (((a1.length : Int)).tmod (8 : Int))))).tmod (8 : Int))) fun (r3 : (List UInt8)) => (req (a1.length + r3.length ≤ 9223372036854775807) (lt (fun (j5i5 : Int) => (opt (f_lumref_Step fu j5i5 (IntKind.u64.wrap (a1.length : Int))) fun (r8 : Int) => (opt (f_lumref_Narrow_1 fu r8 a0) fun (r10 : Int) => (some r10)))) fun (kk6 : Int → Option Int) => (f_lumref_Narrow_L13 a0 kk6 fu fu (0 : Int) (a1 ++ r3)))))
set_option maxRecDepth 100000 in
theorem f_lumref_Narrow_ok (fu : Nat) (a0 : Int) (a1 : (List UInt8)) {r : Int} (h : f_lumref_Narrow fu a0 a1 = some r) : FnOk Tryd.prog 100 [(Value.int .i64 a0), (str a1)] [] [] (fun (i : Unit) => { val := (Value.int .u64 r) }) := by
  unfold f_lumref_Narrow at h
  refine fn_enter Tryd.func100 rfl Tryd.ntmps100 rfl (fun w0 Z0 => ?_)
  refine aw_seq ?_
  refine aw_region ?_
  refine al_box (vs := [(Value.int .i64 a0)]) rfl (cv_rfl rfl) rfl (fun g1 => ?_)
  refine al_val (ov_assign rfl rfl) ?_
  refine al_nil ?_
  refine aq_then ?_
  refine aw_seq ?_
  refine aw_region ?_
  refine al_val (ov_assign rfl rfl) ?_
  refine al_nil ?_
  refine aq_then ?_
  refine aw_seq ?_
  refine aw_region ?_
  refine al_val (ov_makeFunc2 (vs := [(ptr g1 0)]) rfl rfl) ?_
  refine al_val (ov_assign rfl rfl) ?_
  refine al_nil ?_
  refine aq_then ?_
  refine aw_seq ?_
  refine aw_region ?_
  refine al_val (ov_move rfl rfl) ?_
  refine al_val (ov_move rfl rfl) ?_
  refine al_val (ov_strLen Tryd.underlying9 rfl rfl) ?_
  refine al_val (ov_rem (by decide) rfl rfl rfl) ?_
  refine al_val (ov_int rfl rfl rfl rfl) ?_
  refine al_val (ov_rem (by decide) rfl rfl rfl) ?_
  obtain ⟨r3, hc2, h⟩ := opt_some h
  refine al_call (vs := [(str ([0] : List UInt8)), (Value.int .i64 (((IntKind.i64.wrap ((8 : Int) - (((a1.length : Int)).tmod (8 : Int))))).tmod (8 : Int)))]) (f_strings_Repeat_ok fu ([0] : List UInt8) (((IntKind.i64.wrap ((8 : Int) - (((a1.length : Int)).tmod (8 : Int))))).tmod (8 : Int)) hc2) [] [] [0] pre_nil rfl (by simp) (by decide) (.inl rfl) rfl Tryd.func131 rfl rfl rfl (fun _ => ?_)
  obtain ⟨hc4, h⟩ := req_some h
  refine al_val (ov_strAdd hc4 rfl rfl rfl) ?_
  refine al_val (ov_assign rfl rfl) ?_
  refine al_nil ?_
  refine aq_then ?_
  obtain ⟨kk6, hkk6, h⟩ := lt_some h
  refine aw_seq_join (ι := Int) (fun i => (memOf w0 Z0 [] [(oBox g1 3 [(Value.int .i64 a0)])] [])) (fun i => (tab [(1, (str a1)), (5, (Value.int .u64 i)), (6, (Value.func (.func 132) #[] #[(ptr g1 0)]))])) (fun i => kk6 i = some r) ?_ ?_
  · rintro j5i5 h
    have h : kk6 j5i5 = some r := h
    rw [hkk6] at h
    dsimp only at h
    clear hkk6
    refine aw_show (m := (memOf w0 Z0 [] [(oBox g1 3 [(Value.int .i64 a0)])] [])) (S := (tab [(1, (str a1)), (5, (Value.int .u64 j5i5)), (6, (Value.func (.func 132) #[] #[(ptr g1 0)]))])) ?_
    refine aw_seq ?_
    refine aw_region ?_
    refine al_val (ov_move rfl rfl) ?_
    refine al_val (ov_move rfl rfl) ?_
    refine al_val (ov_move rfl rfl) ?_
    refine al_val (ov_strLen Tryd.underlying9 rfl rfl) ?_
    refine al_val (ov_convInt (by rw [Tryd.underlying3]; rfl) Tryd.underlying87 rfl rfl) ?_
    obtain ⟨r8, hc7, h⟩ := opt_some h
    refine al_call (vs := [(Value.int .u64 j5i5), (Value.int .u64 (IntKind.u64.wrap (a1.length : Int)))]) (f_lumref_Step_ok fu j5i5 (IntKind.u64.wrap (a1.length : Int)) hc7) [] [] [0] pre_nil rfl (by simp) (by decide) (.inl rfl) rfl Tryd.func133 rfl rfl rfl (fun _ => ?_)
    obtain ⟨r10, hc9, h⟩ := opt_some h
    refine al_callF (vs := [(Value.int .u64 r8)]) (caps := [(ptr g1 0)]) (f_lumref_Narrow_1_ok fu r8 (ptr g1 0) a0 hc9) rfl [0] [] [0] (pre_boxP (x := a0) 0 rfl rfl (fun _ _ => rfl) pre_nil) rfl (by simp) (by decide) (.inr flat_res0) rfl rfl Tryd.func132 rfl rfl rfl (fun _ => ?_)
    refine al_val (ov_assign rfl rfl) ?_
    refine al_nil ?_
    refine aq_then ?_
    refine aw_ret ?_
    obtain rfl := Option.some.inj h
    exact fn_ret () [] [] rfl rfl rfl rfl (res1 rfl rfl) rfl rfl rfl (by decide)
  · clear hkk6
    refine aw_block ?_
    refine aw_state (aw_loop (ι := Int × (List UInt8)) (fun i => (memOf w0 Z0 [] [(oBox g1 3 [(Value.int .i64 a0)])] [])) (fun i => (tab [(1, (str a1)), (5, (Value.int .u64 i.1)), (6, (Value.func (.func 132) #[] #[(ptr g1 0)])), (7, (str i.2))])) (fun q i => f_lumref_Narrow_L13 a0 kk6 fu q i.1 i.2 = some r) ?_ fu ((0 : Int), (a1 ++ r3)) h) (fun w a hm hs => norm hm hs [0] [] [(1, (str a1)), (5, (Value.int .u64 (0 : Int))), (6, (Value.func (.func 132) #[] #[(ptr g1 0)])), (7, (str (a1 ++ r3)))] (by decide) ⟨rfl, rfl, rfl, rfl, trivial⟩)
    clear h
    rintro k12 ⟨l11i5, l11s7⟩ h
    have h : f_lumref_Narrow_L13 a0 kk6 fu k12 l11i5 l11s7 = some r := h
    obtain _ | k12 := k12
    · rw [f_lumref_Narrow_L13] at h; cases h
    rw [f_lumref_Narrow_L13] at h
    refine aw_show (m := (memOf w0 Z0 [] [(oBox g1 3 [(Value.int .i64 a0)])] [])) (S := (tab [(1, (str a1)), (5, (Value.int .u64 l11i5)), (6, (Value.func (.func 132) #[] #[(ptr g1 0)])), (7, (str l11s7))])) ?_
    obtain ⟨kk14, hkk14, h⟩ := lt_some h
    refine aw_body_join (ι := Int × (List UInt8)) (fun i => (memOf w0 Z0 [] [(oBox g1 3 [(Value.int .i64 a0)])] [])) (fun i => (tab [(1, (str a1)), (5, (Value.int .u64 i.1)), (6, (Value.func (.func 132) #[] #[(ptr g1 0)])), (7, (str i.2))])) (fun i => kk14 i.1 i.2 = some r) (fun i h => aq_again k12 i (Nat.lt_succ_self _) (by rw [hkk14] at h; exact h) (fun w a hm hs => ⟨hm, hs⟩)) ?_
    clear hkk14
    refine aw_seq ?_
    refine aw_seq ?_
    refine aw_region ?_
    refine al_val (ov_move rfl rfl) ?_
    refine al_val (ov_strCmp rfl rfl rfl rfl) ?_
    refine al_nil ?_
    refine aq_then ?_
    refine aw_cond rfl (fun hb15 => ?_) (fun hb15 => ?_)
    · replace h := bif_t hb15 h
      refine aw_skip ?_
      refine aq_then ?_
      obtain ⟨kk17, hkk17, h⟩ := lt_some h
      refine aw_seq_join (ι := Int) (fun i => (memOf w0 Z0 [] [(oBox g1 3 [(Value.int .i64 a0)])] [])) (fun i => (tab [(1, (str a1)), (5, (Value.int .u64 i)), (6, (Value.func (.func 132) #[] #[(ptr g1 0)])), (7, (str l11s7))])) (fun i => kk17 i = some r) ?_ ?_
      · rintro j16i5 h
        have h : kk17 j16i5 = some r := h
        rw [hkk17] at h
        dsimp only at h
        clear hkk17
        refine aw_show (m := (memOf w0 Z0 [] [(oBox g1 3 [(Value.int .i64 a0)])] [])) (S := (tab [(1, (str a1)), (5, (Value.int .u64 j16i5)), (6, (Value.func (.func 132) #[] #[(ptr g1 0)])), (7, (str l11s7))])) ?_
        refine aw_region ?_
        refine al_val (ov_move rfl rfl) ?_
        obtain ⟨hc18, h⟩ := req_some h
        refine al_val (ov_strFrom hc18.1 hc18.2 Tryd.underlying9 rfl rfl rfl) ?_
        refine al_val (ov_assign rfl rfl) ?_
        refine al_nil ?_
        exact aq_join (j16i5, (l11s7.drop ((8 : Int)).toNat)) h (fun w a hm hs => norm hm hs [0] [] [(1, (str a1)), (5, (Value.int .u64 j16i5)), (6, (Value.func (.func 132) #[] #[(ptr g1 0)])), (7, (str (l11s7.drop ((8 : Int)).toNat)))] (by decide) ⟨rfl, rfl, rfl, rfl, trivial⟩)
      · clear hkk17
        refine aw_block ?_
        refine aw_seq ?_
        refine aw_region ?_
        refine al_val (ov_assign rfl rfl) ?_
        refine al_nil ?_
        refine aq_then ?_
        obtain ⟨kk20, hkk20, h⟩ := lt_some h
        refine aw_seq_join (ι := Int) (fun i => (memOf w0 Z0 [] [(oBox g1 3 [(Value.int .i64 a0)])] [])) (fun i => (tab [(1, (str a1)), (5, (Value.int .u64 l11i5)), (6, (Value.func (.func 132) #[] #[(ptr g1 0)])), (7, (str l11s7)), (8, (Value.int .u64 i))])) (fun i => kk20 i = some r) ?_ ?_
        · rintro j19i8 h
          have h : kk20 j19i8 = some r := h
          rw [hkk20] at h
          dsimp only at h
          clear hkk20
          refine aw_show (m := (memOf w0 Z0 [] [(oBox g1 3 [(Value.int .i64 a0)])] [])) (S := (tab [(1, (str a1)), (5, (Value.int .u64 l11i5)), (6, (Value.func (.func 132) #[] #[(ptr g1 0)])), (7, (str l11s7)), (8, (Value.int .u64 j19i8))])) ?_
          refine aw_region ?_
          refine al_val (ov_move rfl rfl) ?_
          refine al_val (ov_move rfl rfl) ?_
          refine al_val (ov_move rfl rfl) ?_
          obtain ⟨r22, hc21, h⟩ := opt_some h
          refine al_call (vs := [(Value.int .u64 l11i5), (Value.int .u64 j19i8)]) (f_lumref_Step_ok fu l11i5 j19i8 hc21) [] [] [0] pre_nil rfl (by simp) (by decide) (.inl rfl) rfl Tryd.func133 rfl rfl rfl (fun _ => ?_)
          obtain ⟨r24, hc23, h⟩ := opt_some h
          refine al_callF (vs := [(Value.int .u64 r22)]) (caps := [(ptr g1 0)]) (f_lumref_Narrow_1_ok fu r22 (ptr g1 0) a0 hc23) rfl [0] [] [0] (pre_boxP (x := a0) 0 rfl rfl (fun _ _ => rfl) pre_nil) rfl (by simp) (by decide) (.inr flat_res0) rfl rfl Tryd.func132 rfl rfl rfl (fun _ => ?_)
          refine al_val (ov_assign rfl rfl) ?_
          refine al_nil ?_
          refine aq_block ?_
          exact aq_join r24 h (fun w a hm hs => norm hm hs [0] [] [(1, (str a1)), (5, (Value.int .u64 r24)), (6, (Value.func (.func 132) #[] #[(ptr g1 0)])), (7, (str l11s7))] (by decide) ⟨rfl, rfl, rfl, rfl, trivial⟩)
        · clear hkk20
          refine aw_seq ?_
          refine aw_region ?_
          refine al_val (ov_assign rfl rfl) ?_
          refine al_nil ?_
          refine aq_then ?_
          refine aw_block ?_
          refine aw_state (aw_loop (ι := Int × Int) (fun i => (memOf w0 Z0 [] [(oBox g1 3 [(Value.int .i64 a0)])] [])) (fun i => (tab [(1, (str a1)), (5, (Value.int .u64 l11i5)), (6, (Value.func (.func 132) #[] #[(ptr g1 0)])), (7, (str l11s7)), (8, (Value.int .u64 i.1)), (9, (Value.int .i64 i.2))])) (fun q i => f_lumref_Narrow_L27 l11s7 kk20 q i.1 i.2 = some r) ?_ fu ((0 : Int), (7 : Int)) h) (fun w a hm hs => norm hm hs [0] [] [(1, (str a1)), (5, (Value.int .u64 l11i5)), (6, (Value.func (.func 132) #[] #[(ptr g1 0)])), (7, (str l11s7)), (8, (Value.int .u64 (0 : Int))), (9, (Value.int .i64 (7 : Int)))] (by decide) ⟨rfl, rfl, rfl, rfl, rfl, rfl, trivial⟩)
          clear h
          rintro k26 ⟨l25i8, l25i9⟩ h
          have h : f_lumref_Narrow_L27 l11s7 kk20 k26 l25i8 l25i9 = some r := h
          obtain _ | k26 := k26
          · rw [f_lumref_Narrow_L27] at h; cases h
          rw [f_lumref_Narrow_L27] at h
          refine aw_show (m := (memOf w0 Z0 [] [(oBox g1 3 [(Value.int .i64 a0)])] [])) (S := (tab [(1, (str a1)), (5, (Value.int .u64 l11i5)), (6, (Value.func (.func 132) #[] #[(ptr g1 0)])), (7, (str l11s7)), (8, (Value.int .u64 l25i8)), (9, (Value.int .i64 l25i9))])) ?_
          refine aw_seq ?_
          refine aw_seq ?_
          refine aw_region ?_
          refine al_val (ov_move rfl rfl) ?_
          refine al_val (ov_int rfl rfl rfl rfl) ?_
          refine al_nil ?_
          refine aq_then ?_
          refine aw_cond rfl (fun hb28 => ?_) (fun hb28 => ?_)
          · replace h := bif_t hb28 h
            refine aw_skip ?_
            refine aq_then ?_
            refine aw_seq ?_
            refine aw_block ?_
            refine aw_region ?_
            refine al_val (ov_move rfl rfl) ?_
            refine al_val (ov_int rfl rfl rfl rfl) ?_
            refine al_val (ov_move rfl rfl) ?_
            refine al_val (ov_move rfl rfl) ?_
            obtain ⟨hc29, h⟩ := req_some h
            refine al_val (ov_strIdx hc29.1 hc29.2 Tryd.underlying9 rfl rfl rfl) ?_
            refine al_val (ov_convInt (by rw [Tryd.underlying5]; rfl) Tryd.underlying87 rfl rfl) ?_
            refine al_val (ov_int rfl rfl rfl rfl) ?_
            refine al_val (ov_assign rfl rfl) ?_
            refine al_nil ?_
            refine aq_block ?_
            refine aq_then ?_
            refine aw_region ?_
            refine al_val (ov_move rfl rfl) ?_
            refine al_val (ov_int rfl rfl rfl rfl) ?_
            refine al_val (ov_assign rfl rfl) ?_
            refine al_nil ?_
            exact aq_again k26 ((IntKind.u64.wrap ((IntKind.u64.wrap ((256 : Int) * l25i8)) + (IntKind.u64.wrap (En.bAt l11s7 l25i9)))), (IntKind.i64.wrap (l25i9 - (1 : Int)))) (Nat.lt_succ_self _) h (fun w a hm hs => norm hm hs [0] [] [(1, (str a1)), (5, (Value.int .u64 l11i5)), (6, (Value.func (.func 132) #[] #[(ptr g1 0)])), (7, (str l11s7)), (8, (Value.int .u64 (IntKind.u64.wrap ((IntKind.u64.wrap ((256 : Int) * l25i8)) + (IntKind.u64.wrap (En.bAt l11s7 l25i9)))))), (9, (Value.int .i64 (IntKind.i64.wrap (l25i9 - (1 : Int)))))] (by decide) ⟨rfl, rfl, rfl, rfl, rfl, rfl, trivial⟩)
          · replace h := bif_f hb28 h
            refine aw_exit ?_
            refine aq_then_exit ?_
            refine aq_then_exit ?_
            refine aq_block_exit ?_
            exact aq_join l25i8 h (fun w a hm hs => norm hm hs [0] [] [(1, (str a1)), (5, (Value.int .u64 l11i5)), (6, (Value.func (.func 132) #[] #[(ptr g1 0)])), (7, (str l11s7)), (8, (Value.int .u64 l25i8))] (by decide) ⟨rfl, rfl, rfl, rfl, rfl, trivial⟩)
    · replace h := bif_f hb15 h
      refine aw_exit ?_
      refine aq_then_exit ?_
      refine aq_then_exit ?_
      refine aq_block_exit ?_
      exact aq_join l11i5 h (fun w a hm hs => norm hm hs [0] [] [(1, (str a1)), (5, (Value.int .u64 l11i5)), (6, (Value.func (.func 132) #[] #[(ptr g1 0)]))] (by decide) ⟨rfl, rfl, rfl, trivial⟩)
def f_lumref_digits : Nat → Int → Option (List UInt8)
  | 0, _ => none
  | fu + 1, a0 => (bif (a0 == (0 : Int)) then (some ([] : List UInt8)) else (opt (f_lumref_digits fu (IntKind.u64.wrap ((a0).tdiv (256 : Int)))) fun (r3 : (List UInt8)) => (req (0 ≤ (IntKind.u8.wrap ((a0).tmod (256 : Int))) ∧ (IntKind.u8.wrap ((a0).tmod (256 : Int))) ≤ 255) (req (r3.length + ([(UInt8.ofNat ((IntKind.u8.wrap ((a0).tmod (256 : Int)))).toNat)]).length ≤ 9223372036854775807) (some (r3 ++ ([(UInt8.ofNat ((IntKind.u8.wrap ((a0).tmod (256 : Int)))).toNat)])))))))
set_option maxRecDepth 100000 in
theorem f_lumref_digits_ok (fu : Nat) (a0 : Int) {r : (List UInt8)} (h : f_lumref_digits fu a0 = some r) : FnOk Tryd.prog 98 [(Value.int .u64 a0)] [] [] (fun (i : Unit) => { val := (str r) }) := by
  cases fu with
  | zero => rw [f_lumref_digits] at h; cases h
  | succ fu =>
    rw [f_lumref_digits] at h
    refine fn_enter Tryd.func98 rfl Tryd.ntmps98 rfl (fun w0 Z0 => ?_)
    refine aw_seq ?_
    refine aw_region ?_
    refine al_val (ov_assign rfl rfl) ?_
    refine al_nil ?_
    refine aq_then ?_
    refine aw_seq ?_
    refine aw_seq ?_
    refine aw_region ?_
    refine al_val (ov_move rfl rfl) ?_
    refine al_val (ov_int rfl rfl rfl rfl) ?_
    refine al_nil ?_
    refine aq_then ?_
    refine aw_cond rfl (fun hb1 => ?_) (fun hb1 => ?_)
    · replace h := bif_t hb1 h
      refine aw_seq ?_
      refine aw_region ?_
      refine al_val (ov_assign rfl rfl) ?_
      refine al_nil ?_
      refine aq_then ?_
      refine aw_ret ?_
      refine aq_then_ret ?_
      obtain rfl := Option.some.inj h
      exact fn_ret () [] [] rfl rfl rfl rfl (res1 rfl rfl) rfl rfl rfl (by decide)
    · replace h := bif_f hb1 h
      refine aw_skip ?_
      refine aq_then ?_
      refine aw_seq ?_
      obtain ⟨r3, hc2, h⟩ := opt_some h
      obtain ⟨hc5, h⟩ := req_some h
      obtain ⟨hc6, h⟩ := req_some h
      refine aw_region_draw 9 [(5, (fun u => fEq u (Value.int .u64 a0))), (6, (fun u => fEq u (Value.int .u64 (IntKind.u64.wrap ((a0).tdiv (256 : Int)))))), (7, (fun u => fEq u (str r3))), (8, (fun u => fEq u (Value.int .u64 a0))), (9, (fun u => fEq u (Value.int .u64 ((a0).tmod (256 : Int))))), (10, (fun u => fEq u (Value.int .u8 (IntKind.u8.wrap ((a0).tmod (256 : Int)))))), (11, (fun v4 => (fDat (tyList tyU8) [v4] [(UInt8.ofNat ((IntKind.u8.wrap ((a0).tmod (256 : Int)))).toNat)]))), (12, (fun u => fEq u (str [(UInt8.ofNat ((IntKind.u8.wrap ((a0).tmod (256 : Int)))).toNat)]))), (13, (fun u => fEq u (str (r3 ++ ([(UInt8.ofNat ((IntKind.u8.wrap ((a0).tmod (256 : Int)))).toNat)])))))] (tab [(0, (Value.int .u64 a0)), (2, (str ([] : List UInt8)))]) mixed (by kernel_rfl) rfl rfl rfl (fun a hs => hs.tab _ (allT_mem ⟨rfl, rfl, trivial⟩)) ⟨⟨rfl, ld_val (ov_move rfl rfl)⟩, ⟨rfl, ld_eq (j := 0) rfl rfl (ld_val (ov_quo (by decide) rfl rfl rfl))⟩, ⟨rfl, ld_eq (j := 1) rfl rfl (ld_callV (vs := [(Value.int .u64 (IntKind.u64.wrap ((a0).tdiv (256 : Int))))]) (f_lumref_digits_ok fu (IntKind.u64.wrap ((a0).tdiv (256 : Int))) hc2) [] pre_nil rfl Tryd.func98 rfl rfl rfl)⟩, ⟨rfl, ld_val (ov_move rfl rfl)⟩, ⟨rfl, ld_eq (j := 3) rfl rfl (ld_val (ov_rem (by decide) rfl rfl rfl))⟩, ⟨rfl, ld_eq (j := 4) rfl rfl (ld_val (ov_convInt (by rw [Tryd.underlying87]; rfl) Tryd.underlying5 rfl rfl))⟩, ⟨rfl, ld_eq (j := 5) rfl rfl (ld_buildSlice (τ := tyU8) (e := 5) (k := 1) (cs := [(Value.int .u8 (IntKind.u8.wrap ((a0).tmod (256 : Int))))]) (xs := [(UInt8.ofNat ((IntKind.u8.wrap ((a0).tmod (256 : Int)))).toNat)]) rfl (by decide) rfl (fun w a hm hs => ⟨([(Value.int .u8 (IntKind.u8.wrap ((a0).tmod (256 : Int))))]).toArray, rfl, by simp only [List.map_toArray, List.map_cons, List.map_nil, hs.ev (x := .tmp 10) rfl]; exact run_bs [(Value.int .u8 (IntKind.u8.wrap ((a0).tmod (256 : Int))))] [(Value.int .u8 (IntKind.u8.wrap ((a0).tmod (256 : Int))))] Tryd.underlying89 to5 rfl rfl (bs_cons (l := [(Value.int .u8 (IntKind.u8.wrap ((a0).tmod (256 : Int))))]) (cs := []) (cv_rfl rfl) rfl bs_nil) hm⟩) (fun hm => ⟨_, _, rfl, (fun _ => u8_rep hc5) hm, rfl⟩) rfl)⟩, ⟨rfl, ld_fact (j := 6) rfl rfl (fun v4 => ld_val (ov_toStr 0 rfl rfl Tryd.underlying89 Tryd.underlying5 Tryd.underlying9 rfl))⟩, ⟨rfl, ld_eq (j := 2) rfl rfl (ld_eq (j := 7) rfl rfl (ld_val (ov_strAdd hc6 rfl rfl rfl)))⟩, trivial⟩ ?_
      refine tl_eq 8 rfl ?_
      refine tl_done ?_
      refine al_val (ov_assign rfl rfl) ?_
      refine al_nil ?_
      refine aq_then ?_
      refine aw_ret ?_
      obtain rfl := Option.some.inj h
      exact fn_ret () [] [] rfl rfl rfl rfl (res1 rfl rfl) rfl rfl rfl (by decide)
def f_lumref_wide (fu : Nat) (a0 : Int) : Option (List UInt8) := (opt (f_lumref_digits fu a0) fun (r2 : (List UInt8)) => (opt (f_strings_Repeat fu ([0] : List UInt8) (IntKind.i64.wrap ((8 : Int) - (r2.length : Int)))) fun (r4 : (List UInt8)) => (req (r4.length + r2.length ≤ 9223372036854775807) (some (r4 ++ r2)))))
set_option maxRecDepth 100000 in
theorem f_lumref_wide_ok (fu : Nat) (a0 : Int) {r : (List UInt8)} (h : f_lumref_wide fu a0 = some r) : FnOk Tryd.prog 99 [(Value.int .u64 a0)] [] [] (fun (i : Unit) => { val := (str r) }) := by
  unfold f_lumref_wide at h
  refine fn_enter Tryd.func99 rfl Tryd.ntmps99 rfl (fun w0 Z0 => ?_)
  refine aw_seq ?_
  refine aw_region ?_
  refine al_val (ov_assign rfl rfl) ?_
  refine al_nil ?_
  refine aq_then ?_
  refine aw_seq ?_
  refine aw_region ?_
  refine al_val (ov_move rfl rfl) ?_
  obtain ⟨r2, hc1, h⟩ := opt_some h
  refine al_call (vs := [(Value.int .u64 a0)]) (f_lumref_digits_ok fu a0 hc1) [] [] [] pre_nil rfl (by simp) (by decide) (.inl rfl) rfl Tryd.func98 rfl rfl rfl (fun _ => ?_)
  refine al_val (ov_assign rfl rfl) ?_
  refine al_nil ?_
  refine aq_then ?_
  refine aw_seq ?_
  refine aw_region ?_
  refine al_val (ov_move rfl rfl) ?_
  refine al_val (ov_strLen Tryd.underlying9 rfl rfl) ?_
  refine al_val (ov_int rfl rfl rfl rfl) ?_
  obtain ⟨r4, hc3, h⟩ := opt_some h
  refine al_call (vs := [(str ([0] : List UInt8)), (Value.int .i64 (IntKind.i64.wrap ((8 : Int) - (r2.length : Int))))]) (f_strings_Repeat_ok fu ([0] : List UInt8) (IntKind.i64.wrap ((8 : Int) - (r2.length : Int))) hc3) [] [] [] pre_nil rfl (by simp) (by decide) (.inl rfl) rfl Tryd.func131 rfl rfl rfl (fun _ => ?_)
  refine al_val (ov_move rfl rfl) ?_
  obtain ⟨hc5, h⟩ := req_some h
  refine al_val (ov_strAdd hc5 rfl rfl rfl) ?_
  refine al_val (ov_assign rfl rfl) ?_
  refine al_nil ?_
  refine aq_then ?_
  refine aw_ret ?_
  obtain rfl := Option.some.inj h
  exact fn_ret () [] [] rfl rfl rfl rfl (res1 rfl rfl) rfl rfl rfl (by decide)
def f_lumref_ID (fu : Nat) (a0 : (List UInt8)) : Option A8u8 := (opt (f_lumref_Narrow fu (64 : Int) a0) fun (r3 : Int) => (opt (f_lumref_wide fu r3) fun (r5 : (List UInt8)) => (req (r5.length ≤ 9223372036854775807) (req (8 ≤ r5.length) (some (ofA8u8 r5))))))
set_option maxRecDepth 100000 in
theorem f_lumref_ID_ok (fu : Nat) (a0 : (List UInt8)) {r : A8u8} (h : f_lumref_ID fu a0 = some r) : FnOk Tryd.prog 57 [(str a0)] [] [] (fun (i : Unit) => { val := (ag (cA8u8 r)) }) := by
  unfold f_lumref_ID at h
  refine fn_enter Tryd.func57 rfl Tryd.ntmps57 rfl (fun w0 Z0 => ?_)
  refine aw_seq ?_
  refine aw_region ?_
  refine al_alloc (zs := (cA8u8 (A8u8.mk (0 : UInt8) (0 : UInt8) (0 : UInt8) (0 : UInt8) (0 : UInt8) (0 : UInt8) (0 : UInt8) (0 : UInt8)))) (zeroOf_to to49) rfl rfl (fun g1 => ?_)
  refine al_nil ?_
  refine aq_then ?_
  refine aw_seq ?_
  refine aw_region ?_
  refine al_val (ov_move rfl rfl) ?_
  obtain ⟨r3, hc2, h⟩ := opt_some h
  refine al_call (vs := [(Value.int .i64 (64 : Int)), (str a0)]) (f_lumref_Narrow_ok fu (64 : Int) a0 hc2) [] [] [0] pre_nil rfl (by simp) (by decide) (.inl rfl) rfl Tryd.func100 rfl rfl rfl (fun _ => ?_)
  obtain ⟨r5, hc4, h⟩ := opt_some h
  refine al_call (vs := [(Value.int .u64 r3)]) (f_lumref_wide_ok fu r3 hc4) [] [] [0] pre_nil rfl (by simp) (by decide) (.inl rfl) rfl Tryd.func99 rfl rfl rfl (fun _ => ?_)
  obtain ⟨hc6, h⟩ := req_some h
  refine al_bytes hc6 rfl Tryd.underlying9 Tryd.underlying89 Tryd.underlying5 rfl (fun s7 => ?_)
  obtain ⟨hc9, h⟩ := req_some h
  refine al_s2ap (τA := tyA8u8) (x := (ofA8u8 r5)) 0 8 hc9 rfl (fun h9 => oflA8u8 hc9 h9) rfl rfl Tryd.underlying49 rfl (fun p8 => ?_)
  refine al_val (ov_loadP (ds := (cA8u8 (ofA8u8 r5))) 0 rfl encA8u8 rfl Tryd.underlying49 sz49 rfl rfl rfl) ?_
  refine al_store (i := 0) (vs := (cA8u8 (ofA8u8 r5))) (cs' := (cA8u8 (ofA8u8 r5))) rfl rfl rfl sz49 (cv_rfl rfl) rfl (co_all (oneA8u8 (ofA8u8 r5))) (Nat.le_of_ble_eq_true rfl) rfl rfl ?_
  refine al_nil ?_
  refine aq_then ?_
  refine aw_ret ?_
  obtain rfl := Option.some.inj h
  exact fn_ret () [] [] rfl rfl rfl rfl (resC rfl (resB (i := 0) rfl rfl Tryd.underlying49 sz49 rfl rfl rfl (resN)) rfl) rfl rfl rfl (by decide)
def f_lumref_BlobID (fu : Nat) (a0 : S_api_Blob) : Option (A8u8 × Int) := (opt (f_lumref_kindOK fu a0.Kind) fun (r4 : Bool) => (bif (!r4) then (some ((A8u8.mk (0 : UInt8) (0 : UInt8) (0 : UInt8) (0 : UInt8) (0 : UInt8) (0 : UInt8) (0 : UInt8) (0 : UInt8)), (5 : Int))) else (bif (decide ((a0.Bytes.length : Int) > (4096 : Int))) then (some ((A8u8.mk (0 : UInt8) (0 : UInt8) (0 : UInt8) (0 : UInt8) (0 : UInt8) (0 : UInt8) (0 : UInt8) (0 : UInt8)), (2 : Int))) else (req (0 ≤ (IntKind.u8.wrap a0.Kind) ∧ (IntKind.u8.wrap a0.Kind) ≤ 255) (req (([(UInt8.ofNat ((IntKind.u8.wrap a0.Kind)).toNat)]).length + a0.Bytes.length ≤ 9223372036854775807) (opt (f_lumref_ID fu (([(UInt8.ofNat ((IntKind.u8.wrap a0.Kind)).toNat)]) ++ a0.Bytes)) fun (r11 : A8u8) => (some (r11, (0 : Int)))))))))
set_option maxRecDepth 100000 in
theorem f_lumref_BlobID_ok (fu : Nat) (a0 : S_api_Blob) {r : (A8u8 × Int)} (h : f_lumref_BlobID fu a0 = some r) : FnOk Tryd.prog 72 [(ag [(Value.int .i64 a0.Kind), (str a0.Bytes)])] [] [] (fun (i : Unit) => { val := (Value.tuple #[(ag (cA8u8 r.1)), (Value.int .i64 r.2)]) }) := by
  unfold f_lumref_BlobID at h
  refine fn_enter Tryd.func72 rfl Tryd.ntmps72 rfl (fun w0 Z0 => ?_)
  refine aw_seq ?_
  refine aw_region ?_
  refine al_box (vs := [(Value.int .i64 a0.Kind), (str a0.Bytes)]) rfl (cv_rfl rfl) rfl (fun g1 => ?_)
  refine al_alloc (zs := (cA8u8 (A8u8.mk (0 : UInt8) (0 : UInt8) (0 : UInt8) (0 : UInt8) (0 : UInt8) (0 : UInt8) (0 : UInt8) (0 : UInt8)))) (zeroOf_to to49) rfl rfl (fun g2 => ?_)
  refine al_val (ov_assign rfl rfl) ?_
  refine al_nil ?_
  refine aq_then ?_
  refine aw_seq ?_
  refine aw_seq ?_
  refine aw_region ?_
  refine al_val (ov_fieldA (p := 0) rfl Tryd.underlying44 rfl sz3 rfl rfl rfl) ?_
  refine al_val (ov_load (i := 1) (v := (Value.int .i64 a0.Kind)) rfl rfl Tryd.underlying3 sz3 rfl rfl rfl rfl) ?_
  obtain ⟨r4, hc3, h⟩ := opt_some h
  refine al_call (vs := [(Value.int .i64 a0.Kind)]) (f_lumref_kindOK_ok fu a0.Kind hc3) [] [] [0, 1] pre_nil rfl (by simp) (by decide) (.inl rfl) rfl Tryd.func112 rfl rfl rfl (fun _ => ?_)
  refine al_val (ov_not rfl rfl) ?_
  refine al_nil ?_
  refine aq_then ?_
  refine aw_cond rfl (fun hb5 => ?_) (fun hb5 => ?_)
  · replace h := bif_t hb5 h
    refine aw_seq ?_
    refine aw_region ?_
    refine al_val (ov_build (cells := ((cA8u8 (A8u8.mk (0 : UInt8) (0 : UInt8) (0 : UInt8) (0 : UInt8) (0 : UInt8) (0 : UInt8) (0 : UInt8) (0 : UInt8)))).toArray) (cs := (cA8u8 (A8u8.mk (0 : UInt8) (0 : UInt8) (0 : UInt8) (0 : UInt8) (0 : UInt8) (0 : UInt8) (0 : UInt8) (0 : UInt8)))) rfl (fun w a hm hs => by simp only [List.map_toArray, List.map_cons, List.map_nil, List.toList_toArray]; kernel_rfl)) ?_
    refine al_store (i := 0) (vs := (cA8u8 (A8u8.mk (0 : UInt8) (0 : UInt8) (0 : UInt8) (0 : UInt8) (0 : UInt8) (0 : UInt8) (0 : UInt8) (0 : UInt8)))) (cs' := (cA8u8 (A8u8.mk (0 : UInt8) (0 : UInt8) (0 : UInt8) (0 : UInt8) (0 : UInt8) (0 : UInt8) (0 : UInt8) (0 : UInt8)))) rfl rfl rfl sz49 (cv_rfl rfl) rfl (co_all (oneA8u8 (A8u8.mk (0 : UInt8) (0 : UInt8) (0 : UInt8) (0 : UInt8) (0 : UInt8) (0 : UInt8) (0 : UInt8) (0 : UInt8)))) (Nat.le_of_ble_eq_true rfl) rfl rfl ?_
    refine al_val (ov_assign rfl rfl) ?_
    refine al_nil ?_
    refine aq_then ?_
    refine aw_ret ?_
    refine aq_then_ret ?_
    obtain rfl := Option.some.inj h
    exact fn_ret () [] [] rfl rfl rfl rfl (resC rfl (resB (i := 0) rfl rfl Tryd.underlying49 sz49 rfl rfl rfl (resT rfl (resN))) rfl) rfl rfl rfl (by decide)
  · replace h := bif_f hb5 h
    refine aw_skip ?_
    refine aq_then ?_
    refine aw_seq ?_
    refine aw_seq ?_
    refine aw_region ?_
    refine al_val (ov_fieldA (p := 1) rfl Tryd.underlying44 rfl sz9 rfl rfl rfl) ?_
    refine al_val (ov_load (i := 1) (v := (str a0.Bytes)) rfl rfl Tryd.underlying9 sz9 rfl rfl rfl rfl) ?_
    refine al_val (ov_strLen Tryd.underlying9 rfl rfl) ?_
    refine al_val (ov_int rfl rfl rfl rfl) ?_
    refine al_nil ?_
    refine aq_then ?_
    refine aw_cond rfl (fun hb6 => ?_) (fun hb6 => ?_)
    · replace h := bif_t hb6 h
      refine aw_seq ?_
      refine aw_region ?_
      refine al_val (ov_build (cells := ((cA8u8 (A8u8.mk (0 : UInt8) (0 : UInt8) (0 : UInt8) (0 : UInt8) (0 : UInt8) (0 : UInt8) (0 : UInt8) (0 : UInt8)))).toArray) (cs := (cA8u8 (A8u8.mk (0 : UInt8) (0 : UInt8) (0 : UInt8) (0 : UInt8) (0 : UInt8) (0 : UInt8) (0 : UInt8) (0 : UInt8)))) rfl (fun w a hm hs => by simp only [List.map_toArray, List.map_cons, List.map_nil, List.toList_toArray]; kernel_rfl)) ?_
      refine al_store (i := 0) (vs := (cA8u8 (A8u8.mk (0 : UInt8) (0 : UInt8) (0 : UInt8) (0 : UInt8) (0 : UInt8) (0 : UInt8) (0 : UInt8) (0 : UInt8)))) (cs' := (cA8u8 (A8u8.mk (0 : UInt8) (0 : UInt8) (0 : UInt8) (0 : UInt8) (0 : UInt8) (0 : UInt8) (0 : UInt8) (0 : UInt8)))) rfl rfl rfl sz49 (cv_rfl rfl) rfl (co_all (oneA8u8 (A8u8.mk (0 : UInt8) (0 : UInt8) (0 : UInt8) (0 : UInt8) (0 : UInt8) (0 : UInt8) (0 : UInt8) (0 : UInt8)))) (Nat.le_of_ble_eq_true rfl) rfl rfl ?_
      refine al_val (ov_assign rfl rfl) ?_
      refine al_nil ?_
      refine aq_then ?_
      refine aw_ret ?_
      refine aq_then_ret ?_
      obtain rfl := Option.some.inj h
      exact fn_ret () [] [] rfl rfl rfl rfl (resC rfl (resB (i := 0) rfl rfl Tryd.underlying49 sz49 rfl rfl rfl (resT rfl (resN))) rfl) rfl rfl rfl (by decide)
    · replace h := bif_f hb6 h
      refine aw_skip ?_
      refine aq_then ?_
      refine aw_seq ?_
      refine aw_region ?_
      refine al_val (ov_fieldA (p := 0) rfl Tryd.underlying44 rfl sz3 rfl rfl rfl) ?_
      refine al_val (ov_load (i := 1) (v := (Value.int .i64 a0.Kind)) rfl rfl Tryd.underlying3 sz3 rfl rfl rfl rfl) ?_
      refine al_val (ov_convInt (by rw [Tryd.underlying3]; rfl) Tryd.underlying5 rfl rfl) ?_
      obtain ⟨hc8, h⟩ := req_some h
      refine al_buildSlice (τ := tyU8) (e := 5) (k := 1) (sz := 0) (by_ := 0) (z := undef) (cs := [(Value.int .u8 (IntKind.u8.wrap a0.Kind))]) (xs := [(UInt8.ofNat ((IntKind.u8.wrap a0.Kind)).toNat)]) rfl (by decide) (fun w a hm hs => ⟨([(Value.int .u8 (IntKind.u8.wrap a0.Kind))]).toArray, rfl, by simp only [List.map_toArray, List.map_cons, List.map_nil, hs.ev (x := .tmp 16) rfl]; exact run_bs [(Value.int .u8 (IntKind.u8.wrap a0.Kind))] [(Value.int .u8 (IntKind.u8.wrap a0.Kind))] Tryd.underlying89 to5 rfl rfl (bs_cons (l := [(Value.int .u8 (IntKind.u8.wrap a0.Kind))]) (cs := []) (cv_rfl rfl) rfl bs_nil) hm⟩) (fun hm => ⟨_, _, rfl, (fun _ => u8_rep hc8) hm, rfl⟩) rfl (fun v7 => ?_)
      refine al_val (ov_toStrR 0 rfl rfl Tryd.underlying89 Tryd.underlying5 Tryd.underlying9 rfl) ?_
      refine al_val (ov_fieldA (p := 1) rfl Tryd.underlying44 rfl sz9 rfl rfl rfl) ?_
      refine al_val (ov_load (i := 2) (v := (str a0.Bytes)) rfl rfl Tryd.underlying9 sz9 rfl rfl rfl rfl) ?_
      obtain ⟨hc9, h⟩ := req_some h
      refine al_val (ov_strAdd hc9 rfl rfl rfl) ?_
      obtain ⟨r11, hc10, h⟩ := opt_some h
      refine al_call (vs := [(str (([(UInt8.ofNat ((IntKind.u8.wrap a0.Kind)).toNat)]) ++ a0.Bytes))]) (f_lumref_ID_ok fu (([(UInt8.ofNat ((IntKind.u8.wrap a0.Kind)).toNat)]) ++ a0.Bytes) hc10) [] [] [0, 1, 2] pre_nil rfl (by simp) (by decide) (.inl rfl) rfl Tryd.func57 rfl rfl rfl (fun _ => ?_)
      refine al_store (i := 1) (vs := (cA8u8 r11)) (cs' := (cA8u8 r11)) rfl rfl rfl sz49 (cv_rfl rfl) rfl (co_all (oneA8u8 r11)) (Nat.le_of_ble_eq_true rfl) rfl rfl ?_
      refine al_val (ov_assign rfl rfl) ?_
      refine al_nil ?_
      refine aq_then ?_
      refine aw_ret ?_
      obtain rfl := Option.some.inj h
      exact fn_ret () [] [] rfl rfl rfl rfl (resC rfl (resB (i := 1) rfl rfl Tryd.underlying49 sz49 rfl rfl rfl (resT rfl (resN))) rfl) rfl rfl rfl (by decide)
def f_stringslite_HasPrefix (fu : Nat) (a0 : (List UInt8)) (a1 : (List UInt8)) : Option Bool := (lt (fun (j1b4 : Bool) => (some j1b4)) fun (kk2 : Bool → Option Bool) => (bif (decide ((a0.length : Int) ≥ (a1.length : Int))) then (req (0 ≤ (a1.length : Int) ∧ (a1.length : Int) ≤ (a0.length : Int)) (kk2 ((a0.take ((a1.length : Int)).toNat) == a1))) else (kk2 false)))
set_option maxRecDepth 100000 in
theorem f_stringslite_HasPrefix_ok (fu : Nat) (a0 : (List UInt8)) (a1 : (List UInt8)) {r : Bool} (h : f_stringslite_HasPrefix fu a0 a1 = some r) : FnOk Tryd.prog 134 [(str a0), (str a1)] [] [] (fun (i : Unit) => { val := (Value.bool r) }) := by
  unfold f_stringslite_HasPrefix at h
  refine fn_enter Tryd.func134 rfl Tryd.ntmps134 rfl (fun w0 Z0 => ?_)
  refine aw_seq ?_
  refine aw_region ?_
  refine al_val (ov_assign rfl rfl) ?_
  refine al_nil ?_
  refine aq_then ?_
  obtain ⟨kk2, hkk2, h⟩ := lt_some h
  refine aw_seq_join (ι := Bool) (fun i => (memOf w0 Z0 [] [] [])) (fun i => (tab [(4, (Value.bool i))])) (fun i => kk2 i = some r) ?_ ?_
  · rintro j1b4 h
    have h : kk2 j1b4 = some r := h
    rw [hkk2] at h
    dsimp only at h
    clear hkk2
    refine aw_show (m := (memOf w0 Z0 [] [] [])) (S := (tab [(4, (Value.bool j1b4))])) ?_
    refine aw_ret ?_
    obtain rfl := Option.some.inj h
    exact fn_ret () [] [] rfl rfl rfl rfl (res1 rfl rfl) rfl rfl rfl (by decide)
  · clear hkk2
    refine aw_region ?_
    refine al_val (ov_move rfl rfl) ?_
    refine al_val (ov_strLen Tryd.underlying9 rfl rfl) ?_
    refine al_val (ov_move rfl rfl) ?_
    refine al_val (ov_strLen Tryd.underlying9 rfl rfl) ?_
    refine al_val (ov_int rfl rfl rfl rfl) ?_
    refine al_val (ov_move rfl rfl) ?_
    refine al_caseB 10 rfl (fun hb3 => ?_) (fun hb3 => ?_)
    · replace h := bif_t hb3 h
      refine al_val (ov_move rfl rfl) ?_
      refine al_val (ov_move rfl rfl) ?_
      refine al_val (ov_strLen Tryd.underlying9 rfl rfl) ?_
      obtain ⟨hc4, h⟩ := req_some h
      refine al_val (ov_strTo hc4.1 hc4.2 Tryd.underlying9 rfl rfl rfl) ?_
      refine al_val (ov_move rfl rfl) ?_
      refine al_val (ov_strCmp rfl rfl rfl rfl) ?_
      refine al_val (ov_pick_t rfl rfl rfl) ?_
      refine al_val (ov_assign rfl rfl) ?_
      refine al_nil ?_
      exact aq_join ((a0.take ((a1.length : Int)).toNat) == a1) h (fun w a hm hs => norm hm hs [] [] [(4, (Value.bool ((a0.take ((a1.length : Int)).toNat) == a1)))] (by decide) ⟨rfl, trivial⟩)
    · replace h := bif_f hb3 h
      refine al_skip ?_
      refine al_skip ?_
      refine al_skip ?_
      refine al_skip ?_
      refine al_skip ?_
      refine al_skip ?_
      refine al_val (ov_pick_f rfl rfl rfl) ?_
      refine al_val (ov_assign rfl rfl) ?_
      refine al_nil ?_
      exact aq_join false h (fun w a hm hs => norm hm hs [] [] [(4, (Value.bool false))] (by decide) ⟨rfl, trivial⟩)
def f_strings_HasPrefix (fu : Nat) (a0 : (List UInt8)) (a1 : (List UInt8)) : Option Bool := (opt (f_stringslite_HasPrefix fu a0 a1) fun (r2 : Bool) => (some r2))
set_option maxRecDepth 100000 in
theorem f_strings_HasPrefix_ok (fu : Nat) (a0 : (List UInt8)) (a1 : (List UInt8)) {r : Bool} (h : f_strings_HasPrefix fu a0 a1 = some r) : FnOk Tryd.prog 102 [(str a0), (str a1)] [] [] (fun (i : Unit) => { val := (Value.bool r) }) := by
  unfold f_strings_HasPrefix at h
  refine fn_enter Tryd.func102 rfl Tryd.ntmps102 rfl (fun w0 Z0 => ?_)
  refine aw_seq ?_
  refine aw_region ?_
  refine al_val (ov_assign rfl rfl) ?_
  refine al_nil ?_
  refine aq_then ?_
  refine aw_seq ?_
  refine aw_region ?_
  refine al_val (ov_move rfl rfl) ?_
  refine al_val (ov_move rfl rfl) ?_
  obtain ⟨r2, hc1, h⟩ := opt_some h
  refine al_call (vs := [(str a0), (str a1)]) (f_stringslite_HasPrefix_ok fu a0 a1 hc1) [] [] [] pre_nil rfl (by simp) (by decide) (.inl rfl) rfl Tryd.func134 rfl rfl rfl (fun _ => ?_)
  refine al_val (ov_assign rfl rfl) ?_
  refine al_nil ?_
  refine aq_then ?_
  refine aw_ret ?_
  obtain rfl := Option.some.inj h
  exact fn_ret () [] [] rfl rfl rfl rfl (res1 rfl rfl) rfl rfl rfl (by decide)
def f_lumref_number : Nat → (List UInt8) → Option Int
  | 0, _ => none
  | fu + 1, a0 => (bif (a0 == ([] : List UInt8)) then (some (0 : Int)) else (req (0 ≤ (IntKind.i64.wrap ((a0.length : Int) - (1 : Int))) ∧ (IntKind.i64.wrap ((a0.length : Int) - (1 : Int))) ≤ (a0.length : Int)) (opt (f_lumref_number fu (a0.take ((IntKind.i64.wrap ((a0.length : Int) - (1 : Int)))).toNat)) fun (r4 : Int) => (req (0 ≤ (IntKind.i64.wrap ((a0.length : Int) - (1 : Int))) ∧ (IntKind.i64.wrap ((a0.length : Int) - (1 : Int))) < (a0.length : Int)) (some (IntKind.u64.wrap ((IntKind.u64.wrap ((256 : Int) * r4)) + (IntKind.u64.wrap (En.bAt a0 (IntKind.i64.wrap ((a0.length : Int) - (1 : Int))))))))))))
set_option maxRecDepth 100000 in
theorem f_lumref_number_ok (fu : Nat) (a0 : (List UInt8)) {r : Int} (h : f_lumref_number fu a0 = some r) : FnOk Tryd.prog 103 [(str a0)] [] [] (fun (i : Unit) => { val := (Value.int .u64 r) }) := by
  cases fu with
  | zero => rw [f_lumref_number] at h; cases h
  | succ fu =>
    rw [f_lumref_number] at h
    refine fn_enter Tryd.func103 rfl Tryd.ntmps103 rfl (fun w0 Z0 => ?_)
    refine aw_seq ?_
    refine aw_region ?_
    refine al_val (ov_assign rfl rfl) ?_
    refine al_nil ?_
    refine aq_then ?_
    refine aw_seq ?_
    refine aw_seq ?_
    refine aw_region ?_
    refine al_val (ov_move rfl rfl) ?_
    refine al_val (ov_strCmp rfl rfl rfl rfl) ?_
    refine al_nil ?_
    refine aq_then ?_
    refine aw_cond rfl (fun hb1 => ?_) (fun hb1 => ?_)
    · replace h := bif_t hb1 h
      refine aw_seq ?_
      refine aw_region ?_
      refine al_val (ov_assign rfl rfl) ?_
      refine al_nil ?_
      refine aq_then ?_
      refine aw_ret ?_
      refine aq_then_ret ?_
      obtain rfl := Option.some.inj h
      exact fn_ret () [] [] rfl rfl rfl rfl (res1 rfl rfl) rfl rfl rfl (by decide)
    · replace h := bif_f hb1 h
      refine aw_skip ?_
      refine aq_then ?_
      refine aw_seq ?_
      obtain ⟨hc2, h⟩ := req_some h
      obtain ⟨r4, hc3, h⟩ := opt_some h
      obtain ⟨hc5, h⟩ := req_some h
      refine aw_region_draw 14 [(5, (fun u => fEq u (str a0))), (6, (fun u => fEq u (str a0))), (7, (fun u => fEq u (Value.int .i64 (a0.length : Int)))), (8, (fun u => fEq u (Value.int .i64 (IntKind.i64.wrap ((a0.length : Int) - (1 : Int)))))), (9, (fun u => fEq u (str (a0.take ((IntKind.i64.wrap ((a0.length : Int) - (1 : Int)))).toNat)))), (10, (fun u => fEq u (Value.int .u64 r4))), (11, (fun u => fEq u (Value.int .u64 (IntKind.u64.wrap ((256 : Int) * r4))))), (12, (fun u => fEq u (str a0))), (13, (fun u => fEq u (str a0))), (14, (fun u => fEq u (Value.int .i64 (a0.length : Int)))), (15, (fun u => fEq u (Value.int .i64 (IntKind.i64.wrap ((a0.length : Int) - (1 : Int)))))), (16, (fun u => fEq u (Value.int .u8 (En.bAt a0 (IntKind.i64.wrap ((a0.length : Int) - (1 : Int))))))), (17, (fun u => fEq u (Value.int .u64 (IntKind.u64.wrap (En.bAt a0 (IntKind.i64.wrap ((a0.length : Int) - (1 : Int)))))))), (18, (fun u => fEq u (Value.int .u64 (IntKind.u64.wrap ((IntKind.u64.wrap ((256 : Int) * r4)) + (IntKind.u64.wrap (En.bAt a0 (IntKind.i64.wrap ((a0.length : Int) - (1 : Int))))))))))] (tab [(0, (str a0)), (2, (Value.int .u64 (0 : Int)))]) mixed (by kernel_rfl) rfl rfl rfl (fun a hs => hs.tab _ (allT_mem ⟨rfl, rfl, trivial⟩)) ⟨⟨rfl, ld_val (ov_move rfl rfl)⟩, ⟨rfl, ld_val (ov_move rfl rfl)⟩, ⟨rfl, ld_eq (j := 1) rfl rfl (ld_val (ov_strLen Tryd.underlying9 rfl rfl))⟩, ⟨rfl, ld_eq (j := 2) rfl rfl (ld_val (ov_int rfl rfl rfl rfl))⟩, ⟨rfl, ld_eq (j := 0) rfl rfl (ld_eq (j := 3) rfl rfl (ld_val (ov_strTo hc2.1 hc2.2 Tryd.underlying9 rfl rfl rfl)))⟩, ⟨rfl, ld_eq (j := 4) rfl rfl (ld_callV (vs := [(str (a0.take ((IntKind.i64.wrap ((a0.length : Int) - (1 : Int)))).toNat))]) (f_lumref_number_ok fu (a0.take ((IntKind.i64.wrap ((a0.length : Int) - (1 : Int)))).toNat) hc3) [] pre_nil rfl Tryd.func103 rfl rfl rfl)⟩, ⟨rfl, ld_eq (j := 5) rfl rfl (ld_val (ov_int rfl rfl rfl rfl))⟩, ⟨rfl, ld_val (ov_move rfl rfl)⟩, ⟨rfl, ld_val (ov_move rfl rfl)⟩, ⟨rfl, ld_eq (j := 8) rfl rfl (ld_val (ov_strLen Tryd.underlying9 rfl rfl))⟩, ⟨rfl, ld_eq (j := 9) rfl rfl (ld_val (ov_int rfl rfl rfl rfl))⟩, ⟨rfl, ld_eq (j := 7) rfl rfl (ld_eq (j := 10) rfl rfl (ld_val (ov_strIdx hc5.1 hc5.2 Tryd.underlying9 rfl rfl rfl)))⟩, ⟨rfl, ld_eq (j := 11) rfl rfl (ld_val (ov_convInt (by rw [Tryd.underlying5]; rfl) Tryd.underlying87 rfl rfl))⟩, ⟨rfl, ld_eq (j := 6) rfl rfl (ld_eq (j := 12) rfl rfl (ld_val (ov_int rfl rfl rfl rfl)))⟩, trivial⟩ ?_
      refine tl_eq 13 rfl ?_
      refine tl_done ?_
      refine al_val (ov_assign rfl rfl) ?_
      refine al_nil ?_
      refine aq_then ?_
      refine aw_ret ?_
      obtain rfl := Option.some.inj h
      exact fn_ret () [] [] rfl rfl rfl rfl (res1 rfl rfl) rfl rfl rfl (by decide)
def f_lumref_Get (fu : Nat) (a0 : (List UInt8)) : Option (Int × Int × Int) := (bif ((a0.length : Int) == (0 : Int)) then (some ((0 : Int), (0 : Int), (3 : Int))) else (req (0 ≤ (0 : Int) ∧ (0 : Int) < (a0.length : Int)) (bif (decide ((En.bAt a0 (0 : Int)) > (8 : Int))) then (some ((0 : Int), (0 : Int), (4 : Int))) else (req (0 ≤ (0 : Int) ∧ (0 : Int) < (a0.length : Int)) (bif (decide ((a0.length : Int) < (IntKind.i64.wrap ((1 : Int) + (IntKind.i64.wrap (En.bAt a0 (0 : Int))))))) then (some ((0 : Int), (0 : Int), (3 : Int))) else (req (0 ≤ (1 : Int) ∧ (1 : Int) ≤ (IntKind.i64.wrap ((1 : Int) + (IntKind.i64.wrap (En.bAt a0 (0 : Int))))) ∧ (IntKind.i64.wrap ((1 : Int) + (IntKind.i64.wrap (En.bAt a0 (0 : Int))))) ≤ (a0.length : Int)) (opt (f_strings_HasPrefix fu (cut a0 (1 : Int) (IntKind.i64.wrap ((1 : Int) + (IntKind.i64.wrap (En.bAt a0 (0 : Int)))))) ([0] : List UInt8)) fun (r8 : Bool) => (bif r8 then (some ((0 : Int), (0 : Int), (4 : Int))) else (req (0 ≤ (1 : Int) ∧ (1 : Int) ≤ (IntKind.i64.wrap ((1 : Int) + (IntKind.i64.wrap (En.bAt a0 (0 : Int))))) ∧ (IntKind.i64.wrap ((1 : Int) + (IntKind.i64.wrap (En.bAt a0 (0 : Int))))) ≤ (a0.length : Int)) (opt (f_lumref_number fu (cut a0 (1 : Int) (IntKind.i64.wrap ((1 : Int) + (IntKind.i64.wrap (En.bAt a0 (0 : Int))))))) fun (r12 : Int) => (some (r12, (IntKind.i64.wrap ((1 : Int) + (IntKind.i64.wrap (En.bAt a0 (0 : Int))))), (0 : Int)))))))))))))
set_option maxRecDepth 100000 in
theorem f_lumref_Get_ok (fu : Nat) (a0 : (List UInt8)) {r : (Int × Int × Int)} (h : f_lumref_Get fu a0 = some r) : FnOk Tryd.prog 59 [(str a0)] [] [] (fun (i : Unit) => { val := (Value.tuple #[(Value.int .u64 r.1), (Value.int .i64 r.2.1), (Value.int .i64 r.2.2)]) }) := by
  unfold f_lumref_Get at h
  refine fn_enter Tryd.func59 rfl Tryd.ntmps59 rfl (fun w0 Z0 => ?_)
  refine aw_seq ?_
  refine aw_region ?_
  refine al_val (ov_assign rfl rfl) ?_
  refine al_val (ov_assign rfl rfl) ?_
  refine al_val (ov_assign rfl rfl) ?_
  refine al_nil ?_
  refine aq_then ?_
  refine aw_seq ?_
  refine aw_seq ?_
  refine aw_region ?_
  refine al_val (ov_move rfl rfl) ?_
  refine al_val (ov_strLen Tryd.underlying9 rfl rfl) ?_
  refine al_val (ov_int rfl rfl rfl rfl) ?_
  refine al_nil ?_
  refine aq_then ?_
  refine aw_cond rfl (fun hb1 => ?_) (fun hb1 => ?_)
  · replace h := bif_t hb1 h
    refine aw_seq ?_
    refine aw_region ?_
    refine al_val (ov_assign rfl rfl) ?_
    refine al_val (ov_assign rfl rfl) ?_
    refine al_val (ov_assign rfl rfl) ?_
    refine al_nil ?_
    refine aq_then ?_
    refine aw_ret ?_
    refine aq_then_ret ?_
    obtain rfl := Option.some.inj h
    exact fn_ret () [] [] rfl rfl rfl rfl (res3 rfl rfl rfl rfl) rfl rfl rfl (by decide)
  · replace h := bif_f hb1 h
    refine aw_skip ?_
    refine aq_then ?_
    refine aw_seq ?_
    refine aw_seq ?_
    refine aw_region ?_
    refine al_val (ov_move rfl rfl) ?_
    obtain ⟨hc2, h⟩ := req_some h
    refine al_val (ov_strIdx hc2.1 hc2.2 Tryd.underlying9 rfl rfl rfl) ?_
    refine al_val (ov_int rfl rfl rfl rfl) ?_
    refine al_nil ?_
    refine aq_then ?_
    refine aw_cond rfl (fun hb3 => ?_) (fun hb3 => ?_)
    · replace h := bif_t hb3 h
      refine aw_seq ?_
      refine aw_region ?_
      refine al_val (ov_assign rfl rfl) ?_
      refine al_val (ov_assign rfl rfl) ?_
      refine al_val (ov_assign rfl rfl) ?_
      refine al_nil ?_
      refine aq_then ?_
      refine aw_ret ?_
      refine aq_then_ret ?_
      obtain rfl := Option.some.inj h
      exact fn_ret () [] [] rfl rfl rfl rfl (res3 rfl rfl rfl rfl) rfl rfl rfl (by decide)
    · replace h := bif_f hb3 h
      refine aw_skip ?_
      refine aq_then ?_
      refine aw_seq ?_
      refine aw_region ?_
      refine al_val (ov_move rfl rfl) ?_
      obtain ⟨hc4, h⟩ := req_some h
      refine al_val (ov_strIdx hc4.1 hc4.2 Tryd.underlying9 rfl rfl rfl) ?_
      refine al_val (ov_convInt (by rw [Tryd.underlying5]; rfl) Tryd.underlying3 rfl rfl) ?_
      refine al_val (ov_int rfl rfl rfl rfl) ?_
      refine al_val (ov_assign rfl rfl) ?_
      refine al_nil ?_
      refine aq_then ?_
      refine aw_seq ?_
      refine aw_seq ?_
      refine aw_region ?_
      refine al_val (ov_move rfl rfl) ?_
      refine al_val (ov_strLen Tryd.underlying9 rfl rfl) ?_
      refine al_val (ov_move rfl rfl) ?_
      refine al_val (ov_int rfl rfl rfl rfl) ?_
      refine al_nil ?_
      refine aq_then ?_
      refine aw_cond rfl (fun hb5 => ?_) (fun hb5 => ?_)
      · replace h := bif_t hb5 h
        refine aw_seq ?_
        refine aw_region ?_
        refine al_val (ov_assign rfl rfl) ?_
        refine al_val (ov_assign rfl rfl) ?_
        refine al_val (ov_assign rfl rfl) ?_
        refine al_nil ?_
        refine aq_then ?_
        refine aw_ret ?_
        refine aq_then_ret ?_
        obtain rfl := Option.some.inj h
        exact fn_ret () [] [] rfl rfl rfl rfl (res3 rfl rfl rfl rfl) rfl rfl rfl (by decide)
      · replace h := bif_f hb5 h
        refine aw_skip ?_
        refine aq_then ?_
        refine aw_seq ?_
        refine aw_seq ?_
        refine aw_region ?_
        refine al_val (ov_move rfl rfl) ?_
        refine al_val (ov_move rfl rfl) ?_
        obtain ⟨hc6, h⟩ := req_some h
        refine al_val (ov_strCut hc6.1 hc6.2.1 hc6.2.2 Tryd.underlying9 rfl rfl rfl rfl) ?_
        obtain ⟨r8, hc7, h⟩ := opt_some h
        refine al_call (vs := [(str (cut a0 (1 : Int) (IntKind.i64.wrap ((1 : Int) + (IntKind.i64.wrap (En.bAt a0 (0 : Int))))))), (str ([0] : List UInt8))]) (f_strings_HasPrefix_ok fu (cut a0 (1 : Int) (IntKind.i64.wrap ((1 : Int) + (IntKind.i64.wrap (En.bAt a0 (0 : Int)))))) ([0] : List UInt8) hc7) [] [] [] pre_nil rfl (by simp) (by decide) (.inl rfl) rfl Tryd.func102 rfl rfl rfl (fun _ => ?_)
        refine al_nil ?_
        refine aq_then ?_
        refine aw_cond rfl (fun hb9 => ?_) (fun hb9 => ?_)
        · replace h := bif_t hb9 h
          refine aw_seq ?_
          refine aw_region ?_
          refine al_val (ov_assign rfl rfl) ?_
          refine al_val (ov_assign rfl rfl) ?_
          refine al_val (ov_assign rfl rfl) ?_
          refine al_nil ?_
          refine aq_then ?_
          refine aw_ret ?_
          refine aq_then_ret ?_
          obtain rfl := Option.some.inj h
          exact fn_ret () [] [] rfl rfl rfl rfl (res3 rfl rfl rfl rfl) rfl rfl rfl (by decide)
        · replace h := bif_f hb9 h
          refine aw_skip ?_
          refine aq_then ?_
          refine aw_seq ?_
          refine aw_region ?_
          refine al_val (ov_move rfl rfl) ?_
          refine al_val (ov_move rfl rfl) ?_
          obtain ⟨hc10, h⟩ := req_some h
          refine al_val (ov_strCut hc10.1 hc10.2.1 hc10.2.2 Tryd.underlying9 rfl rfl rfl rfl) ?_
          obtain ⟨r12, hc11, h⟩ := opt_some h
          refine al_call (vs := [(str (cut a0 (1 : Int) (IntKind.i64.wrap ((1 : Int) + (IntKind.i64.wrap (En.bAt a0 (0 : Int)))))))]) (f_lumref_number_ok fu (cut a0 (1 : Int) (IntKind.i64.wrap ((1 : Int) + (IntKind.i64.wrap (En.bAt a0 (0 : Int)))))) hc11) [] [] [] pre_nil rfl (by simp) (by decide) (.inl rfl) rfl Tryd.func103 rfl rfl rfl (fun _ => ?_)
          refine al_val (ov_move rfl rfl) ?_
          refine al_val (ov_assign rfl rfl) ?_
          refine al_val (ov_assign rfl rfl) ?_
          refine al_val (ov_assign rfl rfl) ?_
          refine al_nil ?_
          refine aq_then ?_
          refine aw_ret ?_
          obtain rfl := Option.some.inj h
          exact fn_ret () [] [] rfl rfl rfl rfl (res3 rfl rfl rfl rfl) rfl rfl rfl (by decide)
def f_lumref_numberAt (fu : Nat) (a0 : (List UInt8)) (a1 : Int) : Option (Int × (List UInt8) × Int) := (opt (f_lumref_Get fu a0) fun (r2 : (Int × Int × Int)) => (lt (fun (j3i9 : Int) => (bif (j3i9 != (0 : Int)) then (some ((0 : Int), ([] : List UInt8), j3i9)) else (req (0 ≤ r2.2.1 ∧ r2.2.1 ≤ (a0.length : Int)) (some ((IntKind.i64.wrap r2.1), (a0.drop (r2.2.1).toNat), (0 : Int)))))) fun (kk4 : Int → Option (Int × (List UInt8) × Int)) => (lt (fun (j7b22 : Bool) => (bif j7b22 then (kk4 (2 : Int)) else (kk4 r2.2.2))) fun (kk8 : Bool → Option (Int × (List UInt8) × Int)) => (bif (r2.2.2 == (0 : Int)) then (kk8 (decide (r2.1 > a1))) else (kk8 false)))))
set_option maxRecDepth 100000 in
theorem f_lumref_numberAt_ok (fu : Nat) (a0 : (List UInt8)) (a1 : Int) {r : (Int × (List UInt8) × Int)} (h : f_lumref_numberAt fu a0 a1 = some r) : FnOk Tryd.prog 113 [(str a0), (Value.int .u64 a1)] [] [] (fun (i : Unit) => { val := (Value.tuple #[(Value.int .i64 r.1), (str r.2.1), (Value.int .i64 r.2.2)]) }) := by
  unfold f_lumref_numberAt at h
  refine fn_enter Tryd.func113 rfl Tryd.ntmps113 rfl (fun w0 Z0 => ?_)
  refine aw_seq ?_
  refine aw_region ?_
  refine al_val (ov_assign rfl rfl) ?_
  refine al_val (ov_assign rfl rfl) ?_
  refine al_val (ov_assign rfl rfl) ?_
  refine al_nil ?_
  refine aq_then ?_
  refine aw_seq ?_
  refine aw_region ?_
  refine al_val (ov_move rfl rfl) ?_
  obtain ⟨r2, hc1, h⟩ := opt_some h
  refine al_call (vs := [(str a0)]) (f_lumref_Get_ok fu a0 hc1) [] [] [] pre_nil rfl (by simp) (by decide) (.inl rfl) rfl Tryd.func59 rfl rfl rfl (fun _ => ?_)
  refine al_val (ov_move rfl rfl) ?_
  refine al_val (ov_extract rfl rfl rfl) ?_
  refine al_val (ov_extract rfl rfl rfl) ?_
  refine al_val (ov_extract rfl rfl rfl) ?_
  refine al_val (ov_assign rfl rfl) ?_
  refine al_val (ov_assign rfl rfl) ?_
  refine al_val (ov_assign rfl rfl) ?_
  refine al_nil ?_
  refine aq_then ?_
  obtain ⟨kk4, hkk4, h⟩ := lt_some h
  refine aw_seq_join (ι := Int) (fun i => (memOf w0 Z0 [] [] [])) (fun i => (tab [(0, (str a0)), (7, (Value.int .u64 r2.1)), (8, (Value.int .i64 r2.2.1)), (9, (Value.int .i64 i))])) (fun i => kk4 i = some r) ?_ ?_
  · rintro j3i9 h
    have h : kk4 j3i9 = some r := h
    rw [hkk4] at h
    dsimp only at h
    clear hkk4
    refine aw_show (m := (memOf w0 Z0 [] [] [])) (S := (tab [(0, (str a0)), (7, (Value.int .u64 r2.1)), (8, (Value.int .i64 r2.2.1)), (9, (Value.int .i64 j3i9))])) ?_
    refine aw_seq ?_
    refine aw_seq ?_
    refine aw_region ?_
    refine al_val (ov_move rfl rfl) ?_
    refine al_val (ov_int rfl rfl rfl rfl) ?_
    refine al_nil ?_
    refine aq_then ?_
    refine aw_cond rfl (fun hb5 => ?_) (fun hb5 => ?_)
    · replace h := bif_t hb5 h
      refine aw_seq ?_
      refine aw_region ?_
      refine al_val (ov_move rfl rfl) ?_
      refine al_val (ov_assign rfl rfl) ?_
      refine al_val (ov_assign rfl rfl) ?_
      refine al_val (ov_assign rfl rfl) ?_
      refine al_nil ?_
      refine aq_then ?_
      refine aw_ret ?_
      refine aq_then_ret ?_
      obtain rfl := Option.some.inj h
      exact fn_ret () [] [] rfl rfl rfl rfl (res3 rfl rfl rfl rfl) rfl rfl rfl (by decide)
    · replace h := bif_f hb5 h
      refine aw_skip ?_
      refine aq_then ?_
      refine aw_seq ?_
      obtain ⟨hc6, h⟩ := req_some h
      refine aw_region_draw 7 [(26, (fun u => fEq u (Value.int .u64 r2.1))), (27, (fun u => fEq u (Value.int .i64 (IntKind.i64.wrap r2.1)))), (28, (fun u => fEq u (str a0))), (29, (fun u => fEq u (Value.int .i64 r2.2.1))), (30, (fun u => fEq u (str (a0.drop (r2.2.1).toNat)))), (4, (fun u => fEq u (Value.int .i64 (IntKind.i64.wrap r2.1)))), (5, (fun u => fEq u (str (a0.drop (r2.2.1).toNat))))] (tab [(0, (str a0)), (7, (Value.int .u64 r2.1)), (8, (Value.int .i64 r2.2.1))]) mixed (by kernel_rfl) rfl rfl rfl (fun a hs => hs.tab _ (allT_mem ⟨rfl, rfl, rfl, trivial⟩)) ⟨⟨rfl, ld_val (ov_move rfl rfl)⟩, ⟨rfl, ld_eq (j := 0) rfl rfl (ld_val (ov_convInt (by rw [Tryd.underlying87]; rfl) Tryd.underlying3 rfl rfl))⟩, ⟨rfl, ld_val (ov_move rfl rfl)⟩, ⟨rfl, ld_val (ov_move rfl rfl)⟩, ⟨rfl, ld_eq (j := 2) rfl rfl (ld_eq (j := 3) rfl rfl (ld_val (ov_strFrom hc6.1 hc6.2 Tryd.underlying9 rfl rfl rfl)))⟩, ⟨rfl, ld_eq (j := 1) rfl rfl (ld_val (ov_assign rfl rfl))⟩, ⟨rfl, ld_eq (j := 4) rfl rfl (ld_val (ov_assign rfl rfl))⟩, trivial⟩ ?_
      refine tl_eq 5 rfl ?_
      refine tl_eq 6 rfl ?_
      refine tl_done ?_
      refine al_val (ov_assign rfl rfl) ?_
      refine al_nil ?_
      refine aq_then ?_
      refine aw_ret ?_
      obtain rfl := Option.some.inj h
      exact fn_ret () [] [] rfl rfl rfl rfl (res3 rfl rfl rfl rfl) rfl rfl rfl (by decide)
  · clear hkk4
    obtain ⟨kk8, hkk8, h⟩ := lt_some h
    refine aw_seq_join (ι := Bool) (fun i => (memOf w0 Z0 [] [] [])) (fun i => (tab [(0, (str a0)), (7, (Value.int .u64 r2.1)), (8, (Value.int .i64 r2.2.1)), (9, (Value.int .i64 r2.2.2)), (22, (Value.bool i))])) (fun i => kk8 i = some r) ?_ ?_
    · rintro j7b22 h
      have h : kk8 j7b22 = some r := h
      rw [hkk8] at h
      dsimp only at h
      clear hkk8
      refine aw_show (m := (memOf w0 Z0 [] [] [])) (S := (tab [(0, (str a0)), (7, (Value.int .u64 r2.1)), (8, (Value.int .i64 r2.2.1)), (9, (Value.int .i64 r2.2.2)), (22, (Value.bool j7b22))])) ?_
      refine aw_cond rfl (fun hb9 => ?_) (fun hb9 => ?_)
      · replace h := bif_t hb9 h
        refine aw_region ?_
        refine al_val (ov_assign rfl rfl) ?_
        refine al_nil ?_
        exact aq_join (2 : Int) h (fun w a hm hs => norm hm hs [] [] [(0, (str a0)), (7, (Value.int .u64 r2.1)), (8, (Value.int .i64 r2.2.1)), (9, (Value.int .i64 (2 : Int)))] (by decide) ⟨rfl, rfl, rfl, rfl, trivial⟩)
      · replace h := bif_f hb9 h
        refine aw_skip ?_
        exact aq_join r2.2.2 h (fun w a hm hs => norm hm hs [] [] [(0, (str a0)), (7, (Value.int .u64 r2.1)), (8, (Value.int .i64 r2.2.1)), (9, (Value.int .i64 r2.2.2))] (by decide) ⟨rfl, rfl, rfl, rfl, trivial⟩)
    · clear hkk8
      refine aw_region ?_
      refine al_val (ov_move rfl rfl) ?_
      refine al_val (ov_int rfl rfl rfl rfl) ?_
      refine al_val (ov_move rfl rfl) ?_
      refine al_caseB 18 rfl (fun hb10 => ?_) (fun hb10 => ?_)
      · replace h := bif_t hb10 h
        refine al_val (ov_move rfl rfl) ?_
        refine al_val (ov_move rfl rfl) ?_
        refine al_val (ov_int rfl rfl rfl rfl) ?_
        refine al_val (ov_pick_t rfl rfl rfl) ?_
        refine al_nil ?_
        exact aq_join (decide (r2.1 > a1)) h (fun w a hm hs => norm hm hs [] [] [(0, (str a0)), (7, (Value.int .u64 r2.1)), (8, (Value.int .i64 r2.2.1)), (9, (Value.int .i64 r2.2.2)), (22, (Value.bool (decide (r2.1 > a1))))] (by decide) ⟨rfl, rfl, rfl, rfl, rfl, trivial⟩)
      · replace h := bif_f hb10 h
        refine al_skip ?_
        refine al_skip ?_
        refine al_skip ?_
        refine al_val (ov_pick_f rfl rfl rfl) ?_
        refine al_nil ?_
        exact aq_join false h (fun w a hm hs => norm hm hs [] [] [(0, (str a0)), (7, (Value.int .u64 r2.1)), (8, (Value.int .i64 r2.2.1)), (9, (Value.int .i64 r2.2.2)), (22, (Value.bool false))] (by decide) ⟨rfl, rfl, rfl, rfl, rfl, trivial⟩)
def f_lumref_GetText_L3 (a0 : (List UInt8)) : Nat → (List UInt8) → Int → Option ((List UInt8) × Int × Int)
  | 0, _, _ => none
  | k2 + 1, l1s5, l1i6 => (lt (fun (j4b24 : Bool) => (bif j4b24 then (some (([] : List UInt8), (0 : Int), (3 : Int))) else (lt (fun (j7i7 : Int) => (bif ((l1s5.length : Int) == (1024 : Int)) then (some (([] : List UInt8), (0 : Int), (2 : Int))) else (req (0 ≤ l1i6 ∧ l1i6 ≤ (IntKind.i64.wrap (l1i6 + (1 : Int))) ∧ (IntKind.i64.wrap (l1i6 + (1 : Int))) ≤ (a0.length : Int)) (req (l1s5.length + (cut a0 l1i6 (IntKind.i64.wrap (l1i6 + (1 : Int)))).length ≤ 9223372036854775807) (f_lumref_GetText_L3 a0 k2 (l1s5 ++ (cut a0 l1i6 (IntKind.i64.wrap (l1i6 + (1 : Int))))) (IntKind.i64.wrap (l1i6 + j7i7))))))) fun (kk8 : Int → Option ((List UInt8) × Int × Int)) => (req (0 ≤ l1i6 ∧ l1i6 < (a0.length : Int)) (bif ((En.bAt a0 l1i6) == (0 : Int)) then (req (0 ≤ (IntKind.i64.wrap (l1i6 + (1 : Int))) ∧ (IntKind.i64.wrap (l1i6 + (1 : Int))) < (a0.length : Int)) (bif ((En.bAt a0 (IntKind.i64.wrap (l1i6 + (1 : Int)))) == (0 : Int)) then (some (l1s5, (IntKind.i64.wrap (l1i6 + (2 : Int))), (0 : Int))) else (req (0 ≤ (IntKind.i64.wrap (l1i6 + (1 : Int))) ∧ (IntKind.i64.wrap (l1i6 + (1 : Int))) < (a0.length : Int)) (bif ((En.bAt a0 (IntKind.i64.wrap (l1i6 + (1 : Int)))) != (255 : Int)) then (some (([] : List UInt8), (0 : Int), (4 : Int))) else (kk8 (2 : Int)))))) else (kk8 (1 : Int))))))) fun (kk5 : Bool → Option ((List UInt8) × Int × Int)) => (bif (decide (l1i6 ≥ (a0.length : Int))) then (kk5 true) else (req (0 ≤ l1i6 ∧ l1i6 < (a0.length : Int)) (bif ((En.bAt a0 l1i6) == (0 : Int)) then (kk5 (decide ((IntKind.i64.wrap (l1i6 + (1 : Int))) ≥ (a0.length : Int)))) else (kk5 false)))))
def f_lumref_GetText (fu : Nat) (a0 : (List UInt8)) : Option ((List UInt8) × Int × Int) := (f_lumref_GetText_L3 a0 fu ([] : List UInt8) (0 : Int))
set_option maxRecDepth 100000 in
theorem f_lumref_GetText_ok (fu : Nat) (a0 : (List UInt8)) {r : ((List UInt8) × Int × Int)} (h : f_lumref_GetText fu a0 = some r) : FnOk Tryd.prog 75 [(str a0)] [] [] (fun (i : Unit) => { val := (Value.tuple #[(str r.1), (Value.int .i64 r.2.1), (Value.int .i64 r.2.2)]) }) := by
  unfold f_lumref_GetText at h
  refine fn_enter Tryd.func75 rfl Tryd.ntmps75 rfl (fun w0 Z0 => ?_)
  refine aw_seq ?_
  refine aw_region ?_
  refine al_val (ov_assign rfl rfl) ?_
  refine al_val (ov_assign rfl rfl) ?_
  refine al_val (ov_assign rfl rfl) ?_
  refine al_nil ?_
  refine aq_then ?_
  refine aw_seq ?_
  refine aw_region ?_
  refine al_val (ov_assign rfl rfl) ?_
  refine al_val (ov_assign rfl rfl) ?_
  refine al_nil ?_
  refine aq_then ?_
  refine aw_block ?_
  refine aw_state (aw_loop (ι := (List UInt8) × Int) (fun i => (memOf w0 Z0 [] [] [])) (fun i => (tab [(0, (str a0)), (5, (str i.1)), (6, (Value.int .i64 i.2))])) (fun q i => f_lumref_GetText_L3 a0 q i.1 i.2 = some r) ?_ fu (([] : List UInt8), (0 : Int)) h) (fun w a hm hs => norm hm hs [] [] [(0, (str a0)), (5, (str ([] : List UInt8))), (6, (Value.int .i64 (0 : Int)))] (by decide) ⟨rfl, rfl, rfl, trivial⟩)
  clear h
  rintro k2 ⟨l1s5, l1i6⟩ h
  have h : f_lumref_GetText_L3 a0 k2 l1s5 l1i6 = some r := h
  obtain _ | k2 := k2
  · rw [f_lumref_GetText_L3] at h; cases h
  rw [f_lumref_GetText_L3] at h
  refine aw_show (m := (memOf w0 Z0 [] [] [])) (S := (tab [(0, (str a0)), (5, (str l1s5)), (6, (Value.int .i64 l1i6))])) ?_
  refine aw_block ?_
  refine aw_seq ?_
  obtain ⟨kk5, hkk5, h⟩ := lt_some h
  refine aw_seq_join (ι := Bool) (fun i => (memOf w0 Z0 [] [] [])) (fun i => (tab [(0, (str a0)), (5, (str l1s5)), (6, (Value.int .i64 l1i6)), (24, (Value.bool i))])) (fun i => kk5 i = some r) ?_ ?_
  · rintro j4b24 h
    have h : kk5 j4b24 = some r := h
    rw [hkk5] at h
    dsimp only at h
    clear hkk5
    refine aw_show (m := (memOf w0 Z0 [] [] [])) (S := (tab [(0, (str a0)), (5, (str l1s5)), (6, (Value.int .i64 l1i6)), (24, (Value.bool j4b24))])) ?_
    refine aw_cond rfl (fun hb6 => ?_) (fun hb6 => ?_)
    · replace h := bif_t hb6 h
      refine aw_seq ?_
      refine aw_region ?_
      refine al_val (ov_assign rfl rfl) ?_
      refine al_val (ov_assign rfl rfl) ?_
      refine al_val (ov_assign rfl rfl) ?_
      refine al_nil ?_
      refine aq_then ?_
      refine aw_ret ?_
      refine aq_then_ret ?_
      refine aq_block_ret ?_
      refine aq_then_ret ?_
      refine aq_block_ret ?_
      obtain rfl := Option.some.inj h
      exact fn_ret () [] [] rfl rfl rfl rfl (res3 rfl rfl rfl rfl) rfl rfl rfl (by decide)
    · replace h := bif_f hb6 h
      refine aw_skip ?_
      refine aq_then ?_
      refine aw_seq ?_
      refine aw_region ?_
      refine al_val (ov_assign rfl rfl) ?_
      refine al_nil ?_
      refine aq_then ?_
      obtain ⟨kk8, hkk8, h⟩ := lt_some h
      refine aw_seq_join (ι := Int) (fun i => (memOf w0 Z0 [] [] [])) (fun i => (tab [(0, (str a0)), (5, (str l1s5)), (6, (Value.int .i64 l1i6)), (7, (Value.int .i64 i))])) (fun i => kk8 i = some r) ?_ ?_
      · rintro j7i7 h
        have h : kk8 j7i7 = some r := h
        rw [hkk8] at h
        dsimp only at h
        clear hkk8
        refine aw_show (m := (memOf w0 Z0 [] [] [])) (S := (tab [(0, (str a0)), (5, (str l1s5)), (6, (Value.int .i64 l1i6)), (7, (Value.int .i64 j7i7))])) ?_
        refine aw_seq ?_
        refine aw_seq ?_
        refine aw_region ?_
        refine al_val (ov_move rfl rfl) ?_
        refine al_val (ov_strLen Tryd.underlying9 rfl rfl) ?_
        refine al_val (ov_int rfl rfl rfl rfl) ?_
        refine al_nil ?_
        refine aq_then ?_
        refine aw_cond rfl (fun hb9 => ?_) (fun hb9 => ?_)
        · replace h := bif_t hb9 h
          refine aw_seq ?_
          refine aw_region ?_
          refine al_val (ov_assign rfl rfl) ?_
          refine al_val (ov_assign rfl rfl) ?_
          refine al_val (ov_assign rfl rfl) ?_
          refine al_nil ?_
          refine aq_then ?_
          refine aw_ret ?_
          refine aq_then_ret ?_
          refine aq_block_ret ?_
          refine aq_then_ret ?_
          refine aq_block_ret ?_
          obtain rfl := Option.some.inj h
          exact fn_ret () [] [] rfl rfl rfl rfl (res3 rfl rfl rfl rfl) rfl rfl rfl (by decide)
        · replace h := bif_f hb9 h
          refine aw_skip ?_
          refine aq_then ?_
          refine aw_seq ?_
          refine aw_region ?_
          refine al_val (ov_move rfl rfl) ?_
          refine al_val (ov_move rfl rfl) ?_
          refine al_val (ov_move rfl rfl) ?_
          refine al_val (ov_move rfl rfl) ?_
          refine al_val (ov_int rfl rfl rfl rfl) ?_
          obtain ⟨hc10, h⟩ := req_some h
          refine al_val (ov_strCut hc10.1 hc10.2.1 hc10.2.2 Tryd.underlying9 rfl rfl rfl rfl) ?_
          obtain ⟨hc11, h⟩ := req_some h
          refine al_val (ov_strAdd hc11 rfl rfl rfl) ?_
          refine al_val (ov_assign rfl rfl) ?_
          refine al_nil ?_
          refine aq_then ?_
          refine aw_region ?_
          refine al_val (ov_move rfl rfl) ?_
          refine al_val (ov_move rfl rfl) ?_
          refine al_val (ov_int rfl rfl rfl rfl) ?_
          refine al_val (ov_assign rfl rfl) ?_
          refine al_nil ?_
          refine aq_block ?_
          exact aq_again k2 ((l1s5 ++ (cut a0 l1i6 (IntKind.i64.wrap (l1i6 + (1 : Int))))), (IntKind.i64.wrap (l1i6 + j7i7))) (Nat.lt_succ_self _) h (fun w a hm hs => norm hm hs [] [] [(0, (str a0)), (5, (str (l1s5 ++ (cut a0 l1i6 (IntKind.i64.wrap (l1i6 + (1 : Int))))))), (6, (Value.int .i64 (IntKind.i64.wrap (l1i6 + j7i7))))] (by decide) ⟨rfl, rfl, rfl, trivial⟩)
      · clear hkk8
        refine aw_seq ?_
        refine aw_region ?_
        refine al_val (ov_move rfl rfl) ?_
        refine al_val (ov_move rfl rfl) ?_
        obtain ⟨hc12, h⟩ := req_some h
        refine al_val (ov_strIdx hc12.1 hc12.2 Tryd.underlying9 rfl rfl rfl) ?_
        refine al_val (ov_int rfl rfl rfl rfl) ?_
        refine al_nil ?_
        refine aq_then ?_
        refine aw_cond rfl (fun hb13 => ?_) (fun hb13 => ?_)
        · replace h := bif_t hb13 h
          refine aw_seq ?_
          refine aw_seq ?_
          refine aw_region ?_
          refine al_val (ov_move rfl rfl) ?_
          refine al_val (ov_move rfl rfl) ?_
          refine al_val (ov_int rfl rfl rfl rfl) ?_
          obtain ⟨hc14, h⟩ := req_some h
          refine al_val (ov_strIdx hc14.1 hc14.2 Tryd.underlying9 rfl rfl rfl) ?_
          refine al_val (ov_int rfl rfl rfl rfl) ?_
          refine al_nil ?_
          refine aq_then ?_
          refine aw_cond rfl (fun hb15 => ?_) (fun hb15 => ?_)
          · replace h := bif_t hb15 h
            refine aw_seq ?_
            refine aw_region ?_
            refine al_val (ov_move rfl rfl) ?_
            refine al_val (ov_move rfl rfl) ?_
            refine al_val (ov_int rfl rfl rfl rfl) ?_
            refine al_val (ov_assign rfl rfl) ?_
            refine al_val (ov_assign rfl rfl) ?_
            refine al_val (ov_assign rfl rfl) ?_
            refine al_nil ?_
            refine aq_then ?_
            refine aw_ret ?_
            refine aq_then_ret ?_
            refine aq_then_ret ?_
            refine aq_block_ret ?_
            refine aq_then_ret ?_
            refine aq_block_ret ?_
            obtain rfl := Option.some.inj h
            exact fn_ret () [] [] rfl rfl rfl rfl (res3 rfl rfl rfl rfl) rfl rfl rfl (by decide)
          · replace h := bif_f hb15 h
            refine aw_skip ?_
            refine aq_then ?_
            refine aw_seq ?_
            refine aw_seq ?_
            refine aw_region ?_
            refine al_val (ov_move rfl rfl) ?_
            refine al_val (ov_move rfl rfl) ?_
            refine al_val (ov_int rfl rfl rfl rfl) ?_
            obtain ⟨hc16, h⟩ := req_some h
            refine al_val (ov_strIdx hc16.1 hc16.2 Tryd.underlying9 rfl rfl rfl) ?_
            refine al_val (ov_int rfl rfl rfl rfl) ?_
            refine al_nil ?_
            refine aq_then ?_
            refine aw_cond rfl (fun hb17 => ?_) (fun hb17 => ?_)
            · replace h := bif_t hb17 h
              refine aw_seq ?_
              refine aw_region ?_
              refine al_val (ov_assign rfl rfl) ?_
              refine al_val (ov_assign rfl rfl) ?_
              refine al_val (ov_assign rfl rfl) ?_
              refine al_nil ?_
              refine aq_then ?_
              refine aw_ret ?_
              refine aq_then_ret ?_
              refine aq_then_ret ?_
              refine aq_block_ret ?_
              refine aq_then_ret ?_
              refine aq_block_ret ?_
              obtain rfl := Option.some.inj h
              exact fn_ret () [] [] rfl rfl rfl rfl (res3 rfl rfl rfl rfl) rfl rfl rfl (by decide)
            · replace h := bif_f hb17 h
              refine aw_skip ?_
              refine aq_then ?_
              refine aw_region ?_
              refine al_val (ov_assign rfl rfl) ?_
              refine al_nil ?_
              exact aq_join (2 : Int) h (fun w a hm hs => norm hm hs [] [] [(0, (str a0)), (5, (str l1s5)), (6, (Value.int .i64 l1i6)), (7, (Value.int .i64 (2 : Int)))] (by decide) ⟨rfl, rfl, rfl, rfl, trivial⟩)
        · replace h := bif_f hb13 h
          refine aw_skip ?_
          exact aq_join (1 : Int) h (fun w a hm hs => norm hm hs [] [] [(0, (str a0)), (5, (str l1s5)), (6, (Value.int .i64 l1i6)), (7, (Value.int .i64 (1 : Int)))] (by decide) ⟨rfl, rfl, rfl, rfl, trivial⟩)
  · clear hkk5
    refine aw_region ?_
    refine al_val (ov_move rfl rfl) ?_
    refine al_val (ov_move rfl rfl) ?_
    refine al_val (ov_strLen Tryd.underlying9 rfl rfl) ?_
    refine al_val (ov_int rfl rfl rfl rfl) ?_
    refine al_val (ov_move rfl rfl) ?_
    refine al_caseB 12 rfl (fun hb18 => ?_) (fun hb18 => ?_)
    · replace h := bif_t hb18 h
      refine al_skip ?_
      refine al_skip ?_
      refine al_skip ?_
      refine al_skip ?_
      refine al_skip ?_
      refine al_skip ?_
      refine al_skip ?_
      refine al_skip ?_
      refine al_skip ?_
      refine al_skip ?_
      refine al_skip ?_
      refine al_val (ov_pick_t rfl rfl rfl) ?_
      refine al_nil ?_
      exact aq_join true h (fun w a hm hs => norm hm hs [] [] [(0, (str a0)), (5, (str l1s5)), (6, (Value.int .i64 l1i6)), (24, (Value.bool true))] (by decide) ⟨rfl, rfl, rfl, rfl, trivial⟩)
    · replace h := bif_f hb18 h
      refine al_val (ov_move rfl rfl) ?_
      refine al_val (ov_move rfl rfl) ?_
      obtain ⟨hc19, h⟩ := req_some h
      refine al_val (ov_strIdx hc19.1 hc19.2 Tryd.underlying9 rfl rfl rfl) ?_
      refine al_val (ov_int rfl rfl rfl rfl) ?_
      refine al_val (ov_move rfl rfl) ?_
      refine al_caseB 17 rfl (fun hb20 => ?_) (fun hb20 => ?_)
      · replace h := bif_t hb20 h
        refine al_val (ov_move rfl rfl) ?_
        refine al_val (ov_int rfl rfl rfl rfl) ?_
        refine al_val (ov_move rfl rfl) ?_
        refine al_val (ov_strLen Tryd.underlying9 rfl rfl) ?_
        refine al_val (ov_int rfl rfl rfl rfl) ?_
        refine al_val (ov_pick_t rfl rfl rfl) ?_
        refine al_val (ov_pick_f rfl rfl rfl) ?_
        refine al_nil ?_
        exact aq_join (decide ((IntKind.i64.wrap (l1i6 + (1 : Int))) ≥ (a0.length : Int))) h (fun w a hm hs => norm hm hs [] [] [(0, (str a0)), (5, (str l1s5)), (6, (Value.int .i64 l1i6)), (24, (Value.bool (decide ((IntKind.i64.wrap (l1i6 + (1 : Int))) ≥ (a0.length : Int)))))] (by decide) ⟨rfl, rfl, rfl, rfl, trivial⟩)
      · replace h := bif_f hb20 h
        refine al_skip ?_
        refine al_skip ?_
        refine al_skip ?_
        refine al_skip ?_
        refine al_skip ?_
        refine al_val (ov_pick_f rfl rfl rfl) ?_
        refine al_val (ov_pick_f rfl rfl rfl) ?_
        refine al_nil ?_
        exact aq_join false h (fun w a hm hs => norm hm hs [] [] [(0, (str a0)), (5, (str l1s5)), (6, (Value.int .i64 l1i6)), (24, (Value.bool false))] (by decide) ⟨rfl, rfl, rfl, rfl, trivial⟩)
def f_lumref_turned_L7 (a0 : (List UInt8)) (kk4 : ((List UInt8) → Option (List UInt8))) : Nat → (List UInt8) → Int → Option (List UInt8)
  | 0, _, _ => none
  | k6 + 1, l5x3, l5i9 => (bif (decide (l5i9 < (a0.length : Int))) then (opt (at? l5x3 l5i9) fun (u9 : UInt8) => (opt (at? l5x3 l5i9) fun (u13 : UInt8) => (req (0 ≤ (IntKind.u8.wrap ((255 : Int) - (u9.toNat : Int))) ∧ (IntKind.u8.wrap ((255 : Int) - (u9.toNat : Int))) ≤ 255) (f_lumref_turned_L7 a0 kk4 k6 (l5x3.set (l5i9).toNat (UInt8.ofNat ((IntKind.u8.wrap ((255 : Int) - (u9.toNat : Int)))).toNat)) (IntKind.i64.wrap (l5i9 + (1 : Int))))))) else (kk4 l5x3))
def f_lumref_turned (fu : Nat) (a0 : (List UInt8)) : Option (List UInt8) := (req (a0.length ≤ 9223372036854775807) (lt (fun (j3x3 : (List UInt8)) => (some j3x3)) fun (kk4 : (List UInt8) → Option (List UInt8)) => (f_lumref_turned_L7 a0 kk4 fu a0 (0 : Int))))
set_option maxRecDepth 100000 in
theorem f_lumref_turned_ok (fu : Nat) (a0 : (List UInt8)) {r : (List UInt8)} (h : f_lumref_turned fu a0 = some r) : FnOk Tryd.prog 106 [(str a0)] [] [] (fun (i : Unit) => { val := (str r) }) := by
  unfold f_lumref_turned at h
  refine fn_enter Tryd.func106 rfl Tryd.ntmps106 rfl (fun w0 Z0 => ?_)
  refine aw_seq ?_
  refine aw_region ?_
  refine al_val (ov_assign rfl rfl) ?_
  refine al_nil ?_
  refine aq_then ?_
  refine aw_seq ?_
  refine aw_region ?_
  refine al_val (ov_move rfl rfl) ?_
  obtain ⟨hc1, h⟩ := req_some h
  refine al_bytesO hc1 rfl Tryd.underlying9 Tryd.underlying89 Tryd.underlying5 rfl (fun s2 => ?_)
  refine al_val (ov_assign rfl rfl) ?_
  refine al_nil ?_
  refine aq_then ?_
  obtain ⟨kk4, hkk4, h⟩ := lt_some h
  refine aw_seq_join (ι := (List UInt8)) (fun i => (memOf w0 Z0 [] [(oBy s2 5 i)] [])) (fun i => (tab [(3, s2)])) (fun i => kk4 i = some r) ?_ ?_
  · rintro j3x3 h
    have h : kk4 j3x3 = some r := h
    rw [hkk4] at h
    dsimp only at h
    clear hkk4
    refine aw_show (m := (memOf w0 Z0 [] [(oBy s2 5 j3x3)] [])) (S := (tab [(3, s2)])) ?_
    refine aw_seq ?_
    refine aw_region ?_
    refine al_val (ov_move rfl rfl) ?_
    refine al_val (ov_toStrO 0 rfl rfl Tryd.underlying89 Tryd.underlying5 Tryd.underlying9 rfl) ?_
    refine al_val (ov_assign rfl rfl) ?_
    refine al_nil ?_
    refine aq_then ?_
    refine aw_ret ?_
    obtain rfl := Option.some.inj h
    exact fn_ret () [] [] rfl rfl rfl rfl (res1 rfl rfl) rfl rfl rfl (by decide)
  · clear hkk4
    refine aw_seq ?_
    refine aw_region ?_
    refine al_val (ov_move rfl rfl) ?_
    refine al_val (ov_lenO 0 rfl rfl Tryd.underlying89 rfl) ?_
    refine al_val (ov_move rfl rfl) ?_
    refine al_nil ?_
    refine aq_then ?_
    refine aw_block ?_
    refine aw_state (aw_loop (ι := (List UInt8) × Int) (fun i => (memOf w0 Z0 [] [(oBy s2 5 i.1)] [])) (fun i => (tab [(3, s2), (8, (Value.int .i64 (a0.length : Int))), (9, (Value.int .i64 i.2))])) (fun q i => f_lumref_turned_L7 a0 kk4 q i.1 i.2 = some r) ?_ fu (a0, (0 : Int)) h) (fun w a hm hs => norm hm hs [0] [] [(3, s2), (8, (Value.int .i64 (a0.length : Int))), (9, (Value.int .i64 (0 : Int)))] (by decide) ⟨rfl, rfl, rfl, trivial⟩)
    clear h
    rintro k6 ⟨l5x3, l5i9⟩ h
    have h : f_lumref_turned_L7 a0 kk4 k6 l5x3 l5i9 = some r := h
    obtain _ | k6 := k6
    · rw [f_lumref_turned_L7] at h; cases h
    rw [f_lumref_turned_L7] at h
    refine aw_show (m := (memOf w0 Z0 [] [(oBy s2 5 l5x3)] [])) (S := (tab [(3, s2), (8, (Value.int .i64 (a0.length : Int))), (9, (Value.int .i64 l5i9))])) ?_
    refine aw_seq ?_
    refine aw_region ?_
    refine al_val (ov_int rfl rfl rfl rfl) ?_
    refine al_nil ?_
    refine aq_then ?_
    refine aw_seq ?_
    refine aw_cond rfl (fun hb8 => ?_) (fun hb8 => ?_)
    · replace h := bif_t hb8 h
      refine aw_skip ?_
      refine aq_then ?_
      refine aw_seq ?_
      refine aw_block ?_
      refine aw_seq ?_
      refine aw_region ?_
      refine al_val (ov_move rfl rfl) ?_
      refine al_val (ov_assign rfl rfl) ?_
      refine al_nil ?_
      refine aq_then ?_
      refine aw_region ?_
      refine al_val (ov_move rfl rfl) ?_
      refine al_val (ov_move rfl rfl) ?_
      refine al_val (ov_move rfl rfl) ?_
      refine al_val (ov_move rfl rfl) ?_
      obtain ⟨u9, hu10, h⟩ := opt_some h
      refine al_idxO 0 (at_some hu10).1 (at_some hu10).2.1 rfl rfl rfl Tryd.underlying89 sz5 rfl (fun p11 hp12 => ?_)
      refine al_val (ov_loadO (ds := [(Value.int .u8 (u9.toNat : Int))]) 0 rfl hp12 (at_some hu10).2.2 (fun h => h) rfl Tryd.underlying5 sz5 rfl rfl rfl) ?_
      refine al_val (ov_int rfl rfl rfl rfl) ?_
      obtain ⟨u13, hu14, h⟩ := opt_some h
      refine al_idxO 0 (at_some hu14).1 (at_some hu14).2.1 rfl rfl rfl Tryd.underlying89 sz5 rfl (fun p15 hp16 => ?_)
      obtain ⟨hc17, h⟩ := req_some h
      refine al_storeO (k := (l5i9).toNat) (x := (UInt8.ofNat ((IntKind.u8.wrap ((255 : Int) - (u9.toNat : Int)))).toNat)) (vs := [(Value.int .u8 (IntKind.u8.wrap ((255 : Int) - (u9.toNat : Int))))]) 0 rfl hp16 (idx_lt hu14) rfl rfl (cv_rfl rfl) (fun _ => u8_rep hc17) sz5 rfl ?_
      refine al_nil ?_
      refine aq_block ?_
      refine aq_then ?_
      refine aw_region ?_
      refine al_val (ov_int rfl rfl rfl rfl) ?_
      refine al_val (ov_move rfl rfl) ?_
      refine al_nil ?_
      exact aq_again k6 ((l5x3.set (l5i9).toNat (UInt8.ofNat ((IntKind.u8.wrap ((255 : Int) - (u9.toNat : Int)))).toNat)), (IntKind.i64.wrap (l5i9 + (1 : Int)))) (Nat.lt_succ_self _) h (fun w a hm hs => norm hm hs [0] [] [(3, s2), (8, (Value.int .i64 (a0.length : Int))), (9, (Value.int .i64 (IntKind.i64.wrap (l5i9 + (1 : Int)))))] (by decide) ⟨rfl, rfl, rfl, trivial⟩)
    · replace h := bif_f hb8 h
      refine aw_exit ?_
      refine aq_then_exit ?_
      refine aq_then_exit ?_
      refine aq_block_exit ?_
      exact aq_join l5x3 h (fun w a hm hs => norm hm hs [0] [] [(3, s2)] (by decide) ⟨rfl, trivial⟩)
def f_lumref_GetInt (fu : Nat) (a0 : (List UInt8)) : Option (Int × Int × Int) := (bif ((a0.length : Int) == (0 : Int)) then (some ((0 : Int), (0 : Int), (3 : Int))) else (lt (fun (j2b19 : Bool) => (bif j2b19 then (some ((0 : Int), (0 : Int), (4 : Int))) else (req (0 ≤ (0 : Int) ∧ (0 : Int) < (a0.length : Int)) (bif (decide ((En.bAt a0 (0 : Int)) ≥ (128 : Int))) then (req (0 ≤ (0 : Int) ∧ (0 : Int) < (a0.length : Int)) (bif (decide ((a0.length : Int) < (IntKind.i64.wrap ((IntKind.i64.wrap ((1 : Int) + (IntKind.i64.wrap (En.bAt a0 (0 : Int))))) - (128 : Int))))) then (some ((0 : Int), (0 : Int), (3 : Int))) else (req (0 ≤ (1 : Int) ∧ (1 : Int) ≤ (IntKind.i64.wrap ((IntKind.i64.wrap ((1 : Int) + (IntKind.i64.wrap (En.bAt a0 (0 : Int))))) - (128 : Int))) ∧ (IntKind.i64.wrap ((IntKind.i64.wrap ((1 : Int) + (IntKind.i64.wrap (En.bAt a0 (0 : Int))))) - (128 : Int))) ≤ (a0.length : Int)) (opt (f_lumref_number fu (cut a0 (1 : Int) (IntKind.i64.wrap ((IntKind.i64.wrap ((1 : Int) + (IntKind.i64.wrap (En.bAt a0 (0 : Int))))) - (128 : Int))))) fun (r11 : Int) => (lt (fun (j12b43 : Bool) => (bif j12b43 then (some ((0 : Int), (0 : Int), (4 : Int))) else (some ((IntKind.i64.wrap r11), (IntKind.i64.wrap ((IntKind.i64.wrap ((1 : Int) + (IntKind.i64.wrap (En.bAt a0 (0 : Int))))) - (128 : Int))), (0 : Int))))) fun (kk13 : Bool → Option (Int × Int × Int)) => (req (0 ≤ (1 : Int) ∧ (1 : Int) ≤ (IntKind.i64.wrap ((IntKind.i64.wrap ((1 : Int) + (IntKind.i64.wrap (En.bAt a0 (0 : Int))))) - (128 : Int))) ∧ (IntKind.i64.wrap ((IntKind.i64.wrap ((1 : Int) + (IntKind.i64.wrap (En.bAt a0 (0 : Int))))) - (128 : Int))) ≤ (a0.length : Int)) (opt (f_strings_HasPrefix fu (cut a0 (1 : Int) (IntKind.i64.wrap ((IntKind.i64.wrap ((1 : Int) + (IntKind.i64.wrap (En.bAt a0 (0 : Int))))) - (128 : Int)))) ([0] : List UInt8)) fun (r17 : Bool) => (bif r17 then (kk13 true) else (kk13 (decide (r11 ≥ (9223372036854775808 : Int)))))))))))) else (req (0 ≤ (0 : Int) ∧ (0 : Int) < (a0.length : Int)) (bif (decide ((a0.length : Int) < (IntKind.i64.wrap ((128 : Int) - (IntKind.i64.wrap (En.bAt a0 (0 : Int))))))) then (some ((0 : Int), (0 : Int), (3 : Int))) else (req (0 ≤ (1 : Int) ∧ (1 : Int) ≤ (IntKind.i64.wrap ((128 : Int) - (IntKind.i64.wrap (En.bAt a0 (0 : Int))))) ∧ (IntKind.i64.wrap ((128 : Int) - (IntKind.i64.wrap (En.bAt a0 (0 : Int))))) ≤ (a0.length : Int)) (opt (f_lumref_turned fu (cut a0 (1 : Int) (IntKind.i64.wrap ((128 : Int) - (IntKind.i64.wrap (En.bAt a0 (0 : Int))))))) fun (r23 : (List UInt8)) => (opt (f_lumref_number fu r23) fun (r25 : Int) => (lt (fun (j26b67 : Bool) => (bif j26b67 then (some ((0 : Int), (0 : Int), (4 : Int))) else (some ((IntKind.i64.wrap ((-1 : Int) - (IntKind.i64.wrap r25))), (IntKind.i64.wrap ((128 : Int) - (IntKind.i64.wrap (En.bAt a0 (0 : Int))))), (0 : Int))))) fun (kk27 : Bool → Option (Int × Int × Int)) => (req (0 ≤ (1 : Int) ∧ (1 : Int) ≤ (IntKind.i64.wrap ((128 : Int) - (IntKind.i64.wrap (En.bAt a0 (0 : Int))))) ∧ (IntKind.i64.wrap ((128 : Int) - (IntKind.i64.wrap (En.bAt a0 (0 : Int))))) ≤ (a0.length : Int)) (opt (f_strings_HasPrefix fu (cut a0 (1 : Int) (IntKind.i64.wrap ((128 : Int) - (IntKind.i64.wrap (En.bAt a0 (0 : Int)))))) ([255] : List UInt8)) fun (r31 : Bool) => (bif r31 then (kk27 true) else (kk27 (decide (r25 ≥ (9223372036854775808 : Int))))))))))))))))) fun (kk3 : Bool → Option (Int × Int × Int)) => (req (0 ≤ (0 : Int) ∧ (0 : Int) < (a0.length : Int)) (bif (decide ((En.bAt a0 (0 : Int)) < (119 : Int))) then (kk3 true) else (req (0 ≤ (0 : Int) ∧ (0 : Int) < (a0.length : Int)) (kk3 (decide ((En.bAt a0 (0 : Int)) > (136 : Int)))))))))
set_option maxRecDepth 100000 in
theorem f_lumref_GetInt_ok (fu : Nat) (a0 : (List UInt8)) {r : (Int × Int × Int)} (h : f_lumref_GetInt fu a0 = some r) : FnOk Tryd.prog 139 [(str a0)] [] [] (fun (i : Unit) => { val := (Value.tuple #[(Value.int .i64 r.1), (Value.int .i64 r.2.1), (Value.int .i64 r.2.2)]) }) := by
  unfold f_lumref_GetInt at h
  refine fn_enter Tryd.func139 rfl Tryd.ntmps139 rfl (fun w0 Z0 => ?_)
  refine aw_seq ?_
  refine aw_region ?_
  refine al_val (ov_assign rfl rfl) ?_
  refine al_val (ov_assign rfl rfl) ?_
  refine al_val (ov_assign rfl rfl) ?_
  refine al_nil ?_
  refine aq_then ?_
  refine aw_seq ?_
  refine aw_seq ?_
  refine aw_region ?_
  refine al_val (ov_move rfl rfl) ?_
  refine al_val (ov_strLen Tryd.underlying9 rfl rfl) ?_
  refine al_val (ov_int rfl rfl rfl rfl) ?_
  refine al_nil ?_
  refine aq_then ?_
  refine aw_cond rfl (fun hb1 => ?_) (fun hb1 => ?_)
  · replace h := bif_t hb1 h
    refine aw_seq ?_
    refine aw_region ?_
    refine al_val (ov_assign rfl rfl) ?_
    refine al_val (ov_assign rfl rfl) ?_
    refine al_val (ov_assign rfl rfl) ?_
    refine al_nil ?_
    refine aq_then ?_
    refine aw_ret ?_
    refine aq_then_ret ?_
    obtain rfl := Option.some.inj h
    exact fn_ret () [] [] rfl rfl rfl rfl (res3 rfl rfl rfl rfl) rfl rfl rfl (by decide)
  · replace h := bif_f hb1 h
    refine aw_skip ?_
    refine aq_then ?_
    refine aw_seq ?_
    obtain ⟨kk3, hkk3, h⟩ := lt_some h
    refine aw_seq_join (ι := Bool) (fun i => (memOf w0 Z0 [] [] [])) (fun i => (tab [(0, (str a0)), (19, (Value.bool i))])) (fun i => kk3 i = some r) ?_ ?_
    · rintro j2b19 h
      have h : kk3 j2b19 = some r := h
      rw [hkk3] at h
      dsimp only at h
      clear hkk3
      refine aw_show (m := (memOf w0 Z0 [] [] [])) (S := (tab [(0, (str a0)), (19, (Value.bool j2b19))])) ?_
      refine aw_cond rfl (fun hb4 => ?_) (fun hb4 => ?_)
      · replace h := bif_t hb4 h
        refine aw_seq ?_
        refine aw_region ?_
        refine al_val (ov_assign rfl rfl) ?_
        refine al_val (ov_assign rfl rfl) ?_
        refine al_val (ov_assign rfl rfl) ?_
        refine al_nil ?_
        refine aq_then ?_
        refine aw_ret ?_
        refine aq_then_ret ?_
        obtain rfl := Option.some.inj h
        exact fn_ret () [] [] rfl rfl rfl rfl (res3 rfl rfl rfl rfl) rfl rfl rfl (by decide)
      · replace h := bif_f hb4 h
        refine aw_skip ?_
        refine aq_then ?_
        refine aw_seq ?_
        refine aw_seq ?_
        refine aw_region ?_
        refine al_val (ov_move rfl rfl) ?_
        obtain ⟨hc5, h⟩ := req_some h
        refine al_val (ov_strIdx hc5.1 hc5.2 Tryd.underlying9 rfl rfl rfl) ?_
        refine al_val (ov_int rfl rfl rfl rfl) ?_
        refine al_nil ?_
        refine aq_then ?_
        refine aw_cond rfl (fun hb6 => ?_) (fun hb6 => ?_)
        · replace h := bif_t hb6 h
          refine aw_seq ?_
          refine aw_region ?_
          refine al_val (ov_move rfl rfl) ?_
          obtain ⟨hc7, h⟩ := req_some h
          refine al_val (ov_strIdx hc7.1 hc7.2 Tryd.underlying9 rfl rfl rfl) ?_
          refine al_val (ov_convInt (by rw [Tryd.underlying5]; rfl) Tryd.underlying3 rfl rfl) ?_
          refine al_val (ov_int rfl rfl rfl rfl) ?_
          refine al_val (ov_int rfl rfl rfl rfl) ?_
          refine al_val (ov_assign rfl rfl) ?_
          refine al_nil ?_
          refine aq_then ?_
          refine aw_seq ?_
          refine aw_seq ?_
          refine aw_region ?_
          refine al_val (ov_move rfl rfl) ?_
          refine al_val (ov_strLen Tryd.underlying9 rfl rfl) ?_
          refine al_val (ov_move rfl rfl) ?_
          refine al_val (ov_int rfl rfl rfl rfl) ?_
          refine al_nil ?_
          refine aq_then ?_
          refine aw_cond rfl (fun hb8 => ?_) (fun hb8 => ?_)
          · replace h := bif_t hb8 h
            refine aw_seq ?_
            refine aw_region ?_
            refine al_val (ov_assign rfl rfl) ?_
            refine al_val (ov_assign rfl rfl) ?_
            refine al_val (ov_assign rfl rfl) ?_
            refine al_nil ?_
            refine aq_then ?_
            refine aw_ret ?_
            refine aq_then_ret ?_
            refine aq_then_ret ?_
            obtain rfl := Option.some.inj h
            exact fn_ret () [] [] rfl rfl rfl rfl (res3 rfl rfl rfl rfl) rfl rfl rfl (by decide)
          · replace h := bif_f hb8 h
            refine aw_skip ?_
            refine aq_then ?_
            refine aw_seq ?_
            refine aw_region ?_
            refine al_val (ov_move rfl rfl) ?_
            refine al_val (ov_move rfl rfl) ?_
            obtain ⟨hc9, h⟩ := req_some h
            refine al_val (ov_strCut hc9.1 hc9.2.1 hc9.2.2 Tryd.underlying9 rfl rfl rfl rfl) ?_
            obtain ⟨r11, hc10, h⟩ := opt_some h
            refine al_call (vs := [(str (cut a0 (1 : Int) (IntKind.i64.wrap ((IntKind.i64.wrap ((1 : Int) + (IntKind.i64.wrap (En.bAt a0 (0 : Int))))) - (128 : Int)))))]) (f_lumref_number_ok fu (cut a0 (1 : Int) (IntKind.i64.wrap ((IntKind.i64.wrap ((1 : Int) + (IntKind.i64.wrap (En.bAt a0 (0 : Int))))) - (128 : Int)))) hc10) [] [] [] pre_nil rfl (by simp) (by decide) (.inl rfl) rfl Tryd.func103 rfl rfl rfl (fun _ => ?_)
            refine al_val (ov_assign rfl rfl) ?_
            refine al_nil ?_
            refine aq_then ?_
            refine aw_seq ?_
            obtain ⟨kk13, hkk13, h⟩ := lt_some h
            refine aw_seq_join (ι := Bool) (fun i => (memOf w0 Z0 [] [] [])) (fun i => (tab [(5, (Value.int .i64 (IntKind.i64.wrap ((IntKind.i64.wrap ((1 : Int) + (IntKind.i64.wrap (En.bAt a0 (0 : Int))))) - (128 : Int))))), (6, (Value.int .u64 r11)), (43, (Value.bool i))])) (fun i => kk13 i = some r) ?_ ?_
            · rintro j12b43 h
              have h : kk13 j12b43 = some r := h
              rw [hkk13] at h
              dsimp only at h
              clear hkk13
              refine aw_show (m := (memOf w0 Z0 [] [] [])) (S := (tab [(5, (Value.int .i64 (IntKind.i64.wrap ((IntKind.i64.wrap ((1 : Int) + (IntKind.i64.wrap (En.bAt a0 (0 : Int))))) - (128 : Int))))), (6, (Value.int .u64 r11)), (43, (Value.bool j12b43))])) ?_
              refine aw_cond rfl (fun hb14 => ?_) (fun hb14 => ?_)
              · replace h := bif_t hb14 h
                refine aw_seq ?_
                refine aw_region ?_
                refine al_val (ov_assign rfl rfl) ?_
                refine al_val (ov_assign rfl rfl) ?_
                refine al_val (ov_assign rfl rfl) ?_
                refine al_nil ?_
                refine aq_then ?_
                refine aw_ret ?_
                refine aq_then_ret ?_
                refine aq_then_ret ?_
                obtain rfl := Option.some.inj h
                exact fn_ret () [] [] rfl rfl rfl rfl (res3 rfl rfl rfl rfl) rfl rfl rfl (by decide)
              · replace h := bif_f hb14 h
                refine aw_skip ?_
                refine aq_then ?_
                refine aw_seq ?_
                refine aw_region ?_
                refine al_val (ov_move rfl rfl) ?_
                refine al_val (ov_convInt (by rw [Tryd.underlying87]; rfl) Tryd.underlying3 rfl rfl) ?_
                refine al_val (ov_move rfl rfl) ?_
                refine al_val (ov_assign rfl rfl) ?_
                refine al_val (ov_assign rfl rfl) ?_
                refine al_val (ov_assign rfl rfl) ?_
                refine al_nil ?_
                refine aq_then ?_
                refine aw_ret ?_
                refine aq_then_ret ?_
                obtain rfl := Option.some.inj h
                exact fn_ret () [] [] rfl rfl rfl rfl (res3 rfl rfl rfl rfl) rfl rfl rfl (by decide)
            · clear hkk13
              refine aw_region ?_
              refine al_val (ov_move rfl rfl) ?_
              refine al_val (ov_move rfl rfl) ?_
              obtain ⟨hc15, h⟩ := req_some h
              refine al_val (ov_strCut hc15.1 hc15.2.1 hc15.2.2 Tryd.underlying9 rfl rfl rfl rfl) ?_
              obtain ⟨r17, hc16, h⟩ := opt_some h
              refine al_call (vs := [(str (cut a0 (1 : Int) (IntKind.i64.wrap ((IntKind.i64.wrap ((1 : Int) + (IntKind.i64.wrap (En.bAt a0 (0 : Int))))) - (128 : Int))))), (str ([0] : List UInt8))]) (f_strings_HasPrefix_ok fu (cut a0 (1 : Int) (IntKind.i64.wrap ((IntKind.i64.wrap ((1 : Int) + (IntKind.i64.wrap (En.bAt a0 (0 : Int))))) - (128 : Int)))) ([0] : List UInt8) hc16) [] [] [] pre_nil rfl (by simp) (by decide) (.inl rfl) rfl Tryd.func102 rfl rfl rfl (fun _ => ?_)
              refine al_val (ov_move rfl rfl) ?_
              refine al_caseB 40 rfl (fun hb18 => ?_) (fun hb18 => ?_)
              · replace h := bif_t hb18 h
                refine al_skip ?_
                refine al_skip ?_
                refine al_val (ov_pick_t rfl rfl rfl) ?_
                refine al_nil ?_
                exact aq_join true h (fun w a hm hs => norm hm hs [] [] [(5, (Value.int .i64 (IntKind.i64.wrap ((IntKind.i64.wrap ((1 : Int) + (IntKind.i64.wrap (En.bAt a0 (0 : Int))))) - (128 : Int))))), (6, (Value.int .u64 r11)), (43, (Value.bool true))] (by decide) ⟨rfl, rfl, rfl, trivial⟩)
              · replace h := bif_f hb18 h
                refine al_val (ov_move rfl rfl) ?_
                refine al_val (ov_int rfl rfl rfl rfl) ?_
                refine al_val (ov_pick_f rfl rfl rfl) ?_
                refine al_nil ?_
                exact aq_join (decide (r11 ≥ (9223372036854775808 : Int))) h (fun w a hm hs => norm hm hs [] [] [(5, (Value.int .i64 (IntKind.i64.wrap ((IntKind.i64.wrap ((1 : Int) + (IntKind.i64.wrap (En.bAt a0 (0 : Int))))) - (128 : Int))))), (6, (Value.int .u64 r11)), (43, (Value.bool (decide (r11 ≥ (9223372036854775808 : Int)))))] (by decide) ⟨rfl, rfl, rfl, trivial⟩)
        · replace h := bif_f hb6 h
          refine aw_skip ?_
          refine aq_then ?_
          refine aw_seq ?_
          refine aw_region ?_
          refine al_val (ov_move rfl rfl) ?_
          obtain ⟨hc19, h⟩ := req_some h
          refine al_val (ov_strIdx hc19.1 hc19.2 Tryd.underlying9 rfl rfl rfl) ?_
          refine al_val (ov_convInt (by rw [Tryd.underlying5]; rfl) Tryd.underlying3 rfl rfl) ?_
          refine al_val (ov_int rfl rfl rfl rfl) ?_
          refine al_val (ov_assign rfl rfl) ?_
          refine al_nil ?_
          refine aq_then ?_
          refine aw_seq ?_
          refine aw_seq ?_
          refine aw_region ?_
          refine al_val (ov_move rfl rfl) ?_
          refine al_val (ov_strLen Tryd.underlying9 rfl rfl) ?_
          refine al_val (ov_move rfl rfl) ?_
          refine al_val (ov_int rfl rfl rfl rfl) ?_
          refine al_nil ?_
          refine aq_then ?_
          refine aw_cond rfl (fun hb20 => ?_) (fun hb20 => ?_)
          · replace h := bif_t hb20 h
            refine aw_seq ?_
            refine aw_region ?_
            refine al_val (ov_assign rfl rfl) ?_
            refine al_val (ov_assign rfl rfl) ?_
            refine al_val (ov_assign rfl rfl) ?_
            refine al_nil ?_
            refine aq_then ?_
            refine aw_ret ?_
            refine aq_then_ret ?_
            obtain rfl := Option.some.inj h
            exact fn_ret () [] [] rfl rfl rfl rfl (res3 rfl rfl rfl rfl) rfl rfl rfl (by decide)
          · replace h := bif_f hb20 h
            refine aw_skip ?_
            refine aq_then ?_
            refine aw_seq ?_
            refine aw_region ?_
            refine al_val (ov_move rfl rfl) ?_
            refine al_val (ov_move rfl rfl) ?_
            obtain ⟨hc21, h⟩ := req_some h
            refine al_val (ov_strCut hc21.1 hc21.2.1 hc21.2.2 Tryd.underlying9 rfl rfl rfl rfl) ?_
            obtain ⟨r23, hc22, h⟩ := opt_some h
            refine al_call (vs := [(str (cut a0 (1 : Int) (IntKind.i64.wrap ((128 : Int) - (IntKind.i64.wrap (En.bAt a0 (0 : Int)))))))]) (f_lumref_turned_ok fu (cut a0 (1 : Int) (IntKind.i64.wrap ((128 : Int) - (IntKind.i64.wrap (En.bAt a0 (0 : Int)))))) hc22) [] [] [] pre_nil rfl (by simp) (by decide) (.inl rfl) rfl Tryd.func106 rfl rfl rfl (fun _ => ?_)
            obtain ⟨r25, hc24, h⟩ := opt_some h
            refine al_call (vs := [(str r23)]) (f_lumref_number_ok fu r23 hc24) [] [] [] pre_nil rfl (by simp) (by decide) (.inl rfl) rfl Tryd.func103 rfl rfl rfl (fun _ => ?_)
            refine al_val (ov_assign rfl rfl) ?_
            refine al_nil ?_
            refine aq_then ?_
            refine aw_seq ?_
            obtain ⟨kk27, hkk27, h⟩ := lt_some h
            refine aw_seq_join (ι := Bool) (fun i => (memOf w0 Z0 [] [] [])) (fun i => (tab [(7, (Value.int .i64 (IntKind.i64.wrap ((128 : Int) - (IntKind.i64.wrap (En.bAt a0 (0 : Int))))))), (8, (Value.int .u64 r25)), (67, (Value.bool i))])) (fun i => kk27 i = some r) ?_ ?_
            · rintro j26b67 h
              have h : kk27 j26b67 = some r := h
              rw [hkk27] at h
              dsimp only at h
              clear hkk27
              refine aw_show (m := (memOf w0 Z0 [] [] [])) (S := (tab [(7, (Value.int .i64 (IntKind.i64.wrap ((128 : Int) - (IntKind.i64.wrap (En.bAt a0 (0 : Int))))))), (8, (Value.int .u64 r25)), (67, (Value.bool j26b67))])) ?_
              refine aw_cond rfl (fun hb28 => ?_) (fun hb28 => ?_)
              · replace h := bif_t hb28 h
                refine aw_seq ?_
                refine aw_region ?_
                refine al_val (ov_assign rfl rfl) ?_
                refine al_val (ov_assign rfl rfl) ?_
                refine al_val (ov_assign rfl rfl) ?_
                refine al_nil ?_
                refine aq_then ?_
                refine aw_ret ?_
                refine aq_then_ret ?_
                obtain rfl := Option.some.inj h
                exact fn_ret () [] [] rfl rfl rfl rfl (res3 rfl rfl rfl rfl) rfl rfl rfl (by decide)
              · replace h := bif_f hb28 h
                refine aw_skip ?_
                refine aq_then ?_
                refine aw_seq ?_
                refine aw_region ?_
                refine al_val (ov_move rfl rfl) ?_
                refine al_val (ov_convInt (by rw [Tryd.underlying87]; rfl) Tryd.underlying3 rfl rfl) ?_
                refine al_val (ov_int rfl rfl rfl rfl) ?_
                refine al_val (ov_move rfl rfl) ?_
                refine al_val (ov_assign rfl rfl) ?_
                refine al_val (ov_assign rfl rfl) ?_
                refine al_val (ov_assign rfl rfl) ?_
                refine al_nil ?_
                refine aq_then ?_
                refine aw_ret ?_
                obtain rfl := Option.some.inj h
                exact fn_ret () [] [] rfl rfl rfl rfl (res3 rfl rfl rfl rfl) rfl rfl rfl (by decide)
            · clear hkk27
              refine aw_region ?_
              refine al_val (ov_move rfl rfl) ?_
              refine al_val (ov_move rfl rfl) ?_
              obtain ⟨hc29, h⟩ := req_some h
              refine al_val (ov_strCut hc29.1 hc29.2.1 hc29.2.2 Tryd.underlying9 rfl rfl rfl rfl) ?_
              obtain ⟨r31, hc30, h⟩ := opt_some h
              refine al_call (vs := [(str (cut a0 (1 : Int) (IntKind.i64.wrap ((128 : Int) - (IntKind.i64.wrap (En.bAt a0 (0 : Int))))))), (str ([255] : List UInt8))]) (f_strings_HasPrefix_ok fu (cut a0 (1 : Int) (IntKind.i64.wrap ((128 : Int) - (IntKind.i64.wrap (En.bAt a0 (0 : Int)))))) ([255] : List UInt8) hc30) [] [] [] pre_nil rfl (by simp) (by decide) (.inl rfl) rfl Tryd.func102 rfl rfl rfl (fun _ => ?_)
              refine al_val (ov_move rfl rfl) ?_
              refine al_caseB 64 rfl (fun hb32 => ?_) (fun hb32 => ?_)
              · replace h := bif_t hb32 h
                refine al_skip ?_
                refine al_skip ?_
                refine al_val (ov_pick_t rfl rfl rfl) ?_
                refine al_nil ?_
                exact aq_join true h (fun w a hm hs => norm hm hs [] [] [(7, (Value.int .i64 (IntKind.i64.wrap ((128 : Int) - (IntKind.i64.wrap (En.bAt a0 (0 : Int))))))), (8, (Value.int .u64 r25)), (67, (Value.bool true))] (by decide) ⟨rfl, rfl, rfl, trivial⟩)
              · replace h := bif_f hb32 h
                refine al_val (ov_move rfl rfl) ?_
                refine al_val (ov_int rfl rfl rfl rfl) ?_
                refine al_val (ov_pick_f rfl rfl rfl) ?_
                refine al_nil ?_
                exact aq_join (decide (r25 ≥ (9223372036854775808 : Int))) h (fun w a hm hs => norm hm hs [] [] [(7, (Value.int .i64 (IntKind.i64.wrap ((128 : Int) - (IntKind.i64.wrap (En.bAt a0 (0 : Int))))))), (8, (Value.int .u64 r25)), (67, (Value.bool (decide (r25 ≥ (9223372036854775808 : Int)))))] (by decide) ⟨rfl, rfl, rfl, trivial⟩)
    · clear hkk3
      refine aw_region ?_
      refine al_val (ov_move rfl rfl) ?_
      obtain ⟨hc33, h⟩ := req_some h
      refine al_val (ov_strIdx hc33.1 hc33.2 Tryd.underlying9 rfl rfl rfl) ?_
      refine al_val (ov_int rfl rfl rfl rfl) ?_
      refine al_val (ov_move rfl rfl) ?_
      refine al_caseB 15 rfl (fun hb34 => ?_) (fun hb34 => ?_)
      · replace h := bif_t hb34 h
        refine al_skip ?_
        refine al_skip ?_
        refine al_skip ?_
        refine al_val (ov_pick_t rfl rfl rfl) ?_
        refine al_nil ?_
        exact aq_join true h (fun w a hm hs => norm hm hs [] [] [(0, (str a0)), (19, (Value.bool true))] (by decide) ⟨rfl, rfl, trivial⟩)
      · replace h := bif_f hb34 h
        refine al_val (ov_move rfl rfl) ?_
        obtain ⟨hc35, h⟩ := req_some h
        refine al_val (ov_strIdx hc35.1 hc35.2 Tryd.underlying9 rfl rfl rfl) ?_
        refine al_val (ov_int rfl rfl rfl rfl) ?_
        refine al_val (ov_pick_f rfl rfl rfl) ?_
        refine al_nil ?_
        exact aq_join (decide ((En.bAt a0 (0 : Int)) > (136 : Int))) h (fun w a hm hs => norm hm hs [] [] [(0, (str a0)), (19, (Value.bool (decide ((En.bAt a0 (0 : Int)) > (136 : Int)))))] (by decide) ⟨rfl, rfl, trivial⟩)
def f_lumref_nodeRead_L32 (r21 : (Int × (List UInt8) × Int)) (kk25 : ((List UInt8) → (List A8u8) → Option (S_api_Node × (List UInt8) × Int))) : Nat → (List UInt8) → (List A8u8) → Int → Option (S_api_Node × (List UInt8) × Int)
  | 0, _, _, _ => none
  | k31 + 1, l30s0, l30x5_5, l30i85 => (bif (decide (l30i85 < r21.1)) then (req (0 ≤ (8 : Int) ∧ (8 : Int) ≤ (l30s0.length : Int)) (req ((l30s0.take ((8 : Int)).toNat).length ≤ 9223372036854775807) (req (8 ≤ (l30s0.take ((8 : Int)).toNat).length) (req (((l30x5_5.length + ([(ofA8u8 (l30s0.take ((8 : Int)).toNat))]).length) * 8 : Nat) ≤ 140737488355328 ∧ l30x5_5.length + ([(ofA8u8 (l30s0.take ((8 : Int)).toNat))]).length ≤ 9223372036854775807) (req (0 ≤ (8 : Int) ∧ (8 : Int) ≤ (l30s0.length : Int)) (f_lumref_nodeRead_L32 r21 kk25 k31 (l30s0.drop ((8 : Int)).toNat) (l30x5_5 ++ ([(ofA8u8 (l30s0.take ((8 : Int)).toNat))])) (IntKind.i64.wrap (l30i85 + (1 : Int))))))))) else (kk25 l30s0 l30x5_5))
def f_lumref_nodeRead (fu : Nat) (a0 : (List UInt8)) : Option (S_api_Node × (List UInt8) × Int) := (opt (f_lumref_GetText fu a0) fun (r4 : ((List UInt8) × Int × Int)) => (bif (r4.2.2 != (0 : Int)) then (some ((S_api_Node.mk ([] : List UInt8) (0 : Int) (0 : Int) (0 : Int) (0 : Int) ([] : (List A8u8)) ([] : List UInt8)), ([] : List UInt8), r4.2.2)) else (req (0 ≤ r4.2.1 ∧ r4.2.1 ≤ (a0.length : Int)) (bif ((a0.drop (r4.2.1).toNat) == ([] : List UInt8)) then (some ((S_api_Node.mk ([] : List UInt8) (0 : Int) (0 : Int) (0 : Int) (0 : Int) ([] : (List A8u8)) ([] : List UInt8)), ([] : List UInt8), (3 : Int))) else (req (0 ≤ (0 : Int) ∧ (0 : Int) < ((a0.drop (r4.2.1).toNat).length : Int)) (req (0 ≤ (1 : Int) ∧ (1 : Int) ≤ ((a0.drop (r4.2.1).toNat).length : Int)) (opt (f_lumref_numberAt fu ((a0.drop (r4.2.1).toNat).drop ((1 : Int)).toNat) (511 : Int)) fun (r11 : (Int × (List UInt8) × Int)) => (bif (r11.2.2 != (0 : Int)) then (some ((S_api_Node.mk r4.1 (IntKind.i64.wrap (En.bAt (a0.drop (r4.2.1).toNat) (0 : Int))) r11.1 (0 : Int) (0 : Int) ([] : (List A8u8)) ([] : List UInt8)), ([] : List UInt8), r11.2.2)) else (opt (f_lumref_GetInt fu r11.2.1) fun (r14 : (Int × Int × Int)) => (bif (r14.2.2 != (0 : Int)) then (some ((S_api_Node.mk r4.1 (IntKind.i64.wrap (En.bAt (a0.drop (r4.2.1).toNat) (0 : Int))) r11.1 r14.1 (0 : Int) ([] : (List A8u8)) ([] : List UInt8)), ([] : List UInt8), r14.2.2)) else (req (0 ≤ r14.2.1 ∧ r14.2.1 ≤ (r11.2.1.length : Int)) (opt (f_lumref_numberAt fu (r11.2.1.drop (r14.2.1).toNat) (4096 : Int)) fun (r18 : (Int × (List UInt8) × Int)) => (bif (r18.2.2 != (0 : Int)) then (some ((S_api_Node.mk r4.1 (IntKind.i64.wrap (En.bAt (a0.drop (r4.2.1).toNat) (0 : Int))) r11.1 r14.1 r18.1 ([] : (List A8u8)) ([] : List UInt8)), ([] : List UInt8), r18.2.2)) else (opt (f_lumref_numberAt fu r18.2.1 (300 : Int)) fun (r21 : (Int × (List UInt8) × Int)) => (bif (r21.2.2 != (0 : Int)) then (some ((S_api_Node.mk r4.1 (IntKind.i64.wrap (En.bAt (a0.drop (r4.2.1).toNat) (0 : Int))) r11.1 r14.1 r18.1 ([] : (List A8u8)) ([] : List UInt8)), ([] : List UInt8), r21.2.2)) else (bif (decide ((r21.2.1.length : Int) < (IntKind.i64.wrap ((8 : Int) * r21.1)))) then (some ((S_api_Node.mk r4.1 (IntKind.i64.wrap (En.bAt (a0.drop (r4.2.1).toNat) (0 : Int))) r11.1 r14.1 r18.1 ([] : (List A8u8)) ([] : List UInt8)), ([] : List UInt8), (3 : Int))) else (lt (fun (j24s0 : (List UInt8)) (j24x5_5 : (List A8u8)) => (opt (f_lumref_GetText fu j24s0) fun (r27 : ((List UInt8) × Int × Int)) => (bif (r27.2.2 != (0 : Int)) then (some ((S_api_Node.mk r4.1 (IntKind.i64.wrap (En.bAt (a0.drop (r4.2.1).toNat) (0 : Int))) r11.1 r14.1 r18.1 j24x5_5 r27.1), ([] : List UInt8), r27.2.2)) else (req (0 ≤ r27.2.1 ∧ r27.2.1 ≤ (j24s0.length : Int)) (some ((S_api_Node.mk r4.1 (IntKind.i64.wrap (En.bAt (a0.drop (r4.2.1).toNat) (0 : Int))) r11.1 r14.1 r18.1 j24x5_5 r27.1), (j24s0.drop (r27.2.1).toNat), (0 : Int))))))) fun (kk25 : (List UInt8) → (List A8u8) → Option (S_api_Node × (List UInt8) × Int)) => (f_lumref_nodeRead_L32 r21 kk25 fu r21.2.1 ([] : List A8u8) (0 : Int)))))))))))))))))))
set_option maxRecDepth 100000 in
theorem f_lumref_nodeRead_ok (fu : Nat) (a0 : (List UInt8)) {r : (S_api_Node × (List UInt8) × Int)} (h : f_lumref_nodeRead fu a0 = some r) : FnOk Tryd.prog 114 [(str a0)] [] [] (fun (i : Value) => { val := (Value.tuple #[(ag [(str r.1.Name), (Value.int .i64 r.1.Kind), (Value.int .i64 r.1.Mode), (Value.int .i64 r.1.Time), (Value.int .i64 r.1.Size), i, (str r.1.Link)]), (str r.2.1), (Value.int .i64 r.2.2)]), fz := [(fDat (tyList tyA8u8) [i] r.1.Parts)] }) := by
  unfold f_lumref_nodeRead at h
  refine fn_enter Tryd.func114 rfl Tryd.ntmps114 rfl (fun w0 Z0 => ?_)
  refine aw_seq ?_
  refine aw_region ?_
  refine al_alloc (zs := [(str ([] : List UInt8)), (Value.int .i64 (0 : Int)), (Value.int .i64 (0 : Int)), (Value.int .i64 (0 : Int)), (Value.int .i64 (0 : Int)), (Value.slice none 0 0), (str ([] : List UInt8))]) (zeroOf_to to40) rfl rfl (fun g1 => ?_)
  refine al_val (ov_assign rfl rfl) ?_
  refine al_val (ov_assign rfl rfl) ?_
  refine al_nil ?_
  refine aq_then ?_
  refine aw_seq ?_
  refine aw_region ?_
  refine al_alloc (zs := [(str ([] : List UInt8)), (Value.int .i64 (0 : Int)), (Value.int .i64 (0 : Int)), (Value.int .i64 (0 : Int)), (Value.int .i64 (0 : Int)), (Value.slice none 0 0), (str ([] : List UInt8))]) (zeroOf_to to40) rfl rfl (fun g2 => ?_)
  refine al_nil ?_
  refine aq_then ?_
  refine aw_seq ?_
  refine aw_region ?_
  refine al_val (ov_move rfl rfl) ?_
  obtain ⟨r4, hc3, h⟩ := opt_some h
  refine al_call (vs := [(str a0)]) (f_lumref_GetText_ok fu a0 hc3) [] [] [0, 1] pre_nil rfl (by simp) (by decide) (.inl rfl) rfl Tryd.func75 rfl rfl rfl (fun _ => ?_)
  refine al_val (ov_move rfl rfl) ?_
  refine al_val (ov_extract rfl rfl rfl) ?_
  refine al_val (ov_extract rfl rfl rfl) ?_
  refine al_val (ov_extract rfl rfl rfl) ?_
  refine al_val (ov_assign rfl rfl) ?_
  refine al_val (ov_assign rfl rfl) ?_
  refine al_val (ov_assign rfl rfl) ?_
  refine al_nil ?_
  refine aq_then ?_
  refine aw_seq ?_
  refine aw_seq ?_
  refine aw_region ?_
  refine al_val (ov_move rfl rfl) ?_
  refine al_val (ov_int rfl rfl rfl rfl) ?_
  refine al_nil ?_
  refine aq_then ?_
  refine aw_cond rfl (fun hb5 => ?_) (fun hb5 => ?_)
  · replace h := bif_t hb5 h
    refine aw_seq ?_
    refine aw_region ?_
    refine al_val (ov_load (i := 0) (v := (ag [(str ([] : List UInt8)), (Value.int .i64 (0 : Int)), (Value.int .i64 (0 : Int)), (Value.int .i64 (0 : Int)), (Value.int .i64 (0 : Int)), (Value.slice none 0 0), (str ([] : List UInt8))])) rfl rfl Tryd.underlying40 sz40 rfl rfl rfl rfl) ?_
    refine al_val (ov_move rfl rfl) ?_
    refine al_store (i := 1) (vs := [(str ([] : List UInt8)), (Value.int .i64 (0 : Int)), (Value.int .i64 (0 : Int)), (Value.int .i64 (0 : Int)), (Value.int .i64 (0 : Int)), (Value.slice none 0 0), (str ([] : List UInt8))]) (cs' := [(str ([] : List UInt8)), (Value.int .i64 (0 : Int)), (Value.int .i64 (0 : Int)), (Value.int .i64 (0 : Int)), (Value.int .i64 (0 : Int)), (Value.slice none 0 0), (str ([] : List UInt8))]) rfl rfl rfl sz40 (cv_rfl rfl) rfl (co_val rfl (co_val rfl (co_val rfl (co_val rfl (co_val rfl (co_val rfl (co_val rfl co_nil))))))) (Nat.le_of_ble_eq_true rfl) rfl rfl ?_
    refine al_val (ov_assign rfl rfl) ?_
    refine al_val (ov_assign rfl rfl) ?_
    refine al_nil ?_
    refine aq_then ?_
    refine aw_ret ?_
    refine aq_then_ret ?_
    refine aq_nilD tyA8u8 ?_
    obtain rfl := Option.some.inj h
    exact fn_ret (Value.slice none 0 0) [] [0] rfl rfl rfl rfl (resC rfl (resB (i := 1) rfl rfl Tryd.underlying40 sz40 rfl rfl rfl (resT rfl (resT rfl (resN)))) rfl) rfl rfl rfl (by decide)
  · replace h := bif_f hb5 h
    refine aw_skip ?_
    refine aq_then ?_
    refine aw_seq ?_
    refine aw_region ?_
    refine al_val (ov_move rfl rfl) ?_
    refine al_val (ov_move rfl rfl) ?_
    obtain ⟨hc6, h⟩ := req_some h
    refine al_val (ov_strFrom hc6.1 hc6.2 Tryd.underlying9 rfl rfl rfl) ?_
    refine al_val (ov_assign rfl rfl) ?_
    refine al_nil ?_
    refine aq_then ?_
    refine aw_seq ?_
    refine aw_seq ?_
    refine aw_region ?_
    refine al_val (ov_move rfl rfl) ?_
    refine al_val (ov_strCmp rfl rfl rfl rfl) ?_
    refine al_nil ?_
    refine aq_then ?_
    refine aw_cond rfl (fun hb7 => ?_) (fun hb7 => ?_)
    · replace h := bif_t hb7 h
      refine aw_seq ?_
      refine aw_region ?_
      refine al_val (ov_load (i := 0) (v := (ag [(str ([] : List UInt8)), (Value.int .i64 (0 : Int)), (Value.int .i64 (0 : Int)), (Value.int .i64 (0 : Int)), (Value.int .i64 (0 : Int)), (Value.slice none 0 0), (str ([] : List UInt8))])) rfl rfl Tryd.underlying40 sz40 rfl rfl rfl rfl) ?_
      refine al_store (i := 1) (vs := [(str ([] : List UInt8)), (Value.int .i64 (0 : Int)), (Value.int .i64 (0 : Int)), (Value.int .i64 (0 : Int)), (Value.int .i64 (0 : Int)), (Value.slice none 0 0), (str ([] : List UInt8))]) (cs' := [(str ([] : List UInt8)), (Value.int .i64 (0 : Int)), (Value.int .i64 (0 : Int)), (Value.int .i64 (0 : Int)), (Value.int .i64 (0 : Int)), (Value.slice none 0 0), (str ([] : List UInt8))]) rfl rfl rfl sz40 (cv_rfl rfl) rfl (co_val rfl (co_val rfl (co_val rfl (co_val rfl (co_val rfl (co_val rfl (co_val rfl co_nil))))))) (Nat.le_of_ble_eq_true rfl) rfl rfl ?_
      refine al_val (ov_assign rfl rfl) ?_
      refine al_val (ov_assign rfl rfl) ?_
      refine al_nil ?_
      refine aq_then ?_
      refine aw_ret ?_
      refine aq_then_ret ?_
      refine aq_nilD tyA8u8 ?_
      obtain rfl := Option.some.inj h
      exact fn_ret (Value.slice none 0 0) [] [0] rfl rfl rfl rfl (resC rfl (resB (i := 1) rfl rfl Tryd.underlying40 sz40 rfl rfl rfl (resT rfl (resT rfl (resN)))) rfl) rfl rfl rfl (by decide)
    · replace h := bif_f hb7 h
      refine aw_skip ?_
      refine aq_then ?_
      refine aw_seq ?_
      obtain ⟨hc8, h⟩ := req_some h
      refine aw_region_open [⟨0, 26, Unit, fun _ => { val := (str r4.1) }⟩, ⟨1, 27, Unit, fun _ => { val := (str (a0.drop (r4.2.1).toNat)) }⟩, ⟨2, 28, Unit, fun _ => { val := (Value.int .u8 (En.bAt (a0.drop (r4.2.1).toNat) (0 : Int))) }⟩, ⟨3, 29, Unit, fun _ => { val := (Value.int .i64 (IntKind.i64.wrap (En.bAt (a0.drop (r4.2.1).toNat) (0 : Int)))) }⟩, ⟨4, 30, Unit, fun _ => { val := (ptr g2 0) }⟩] (tab [(0, (str (a0.drop (r4.2.1).toNat))), (2, (ptr g1 0)), (5, (ptr g2 0)), (6, (str r4.1))]) mixed (fun a hs => hs.tab _ (allT_mem ⟨rfl, rfl, rfl, rfl, trivial⟩)) ?_
      refine ta_show (m := (memOf w0 Z0 [] [(oBox g2 40 [(str ([] : List UInt8)), (Value.int .i64 (0 : Int)), (Value.int .i64 (0 : Int)), (Value.int .i64 (0 : Int)), (Value.int .i64 (0 : Int)), (Value.slice none 0 0), (str ([] : List UInt8))]), (oBox g1 40 [(str ([] : List UInt8)), (Value.int .i64 (0 : Int)), (Value.int .i64 (0 : Int)), (Value.int .i64 (0 : Int)), (Value.int .i64 (0 : Int)), (Value.slice none 0 0), (str ([] : List UInt8))])] [])) (S := (tab [(0, (str (a0.drop (r4.2.1).toNat))), (2, (ptr g1 0)), (5, (ptr g2 0)), (6, (str r4.1))])) ?_
      refine ta_step 5 _ [0, 1, 2, 3, 4] [26, 27, 28, 29, 30] [0, 4] [6] [⟨0, 26, Unit, fun _ => { val := (str r4.1) }⟩, ⟨4, 30, Unit, fun _ => { val := (ptr g2 0) }⟩] [⟨1, 27, Unit, fun _ => { val := (str (a0.drop (r4.2.1).toNat)) }⟩, ⟨2, 28, Unit, fun _ => { val := (Value.int .u8 (En.bAt (a0.drop (r4.2.1).toNat) (0 : Int))) }⟩, ⟨3, 29, Unit, fun _ => { val := (Value.int .i64 (IntKind.i64.wrap (En.bAt (a0.drop (r4.2.1).toNat) (0 : Int)))) }⟩] rfl rfl rfl (by kernel_rfl) rfl rfl rfl ⟨⟨_, rfl, [], rfl, by
    intro X_ Y_ F_ K_ hK_
    refine al_show (m := Mem.plus (memOf w0 Z0 [] [(oBox g2 40 [(str ([] : List UInt8)), (Value.int .i64 (0 : Int)), (Value.int .i64 (0 : Int)), (Value.int .i64 (0 : Int)), (Value.int .i64 (0 : Int)), (Value.slice none 0 0), (str ([] : List UInt8))]), (oBox g1 40 [(str ([] : List UInt8)), (Value.int .i64 (0 : Int)), (Value.int .i64 (0 : Int)), (Value.int .i64 (0 : Int)), (Value.int .i64 (0 : Int)), (Value.slice none 0 0), (str ([] : List UInt8))])] []) X_ Y_) (S := over (tab [(0, (str (a0.drop (r4.2.1).toNat))), (2, (ptr g1 0)), (5, (ptr g2 0)), (6, (str r4.1))]) F_) ?_
    refine al_val (ov_move rfl rfl) ?_
    refine al_nil ?_
    exact fr_fin hK_ ()⟩, ⟨_, rfl, [], rfl, by
    intro X_ Y_ F_ K_ hK_
    refine al_show (m := Mem.plus (memOf w0 Z0 [] [(oBox g2 40 [(str ([] : List UInt8)), (Value.int .i64 (0 : Int)), (Value.int .i64 (0 : Int)), (Value.int .i64 (0 : Int)), (Value.int .i64 (0 : Int)), (Value.slice none 0 0), (str ([] : List UInt8))]), (oBox g1 40 [(str ([] : List UInt8)), (Value.int .i64 (0 : Int)), (Value.int .i64 (0 : Int)), (Value.int .i64 (0 : Int)), (Value.int .i64 (0 : Int)), (Value.slice none 0 0), (str ([] : List UInt8))])] []) X_ Y_) (S := over (tab [(0, (str (a0.drop (r4.2.1).toNat))), (2, (ptr g1 0)), (5, (ptr g2 0)), (6, (str r4.1))]) F_) ?_
    refine al_val (ov_move rfl rfl) ?_
    refine al_nil ?_
    exact fr_fin hK_ ()⟩, ⟨_, rfl, [1], rfl, by
    intro _
    intro X_ Y_ F_ K_ hK_
    refine al_show (m := Mem.plus (memOf w0 Z0 [] [(oBox g2 40 [(str ([] : List UInt8)), (Value.int .i64 (0 : Int)), (Value.int .i64 (0 : Int)), (Value.int .i64 (0 : Int)), (Value.int .i64 (0 : Int)), (Value.slice none 0 0), (str ([] : List UInt8))]), (oBox g1 40 [(str ([] : List UInt8)), (Value.int .i64 (0 : Int)), (Value.int .i64 (0 : Int)), (Value.int .i64 (0 : Int)), (Value.int .i64 (0 : Int)), (Value.slice none 0 0), (str ([] : List UInt8))])] []) X_ Y_) (S := over (put (tab [(0, (str (a0.drop (r4.2.1).toNat))), (2, (ptr g1 0)), (5, (ptr g2 0)), (6, (str r4.1))]) 27 (str (a0.drop (r4.2.1).toNat))) F_) ?_
    refine al_val (ov_strIdx hc8.1 hc8.2 Tryd.underlying9 rfl rfl rfl) ?_
    refine al_nil ?_
    exact fr_fin hK_ ()⟩, ⟨_, rfl, [2], rfl, by
    intro _
    intro X_ Y_ F_ K_ hK_
    refine al_show (m := Mem.plus (memOf w0 Z0 [] [(oBox g2 40 [(str ([] : List UInt8)), (Value.int .i64 (0 : Int)), (Value.int .i64 (0 : Int)), (Value.int .i64 (0 : Int)), (Value.int .i64 (0 : Int)), (Value.slice none 0 0), (str ([] : List UInt8))]), (oBox g1 40 [(str ([] : List UInt8)), (Value.int .i64 (0 : Int)), (Value.int .i64 (0 : Int)), (Value.int .i64 (0 : Int)), (Value.int .i64 (0 : Int)), (Value.slice none 0 0), (str ([] : List UInt8))])] []) X_ Y_) (S := over (put (tab [(0, (str (a0.drop (r4.2.1).toNat))), (2, (ptr g1 0)), (5, (ptr g2 0)), (6, (str r4.1))]) 28 (Value.int .u8 (En.bAt (a0.drop (r4.2.1).toNat) (0 : Int)))) F_) ?_
    refine al_val (ov_convInt (by rw [Tryd.underlying5]; rfl) Tryd.underlying3 rfl rfl) ?_
    refine al_nil ?_
    exact fr_fin hK_ ()⟩, ⟨_, rfl, [0], rfl, by
    intro _
    intro X_ Y_ F_ K_ hK_
    refine al_show (m := Mem.plus (memOf w0 Z0 [] [(oBox g2 40 [(str ([] : List UInt8)), (Value.int .i64 (0 : Int)), (Value.int .i64 (0 : Int)), (Value.int .i64 (0 : Int)), (Value.int .i64 (0 : Int)), (Value.slice none 0 0), (str ([] : List UInt8))]), (oBox g1 40 [(str ([] : List UInt8)), (Value.int .i64 (0 : Int)), (Value.int .i64 (0 : Int)), (Value.int .i64 (0 : Int)), (Value.int .i64 (0 : Int)), (Value.slice none 0 0), (str ([] : List UInt8))])] []) X_ Y_) (S := over (put (tab [(0, (str (a0.drop (r4.2.1).toNat))), (2, (ptr g1 0)), (5, (ptr g2 0)), (6, (str r4.1))]) 26 (str r4.1)) F_) ?_
    refine al_val (ov_fieldA (p := 0) rfl Tryd.underlying40 rfl sz9 rfl rfl rfl) ?_
    refine al_nil ?_
    exact fr_fin hK_ ()⟩, trivial⟩ ?_
      intro _
      intro _
      intro X_ Y_ F_ K_ hK_
      refine al_show (m := Mem.plus (memOf w0 Z0 [] [(oBox g2 40 [(str ([] : List UInt8)), (Value.int .i64 (0 : Int)), (Value.int .i64 (0 : Int)), (Value.int .i64 (0 : Int)), (Value.int .i64 (0 : Int)), (Value.slice none 0 0), (str ([] : List UInt8))]), (oBox g1 40 [(str ([] : List UInt8)), (Value.int .i64 (0 : Int)), (Value.int .i64 (0 : Int)), (Value.int .i64 (0 : Int)), (Value.int .i64 (0 : Int)), (Value.slice none 0 0), (str ([] : List UInt8))])] []) X_ Y_) (S := over (put (put (tab [(0, (str (a0.drop (r4.2.1).toNat))), (2, (ptr g1 0)), (5, (ptr g2 0)), (6, (str r4.1))]) 26 (str r4.1)) 30 (ptr g2 0)) F_) ?_
      refine al_store (i := 0) (vs := [(str r4.1)]) (cs' := [(str r4.1), (Value.int .i64 (0 : Int)), (Value.int .i64 (0 : Int)), (Value.int .i64 (0 : Int)), (Value.int .i64 (0 : Int)), (Value.slice none 0 0), (str ([] : List UInt8))]) rfl rfl rfl sz9 (cv_rfl rfl) rfl (co_val rfl co_nil) (Nat.le_of_ble_eq_true rfl) rfl rfl ?_
      refine al_nil ?_
      refine aq_show (m := Mem.plus (memOf w0 Z0 [] [(oBox g2 40 [(str r4.1), (Value.int .i64 (0 : Int)), (Value.int .i64 (0 : Int)), (Value.int .i64 (0 : Int)), (Value.int .i64 (0 : Int)), (Value.slice none 0 0), (str ([] : List UInt8))]), (oBox g1 40 [(str ([] : List UInt8)), (Value.int .i64 (0 : Int)), (Value.int .i64 (0 : Int)), (Value.int .i64 (0 : Int)), (Value.int .i64 (0 : Int)), (Value.slice none 0 0), (str ([] : List UInt8))])] []) X_ Y_) ?_
      refine aq_next hK_ [0, 1] [] [(0, (str (a0.drop (r4.2.1).toNat))), (2, (ptr g1 0)), (5, (ptr g2 0))] [27, 28, 29] [⟨6, 31, Unit, fun _ => { val := (ptr g2 1) }⟩] rfl rfl (by decide) rfl ⟨rfl, rfl, rfl, trivial⟩ ⟨rfl, rfl, rfl, trivial⟩ ?_
      clear hK_ K_ F_ X_ Y_
      refine ta_show (m := (memOf w0 Z0 [] [(oBox g2 40 [(str r4.1), (Value.int .i64 (0 : Int)), (Value.int .i64 (0 : Int)), (Value.int .i64 (0 : Int)), (Value.int .i64 (0 : Int)), (Value.slice none 0 0), (str ([] : List UInt8))]), (oBox g1 40 [(str ([] : List UInt8)), (Value.int .i64 (0 : Int)), (Value.int .i64 (0 : Int)), (Value.int .i64 (0 : Int)), (Value.int .i64 (0 : Int)), (Value.slice none 0 0), (str ([] : List UInt8))])] [])) (S := (tab [(0, (str (a0.drop (r4.2.1).toNat))), (2, (ptr g1 0)), (5, (ptr g2 0))])) ?_
      refine ta_step 7 _ [1, 2, 3, 6] [27, 28, 29, 31] [1, 2, 3, 6] [] [⟨1, 27, Unit, fun _ => { val := (str (a0.drop (r4.2.1).toNat)) }⟩, ⟨2, 28, Unit, fun _ => { val := (Value.int .u8 (En.bAt (a0.drop (r4.2.1).toNat) (0 : Int))) }⟩, ⟨3, 29, Unit, fun _ => { val := (Value.int .i64 (IntKind.i64.wrap (En.bAt (a0.drop (r4.2.1).toNat) (0 : Int)))) }⟩, ⟨6, 31, Unit, fun _ => { val := (ptr g2 1) }⟩] [] rfl rfl rfl (by kernel_rfl) rfl rfl rfl ⟨⟨_, rfl, [], rfl, by
    intro X_ Y_ F_ K_ hK_
    refine al_show (m := Mem.plus (memOf w0 Z0 [] [(oBox g2 40 [(str r4.1), (Value.int .i64 (0 : Int)), (Value.int .i64 (0 : Int)), (Value.int .i64 (0 : Int)), (Value.int .i64 (0 : Int)), (Value.slice none 0 0), (str ([] : List UInt8))]), (oBox g1 40 [(str ([] : List UInt8)), (Value.int .i64 (0 : Int)), (Value.int .i64 (0 : Int)), (Value.int .i64 (0 : Int)), (Value.int .i64 (0 : Int)), (Value.slice none 0 0), (str ([] : List UInt8))])] []) X_ Y_) (S := over (tab [(0, (str (a0.drop (r4.2.1).toNat))), (2, (ptr g1 0)), (5, (ptr g2 0))]) F_) ?_
    refine al_val (ov_move rfl rfl) ?_
    refine al_nil ?_
    exact fr_fin hK_ ()⟩, ⟨_, rfl, [0], rfl, by
    intro _
    intro X_ Y_ F_ K_ hK_
    refine al_show (m := Mem.plus (memOf w0 Z0 [] [(oBox g2 40 [(str r4.1), (Value.int .i64 (0 : Int)), (Value.int .i64 (0 : Int)), (Value.int .i64 (0 : Int)), (Value.int .i64 (0 : Int)), (Value.slice none 0 0), (str ([] : List UInt8))]), (oBox g1 40 [(str ([] : List UInt8)), (Value.int .i64 (0 : Int)), (Value.int .i64 (0 : Int)), (Value.int .i64 (0 : Int)), (Value.int .i64 (0 : Int)), (Value.slice none 0 0), (str ([] : List UInt8))])] []) X_ Y_) (S := over (put (tab [(0, (str (a0.drop (r4.2.1).toNat))), (2, (ptr g1 0)), (5, (ptr g2 0))]) 27 (str (a0.drop (r4.2.1).toNat))) F_) ?_
    refine al_val (ov_strIdx hc8.1 hc8.2 Tryd.underlying9 rfl rfl rfl) ?_
    refine al_nil ?_
    exact fr_fin hK_ ()⟩, ⟨_, rfl, [1], rfl, by
    intro _
    intro X_ Y_ F_ K_ hK_
    refine al_show (m := Mem.plus (memOf w0 Z0 [] [(oBox g2 40 [(str r4.1), (Value.int .i64 (0 : Int)), (Value.int .i64 (0 : Int)), (Value.int .i64 (0 : Int)), (Value.int .i64 (0 : Int)), (Value.slice none 0 0), (str ([] : List UInt8))]), (oBox g1 40 [(str ([] : List UInt8)), (Value.int .i64 (0 : Int)), (Value.int .i64 (0 : Int)), (Value.int .i64 (0 : Int)), (Value.int .i64 (0 : Int)), (Value.slice none 0 0), (str ([] : List UInt8))])] []) X_ Y_) (S := over (put (tab [(0, (str (a0.drop (r4.2.1).toNat))), (2, (ptr g1 0)), (5, (ptr g2 0))]) 28 (Value.int .u8 (En.bAt (a0.drop (r4.2.1).toNat) (0 : Int)))) F_) ?_
    refine al_val (ov_convInt (by rw [Tryd.underlying5]; rfl) Tryd.underlying3 rfl rfl) ?_
    refine al_nil ?_
    exact fr_fin hK_ ()⟩, ⟨_, rfl, [0, 1, 2], rfl, by
    intro _
    intro _
    intro _
    intro X_ Y_ F_ K_ hK_
    refine al_show (m := Mem.plus (memOf w0 Z0 [] [(oBox g2 40 [(str r4.1), (Value.int .i64 (0 : Int)), (Value.int .i64 (0 : Int)), (Value.int .i64 (0 : Int)), (Value.int .i64 (0 : Int)), (Value.slice none 0 0), (str ([] : List UInt8))]), (oBox g1 40 [(str ([] : List UInt8)), (Value.int .i64 (0 : Int)), (Value.int .i64 (0 : Int)), (Value.int .i64 (0 : Int)), (Value.int .i64 (0 : Int)), (Value.slice none 0 0), (str ([] : List UInt8))])] []) X_ Y_) (S := over (put (put (put (tab [(0, (str (a0.drop (r4.2.1).toNat))), (2, (ptr g1 0)), (5, (ptr g2 0))]) 27 (str (a0.drop (r4.2.1).toNat))) 28 (Value.int .u8 (En.bAt (a0.drop (r4.2.1).toNat) (0 : Int)))) 29 (Value.int .i64 (IntKind.i64.wrap (En.bAt (a0.drop (r4.2.1).toNat) (0 : Int))))) F_) ?_
    refine al_val (ov_fieldA (p := 1) rfl Tryd.underlying40 rfl sz3 rfl rfl rfl) ?_
    refine al_nil ?_
    exact fr_fin hK_ ()⟩, trivial⟩ ?_
      intro _
      intro _
      intro _
      intro _
      intro X_ Y_ F_ K_ hK_
      refine al_show (m := Mem.plus (memOf w0 Z0 [] [(oBox g2 40 [(str r4.1), (Value.int .i64 (0 : Int)), (Value.int .i64 (0 : Int)), (Value.int .i64 (0 : Int)), (Value.int .i64 (0 : Int)), (Value.slice none 0 0), (str ([] : List UInt8))]), (oBox g1 40 [(str ([] : List UInt8)), (Value.int .i64 (0 : Int)), (Value.int .i64 (0 : Int)), (Value.int .i64 (0 : Int)), (Value.int .i64 (0 : Int)), (Value.slice none 0 0), (str ([] : List UInt8))])] []) X_ Y_) (S := over (put (put (put (put (tab [(0, (str (a0.drop (r4.2.1).toNat))), (2, (ptr g1 0)), (5, (ptr g2 0))]) 27 (str (a0.drop (r4.2.1).toNat))) 28 (Value.int .u8 (En.bAt (a0.drop (r4.2.1).toNat) (0 : Int)))) 29 (Value.int .i64 (IntKind.i64.wrap (En.bAt (a0.drop (r4.2.1).toNat) (0 : Int))))) 31 (ptr g2 1)) F_) ?_
      refine al_store (i := 0) (vs := [(Value.int .i64 (IntKind.i64.wrap (En.bAt (a0.drop (r4.2.1).toNat) (0 : Int))))]) (cs' := [(str r4.1), (Value.int .i64 (IntKind.i64.wrap (En.bAt (a0.drop (r4.2.1).toNat) (0 : Int)))), (Value.int .i64 (0 : Int)), (Value.int .i64 (0 : Int)), (Value.int .i64 (0 : Int)), (Value.slice none 0 0), (str ([] : List UInt8))]) rfl rfl rfl sz3 (cv_rfl rfl) rfl (co_val rfl co_nil) (Nat.le_of_ble_eq_true rfl) rfl rfl ?_
      refine al_nil ?_
      refine aq_show (m := Mem.plus (memOf w0 Z0 [] [(oBox g2 40 [(str r4.1), (Value.int .i64 (IntKind.i64.wrap (En.bAt (a0.drop (r4.2.1).toNat) (0 : Int)))), (Value.int .i64 (0 : Int)), (Value.int .i64 (0 : Int)), (Value.int .i64 (0 : Int)), (Value.slice none 0 0), (str ([] : List UInt8))]), (oBox g1 40 [(str ([] : List UInt8)), (Value.int .i64 (0 : Int)), (Value.int .i64 (0 : Int)), (Value.int .i64 (0 : Int)), (Value.int .i64 (0 : Int)), (Value.slice none 0 0), (str ([] : List UInt8))])] []) X_ Y_) ?_
      refine aq_next hK_ [0, 1] [] [(0, (str (a0.drop (r4.2.1).toNat))), (2, (ptr g1 0)), (5, (ptr g2 0))] [] [] rfl rfl (by decide) rfl ⟨rfl, rfl, rfl, trivial⟩ trivial ?_
      clear hK_ K_ F_ X_ Y_
      refine ta_show (m := (memOf w0 Z0 [] [(oBox g2 40 [(str r4.1), (Value.int .i64 (IntKind.i64.wrap (En.bAt (a0.drop (r4.2.1).toNat) (0 : Int)))), (Value.int .i64 (0 : Int)), (Value.int .i64 (0 : Int)), (Value.int .i64 (0 : Int)), (Value.slice none 0 0), (str ([] : List UInt8))]), (oBox g1 40 [(str ([] : List UInt8)), (Value.int .i64 (0 : Int)), (Value.int .i64 (0 : Int)), (Value.int .i64 (0 : Int)), (Value.int .i64 (0 : Int)), (Value.slice none 0 0), (str ([] : List UInt8))])] [])) (S := (tab [(0, (str (a0.drop (r4.2.1).toNat))), (2, (ptr g1 0)), (5, (ptr g2 0))])) ?_
      refine ta_end [] [] rfl rfl (by kernel_rfl) rfl trivial ?_
      refine aq_show (m := (memOf w0 Z0 [] [(oBox g2 40 [(str r4.1), (Value.int .i64 (IntKind.i64.wrap (En.bAt (a0.drop (r4.2.1).toNat) (0 : Int)))), (Value.int .i64 (0 : Int)), (Value.int .i64 (0 : Int)), (Value.int .i64 (0 : Int)), (Value.slice none 0 0), (str ([] : List UInt8))]), (oBox g1 40 [(str ([] : List UInt8)), (Value.int .i64 (0 : Int)), (Value.int .i64 (0 : Int)), (Value.int .i64 (0 : Int)), (Value.int .i64 (0 : Int)), (Value.slice none 0 0), (str ([] : List UInt8))])] [])) (S := (tab [(0, (str (a0.drop (r4.2.1).toNat))), (2, (ptr g1 0)), (5, (ptr g2 0))])) ?_
      refine aq_then ?_
      refine aw_seq ?_
      refine aw_seq ?_
      refine aw_region ?_
      refine al_val (ov_move rfl rfl) ?_
      obtain ⟨hc9, h⟩ := req_some h
      refine al_val (ov_strFrom hc9.1 hc9.2 Tryd.underlying9 rfl rfl rfl) ?_
      obtain ⟨r11, hc10, h⟩ := opt_some h
      refine al_call (vs := [(str ((a0.drop (r4.2.1).toNat).drop ((1 : Int)).toNat)), (Value.int .u64 (511 : Int))]) (f_lumref_numberAt_ok fu ((a0.drop (r4.2.1).toNat).drop ((1 : Int)).toNat) (511 : Int) hc10) [] [] [0, 1] pre_nil rfl (by simp) (by decide) (.inl rfl) rfl Tryd.func113 rfl rfl rfl (fun _ => ?_)
      refine al_val (ov_move rfl rfl) ?_
      refine al_val (ov_extract rfl rfl rfl) ?_
      refine al_val (ov_extract rfl rfl rfl) ?_
      refine al_val (ov_extract rfl rfl rfl) ?_
      refine al_val (ov_fieldA (p := 2) rfl Tryd.underlying40 rfl sz3 rfl rfl rfl) ?_
      refine al_store (i := 0) (vs := [(Value.int .i64 r11.1)]) (cs' := [(str r4.1), (Value.int .i64 (IntKind.i64.wrap (En.bAt (a0.drop (r4.2.1).toNat) (0 : Int)))), (Value.int .i64 r11.1), (Value.int .i64 (0 : Int)), (Value.int .i64 (0 : Int)), (Value.slice none 0 0), (str ([] : List UInt8))]) rfl rfl rfl sz3 (cv_rfl rfl) rfl (co_val rfl co_nil) (Nat.le_of_ble_eq_true rfl) rfl rfl ?_
      refine al_val (ov_assign rfl rfl) ?_
      refine al_val (ov_assign rfl rfl) ?_
      refine al_nil ?_
      refine aq_then ?_
      refine aw_seq ?_
      refine aw_region ?_
      refine al_val (ov_move rfl rfl) ?_
      refine al_val (ov_int rfl rfl rfl rfl) ?_
      refine al_nil ?_
      refine aq_then ?_
      refine aw_cond rfl (fun hb12 => ?_) (fun hb12 => ?_)
      · replace h := bif_t hb12 h
        refine aw_seq ?_
        refine aw_region ?_
        refine al_val (ov_load (i := 0) (v := (ag [(str r4.1), (Value.int .i64 (IntKind.i64.wrap (En.bAt (a0.drop (r4.2.1).toNat) (0 : Int)))), (Value.int .i64 r11.1), (Value.int .i64 (0 : Int)), (Value.int .i64 (0 : Int)), (Value.slice none 0 0), (str ([] : List UInt8))])) rfl rfl Tryd.underlying40 sz40 rfl rfl rfl rfl) ?_
        refine al_val (ov_move rfl rfl) ?_
        refine al_store (i := 1) (vs := [(str r4.1), (Value.int .i64 (IntKind.i64.wrap (En.bAt (a0.drop (r4.2.1).toNat) (0 : Int)))), (Value.int .i64 r11.1), (Value.int .i64 (0 : Int)), (Value.int .i64 (0 : Int)), (Value.slice none 0 0), (str ([] : List UInt8))]) (cs' := [(str r4.1), (Value.int .i64 (IntKind.i64.wrap (En.bAt (a0.drop (r4.2.1).toNat) (0 : Int)))), (Value.int .i64 r11.1), (Value.int .i64 (0 : Int)), (Value.int .i64 (0 : Int)), (Value.slice none 0 0), (str ([] : List UInt8))]) rfl rfl rfl sz40 (cv_rfl rfl) rfl (co_val rfl (co_val rfl (co_val rfl (co_val rfl (co_val rfl (co_val rfl (co_val rfl co_nil))))))) (Nat.le_of_ble_eq_true rfl) rfl rfl ?_
        refine al_val (ov_assign rfl rfl) ?_
        refine al_val (ov_assign rfl rfl) ?_
        refine al_nil ?_
        refine aq_then ?_
        refine aw_ret ?_
        refine aq_then_ret ?_
        refine aq_nilD tyA8u8 ?_
        obtain rfl := Option.some.inj h
        exact fn_ret (Value.slice none 0 0) [] [0] rfl rfl rfl rfl (resC rfl (resB (i := 1) rfl rfl Tryd.underlying40 sz40 rfl rfl rfl (resT rfl (resT rfl (resN)))) rfl) rfl rfl rfl (by decide)
      · replace h := bif_f hb12 h
        refine aw_skip ?_
        refine aq_then ?_
        refine aw_seq ?_
        refine aw_seq ?_
        refine aw_region ?_
        refine al_val (ov_move rfl rfl) ?_
        obtain ⟨r14, hc13, h⟩ := opt_some h
        refine al_call (vs := [(str r11.2.1)]) (f_lumref_GetInt_ok fu r11.2.1 hc13) [] [] [0, 1] pre_nil rfl (by simp) (by decide) (.inl rfl) rfl Tryd.func139 rfl rfl rfl (fun _ => ?_)
        refine al_val (ov_move rfl rfl) ?_
        refine al_val (ov_extract rfl rfl rfl) ?_
        refine al_val (ov_extract rfl rfl rfl) ?_
        refine al_val (ov_extract rfl rfl rfl) ?_
        refine al_val (ov_fieldA (p := 3) rfl Tryd.underlying40 rfl sz3 rfl rfl rfl) ?_
        refine al_store (i := 0) (vs := [(Value.int .i64 r14.1)]) (cs' := [(str r4.1), (Value.int .i64 (IntKind.i64.wrap (En.bAt (a0.drop (r4.2.1).toNat) (0 : Int)))), (Value.int .i64 r11.1), (Value.int .i64 r14.1), (Value.int .i64 (0 : Int)), (Value.slice none 0 0), (str ([] : List UInt8))]) rfl rfl rfl sz3 (cv_rfl rfl) rfl (co_val rfl co_nil) (Nat.le_of_ble_eq_true rfl) rfl rfl ?_
        refine al_val (ov_assign rfl rfl) ?_
        refine al_val (ov_assign rfl rfl) ?_
        refine al_nil ?_
        refine aq_then ?_
        refine aw_seq ?_
        refine aw_region ?_
        refine al_val (ov_move rfl rfl) ?_
        refine al_val (ov_int rfl rfl rfl rfl) ?_
        refine al_nil ?_
        refine aq_then ?_
        refine aw_cond rfl (fun hb15 => ?_) (fun hb15 => ?_)
        · replace h := bif_t hb15 h
          refine aw_seq ?_
          refine aw_region ?_
          refine al_val (ov_load (i := 0) (v := (ag [(str r4.1), (Value.int .i64 (IntKind.i64.wrap (En.bAt (a0.drop (r4.2.1).toNat) (0 : Int)))), (Value.int .i64 r11.1), (Value.int .i64 r14.1), (Value.int .i64 (0 : Int)), (Value.slice none 0 0), (str ([] : List UInt8))])) rfl rfl Tryd.underlying40 sz40 rfl rfl rfl rfl) ?_
          refine al_val (ov_move rfl rfl) ?_
          refine al_store (i := 1) (vs := [(str r4.1), (Value.int .i64 (IntKind.i64.wrap (En.bAt (a0.drop (r4.2.1).toNat) (0 : Int)))), (Value.int .i64 r11.1), (Value.int .i64 r14.1), (Value.int .i64 (0 : Int)), (Value.slice none 0 0), (str ([] : List UInt8))]) (cs' := [(str r4.1), (Value.int .i64 (IntKind.i64.wrap (En.bAt (a0.drop (r4.2.1).toNat) (0 : Int)))), (Value.int .i64 r11.1), (Value.int .i64 r14.1), (Value.int .i64 (0 : Int)), (Value.slice none 0 0), (str ([] : List UInt8))]) rfl rfl rfl sz40 (cv_rfl rfl) rfl (co_val rfl (co_val rfl (co_val rfl (co_val rfl (co_val rfl (co_val rfl (co_val rfl co_nil))))))) (Nat.le_of_ble_eq_true rfl) rfl rfl ?_
          refine al_val (ov_assign rfl rfl) ?_
          refine al_val (ov_assign rfl rfl) ?_
          refine al_nil ?_
          refine aq_then ?_
          refine aw_ret ?_
          refine aq_then_ret ?_
          refine aq_nilD tyA8u8 ?_
          obtain rfl := Option.some.inj h
          exact fn_ret (Value.slice none 0 0) [] [0] rfl rfl rfl rfl (resC rfl (resB (i := 1) rfl rfl Tryd.underlying40 sz40 rfl rfl rfl (resT rfl (resT rfl (resN)))) rfl) rfl rfl rfl (by decide)
        · replace h := bif_f hb15 h
          refine aw_skip ?_
          refine aq_then ?_
          refine aw_seq ?_
          refine aw_seq ?_
          refine aw_region ?_
          refine al_val (ov_move rfl rfl) ?_
          refine al_val (ov_move rfl rfl) ?_
          obtain ⟨hc16, h⟩ := req_some h
          refine al_val (ov_strFrom hc16.1 hc16.2 Tryd.underlying9 rfl rfl rfl) ?_
          obtain ⟨r18, hc17, h⟩ := opt_some h
          refine al_call (vs := [(str (r11.2.1.drop (r14.2.1).toNat)), (Value.int .u64 (4096 : Int))]) (f_lumref_numberAt_ok fu (r11.2.1.drop (r14.2.1).toNat) (4096 : Int) hc17) [] [] [0, 1] pre_nil rfl (by simp) (by decide) (.inl rfl) rfl Tryd.func113 rfl rfl rfl (fun _ => ?_)
          refine al_val (ov_move rfl rfl) ?_
          refine al_val (ov_extract rfl rfl rfl) ?_
          refine al_val (ov_extract rfl rfl rfl) ?_
          refine al_val (ov_extract rfl rfl rfl) ?_
          refine al_val (ov_fieldA (p := 4) rfl Tryd.underlying40 rfl sz3 rfl rfl rfl) ?_
          refine al_store (i := 0) (vs := [(Value.int .i64 r18.1)]) (cs' := [(str r4.1), (Value.int .i64 (IntKind.i64.wrap (En.bAt (a0.drop (r4.2.1).toNat) (0 : Int)))), (Value.int .i64 r11.1), (Value.int .i64 r14.1), (Value.int .i64 r18.1), (Value.slice none 0 0), (str ([] : List UInt8))]) rfl rfl rfl sz3 (cv_rfl rfl) rfl (co_val rfl co_nil) (Nat.le_of_ble_eq_true rfl) rfl rfl ?_
          refine al_val (ov_assign rfl rfl) ?_
          refine al_val (ov_assign rfl rfl) ?_
          refine al_nil ?_
          refine aq_then ?_
          refine aw_seq ?_
          refine aw_region ?_
          refine al_val (ov_move rfl rfl) ?_
          refine al_val (ov_int rfl rfl rfl rfl) ?_
          refine al_nil ?_
          refine aq_then ?_
          refine aw_cond rfl (fun hb19 => ?_) (fun hb19 => ?_)
          · replace h := bif_t hb19 h
            refine aw_seq ?_
            refine aw_region ?_
            refine al_val (ov_load (i := 0) (v := (ag [(str r4.1), (Value.int .i64 (IntKind.i64.wrap (En.bAt (a0.drop (r4.2.1).toNat) (0 : Int)))), (Value.int .i64 r11.1), (Value.int .i64 r14.1), (Value.int .i64 r18.1), (Value.slice none 0 0), (str ([] : List UInt8))])) rfl rfl Tryd.underlying40 sz40 rfl rfl rfl rfl) ?_
            refine al_val (ov_move rfl rfl) ?_
            refine al_store (i := 1) (vs := [(str r4.1), (Value.int .i64 (IntKind.i64.wrap (En.bAt (a0.drop (r4.2.1).toNat) (0 : Int)))), (Value.int .i64 r11.1), (Value.int .i64 r14.1), (Value.int .i64 r18.1), (Value.slice none 0 0), (str ([] : List UInt8))]) (cs' := [(str r4.1), (Value.int .i64 (IntKind.i64.wrap (En.bAt (a0.drop (r4.2.1).toNat) (0 : Int)))), (Value.int .i64 r11.1), (Value.int .i64 r14.1), (Value.int .i64 r18.1), (Value.slice none 0 0), (str ([] : List UInt8))]) rfl rfl rfl sz40 (cv_rfl rfl) rfl (co_val rfl (co_val rfl (co_val rfl (co_val rfl (co_val rfl (co_val rfl (co_val rfl co_nil))))))) (Nat.le_of_ble_eq_true rfl) rfl rfl ?_
            refine al_val (ov_assign rfl rfl) ?_
            refine al_val (ov_assign rfl rfl) ?_
            refine al_nil ?_
            refine aq_then ?_
            refine aw_ret ?_
            refine aq_then_ret ?_
            refine aq_nilD tyA8u8 ?_
            obtain rfl := Option.some.inj h
            exact fn_ret (Value.slice none 0 0) [] [0] rfl rfl rfl rfl (resC rfl (resB (i := 1) rfl rfl Tryd.underlying40 sz40 rfl rfl rfl (resT rfl (resT rfl (resN)))) rfl) rfl rfl rfl (by decide)
          · replace h := bif_f hb19 h
            refine aw_skip ?_
            refine aq_then ?_
            refine aw_seq ?_
            refine aw_region ?_
            refine al_val (ov_move rfl rfl) ?_
            obtain ⟨r21, hc20, h⟩ := opt_some h
            refine al_call (vs := [(str r18.2.1), (Value.int .u64 (300 : Int))]) (f_lumref_numberAt_ok fu r18.2.1 (300 : Int) hc20) [] [] [0, 1] pre_nil rfl (by simp) (by decide) (.inl rfl) rfl Tryd.func113 rfl rfl rfl (fun _ => ?_)
            refine al_val (ov_move rfl rfl) ?_
            refine al_val (ov_extract rfl rfl rfl) ?_
            refine al_val (ov_extract rfl rfl rfl) ?_
            refine al_val (ov_extract rfl rfl rfl) ?_
            refine al_val (ov_assign rfl rfl) ?_
            refine al_val (ov_assign rfl rfl) ?_
            refine al_val (ov_assign rfl rfl) ?_
            refine al_nil ?_
            refine aq_then ?_
            refine aw_seq ?_
            refine aw_seq ?_
            refine aw_region ?_
            refine al_val (ov_move rfl rfl) ?_
            refine al_val (ov_int rfl rfl rfl rfl) ?_
            refine al_nil ?_
            refine aq_then ?_
            refine aw_cond rfl (fun hb22 => ?_) (fun hb22 => ?_)
            · replace h := bif_t hb22 h
              refine aw_seq ?_
              refine aw_region ?_
              refine al_val (ov_load (i := 0) (v := (ag [(str r4.1), (Value.int .i64 (IntKind.i64.wrap (En.bAt (a0.drop (r4.2.1).toNat) (0 : Int)))), (Value.int .i64 r11.1), (Value.int .i64 r14.1), (Value.int .i64 r18.1), (Value.slice none 0 0), (str ([] : List UInt8))])) rfl rfl Tryd.underlying40 sz40 rfl rfl rfl rfl) ?_
              refine al_val (ov_move rfl rfl) ?_
              refine al_store (i := 1) (vs := [(str r4.1), (Value.int .i64 (IntKind.i64.wrap (En.bAt (a0.drop (r4.2.1).toNat) (0 : Int)))), (Value.int .i64 r11.1), (Value.int .i64 r14.1), (Value.int .i64 r18.1), (Value.slice none 0 0), (str ([] : List UInt8))]) (cs' := [(str r4.1), (Value.int .i64 (IntKind.i64.wrap (En.bAt (a0.drop (r4.2.1).toNat) (0 : Int)))), (Value.int .i64 r11.1), (Value.int .i64 r14.1), (Value.int .i64 r18.1), (Value.slice none 0 0), (str ([] : List UInt8))]) rfl rfl rfl sz40 (cv_rfl rfl) rfl (co_val rfl (co_val rfl (co_val rfl (co_val rfl (co_val rfl (co_val rfl (co_val rfl co_nil))))))) (Nat.le_of_ble_eq_true rfl) rfl rfl ?_
              refine al_val (ov_assign rfl rfl) ?_
              refine al_val (ov_assign rfl rfl) ?_
              refine al_nil ?_
              refine aq_then ?_
              refine aw_ret ?_
              refine aq_then_ret ?_
              refine aq_nilD tyA8u8 ?_
              obtain rfl := Option.some.inj h
              exact fn_ret (Value.slice none 0 0) [] [0] rfl rfl rfl rfl (resC rfl (resB (i := 1) rfl rfl Tryd.underlying40 sz40 rfl rfl rfl (resT rfl (resT rfl (resN)))) rfl) rfl rfl rfl (by decide)
            · replace h := bif_f hb22 h
              refine aw_skip ?_
              refine aq_then ?_
              refine aw_seq ?_
              refine aw_seq ?_
              refine aw_region ?_
              refine al_val (ov_move rfl rfl) ?_
              refine al_val (ov_strLen Tryd.underlying9 rfl rfl) ?_
              refine al_val (ov_move rfl rfl) ?_
              refine al_val (ov_int rfl rfl rfl rfl) ?_
              refine al_val (ov_int rfl rfl rfl rfl) ?_
              refine al_nil ?_
              refine aq_then ?_
              refine aw_cond rfl (fun hb23 => ?_) (fun hb23 => ?_)
              · replace h := bif_t hb23 h
                refine aw_seq ?_
                refine aw_region ?_
                refine al_val (ov_load (i := 0) (v := (ag [(str r4.1), (Value.int .i64 (IntKind.i64.wrap (En.bAt (a0.drop (r4.2.1).toNat) (0 : Int)))), (Value.int .i64 r11.1), (Value.int .i64 r14.1), (Value.int .i64 r18.1), (Value.slice none 0 0), (str ([] : List UInt8))])) rfl rfl Tryd.underlying40 sz40 rfl rfl rfl rfl) ?_
                refine al_store (i := 1) (vs := [(str r4.1), (Value.int .i64 (IntKind.i64.wrap (En.bAt (a0.drop (r4.2.1).toNat) (0 : Int)))), (Value.int .i64 r11.1), (Value.int .i64 r14.1), (Value.int .i64 r18.1), (Value.slice none 0 0), (str ([] : List UInt8))]) (cs' := [(str r4.1), (Value.int .i64 (IntKind.i64.wrap (En.bAt (a0.drop (r4.2.1).toNat) (0 : Int)))), (Value.int .i64 r11.1), (Value.int .i64 r14.1), (Value.int .i64 r18.1), (Value.slice none 0 0), (str ([] : List UInt8))]) rfl rfl rfl sz40 (cv_rfl rfl) rfl (co_val rfl (co_val rfl (co_val rfl (co_val rfl (co_val rfl (co_val rfl (co_val rfl co_nil))))))) (Nat.le_of_ble_eq_true rfl) rfl rfl ?_
                refine al_val (ov_assign rfl rfl) ?_
                refine al_val (ov_assign rfl rfl) ?_
                refine al_nil ?_
                refine aq_then ?_
                refine aw_ret ?_
                refine aq_then_ret ?_
                refine aq_nilD tyA8u8 ?_
                obtain rfl := Option.some.inj h
                exact fn_ret (Value.slice none 0 0) [] [0] rfl rfl rfl rfl (resC rfl (resB (i := 1) rfl rfl Tryd.underlying40 sz40 rfl rfl rfl (resT rfl (resT rfl (resN)))) rfl) rfl rfl rfl (by decide)
              · replace h := bif_f hb23 h
                refine aw_skip ?_
                refine aq_then ?_
                obtain ⟨kk25, hkk25, h⟩ := lt_some h
                refine aw_seq_join (ι := (List UInt8) × Value × (List A8u8)) (fun i => (memOf w0 Z0 [] [(oBox g1 40 [(str ([] : List UInt8)), (Value.int .i64 (0 : Int)), (Value.int .i64 (0 : Int)), (Value.int .i64 (0 : Int)), (Value.int .i64 (0 : Int)), (Value.slice none 0 0), (str ([] : List UInt8))]), (oRow i.2.1 49 tyA8u8 i.2.2), (oBox g2 40 [(str r4.1), (Value.int .i64 (IntKind.i64.wrap (En.bAt (a0.drop (r4.2.1).toNat) (0 : Int)))), (Value.int .i64 r11.1), (Value.int .i64 r14.1), (Value.int .i64 r18.1), i.2.1, (str ([] : List UInt8))])] [])) (fun i => (tab [(0, (str i.1)), (2, (ptr g1 0)), (5, (ptr g2 0))])) (fun i => kk25 i.1 i.2.2 = some r) ?_ ?_
                · rintro ⟨j24s0, j24v5_5, j24x5_5⟩ h
                  have h : kk25 j24s0 j24x5_5 = some r := h
                  rw [hkk25] at h
                  dsimp only at h
                  clear hkk25
                  refine aw_show (m := (memOf w0 Z0 [] [(oBox g1 40 [(str ([] : List UInt8)), (Value.int .i64 (0 : Int)), (Value.int .i64 (0 : Int)), (Value.int .i64 (0 : Int)), (Value.int .i64 (0 : Int)), (Value.slice none 0 0), (str ([] : List UInt8))]), (oRow j24v5_5 49 tyA8u8 j24x5_5), (oBox g2 40 [(str r4.1), (Value.int .i64 (IntKind.i64.wrap (En.bAt (a0.drop (r4.2.1).toNat) (0 : Int)))), (Value.int .i64 r11.1), (Value.int .i64 r14.1), (Value.int .i64 r18.1), j24v5_5, (str ([] : List UInt8))])] [])) (S := (tab [(0, (str j24s0)), (2, (ptr g1 0)), (5, (ptr g2 0))])) ?_
                  refine aw_seq ?_
                  refine aw_seq ?_
                  refine aw_region ?_
                  refine al_val (ov_move rfl rfl) ?_
                  obtain ⟨r27, hc26, h⟩ := opt_some h
                  refine al_call (vs := [(str j24s0)]) (f_lumref_GetText_ok fu j24s0 hc26) [] [] [0, 1, 2] pre_nil rfl (by simp) (by decide) (.inl rfl) rfl Tryd.func75 rfl rfl rfl (fun _ => ?_)
                  refine al_val (ov_move rfl rfl) ?_
                  refine al_val (ov_extract rfl rfl rfl) ?_
                  refine al_val (ov_extract rfl rfl rfl) ?_
                  refine al_val (ov_extract rfl rfl rfl) ?_
                  refine al_val (ov_fieldA (p := 6) rfl Tryd.underlying40 rfl sz9 rfl rfl rfl) ?_
                  refine al_store (i := 2) (vs := [(str r27.1)]) (cs' := [(str r4.1), (Value.int .i64 (IntKind.i64.wrap (En.bAt (a0.drop (r4.2.1).toNat) (0 : Int)))), (Value.int .i64 r11.1), (Value.int .i64 r14.1), (Value.int .i64 r18.1), j24v5_5, (str r27.1)]) rfl rfl rfl sz9 (cv_rfl rfl) rfl (co_val rfl co_nil) (Nat.le_of_ble_eq_true rfl) rfl rfl ?_
                  refine al_val (ov_assign rfl rfl) ?_
                  refine al_val (ov_assign rfl rfl) ?_
                  refine al_nil ?_
                  refine aq_then ?_
                  refine aw_seq ?_
                  refine aw_region ?_
                  refine al_val (ov_move rfl rfl) ?_
                  refine al_val (ov_int rfl rfl rfl rfl) ?_
                  refine al_nil ?_
                  refine aq_then ?_
                  refine aw_cond rfl (fun hb28 => ?_) (fun hb28 => ?_)
                  · replace h := bif_t hb28 h
                    refine aw_seq ?_
                    refine aw_region ?_
                    refine al_val (ov_load (i := 2) (v := (ag [(str r4.1), (Value.int .i64 (IntKind.i64.wrap (En.bAt (a0.drop (r4.2.1).toNat) (0 : Int)))), (Value.int .i64 r11.1), (Value.int .i64 r14.1), (Value.int .i64 r18.1), j24v5_5, (str r27.1)])) rfl rfl Tryd.underlying40 sz40 rfl rfl rfl rfl) ?_
                    refine al_val (ov_move rfl rfl) ?_
                    refine al_store (i := 0) (vs := [(str r4.1), (Value.int .i64 (IntKind.i64.wrap (En.bAt (a0.drop (r4.2.1).toNat) (0 : Int)))), (Value.int .i64 r11.1), (Value.int .i64 r14.1), (Value.int .i64 r18.1), j24v5_5, (str r27.1)]) (cs' := [(str r4.1), (Value.int .i64 (IntKind.i64.wrap (En.bAt (a0.drop (r4.2.1).toNat) (0 : Int)))), (Value.int .i64 r11.1), (Value.int .i64 r14.1), (Value.int .i64 r18.1), j24v5_5, (str r27.1)]) rfl rfl rfl sz40 (cv_rfl rfl) rfl (co_val rfl (co_val rfl (co_val rfl (co_val rfl (co_val rfl (co_own 1 rfl (co_val rfl co_nil))))))) (Nat.le_of_ble_eq_true rfl) rfl rfl ?_
                    refine al_val (ov_assign rfl rfl) ?_
                    refine al_val (ov_assign rfl rfl) ?_
                    refine al_nil ?_
                    refine aq_then ?_
                    refine aw_ret ?_
                    refine aq_then_ret ?_
                    refine aq_freeze 1 rfl rfl ?_
                    obtain rfl := Option.some.inj h
                    exact fn_ret j24v5_5 [] [0] rfl rfl rfl rfl (resC rfl (resB (i := 0) rfl rfl Tryd.underlying40 sz40 rfl rfl rfl (resT rfl (resT rfl (resN)))) rfl) rfl rfl rfl (by decide)
                  · replace h := bif_f hb28 h
                    refine aw_skip ?_
                    refine aq_then ?_
                    refine aw_seq ?_
                    obtain ⟨hc29, h⟩ := req_some h
                    refine aw_region_open [⟨0, 111, Unit, fun _ => { val := (ag [(str r4.1), (Value.int .i64 (IntKind.i64.wrap (En.bAt (a0.drop (r4.2.1).toNat) (0 : Int)))), (Value.int .i64 r11.1), (Value.int .i64 r14.1), (Value.int .i64 r18.1), j24v5_5, (str r27.1)]) }⟩, ⟨1, 112, Unit, fun _ => { val := (str j24s0) }⟩, ⟨2, 113, Unit, fun _ => { val := (Value.int .i64 r27.2.1) }⟩, ⟨3, 114, Unit, fun _ => { val := (str (j24s0.drop (r27.2.1).toNat)) }⟩] (tab [(0, (str j24s0)), (2, (ptr g1 0)), (5, (ptr g2 0)), (7, (Value.int .i64 r27.2.1))]) mixed (fun a hs => hs.tab _ (allT_mem ⟨rfl, rfl, rfl, rfl, trivial⟩)) ?_
                    refine ta_show (m := (memOf w0 Z0 [] [(oBox g1 40 [(str ([] : List UInt8)), (Value.int .i64 (0 : Int)), (Value.int .i64 (0 : Int)), (Value.int .i64 (0 : Int)), (Value.int .i64 (0 : Int)), (Value.slice none 0 0), (str ([] : List UInt8))]), (oRow j24v5_5 49 tyA8u8 j24x5_5), (oBox g2 40 [(str r4.1), (Value.int .i64 (IntKind.i64.wrap (En.bAt (a0.drop (r4.2.1).toNat) (0 : Int)))), (Value.int .i64 r11.1), (Value.int .i64 r14.1), (Value.int .i64 r18.1), j24v5_5, (str r27.1)])] [])) (S := (tab [(0, (str j24s0)), (2, (ptr g1 0)), (5, (ptr g2 0)), (7, (Value.int .i64 r27.2.1))])) ?_
                    refine ta_step 4 _ [0, 1, 2, 3] [111, 112, 113, 114] [0] [] [⟨0, 111, Unit, fun _ => { val := (ag [(str r4.1), (Value.int .i64 (IntKind.i64.wrap (En.bAt (a0.drop (r4.2.1).toNat) (0 : Int)))), (Value.int .i64 r11.1), (Value.int .i64 r14.1), (Value.int .i64 r18.1), j24v5_5, (str r27.1)]) }⟩] [⟨1, 112, Unit, fun _ => { val := (str j24s0) }⟩, ⟨2, 113, Unit, fun _ => { val := (Value.int .i64 r27.2.1) }⟩, ⟨3, 114, Unit, fun _ => { val := (str (j24s0.drop (r27.2.1).toNat)) }⟩] rfl rfl rfl (by kernel_rfl) rfl rfl rfl ⟨⟨_, rfl, [], rfl, by
    intro X_ Y_ F_ K_ hK_
    refine al_show (m := Mem.plus (memOf w0 Z0 [] [(oBox g1 40 [(str ([] : List UInt8)), (Value.int .i64 (0 : Int)), (Value.int .i64 (0 : Int)), (Value.int .i64 (0 : Int)), (Value.int .i64 (0 : Int)), (Value.slice none 0 0), (str ([] : List UInt8))]), (oRow j24v5_5 49 tyA8u8 j24x5_5), (oBox g2 40 [(str r4.1), (Value.int .i64 (IntKind.i64.wrap (En.bAt (a0.drop (r4.2.1).toNat) (0 : Int)))), (Value.int .i64 r11.1), (Value.int .i64 r14.1), (Value.int .i64 r18.1), j24v5_5, (str r27.1)])] []) X_ Y_) (S := over (tab [(0, (str j24s0)), (2, (ptr g1 0)), (5, (ptr g2 0)), (7, (Value.int .i64 r27.2.1))]) F_) ?_
    refine al_val (ov_load (i := 2) (v := (ag [(str r4.1), (Value.int .i64 (IntKind.i64.wrap (En.bAt (a0.drop (r4.2.1).toNat) (0 : Int)))), (Value.int .i64 r11.1), (Value.int .i64 r14.1), (Value.int .i64 r18.1), j24v5_5, (str r27.1)])) rfl rfl Tryd.underlying40 sz40 rfl rfl rfl rfl) ?_
    refine al_nil ?_
    exact fr_fin hK_ ()⟩, ⟨_, rfl, [], rfl, by
    intro X_ Y_ F_ K_ hK_
    refine al_show (m := Mem.plus (memOf w0 Z0 [] [(oBox g1 40 [(str ([] : List UInt8)), (Value.int .i64 (0 : Int)), (Value.int .i64 (0 : Int)), (Value.int .i64 (0 : Int)), (Value.int .i64 (0 : Int)), (Value.slice none 0 0), (str ([] : List UInt8))]), (oRow j24v5_5 49 tyA8u8 j24x5_5), (oBox g2 40 [(str r4.1), (Value.int .i64 (IntKind.i64.wrap (En.bAt (a0.drop (r4.2.1).toNat) (0 : Int)))), (Value.int .i64 r11.1), (Value.int .i64 r14.1), (Value.int .i64 r18.1), j24v5_5, (str r27.1)])] []) X_ Y_) (S := over (tab [(0, (str j24s0)), (2, (ptr g1 0)), (5, (ptr g2 0)), (7, (Value.int .i64 r27.2.1))]) F_) ?_
    refine al_val (ov_move rfl rfl) ?_
    refine al_nil ?_
    exact fr_fin hK_ ()⟩, ⟨_, rfl, [], rfl, by
    intro X_ Y_ F_ K_ hK_
    refine al_show (m := Mem.plus (memOf w0 Z0 [] [(oBox g1 40 [(str ([] : List UInt8)), (Value.int .i64 (0 : Int)), (Value.int .i64 (0 : Int)), (Value.int .i64 (0 : Int)), (Value.int .i64 (0 : Int)), (Value.slice none 0 0), (str ([] : List UInt8))]), (oRow j24v5_5 49 tyA8u8 j24x5_5), (oBox g2 40 [(str r4.1), (Value.int .i64 (IntKind.i64.wrap (En.bAt (a0.drop (r4.2.1).toNat) (0 : Int)))), (Value.int .i64 r11.1), (Value.int .i64 r14.1), (Value.int .i64 r18.1), j24v5_5, (str r27.1)])] []) X_ Y_) (S := over (tab [(0, (str j24s0)), (2, (ptr g1 0)), (5, (ptr g2 0)), (7, (Value.int .i64 r27.2.1))]) F_) ?_
    refine al_val (ov_move rfl rfl) ?_
    refine al_nil ?_
    exact fr_fin hK_ ()⟩, ⟨_, rfl, [1, 2], rfl, by
    intro _
    intro _
    intro X_ Y_ F_ K_ hK_
    refine al_show (m := Mem.plus (memOf w0 Z0 [] [(oBox g1 40 [(str ([] : List UInt8)), (Value.int .i64 (0 : Int)), (Value.int .i64 (0 : Int)), (Value.int .i64 (0 : Int)), (Value.int .i64 (0 : Int)), (Value.slice none 0 0), (str ([] : List UInt8))]), (oRow j24v5_5 49 tyA8u8 j24x5_5), (oBox g2 40 [(str r4.1), (Value.int .i64 (IntKind.i64.wrap (En.bAt (a0.drop (r4.2.1).toNat) (0 : Int)))), (Value.int .i64 r11.1), (Value.int .i64 r14.1), (Value.int .i64 r18.1), j24v5_5, (str r27.1)])] []) X_ Y_) (S := over (put (put (tab [(0, (str j24s0)), (2, (ptr g1 0)), (5, (ptr g2 0)), (7, (Value.int .i64 r27.2.1))]) 112 (str j24s0)) 113 (Value.int .i64 r27.2.1)) F_) ?_
    refine al_val (ov_strFrom hc29.1 hc29.2 Tryd.underlying9 rfl rfl rfl) ?_
    refine al_nil ?_
    exact fr_fin hK_ ()⟩, trivial⟩ ?_
                    intro _
                    intro X_ Y_ F_ K_ hK_
                    refine al_show (m := Mem.plus (memOf w0 Z0 [] [(oBox g1 40 [(str ([] : List UInt8)), (Value.int .i64 (0 : Int)), (Value.int .i64 (0 : Int)), (Value.int .i64 (0 : Int)), (Value.int .i64 (0 : Int)), (Value.slice none 0 0), (str ([] : List UInt8))]), (oRow j24v5_5 49 tyA8u8 j24x5_5), (oBox g2 40 [(str r4.1), (Value.int .i64 (IntKind.i64.wrap (En.bAt (a0.drop (r4.2.1).toNat) (0 : Int)))), (Value.int .i64 r11.1), (Value.int .i64 r14.1), (Value.int .i64 r18.1), j24v5_5, (str r27.1)])] []) X_ Y_) (S := over (put (tab [(0, (str j24s0)), (2, (ptr g1 0)), (5, (ptr g2 0)), (7, (Value.int .i64 r27.2.1))]) 111 (ag [(str r4.1), (Value.int .i64 (IntKind.i64.wrap (En.bAt (a0.drop (r4.2.1).toNat) (0 : Int)))), (Value.int .i64 r11.1), (Value.int .i64 r14.1), (Value.int .i64 r18.1), j24v5_5, (str r27.1)])) F_) ?_
                    refine al_store (i := 0) (vs := [(str r4.1), (Value.int .i64 (IntKind.i64.wrap (En.bAt (a0.drop (r4.2.1).toNat) (0 : Int)))), (Value.int .i64 r11.1), (Value.int .i64 r14.1), (Value.int .i64 r18.1), j24v5_5, (str r27.1)]) (cs' := [(str r4.1), (Value.int .i64 (IntKind.i64.wrap (En.bAt (a0.drop (r4.2.1).toNat) (0 : Int)))), (Value.int .i64 r11.1), (Value.int .i64 r14.1), (Value.int .i64 r18.1), j24v5_5, (str r27.1)]) rfl rfl rfl sz40 (cv_rfl rfl) rfl (co_val rfl (co_val rfl (co_val rfl (co_val rfl (co_val rfl (co_own 1 rfl (co_val rfl co_nil))))))) (Nat.le_of_ble_eq_true rfl) rfl rfl ?_
                    refine al_nil ?_
                    refine aq_show (m := Mem.plus (memOf w0 Z0 [] [(oBox g1 40 [(str r4.1), (Value.int .i64 (IntKind.i64.wrap (En.bAt (a0.drop (r4.2.1).toNat) (0 : Int)))), (Value.int .i64 r11.1), (Value.int .i64 r14.1), (Value.int .i64 r18.1), j24v5_5, (str r27.1)]), (oRow j24v5_5 49 tyA8u8 j24x5_5), (oBox g2 40 [(str r4.1), (Value.int .i64 (IntKind.i64.wrap (En.bAt (a0.drop (r4.2.1).toNat) (0 : Int)))), (Value.int .i64 r11.1), (Value.int .i64 r14.1), (Value.int .i64 r18.1), j24v5_5, (str r27.1)])] []) X_ Y_) ?_
                    refine aq_next hK_ [0, 1, 2] [] [(0, (str j24s0)), (2, (ptr g1 0)), (7, (Value.int .i64 r27.2.1))] [112, 113, 114] [] rfl rfl (by decide) rfl ⟨rfl, rfl, rfl, trivial⟩ ⟨rfl, rfl, rfl, trivial⟩ ?_
                    clear hK_ K_ F_ X_ Y_
                    refine ta_show (m := (memOf w0 Z0 [] [(oBox g1 40 [(str r4.1), (Value.int .i64 (IntKind.i64.wrap (En.bAt (a0.drop (r4.2.1).toNat) (0 : Int)))), (Value.int .i64 r11.1), (Value.int .i64 r14.1), (Value.int .i64 r18.1), j24v5_5, (str r27.1)]), (oRow j24v5_5 49 tyA8u8 j24x5_5), (oBox g2 40 [(str r4.1), (Value.int .i64 (IntKind.i64.wrap (En.bAt (a0.drop (r4.2.1).toNat) (0 : Int)))), (Value.int .i64 r11.1), (Value.int .i64 r14.1), (Value.int .i64 r18.1), j24v5_5, (str r27.1)])] [])) (S := (tab [(0, (str j24s0)), (2, (ptr g1 0)), (7, (Value.int .i64 r27.2.1))])) ?_
                    refine ta_step 5 _ [1, 2, 3] [112, 113, 114] [1, 2, 3] [] [⟨1, 112, Unit, fun _ => { val := (str j24s0) }⟩, ⟨2, 113, Unit, fun _ => { val := (Value.int .i64 r27.2.1) }⟩, ⟨3, 114, Unit, fun _ => { val := (str (j24s0.drop (r27.2.1).toNat)) }⟩] [] rfl rfl rfl (by kernel_rfl) rfl rfl rfl ⟨⟨_, rfl, [], rfl, by
    intro X_ Y_ F_ K_ hK_
    refine al_show (m := Mem.plus (memOf w0 Z0 [] [(oBox g1 40 [(str r4.1), (Value.int .i64 (IntKind.i64.wrap (En.bAt (a0.drop (r4.2.1).toNat) (0 : Int)))), (Value.int .i64 r11.1), (Value.int .i64 r14.1), (Value.int .i64 r18.1), j24v5_5, (str r27.1)]), (oRow j24v5_5 49 tyA8u8 j24x5_5), (oBox g2 40 [(str r4.1), (Value.int .i64 (IntKind.i64.wrap (En.bAt (a0.drop (r4.2.1).toNat) (0 : Int)))), (Value.int .i64 r11.1), (Value.int .i64 r14.1), (Value.int .i64 r18.1), j24v5_5, (str r27.1)])] []) X_ Y_) (S := over (tab [(0, (str j24s0)), (2, (ptr g1 0)), (7, (Value.int .i64 r27.2.1))]) F_) ?_
    refine al_val (ov_move rfl rfl) ?_
    refine al_nil ?_
    exact fr_fin hK_ ()⟩, ⟨_, rfl, [], rfl, by
    intro X_ Y_ F_ K_ hK_
    refine al_show (m := Mem.plus (memOf w0 Z0 [] [(oBox g1 40 [(str r4.1), (Value.int .i64 (IntKind.i64.wrap (En.bAt (a0.drop (r4.2.1).toNat) (0 : Int)))), (Value.int .i64 r11.1), (Value.int .i64 r14.1), (Value.int .i64 r18.1), j24v5_5, (str r27.1)]), (oRow j24v5_5 49 tyA8u8 j24x5_5), (oBox g2 40 [(str r4.1), (Value.int .i64 (IntKind.i64.wrap (En.bAt (a0.drop (r4.2.1).toNat) (0 : Int)))), (Value.int .i64 r11.1), (Value.int .i64 r14.1), (Value.int .i64 r18.1), j24v5_5, (str r27.1)])] []) X_ Y_) (S := over (tab [(0, (str j24s0)), (2, (ptr g1 0)), (7, (Value.int .i64 r27.2.1))]) F_) ?_
    refine al_val (ov_move rfl rfl) ?_
    refine al_nil ?_
    exact fr_fin hK_ ()⟩, ⟨_, rfl, [0, 1], rfl, by
    intro _
    intro _
    intro X_ Y_ F_ K_ hK_
    refine al_show (m := Mem.plus (memOf w0 Z0 [] [(oBox g1 40 [(str r4.1), (Value.int .i64 (IntKind.i64.wrap (En.bAt (a0.drop (r4.2.1).toNat) (0 : Int)))), (Value.int .i64 r11.1), (Value.int .i64 r14.1), (Value.int .i64 r18.1), j24v5_5, (str r27.1)]), (oRow j24v5_5 49 tyA8u8 j24x5_5), (oBox g2 40 [(str r4.1), (Value.int .i64 (IntKind.i64.wrap (En.bAt (a0.drop (r4.2.1).toNat) (0 : Int)))), (Value.int .i64 r11.1), (Value.int .i64 r14.1), (Value.int .i64 r18.1), j24v5_5, (str r27.1)])] []) X_ Y_) (S := over (put (put (tab [(0, (str j24s0)), (2, (ptr g1 0)), (7, (Value.int .i64 r27.2.1))]) 112 (str j24s0)) 113 (Value.int .i64 r27.2.1)) F_) ?_
    refine al_val (ov_strFrom hc29.1 hc29.2 Tryd.underlying9 rfl rfl rfl) ?_
    refine al_nil ?_
    exact fr_fin hK_ ()⟩, trivial⟩ ?_
                    intro _
                    intro _
                    intro _
                    intro X_ Y_ F_ K_ hK_
                    refine al_show (m := Mem.plus (memOf w0 Z0 [] [(oBox g1 40 [(str r4.1), (Value.int .i64 (IntKind.i64.wrap (En.bAt (a0.drop (r4.2.1).toNat) (0 : Int)))), (Value.int .i64 r11.1), (Value.int .i64 r14.1), (Value.int .i64 r18.1), j24v5_5, (str r27.1)]), (oRow j24v5_5 49 tyA8u8 j24x5_5), (oBox g2 40 [(str r4.1), (Value.int .i64 (IntKind.i64.wrap (En.bAt (a0.drop (r4.2.1).toNat) (0 : Int)))), (Value.int .i64 r11.1), (Value.int .i64 r14.1), (Value.int .i64 r18.1), j24v5_5, (str r27.1)])] []) X_ Y_) (S := over (put (put (put (tab [(0, (str j24s0)), (2, (ptr g1 0)), (7, (Value.int .i64 r27.2.1))]) 112 (str j24s0)) 113 (Value.int .i64 r27.2.1)) 114 (str (j24s0.drop (r27.2.1).toNat))) F_) ?_
                    refine al_val (ov_assign rfl rfl) ?_
                    refine al_nil ?_
                    refine aq_show (m := Mem.plus (memOf w0 Z0 [] [(oBox g1 40 [(str r4.1), (Value.int .i64 (IntKind.i64.wrap (En.bAt (a0.drop (r4.2.1).toNat) (0 : Int)))), (Value.int .i64 r11.1), (Value.int .i64 r14.1), (Value.int .i64 r18.1), j24v5_5, (str r27.1)]), (oRow j24v5_5 49 tyA8u8 j24x5_5), (oBox g2 40 [(str r4.1), (Value.int .i64 (IntKind.i64.wrap (En.bAt (a0.drop (r4.2.1).toNat) (0 : Int)))), (Value.int .i64 r11.1), (Value.int .i64 r14.1), (Value.int .i64 r18.1), j24v5_5, (str r27.1)])] []) X_ Y_) ?_
                    refine aq_next hK_ [0, 1, 2] [] [(2, (ptr g1 0)), (3, (str (j24s0.drop (r27.2.1).toNat)))] [] [] rfl rfl (by decide) rfl ⟨rfl, rfl, trivial⟩ trivial ?_
                    clear hK_ K_ F_ X_ Y_
                    refine ta_show (m := (memOf w0 Z0 [] [(oBox g1 40 [(str r4.1), (Value.int .i64 (IntKind.i64.wrap (En.bAt (a0.drop (r4.2.1).toNat) (0 : Int)))), (Value.int .i64 r11.1), (Value.int .i64 r14.1), (Value.int .i64 r18.1), j24v5_5, (str r27.1)]), (oRow j24v5_5 49 tyA8u8 j24x5_5), (oBox g2 40 [(str r4.1), (Value.int .i64 (IntKind.i64.wrap (En.bAt (a0.drop (r4.2.1).toNat) (0 : Int)))), (Value.int .i64 r11.1), (Value.int .i64 r14.1), (Value.int .i64 r18.1), j24v5_5, (str r27.1)])] [])) (S := (tab [(2, (ptr g1 0)), (3, (str (j24s0.drop (r27.2.1).toNat)))])) ?_
                    refine ta_step 6 _ [] [] [] [] [] [] rfl rfl rfl (by kernel_rfl) rfl rfl rfl trivial ?_
                    intro X_ Y_ F_ K_ hK_
                    refine al_show (m := Mem.plus (memOf w0 Z0 [] [(oBox g1 40 [(str r4.1), (Value.int .i64 (IntKind.i64.wrap (En.bAt (a0.drop (r4.2.1).toNat) (0 : Int)))), (Value.int .i64 r11.1), (Value.int .i64 r14.1), (Value.int .i64 r18.1), j24v5_5, (str r27.1)]), (oRow j24v5_5 49 tyA8u8 j24x5_5), (oBox g2 40 [(str r4.1), (Value.int .i64 (IntKind.i64.wrap (En.bAt (a0.drop (r4.2.1).toNat) (0 : Int)))), (Value.int .i64 r11.1), (Value.int .i64 r14.1), (Value.int .i64 r18.1), j24v5_5, (str r27.1)])] []) X_ Y_) (S := over (tab [(2, (ptr g1 0)), (3, (str (j24s0.drop (r27.2.1).toNat)))]) F_) ?_
                    refine al_val (ov_assign rfl rfl) ?_
                    refine al_nil ?_
                    refine aq_show (m := Mem.plus (memOf w0 Z0 [] [(oBox g1 40 [(str r4.1), (Value.int .i64 (IntKind.i64.wrap (En.bAt (a0.drop (r4.2.1).toNat) (0 : Int)))), (Value.int .i64 r11.1), (Value.int .i64 r14.1), (Value.int .i64 r18.1), j24v5_5, (str r27.1)]), (oRow j24v5_5 49 tyA8u8 j24x5_5), (oBox g2 40 [(str r4.1), (Value.int .i64 (IntKind.i64.wrap (En.bAt (a0.drop (r4.2.1).toNat) (0 : Int)))), (Value.int .i64 r11.1), (Value.int .i64 r14.1), (Value.int .i64 r18.1), j24v5_5, (str r27.1)])] []) X_ Y_) ?_
                    refine aq_next hK_ [0, 1, 2] [] [(2, (ptr g1 0)), (3, (str (j24s0.drop (r27.2.1).toNat))), (4, (Value.int .i64 (0 : Int)))] [] [] rfl rfl (by decide) rfl ⟨rfl, rfl, rfl, trivial⟩ trivial ?_
                    clear hK_ K_ F_ X_ Y_
                    refine ta_show (m := (memOf w0 Z0 [] [(oBox g1 40 [(str r4.1), (Value.int .i64 (IntKind.i64.wrap (En.bAt (a0.drop (r4.2.1).toNat) (0 : Int)))), (Value.int .i64 r11.1), (Value.int .i64 r14.1), (Value.int .i64 r18.1), j24v5_5, (str r27.1)]), (oRow j24v5_5 49 tyA8u8 j24x5_5), (oBox g2 40 [(str r4.1), (Value.int .i64 (IntKind.i64.wrap (En.bAt (a0.drop (r4.2.1).toNat) (0 : Int)))), (Value.int .i64 r11.1), (Value.int .i64 r14.1), (Value.int .i64 r18.1), j24v5_5, (str r27.1)])] [])) (S := (tab [(2, (ptr g1 0)), (3, (str (j24s0.drop (r27.2.1).toNat))), (4, (Value.int .i64 (0 : Int)))])) ?_
                    refine ta_end [] [] rfl rfl (by kernel_rfl) rfl trivial ?_
                    refine aq_show (m := (memOf w0 Z0 [] [(oBox g1 40 [(str r4.1), (Value.int .i64 (IntKind.i64.wrap (En.bAt (a0.drop (r4.2.1).toNat) (0 : Int)))), (Value.int .i64 r11.1), (Value.int .i64 r14.1), (Value.int .i64 r18.1), j24v5_5, (str r27.1)]), (oRow j24v5_5 49 tyA8u8 j24x5_5), (oBox g2 40 [(str r4.1), (Value.int .i64 (IntKind.i64.wrap (En.bAt (a0.drop (r4.2.1).toNat) (0 : Int)))), (Value.int .i64 r11.1), (Value.int .i64 r14.1), (Value.int .i64 r18.1), j24v5_5, (str r27.1)])] [])) (S := (tab [(2, (ptr g1 0)), (3, (str (j24s0.drop (r27.2.1).toNat))), (4, (Value.int .i64 (0 : Int)))])) ?_
                    refine aq_then ?_
                    refine aw_ret ?_
                    refine aq_freeze 1 rfl rfl ?_
                    obtain rfl := Option.some.inj h
                    exact fn_ret j24v5_5 [] [0] rfl rfl rfl rfl (resC rfl (resB (i := 0) rfl rfl Tryd.underlying40 sz40 rfl rfl rfl (resT rfl (resT rfl (resN)))) rfl) rfl rfl rfl (by decide)
                · clear hkk25
                  refine aw_seq ?_
                  refine aw_region ?_
                  refine al_val (ov_move rfl rfl) ?_
                  refine al_val (ov_move rfl rfl) ?_
                  refine al_nil ?_
                  refine aq_then ?_
                  refine aw_block ?_
                  refine aw_nilR 49 tyA8u8 ?_
                  refine aw_state (aw_loop (ι := (List UInt8) × Value × (List A8u8) × Int) (fun i => (memOf w0 Z0 [] [(oBox g1 40 [(str ([] : List UInt8)), (Value.int .i64 (0 : Int)), (Value.int .i64 (0 : Int)), (Value.int .i64 (0 : Int)), (Value.int .i64 (0 : Int)), (Value.slice none 0 0), (str ([] : List UInt8))]), (oRow i.2.1 49 tyA8u8 i.2.2.1), (oBox g2 40 [(str r4.1), (Value.int .i64 (IntKind.i64.wrap (En.bAt (a0.drop (r4.2.1).toNat) (0 : Int)))), (Value.int .i64 r11.1), (Value.int .i64 r14.1), (Value.int .i64 r18.1), i.2.1, (str ([] : List UInt8))])] [])) (fun i => (tab [(0, (str i.1)), (2, (ptr g1 0)), (5, (ptr g2 0)), (84, (Value.int .i64 r21.1)), (85, (Value.int .i64 i.2.2.2))])) (fun q i => f_lumref_nodeRead_L32 r21 kk25 q i.1 i.2.2.1 i.2.2.2 = some r) ?_ fu (r21.2.1, (Value.slice none 0 0), ([] : List A8u8), (0 : Int)) h) (fun w a hm hs => norm hm hs [2, 0, 1] [] [(0, (str r21.2.1)), (2, (ptr g1 0)), (5, (ptr g2 0)), (84, (Value.int .i64 r21.1)), (85, (Value.int .i64 (0 : Int)))] (by decide) ⟨rfl, rfl, rfl, rfl, rfl, trivial⟩)
                  clear h
                  rintro k31 ⟨l30s0, l30v5_5, l30x5_5, l30i85⟩ h
                  have h : f_lumref_nodeRead_L32 r21 kk25 k31 l30s0 l30x5_5 l30i85 = some r := h
                  obtain _ | k31 := k31
                  · rw [f_lumref_nodeRead_L32] at h; cases h
                  rw [f_lumref_nodeRead_L32] at h
                  refine aw_show (m := (memOf w0 Z0 [] [(oBox g1 40 [(str ([] : List UInt8)), (Value.int .i64 (0 : Int)), (Value.int .i64 (0 : Int)), (Value.int .i64 (0 : Int)), (Value.int .i64 (0 : Int)), (Value.slice none 0 0), (str ([] : List UInt8))]), (oRow l30v5_5 49 tyA8u8 l30x5_5), (oBox g2 40 [(str r4.1), (Value.int .i64 (IntKind.i64.wrap (En.bAt (a0.drop (r4.2.1).toNat) (0 : Int)))), (Value.int .i64 r11.1), (Value.int .i64 r14.1), (Value.int .i64 r18.1), l30v5_5, (str ([] : List UInt8))])] [])) (S := (tab [(0, (str l30s0)), (2, (ptr g1 0)), (5, (ptr g2 0)), (84, (Value.int .i64 r21.1)), (85, (Value.int .i64 l30i85))])) ?_
                  refine aw_seq ?_
                  refine aw_region ?_
                  refine al_val (ov_int rfl rfl rfl rfl) ?_
                  refine al_nil ?_
                  refine aq_then ?_
                  refine aw_seq ?_
                  refine aw_cond rfl (fun hb33 => ?_) (fun hb33 => ?_)
                  · replace h := bif_t hb33 h
                    refine aw_skip ?_
                    refine aq_then ?_
                    refine aw_seq ?_
                    refine aw_block ?_
                    refine aw_seq ?_
                    obtain ⟨hc34, h⟩ := req_some h
                    obtain ⟨hc35, h⟩ := req_some h
                    obtain ⟨hc38, h⟩ := req_some h
                    refine aw_region_open [⟨0, 87, Unit, fun _ => { val := (ptr g2 5) }⟩, ⟨1, 88, Unit, fun _ => { val := l30v5_5 }⟩, ⟨2, 89, Unit, fun _ => { val := (str l30s0) }⟩, ⟨3, 90, Unit, fun _ => { val := (str (l30s0.take ((8 : Int)).toNat)) }⟩, ⟨4, 91, Value, fun (i : Value) => { val := i, fz := [(fDat (tyList tyU8) [i] (l30s0.take ((8 : Int)).toNat))] }⟩, ⟨5, 92, Value, fun (i : Value) => { val := i, fz := [(fPtr tyA8u8 i (ofA8u8 (l30s0.take ((8 : Int)).toNat)))] }⟩, ⟨6, 93, Unit, fun _ => { val := (ag (cA8u8 (ofA8u8 (l30s0.take ((8 : Int)).toNat)))) }⟩, ⟨7, 94, Value, fun (i : Value) => { val := i, fz := [(fDat (tyList tyA8u8) [i] [(ofA8u8 (l30s0.take ((8 : Int)).toNat))])] }⟩] (tab [(0, (str l30s0)), (2, (ptr g1 0)), (5, (ptr g2 0)), (84, (Value.int .i64 r21.1)), (85, (Value.int .i64 l30i85))]) mixed (fun a hs => hs.tab _ (allT_mem ⟨rfl, rfl, rfl, rfl, rfl, trivial⟩)) ?_
                    refine ta_show (m := (memOf w0 Z0 [] [(oBox g1 40 [(str ([] : List UInt8)), (Value.int .i64 (0 : Int)), (Value.int .i64 (0 : Int)), (Value.int .i64 (0 : Int)), (Value.int .i64 (0 : Int)), (Value.slice none 0 0), (str ([] : List UInt8))]), (oRow l30v5_5 49 tyA8u8 l30x5_5), (oBox g2 40 [(str r4.1), (Value.int .i64 (IntKind.i64.wrap (En.bAt (a0.drop (r4.2.1).toNat) (0 : Int)))), (Value.int .i64 r11.1), (Value.int .i64 r14.1), (Value.int .i64 r18.1), l30v5_5, (str ([] : List UInt8))])] [])) (S := (tab [(0, (str l30s0)), (2, (ptr g1 0)), (5, (ptr g2 0)), (84, (Value.int .i64 r21.1)), (85, (Value.int .i64 l30i85))])) ?_
                    refine ta_step 8 _ [0, 1, 2, 3, 4, 5, 6, 7] [87, 88, 89, 90, 91, 92, 93, 94] [0, 1, 2, 3, 4, 5, 6, 7] [9] [⟨0, 87, Unit, fun _ => { val := (ptr g2 5) }⟩, ⟨1, 88, Unit, fun _ => { val := l30v5_5 }⟩, ⟨2, 89, Unit, fun _ => { val := (str l30s0) }⟩, ⟨3, 90, Unit, fun _ => { val := (str (l30s0.take ((8 : Int)).toNat)) }⟩, ⟨4, 91, Value, fun (i : Value) => { val := i, fz := [(fDat (tyList tyU8) [i] (l30s0.take ((8 : Int)).toNat))] }⟩, ⟨5, 92, Value, fun (i : Value) => { val := i, fz := [(fPtr tyA8u8 i (ofA8u8 (l30s0.take ((8 : Int)).toNat)))] }⟩, ⟨6, 93, Unit, fun _ => { val := (ag (cA8u8 (ofA8u8 (l30s0.take ((8 : Int)).toNat)))) }⟩, ⟨7, 94, Value, fun (i : Value) => { val := i, fz := [(fDat (tyList tyA8u8) [i] [(ofA8u8 (l30s0.take ((8 : Int)).toNat))])] }⟩] [] rfl rfl rfl (by kernel_rfl) rfl rfl rfl ⟨⟨_, rfl, [], rfl, by
    intro X_ Y_ F_ K_ hK_
    refine al_show (m := Mem.plus (memOf w0 Z0 [] [(oBox g1 40 [(str ([] : List UInt8)), (Value.int .i64 (0 : Int)), (Value.int .i64 (0 : Int)), (Value.int .i64 (0 : Int)), (Value.int .i64 (0 : Int)), (Value.slice none 0 0), (str ([] : List UInt8))]), (oRow l30v5_5 49 tyA8u8 l30x5_5), (oBox g2 40 [(str r4.1), (Value.int .i64 (IntKind.i64.wrap (En.bAt (a0.drop (r4.2.1).toNat) (0 : Int)))), (Value.int .i64 r11.1), (Value.int .i64 r14.1), (Value.int .i64 r18.1), l30v5_5, (str ([] : List UInt8))])] []) X_ Y_) (S := over (tab [(0, (str l30s0)), (2, (ptr g1 0)), (5, (ptr g2 0)), (84, (Value.int .i64 r21.1)), (85, (Value.int .i64 l30i85))]) F_) ?_
    refine al_val (ov_fieldA (p := 5) rfl Tryd.underlying40 rfl sz38 rfl rfl rfl) ?_
    refine al_nil ?_
    exact fr_fin hK_ ()⟩, ⟨_, rfl, [0], rfl, by
    intro _
    intro X_ Y_ F_ K_ hK_
    refine al_show (m := Mem.plus (memOf w0 Z0 [] [(oBox g1 40 [(str ([] : List UInt8)), (Value.int .i64 (0 : Int)), (Value.int .i64 (0 : Int)), (Value.int .i64 (0 : Int)), (Value.int .i64 (0 : Int)), (Value.slice none 0 0), (str ([] : List UInt8))]), (oRow l30v5_5 49 tyA8u8 l30x5_5), (oBox g2 40 [(str r4.1), (Value.int .i64 (IntKind.i64.wrap (En.bAt (a0.drop (r4.2.1).toNat) (0 : Int)))), (Value.int .i64 r11.1), (Value.int .i64 r14.1), (Value.int .i64 r18.1), l30v5_5, (str ([] : List UInt8))])] []) X_ Y_) (S := over (put (tab [(0, (str l30s0)), (2, (ptr g1 0)), (5, (ptr g2 0)), (84, (Value.int .i64 r21.1)), (85, (Value.int .i64 l30i85))]) 87 (ptr g2 5)) F_) ?_
    refine al_val (ov_load (i := 2) (v := l30v5_5) rfl rfl Tryd.underlying38 sz38 rfl rfl rfl rfl) ?_
    refine al_nil ?_
    exact fr_fin hK_ ()⟩, ⟨_, rfl, [], rfl, by
    intro X_ Y_ F_ K_ hK_
    refine al_show (m := Mem.plus (memOf w0 Z0 [] [(oBox g1 40 [(str ([] : List UInt8)), (Value.int .i64 (0 : Int)), (Value.int .i64 (0 : Int)), (Value.int .i64 (0 : Int)), (Value.int .i64 (0 : Int)), (Value.slice none 0 0), (str ([] : List UInt8))]), (oRow l30v5_5 49 tyA8u8 l30x5_5), (oBox g2 40 [(str r4.1), (Value.int .i64 (IntKind.i64.wrap (En.bAt (a0.drop (r4.2.1).toNat) (0 : Int)))), (Value.int .i64 r11.1), (Value.int .i64 r14.1), (Value.int .i64 r18.1), l30v5_5, (str ([] : List UInt8))])] []) X_ Y_) (S := over (tab [(0, (str l30s0)), (2, (ptr g1 0)), (5, (ptr g2 0)), (84, (Value.int .i64 r21.1)), (85, (Value.int .i64 l30i85))]) F_) ?_
    refine al_val (ov_move rfl rfl) ?_
    refine al_nil ?_
    exact fr_fin hK_ ()⟩, ⟨_, rfl, [2], rfl, by
    intro _
    intro X_ Y_ F_ K_ hK_
    refine al_show (m := Mem.plus (memOf w0 Z0 [] [(oBox g1 40 [(str ([] : List UInt8)), (Value.int .i64 (0 : Int)), (Value.int .i64 (0 : Int)), (Value.int .i64 (0 : Int)), (Value.int .i64 (0 : Int)), (Value.slice none 0 0), (str ([] : List UInt8))]), (oRow l30v5_5 49 tyA8u8 l30x5_5), (oBox g2 40 [(str r4.1), (Value.int .i64 (IntKind.i64.wrap (En.bAt (a0.drop (r4.2.1).toNat) (0 : Int)))), (Value.int .i64 r11.1), (Value.int .i64 r14.1), (Value.int .i64 r18.1), l30v5_5, (str ([] : List UInt8))])] []) X_ Y_) (S := over (put (tab [(0, (str l30s0)), (2, (ptr g1 0)), (5, (ptr g2 0)), (84, (Value.int .i64 r21.1)), (85, (Value.int .i64 l30i85))]) 89 (str l30s0)) F_) ?_
    refine al_val (ov_strTo hc34.1 hc34.2 Tryd.underlying9 rfl rfl rfl) ?_
    refine al_nil ?_
    exact fr_fin hK_ ()⟩, ⟨_, rfl, [3], rfl, by
    intro _
    intro X_ Y_ F_ K_ hK_
    refine al_show (m := Mem.plus (memOf w0 Z0 [] [(oBox g1 40 [(str ([] : List UInt8)), (Value.int .i64 (0 : Int)), (Value.int .i64 (0 : Int)), (Value.int .i64 (0 : Int)), (Value.int .i64 (0 : Int)), (Value.slice none 0 0), (str ([] : List UInt8))]), (oRow l30v5_5 49 tyA8u8 l30x5_5), (oBox g2 40 [(str r4.1), (Value.int .i64 (IntKind.i64.wrap (En.bAt (a0.drop (r4.2.1).toNat) (0 : Int)))), (Value.int .i64 r11.1), (Value.int .i64 r14.1), (Value.int .i64 r18.1), l30v5_5, (str ([] : List UInt8))])] []) X_ Y_) (S := over (put (tab [(0, (str l30s0)), (2, (ptr g1 0)), (5, (ptr g2 0)), (84, (Value.int .i64 r21.1)), (85, (Value.int .i64 l30i85))]) 90 (str (l30s0.take ((8 : Int)).toNat))) F_) ?_
    refine al_bytes hc35 rfl Tryd.underlying9 Tryd.underlying89 Tryd.underlying5 rfl (fun s36 => ?_)
    refine al_nil ?_
    exact fr_fin hK_ s36⟩, ⟨_, rfl, [4], rfl, by
    intro s36
    intro X_ Y_ F_ K_ hK_
    refine al_show (m := Mem.plus (memOf w0 Z0 [] [(oBox g1 40 [(str ([] : List UInt8)), (Value.int .i64 (0 : Int)), (Value.int .i64 (0 : Int)), (Value.int .i64 (0 : Int)), (Value.int .i64 (0 : Int)), (Value.slice none 0 0), (str ([] : List UInt8))]), (oRow l30v5_5 49 tyA8u8 l30x5_5), (oBox g2 40 [(str r4.1), (Value.int .i64 (IntKind.i64.wrap (En.bAt (a0.drop (r4.2.1).toNat) (0 : Int)))), (Value.int .i64 r11.1), (Value.int .i64 r14.1), (Value.int .i64 r18.1), l30v5_5, (str ([] : List UInt8))])] [(fDat (tyList tyU8) [s36] (l30s0.take ((8 : Int)).toNat))]) X_ Y_) (S := over (put (tab [(0, (str l30s0)), (2, (ptr g1 0)), (5, (ptr g2 0)), (84, (Value.int .i64 r21.1)), (85, (Value.int .i64 l30i85))]) 91 s36) F_) ?_
    refine al_s2ap (τA := tyA8u8) (x := (ofA8u8 (l30s0.take ((8 : Int)).toNat))) 0 8 hc38 rfl (fun h9 => oflA8u8 hc38 h9) rfl rfl Tryd.underlying49 rfl (fun p37 => ?_)
    refine al_nil ?_
    exact fr_fin hK_ p37⟩, ⟨_, rfl, [5], rfl, by
    intro p37
    intro X_ Y_ F_ K_ hK_
    refine al_show (m := Mem.plus (memOf w0 Z0 [] [(oBox g1 40 [(str ([] : List UInt8)), (Value.int .i64 (0 : Int)), (Value.int .i64 (0 : Int)), (Value.int .i64 (0 : Int)), (Value.int .i64 (0 : Int)), (Value.slice none 0 0), (str ([] : List UInt8))]), (oRow l30v5_5 49 tyA8u8 l30x5_5), (oBox g2 40 [(str r4.1), (Value.int .i64 (IntKind.i64.wrap (En.bAt (a0.drop (r4.2.1).toNat) (0 : Int)))), (Value.int .i64 r11.1), (Value.int .i64 r14.1), (Value.int .i64 r18.1), l30v5_5, (str ([] : List UInt8))])] [(fPtr tyA8u8 p37 (ofA8u8 (l30s0.take ((8 : Int)).toNat)))]) X_ Y_) (S := over (put (tab [(0, (str l30s0)), (2, (ptr g1 0)), (5, (ptr g2 0)), (84, (Value.int .i64 r21.1)), (85, (Value.int .i64 l30i85))]) 92 p37) F_) ?_
    refine al_val (ov_loadP (ds := (cA8u8 (ofA8u8 (l30s0.take ((8 : Int)).toNat)))) 0 rfl encA8u8 rfl Tryd.underlying49 sz49 rfl rfl rfl) ?_
    refine al_nil ?_
    exact fr_fin hK_ ()⟩, ⟨_, rfl, [6], rfl, by
    intro _
    intro X_ Y_ F_ K_ hK_
    refine al_show (m := Mem.plus (memOf w0 Z0 [] [(oBox g1 40 [(str ([] : List UInt8)), (Value.int .i64 (0 : Int)), (Value.int .i64 (0 : Int)), (Value.int .i64 (0 : Int)), (Value.int .i64 (0 : Int)), (Value.slice none 0 0), (str ([] : List UInt8))]), (oRow l30v5_5 49 tyA8u8 l30x5_5), (oBox g2 40 [(str r4.1), (Value.int .i64 (IntKind.i64.wrap (En.bAt (a0.drop (r4.2.1).toNat) (0 : Int)))), (Value.int .i64 r11.1), (Value.int .i64 r14.1), (Value.int .i64 r18.1), l30v5_5, (str ([] : List UInt8))])] []) X_ Y_) (S := over (put (tab [(0, (str l30s0)), (2, (ptr g1 0)), (5, (ptr g2 0)), (84, (Value.int .i64 r21.1)), (85, (Value.int .i64 l30i85))]) 93 (ag (cA8u8 (ofA8u8 (l30s0.take ((8 : Int)).toNat))))) F_) ?_
    refine al_buildSlice (τ := tyA8u8) (e := 49) (k := 1) (sz := 0) (by_ := 0) (z := undef) (cs := (cA8u8 (ofA8u8 (l30s0.take ((8 : Int)).toNat)))) (xs := [(ofA8u8 (l30s0.take ((8 : Int)).toNat))]) rfl (by decide) (fun w a hm hs => ⟨((cA8u8 (ofA8u8 (l30s0.take ((8 : Int)).toNat)))).toArray, rfl, by simp only [List.map_toArray, List.map_cons, List.map_nil, hs.ev (x := .tmp 93) rfl]; exact run_bs [(ag (cA8u8 (ofA8u8 (l30s0.take ((8 : Int)).toNat))))] (cA8u8 (ofA8u8 (l30s0.take ((8 : Int)).toNat))) Tryd.underlying38 to49 rfl rfl (bs_cons (l := (cA8u8 (ofA8u8 (l30s0.take ((8 : Int)).toNat)))) (cs := []) (cv_rfl rfl) rfl bs_nil) hm⟩) (fun hm => ⟨_, _, rfl, (fun _ => mkA8u8 rfl) hm, rfl⟩) rfl (fun v39 => ?_)
    refine al_freeze 0 rfl rfl ?_
    refine al_nil ?_
    exact fr_fin hK_ v39⟩, trivial⟩ ?_
                    intro _
                    intro _
                    intro _
                    intro _
                    intro s36
                    intro p37
                    intro _
                    intro v39
                    intro X_ Y_ F_ K_ hK_
                    refine al_show (m := Mem.plus (memOf w0 Z0 [] [(oBox g1 40 [(str ([] : List UInt8)), (Value.int .i64 (0 : Int)), (Value.int .i64 (0 : Int)), (Value.int .i64 (0 : Int)), (Value.int .i64 (0 : Int)), (Value.slice none 0 0), (str ([] : List UInt8))]), (oRow l30v5_5 49 tyA8u8 l30x5_5), (oBox g2 40 [(str r4.1), (Value.int .i64 (IntKind.i64.wrap (En.bAt (a0.drop (r4.2.1).toNat) (0 : Int)))), (Value.int .i64 r11.1), (Value.int .i64 r14.1), (Value.int .i64 r18.1), l30v5_5, (str ([] : List UInt8))])] [(fDat (tyList tyA8u8) [v39] [(ofA8u8 (l30s0.take ((8 : Int)).toNat))]), (fPtr tyA8u8 p37 (ofA8u8 (l30s0.take ((8 : Int)).toNat))), (fDat (tyList tyU8) [s36] (l30s0.take ((8 : Int)).toNat))]) X_ Y_) (S := over (put (put (put (put (put (put (put (put (tab [(0, (str l30s0)), (2, (ptr g1 0)), (5, (ptr g2 0)), (84, (Value.int .i64 r21.1)), (85, (Value.int .i64 l30i85))]) 87 (ptr g2 5)) 88 l30v5_5) 89 (str l30s0)) 90 (str (l30s0.take ((8 : Int)).toNat))) 91 s36) 92 p37) 93 (ag (cA8u8 (ofA8u8 (l30s0.take ((8 : Int)).toNat))))) 94 v39) F_) ?_
                    obtain ⟨hc40, h⟩ := req_some h
                    refine al_append 1 hc40.1 hc40.2 rfl (src_dat (i := 1) 0 rfl) rfl rfl Tryd.underlying38 to49 rfl rfl rfl (fun v41 => ?_)
                    refine al_nil ?_
                    refine aq_show (m := Mem.plus (memOf w0 Z0 [] [(oBox g1 40 [(str ([] : List UInt8)), (Value.int .i64 (0 : Int)), (Value.int .i64 (0 : Int)), (Value.int .i64 (0 : Int)), (Value.int .i64 (0 : Int)), (Value.slice none 0 0), (str ([] : List UInt8))]), (oRow v41 49 tyA8u8 (l30x5_5 ++ ([(ofA8u8 (l30s0.take ((8 : Int)).toNat))]))), (oBox g2 40 [(str r4.1), (Value.int .i64 (IntKind.i64.wrap (En.bAt (a0.drop (r4.2.1).toNat) (0 : Int)))), (Value.int .i64 r11.1), (Value.int .i64 r14.1), (Value.int .i64 r18.1), l30v5_5, (str ([] : List UInt8))])] [(fDat (tyList tyA8u8) [v39] [(ofA8u8 (l30s0.take ((8 : Int)).toNat))]), (fPtr tyA8u8 p37 (ofA8u8 (l30s0.take ((8 : Int)).toNat))), (fDat (tyList tyU8) [s36] (l30s0.take ((8 : Int)).toNat))]) X_ Y_) ?_
                    refine aq_next hK_ [0, 1, 2] [] [(0, (str l30s0)), (2, (ptr g1 0)), (5, (ptr g2 0)), (84, (Value.int .i64 r21.1)), (85, (Value.int .i64 l30i85)), (95, v41)] [] [⟨9, 96, Unit, fun _ => { val := (ptr g2 5) }⟩] rfl rfl (by decide) rfl ⟨rfl, rfl, rfl, rfl, rfl, rfl, trivial⟩ trivial ?_
                    clear hK_ K_ F_ X_ Y_
                    refine ta_show (m := (memOf w0 Z0 [] [(oBox g1 40 [(str ([] : List UInt8)), (Value.int .i64 (0 : Int)), (Value.int .i64 (0 : Int)), (Value.int .i64 (0 : Int)), (Value.int .i64 (0 : Int)), (Value.slice none 0 0), (str ([] : List UInt8))]), (oRow v41 49 tyA8u8 (l30x5_5 ++ ([(ofA8u8 (l30s0.take ((8 : Int)).toNat))]))), (oBox g2 40 [(str r4.1), (Value.int .i64 (IntKind.i64.wrap (En.bAt (a0.drop (r4.2.1).toNat) (0 : Int)))), (Value.int .i64 r11.1), (Value.int .i64 r14.1), (Value.int .i64 r18.1), l30v5_5, (str ([] : List UInt8))])] [])) (S := (tab [(0, (str l30s0)), (2, (ptr g1 0)), (5, (ptr g2 0)), (84, (Value.int .i64 r21.1)), (85, (Value.int .i64 l30i85)), (95, v41)])) ?_
                    refine ta_step 10 _ [9] [96] [9] [] [⟨9, 96, Unit, fun _ => { val := (ptr g2 5) }⟩] [] rfl rfl rfl (by kernel_rfl) rfl rfl rfl ⟨⟨_, rfl, [], rfl, by
    intro X_ Y_ F_ K_ hK_
    refine al_show (m := Mem.plus (memOf w0 Z0 [] [(oBox g1 40 [(str ([] : List UInt8)), (Value.int .i64 (0 : Int)), (Value.int .i64 (0 : Int)), (Value.int .i64 (0 : Int)), (Value.int .i64 (0 : Int)), (Value.slice none 0 0), (str ([] : List UInt8))]), (oRow v41 49 tyA8u8 (l30x5_5 ++ ([(ofA8u8 (l30s0.take ((8 : Int)).toNat))]))), (oBox g2 40 [(str r4.1), (Value.int .i64 (IntKind.i64.wrap (En.bAt (a0.drop (r4.2.1).toNat) (0 : Int)))), (Value.int .i64 r11.1), (Value.int .i64 r14.1), (Value.int .i64 r18.1), l30v5_5, (str ([] : List UInt8))])] []) X_ Y_) (S := over (tab [(0, (str l30s0)), (2, (ptr g1 0)), (5, (ptr g2 0)), (84, (Value.int .i64 r21.1)), (85, (Value.int .i64 l30i85)), (95, v41)]) F_) ?_
    refine al_val (ov_fieldA (p := 5) rfl Tryd.underlying40 rfl sz38 rfl rfl rfl) ?_
    refine al_nil ?_
    exact fr_fin hK_ ()⟩, trivial⟩ ?_
                    intro _
                    intro X_ Y_ F_ K_ hK_
                    refine al_show (m := Mem.plus (memOf w0 Z0 [] [(oBox g1 40 [(str ([] : List UInt8)), (Value.int .i64 (0 : Int)), (Value.int .i64 (0 : Int)), (Value.int .i64 (0 : Int)), (Value.int .i64 (0 : Int)), (Value.slice none 0 0), (str ([] : List UInt8))]), (oRow v41 49 tyA8u8 (l30x5_5 ++ ([(ofA8u8 (l30s0.take ((8 : Int)).toNat))]))), (oBox g2 40 [(str r4.1), (Value.int .i64 (IntKind.i64.wrap (En.bAt (a0.drop (r4.2.1).toNat) (0 : Int)))), (Value.int .i64 r11.1), (Value.int .i64 r14.1), (Value.int .i64 r18.1), l30v5_5, (str ([] : List UInt8))])] []) X_ Y_) (S := over (put (tab [(0, (str l30s0)), (2, (ptr g1 0)), (5, (ptr g2 0)), (84, (Value.int .i64 r21.1)), (85, (Value.int .i64 l30i85)), (95, v41)]) 96 (ptr g2 5)) F_) ?_
                    refine al_store (i := 2) (vs := [v41]) (cs' := [(str r4.1), (Value.int .i64 (IntKind.i64.wrap (En.bAt (a0.drop (r4.2.1).toNat) (0 : Int)))), (Value.int .i64 r11.1), (Value.int .i64 r14.1), (Value.int .i64 r18.1), v41, (str ([] : List UInt8))]) rfl rfl rfl sz38 (cv_own 1 rfl) rfl (co_own 1 rfl co_nil) (Nat.le_of_ble_eq_true rfl) rfl rfl ?_
                    refine al_nil ?_
                    refine aq_show (m := Mem.plus (memOf w0 Z0 [] [(oBox g1 40 [(str ([] : List UInt8)), (Value.int .i64 (0 : Int)), (Value.int .i64 (0 : Int)), (Value.int .i64 (0 : Int)), (Value.int .i64 (0 : Int)), (Value.slice none 0 0), (str ([] : List UInt8))]), (oRow v41 49 tyA8u8 (l30x5_5 ++ ([(ofA8u8 (l30s0.take ((8 : Int)).toNat))]))), (oBox g2 40 [(str r4.1), (Value.int .i64 (IntKind.i64.wrap (En.bAt (a0.drop (r4.2.1).toNat) (0 : Int)))), (Value.int .i64 r11.1), (Value.int .i64 r14.1), (Value.int .i64 r18.1), v41, (str ([] : List UInt8))])] []) X_ Y_) ?_
                    refine aq_next hK_ [0, 1, 2] [] [(0, (str l30s0)), (2, (ptr g1 0)), (5, (ptr g2 0)), (84, (Value.int .i64 r21.1)), (85, (Value.int .i64 l30i85))] [] [] rfl rfl (by decide) rfl ⟨rfl, rfl, rfl, rfl, rfl, trivial⟩ trivial ?_
                    clear hK_ K_ F_ X_ Y_
                    refine ta_show (m := (memOf w0 Z0 [] [(oBox g1 40 [(str ([] : List UInt8)), (Value.int .i64 (0 : Int)), (Value.int .i64 (0 : Int)), (Value.int .i64 (0 : Int)), (Value.int .i64 (0 : Int)), (Value.slice none 0 0), (str ([] : List UInt8))]), (oRow v41 49 tyA8u8 (l30x5_5 ++ ([(ofA8u8 (l30s0.take ((8 : Int)).toNat))]))), (oBox g2 40 [(str r4.1), (Value.int .i64 (IntKind.i64.wrap (En.bAt (a0.drop (r4.2.1).toNat) (0 : Int)))), (Value.int .i64 r11.1), (Value.int .i64 r14.1), (Value.int .i64 r18.1), v41, (str ([] : List UInt8))])] [])) (S := (tab [(0, (str l30s0)), (2, (ptr g1 0)), (5, (ptr g2 0)), (84, (Value.int .i64 r21.1)), (85, (Value.int .i64 l30i85))])) ?_
                    refine ta_end [] [] rfl rfl (by kernel_rfl) rfl trivial ?_
                    refine aq_show (m := (memOf w0 Z0 [] [(oBox g1 40 [(str ([] : List UInt8)), (Value.int .i64 (0 : Int)), (Value.int .i64 (0 : Int)), (Value.int .i64 (0 : Int)), (Value.int .i64 (0 : Int)), (Value.slice none 0 0), (str ([] : List UInt8))]), (oRow v41 49 tyA8u8 (l30x5_5 ++ ([(ofA8u8 (l30s0.take ((8 : Int)).toNat))]))), (oBox g2 40 [(str r4.1), (Value.int .i64 (IntKind.i64.wrap (En.bAt (a0.drop (r4.2.1).toNat) (0 : Int)))), (Value.int .i64 r11.1), (Value.int .i64 r14.1), (Value.int .i64 r18.1), v41, (str ([] : List UInt8))])] [])) (S := (tab [(0, (str l30s0)), (2, (ptr g1 0)), (5, (ptr g2 0)), (84, (Value.int .i64 r21.1)), (85, (Value.int .i64 l30i85))])) ?_
                    refine aq_then ?_
                    refine aw_region ?_
                    refine al_val (ov_move rfl rfl) ?_
                    obtain ⟨hc42, h⟩ := req_some h
                    refine al_val (ov_strFrom hc42.1 hc42.2 Tryd.underlying9 rfl rfl rfl) ?_
                    refine al_val (ov_assign rfl rfl) ?_
                    refine al_nil ?_
                    refine aq_block ?_
                    refine aq_then ?_
                    refine aw_region ?_
                    refine al_val (ov_int rfl rfl rfl rfl) ?_
                    refine al_val (ov_move rfl rfl) ?_
                    refine al_nil ?_
                    exact aq_again k31 ((l30s0.drop ((8 : Int)).toNat), v41, (l30x5_5 ++ ([(ofA8u8 (l30s0.take ((8 : Int)).toNat))])), (IntKind.i64.wrap (l30i85 + (1 : Int)))) (Nat.lt_succ_self _) h (fun w a hm hs => norm hm hs [0, 1, 2] [] [(0, (str (l30s0.drop ((8 : Int)).toNat))), (2, (ptr g1 0)), (5, (ptr g2 0)), (84, (Value.int .i64 r21.1)), (85, (Value.int .i64 (IntKind.i64.wrap (l30i85 + (1 : Int)))))] (by decide) ⟨rfl, rfl, rfl, rfl, rfl, trivial⟩)
                  · replace h := bif_f hb33 h
                    refine aw_exit ?_
                    refine aq_then_exit ?_
                    refine aq_then_exit ?_
                    refine aq_block_exit ?_
                    exact aq_join (l30s0, l30v5_5, l30x5_5) h (fun w a hm hs => norm hm hs [0, 1, 2] [] [(0, (str l30s0)), (2, (ptr g1 0)), (5, (ptr g2 0))] (by decide) ⟨rfl, rfl, rfl, trivial⟩)
def f_lumref_char_L20 (a0 : (List UInt8)) (j4i5 : Int) (kk8 : (Int → Option (Int × Int))) : Nat → Int → Int → Option (Int × Int)
  | 0, _, _ => none
  | k19 + 1, l18i4, l18i53 => (bif (decide (l18i53 < ((cut a0 (1 : Int) j4i5).length : Int))) then (opt (at? (cut a0 (1 : Int) j4i5) l18i53) fun (u22 : UInt8) => (lt (fun (j25b62 : Bool) => (bif j25b62 then (some ((0 : Int), (0 : Int))) else (f_lumref_char_L20 a0 j4i5 kk8 k19 (IntKind.i64.wrap ((IntKind.i64.wrap ((IntKind.i64.wrap ((64 : Int) * l18i4)) + (IntKind.i64.wrap (u22.toNat : Int)))) - (128 : Int))) (IntKind.i64.wrap (l18i53 + (1 : Int)))))) fun (kk26 : Bool → Option (Int × Int)) => (bif (decide ((u22.toNat : Int) < (128 : Int))) then (kk26 true) else (kk26 (decide ((u22.toNat : Int) > (191 : Int))))))) else (kk8 l18i4))
def f_lumref_char (fu : Nat) (a0 : (List UInt8)) : Option (Int × Int) := (bif (a0 == ([] : List UInt8)) then (some ((0 : Int), (0 : Int))) else (req (0 ≤ (0 : Int) ∧ (0 : Int) < (a0.length : Int)) (bif (decide ((IntKind.i64.wrap (En.bAt a0 (0 : Int))) < (128 : Int))) then (some ((IntKind.i64.wrap (En.bAt a0 (0 : Int))), (1 : Int))) else (lt (fun (j4i4 : Int) (j4i5 : Int) (j4i6 : Int) => (bif (decide ((a0.length : Int) < j4i5)) then (some ((0 : Int), (0 : Int))) else (lt (fun (j7i4 : Int) => (lt (fun (j9b84 : Bool) => (bif j9b84 then (some ((0 : Int), (0 : Int))) else (some (j7i4, j4i5)))) fun (kk10 : Bool → Option (Int × Int)) => (bif (decide (j7i4 < j4i6)) then (kk10 true) else (bif (decide (j7i4 > (1114111 : Int))) then (kk10 true) else (bif (decide (j7i4 ≥ (55296 : Int))) then (kk10 (decide (j7i4 < (57344 : Int)))) else (kk10 false)))))) fun (kk8 : Int → Option (Int × Int)) => (req (0 ≤ (1 : Int) ∧ (1 : Int) ≤ j4i5 ∧ j4i5 ≤ (a0.length : Int)) (req ((cut a0 (1 : Int) j4i5).length ≤ 9223372036854775807) (f_lumref_char_L20 a0 j4i5 kk8 fu j4i4 (0 : Int))))))) fun (kk5 : Int → Int → Int → Option (Int × Int)) => (lt (fun (j29b17 : Bool) => (bif j29b17 then (kk5 (IntKind.i64.wrap ((IntKind.i64.wrap (En.bAt a0 (0 : Int))) - (192 : Int))) (2 : Int) (128 : Int)) else (lt (fun (j32b26 : Bool) => (bif j32b26 then (kk5 (IntKind.i64.wrap ((IntKind.i64.wrap (En.bAt a0 (0 : Int))) - (224 : Int))) (3 : Int) (2048 : Int)) else (lt (fun (j35b35 : Bool) => (bif j35b35 then (kk5 (IntKind.i64.wrap ((IntKind.i64.wrap (En.bAt a0 (0 : Int))) - (240 : Int))) (4 : Int) (65536 : Int)) else (some ((0 : Int), (0 : Int))))) fun (kk36 : Bool → Option (Int × Int)) => (bif (decide ((IntKind.i64.wrap (En.bAt a0 (0 : Int))) ≥ (240 : Int))) then (kk36 (decide ((IntKind.i64.wrap (En.bAt a0 (0 : Int))) < (245 : Int)))) else (kk36 false))))) fun (kk33 : Bool → Option (Int × Int)) => (bif (decide ((IntKind.i64.wrap (En.bAt a0 (0 : Int))) ≥ (224 : Int))) then (kk33 (decide ((IntKind.i64.wrap (En.bAt a0 (0 : Int))) < (240 : Int)))) else (kk33 false))))) fun (kk30 : Bool → Option (Int × Int)) => (bif (decide ((IntKind.i64.wrap (En.bAt a0 (0 : Int))) ≥ (194 : Int))) then (kk30 (decide ((IntKind.i64.wrap (En.bAt a0 (0 : Int))) < (224 : Int)))) else (kk30 false)))))))
end Go.Proofs.YtjbgahmcobcojaaDoor
