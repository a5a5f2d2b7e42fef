/- Walks by program. No condition. -/
import Derived.Test.YtollpgmcmipcoaaEn21
import Derived.Test.YtollpgmcmipcoaaChecked
import Derived.Test.YtollpgmcmipcoaaEn24
import Derived.Test.YtollpgmcmipcoaaWKeepSays_a
namespace Go.Proofs.Ytollpgmcmipcoaa
open Go.RowKit Ytollpgmcmipcoaa.En
set_option linter.unusedVariables false
set_option linter.unusedSimpArgs false
set_option maxRecDepth 100000 in
theorem f_slices_Equal___bool_bool__ok (fu : Nat) (v0_0 : Value) (a0 : (List Bool)) (v1_0 : Value) (a1 : (List Bool)) {r : Bool} (h : f_slices_Equal___bool_bool_ fu a0 a1 = some r) : FnOk Try.prog 16 [v0_0, v1_0] [(fDat (tyList tyBool) [v0_0] a0), (fDat (tyList tyBool) [v1_0] a1)] [] (fun (i : Unit) => { val := (Value.bool r) }) := by
  unfold f_slices_Equal___bool_bool_ at h
  refine fn_enter Try.func16 rfl Try.ntmps16 rfl (fun w0 Z0 => ?_)
  refine aw_seq ?_
  refine aw_region ?_
  refine al_val (ov_assign rfl rfl) ?_
  refine al_nil ?_
  refine aq_then ?_
  refine aw_seq ?_
  refine aw_seq ?_
  refine aw_region ?_
  refine al_val (ov_move rfl rfl) ?_
  refine al_val (ov_lenD 0 rfl rfl Try.underlying35 rfl) ?_
  refine al_val (ov_move rfl rfl) ?_
  refine al_val (ov_lenD 1 rfl rfl Try.underlying35 rfl) ?_
  refine al_val (ov_int rfl rfl rfl rfl) ?_
  refine al_nil ?_
  refine aq_then ?_
  refine aw_cond rfl (fun hb1 => ?_) (fun hb1 => ?_)
  · replace h := bif_t hb1 h
    refine aw_seq ?_
    refine aw_region ?_
    refine al_val (ov_assign rfl rfl) ?_
    refine al_nil ?_
    refine aq_then ?_
    refine aw_ret ?_
    refine aq_then_ret ?_
    obtain rfl := Option.some.inj h
    exact fn_ret () [] [] rfl rfl rfl rfl (res1 rfl rfl) rfl rfl rfl (by decide)
  · replace h := bif_f hb1 h
    refine aw_skip ?_
    refine aq_then ?_
    obtain ⟨kk3, hkk3, h⟩ := lt_some h
    refine aw_seq_join (ι := Unit) (fun i => (memOf w0 Z0 [] [] [(fDat (tyList tyBool) [v0_0] a0), (fDat (tyList tyBool) [v1_0] a1)])) (fun i => (tab [])) (fun i => kk3 () = some r) ?_ ?_
    · rintro _ h
      have h : kk3 () = some r := h
      rw [hkk3] at h
      dsimp only at h
      clear hkk3
      refine aw_show (m := (memOf w0 Z0 [] [] [(fDat (tyList tyBool) [v0_0] a0), (fDat (tyList tyBool) [v1_0] a1)])) (S := (tab [])) ?_
      refine aw_seq ?_
      refine aw_region ?_
      refine al_val (ov_assign rfl rfl) ?_
      refine al_nil ?_
      refine aq_then ?_
      refine aw_ret ?_
      obtain rfl := Option.some.inj h
      exact fn_ret () [] [] rfl rfl rfl rfl (res1 rfl rfl) rfl rfl rfl (by decide)
    · clear hkk3
      refine aw_seq ?_
      refine aw_region ?_
      refine al_val (ov_move rfl rfl) ?_
      refine al_val (ov_lenD 0 rfl rfl Try.underlying35 rfl) ?_
      refine al_val (ov_move rfl rfl) ?_
      refine al_nil ?_
      refine aq_then ?_
      refine aw_block ?_
      refine aw_state (aw_loop (ι := Int) (fun i => (memOf w0 Z0 [] [] [(fDat (tyList tyBool) [v0_0] a0), (fDat (tyList tyBool) [v1_0] a1)])) (fun i => (tab [(0, v0_0), (1, v1_0), (12, (Value.int .i64 (a0.length : Int))), (13, (Value.int .i64 i))])) (fun q i => f_slices_Equal___bool_bool__L6 a0 a1 kk3 q i = some r) ?_ fu (0 : Int) h) (fun w a hm hs => norm hm hs [] [0, 1] [(0, v0_0), (1, v1_0), (12, (Value.int .i64 (a0.length : Int))), (13, (Value.int .i64 (0 : Int)))] (by decide) ⟨rfl, rfl, rfl, rfl, trivial⟩)
      clear h
      rintro k5 l4i13 h
      have h : f_slices_Equal___bool_bool__L6 a0 a1 kk3 k5 l4i13 = some r := h
      obtain _ | k5 := k5
      · rw [f_slices_Equal___bool_bool__L6] at h; cases h
      rw [f_slices_Equal___bool_bool__L6] at h
      refine aw_show (m := (memOf w0 Z0 [] [] [(fDat (tyList tyBool) [v0_0] a0), (fDat (tyList tyBool) [v1_0] a1)])) (S := (tab [(0, v0_0), (1, v1_0), (12, (Value.int .i64 (a0.length : Int))), (13, (Value.int .i64 l4i13))])) ?_
      refine aw_seq ?_
      refine aw_region ?_
      refine al_val (ov_int rfl rfl rfl rfl) ?_
      refine al_nil ?_
      refine aq_then ?_
      refine aw_seq ?_
      refine aw_cond rfl (fun hb7 => ?_) (fun hb7 => ?_)
      · replace h := bif_t hb7 h
        refine aw_skip ?_
        refine aq_then ?_
        refine aw_seq ?_
        refine aw_block ?_
        refine aw_seq ?_
        refine aw_region ?_
        refine al_val (ov_move rfl rfl) ?_
        refine al_val (ov_assign rfl rfl) ?_
        refine al_nil ?_
        refine aq_then ?_
        refine aw_seq ?_
        obtain ⟨u8, hu9, h⟩ := opt_some h
        obtain ⟨u11, hu12, h⟩ := opt_some h
        refine aw_region_draw 8 [(16, (fun u => fEq u v0_0)), (17, (fun u => fEq u (Value.int .i64 l4i13))), (18, (fun p10 => (fPtr tyBool p10 u8))), (19, (fun u => fEq u (Value.bool u8))), (20, (fun u => fEq u v1_0)), (21, (fun u => fEq u (Value.int .i64 l4i13))), (22, (fun p13 => (fPtr tyBool p13 u11))), (23, (fun u => fEq u (Value.bool u11)))] (tab [(0, v0_0), (1, v1_0), (5, (Value.int .i64 l4i13)), (12, (Value.int .i64 (a0.length : Int))), (13, (Value.int .i64 l4i13))]) mixed (by kernel_rfl) rfl rfl rfl (fun a hs => hs.tab _ (allT_mem ⟨rfl, rfl, rfl, rfl, rfl, trivial⟩)) ⟨⟨rfl, ld_val (ov_move rfl rfl)⟩, ⟨rfl, ld_val (ov_move rfl rfl)⟩, ⟨rfl, ld_eq (j := 0) rfl rfl (ld_eq (j := 1) rfl rfl (ld_of (of_idxD 0 hu9 rfl rfl rfl Try.underlying35 sz4 rfl)))⟩, ⟨rfl, ld_fact (j := 2) rfl rfl (fun p10 => ld_val (ov_loadP (ds := [(Value.bool u8)]) 0 rfl (fun h => h) rfl Try.underlying4 sz4 rfl rfl rfl))⟩, ⟨rfl, ld_val (ov_move rfl rfl)⟩, ⟨rfl, ld_val (ov_move rfl rfl)⟩, ⟨rfl, ld_eq (j := 4) rfl rfl (ld_eq (j := 5) rfl rfl (ld_of (of_idxD 1 hu12 rfl rfl rfl Try.underlying35 sz4 rfl)))⟩, ⟨rfl, ld_fact (j := 6) rfl rfl (fun p13 => ld_val (ov_loadP (ds := [(Value.bool u11)]) 0 rfl (fun h => h) rfl Try.underlying4 sz4 rfl rfl rfl))⟩, trivial⟩ ?_
        refine tl_eq 3 rfl ?_
        refine tl_eq 7 rfl ?_
        refine tl_done ?_
        refine al_val (ov_boolNe Try.underlying4 rfl rfl rfl) ?_
        refine al_nil ?_
        refine aq_then ?_
        refine aw_cond rfl (fun hb14 => ?_) (fun hb14 => ?_)
        · replace h := bif_t hb14 h
          refine aw_seq ?_
          refine aw_region ?_
          refine al_val (ov_assign rfl rfl) ?_
          refine al_nil ?_
          refine aq_then ?_
          refine aw_ret ?_
          refine aq_block_ret ?_
          refine aq_then_ret ?_
          refine aq_then_ret ?_
          refine aq_block_ret ?_
          refine aq_then_ret ?_
          obtain rfl := Option.some.inj h
          exact fn_ret () [] [] rfl rfl rfl rfl (res1 rfl rfl) rfl rfl rfl (by decide)
        · replace h := bif_f hb14 h
          refine aw_skip ?_
          refine aq_block ?_
          refine aq_then ?_
          refine aw_region ?_
          refine al_val (ov_int rfl rfl rfl rfl) ?_
          refine al_val (ov_move rfl rfl) ?_
          refine al_nil ?_
          exact aq_again k5 (IntKind.i64.wrap (l4i13 + (1 : Int))) (Nat.lt_succ_self _) h (fun w a hm hs => norm hm hs [] [0, 1] [(0, v0_0), (1, v1_0), (12, (Value.int .i64 (a0.length : Int))), (13, (Value.int .i64 (IntKind.i64.wrap (l4i13 + (1 : Int)))))] (by decide) ⟨rfl, rfl, rfl, rfl, trivial⟩)
      · replace h := bif_f hb7 h
        refine aw_exit ?_
        refine aq_then_exit ?_
        refine aq_then_exit ?_
        refine aq_block_exit ?_
        exact aq_join () h (fun w a hm hs => norm hm hs [] [0, 1] [] (by decide) trivial)
def f_lumlaw_KeepSays (fu : Nat) (a0 : S_api_Policy) (a1 : (List Int)) : Option Bool := (opt (f_keep_Pick fu a0 a1) fun (r3 : ((List Bool) × Int)) => (opt (f_lumref_Pick fu a0 a1) fun (r6 : ((List Bool) × Int)) => (lt (fun (j8b4 : Bool) => (some j8b4)) fun (kk9 : Bool → Option Bool) => (opt (f_keep_Check fu a0) fun (r11 : Int) => (opt (f_lumref_Policy fu a0) fun (r13 : Int) => (bif (r11 == r13) then (opt (f_slices_Equal___bool_bool_ fu r3.1 r6.1) fun (r16 : Bool) => (bif r16 then (kk9 (r3.2 == r6.2)) else (kk9 false))) else (kk9 false)))))))
set_option maxRecDepth 100000 in
theorem f_lumlaw_KeepSays_ok (fu : Nat) (a0 : S_api_Policy) (v1_0 : Value) (a1 : (List Int)) {r : Bool} (h : f_lumlaw_KeepSays fu a0 a1 = some r) : FnOk Try.prog 4 [(ag [(Value.int .i64 a0.Last), (Value.int .i64 a0.Days), (Value.int .i64 a0.Weeks), (Value.int .i64 a0.Months), (Value.int .i64 a0.Years)]), v1_0] [(fDat (tyList (tyInt .i64)) [v1_0] a1)] [] (fun (i : Unit) => { val := (Value.bool r) }) := by
  unfold f_lumlaw_KeepSays at h
  refine fn_enter Try.func4 rfl Try.ntmps4 rfl (fun w0 Z0 => ?_)
  refine aw_seq ?_
  refine aw_region ?_
  refine al_box (vs := [(Value.int .i64 a0.Last), (Value.int .i64 a0.Days), (Value.int .i64 a0.Weeks), (Value.int .i64 a0.Months), (Value.int .i64 a0.Years)]) rfl (cv_rfl rfl) rfl (fun g1 => ?_)
  refine al_val (ov_assign rfl rfl) ?_
  refine al_nil ?_
  refine aq_then ?_
  refine aw_seq ?_
  refine aw_region ?_
  refine al_val (ov_load (i := 0) (v := (ag [(Value.int .i64 a0.Last), (Value.int .i64 a0.Days), (Value.int .i64 a0.Weeks), (Value.int .i64 a0.Months), (Value.int .i64 a0.Years)])) rfl rfl Try.underlying33 sz33 rfl rfl rfl rfl) ?_
  refine al_val (ov_move rfl rfl) ?_
  obtain ⟨r3, hc2, h⟩ := opt_some h
  refine al_call (vs := [(ag [(Value.int .i64 a0.Last), (Value.int .i64 a0.Days), (Value.int .i64 a0.Weeks), (Value.int .i64 a0.Months), (Value.int .i64 a0.Years)]), v1_0]) (f_keep_Pick_ok fu a0 v1_0 a1 hc2) [] [] [0] (pre_fz 0 rfl pre_nil) rfl (by simp) (by decide) (.inl rfl) rfl Try.func12 rfl rfl rfl (fun v4 => ?_)
  refine al_val (ov_move rfl rfl) ?_
  refine al_val (ov_extract rfl rfl rfl) ?_
  refine al_val (ov_extract rfl rfl rfl) ?_
  refine al_val (ov_assign rfl rfl) ?_
  refine al_val (ov_assign rfl rfl) ?_
  refine al_nil ?_
  refine aq_then ?_
  refine aw_seq ?_
  refine aw_region ?_
  refine al_val (ov_load (i := 1) (v := (ag [(Value.int .i64 a0.Last), (Value.int .i64 a0.Days), (Value.int .i64 a0.Weeks), (Value.int .i64 a0.Months), (Value.int .i64 a0.Years)])) rfl rfl Try.underlying33 sz33 rfl rfl rfl rfl) ?_
  refine al_val (ov_move rfl rfl) ?_
  obtain ⟨r6, hc5, h⟩ := opt_some h
  refine al_call (vs := [(ag [(Value.int .i64 a0.Last), (Value.int .i64 a0.Days), (Value.int .i64 a0.Weeks), (Value.int .i64 a0.Months), (Value.int .i64 a0.Years)]), v1_0]) (f_lumref_Pick_ok fu a0 v1_0 a1 hc5) [] [] [0, 1] (pre_fz 0 rfl pre_nil) rfl (by simp) (by decide) (.inl rfl) rfl Try.func13 rfl rfl rfl (fun v7 => ?_)
  refine al_val (ov_move rfl rfl) ?_
  refine al_val (ov_extract rfl rfl rfl) ?_
  refine al_val (ov_extract rfl rfl rfl) ?_
  refine al_val (ov_assign rfl rfl) ?_
  refine al_val (ov_assign rfl rfl) ?_
  refine al_nil ?_
  refine aq_then ?_
  obtain ⟨kk9, hkk9, h⟩ := lt_some h
  refine aw_seq_join (ι := Bool) (fun i => (memOf w0 Z0 [] [] [(fDat (tyList (tyInt .i64)) [v1_0] a1)])) (fun i => (tab [(4, (Value.bool i))])) (fun i => kk9 i = some r) ?_ ?_
  · rintro j8b4 h
    have h : kk9 j8b4 = some r := h
    rw [hkk9] at h
    dsimp only at h
    clear hkk9
    refine aw_show (m := (memOf w0 Z0 [] [] [(fDat (tyList (tyInt .i64)) [v1_0] a1)])) (S := (tab [(4, (Value.bool j8b4))])) ?_
    refine aw_ret ?_
    obtain rfl := Option.some.inj h
    exact fn_ret () [] [] rfl rfl rfl rfl (res1 rfl rfl) rfl rfl rfl (by decide)
  · clear hkk9
    refine aw_region_open [⟨0, 21, Unit, fun _ => { val := (ag [(Value.int .i64 a0.Last), (Value.int .i64 a0.Days), (Value.int .i64 a0.Weeks), (Value.int .i64 a0.Months), (Value.int .i64 a0.Years)]) }⟩, ⟨2, 23, Unit, fun _ => { val := (ag [(Value.int .i64 a0.Last), (Value.int .i64 a0.Days), (Value.int .i64 a0.Weeks), (Value.int .i64 a0.Months), (Value.int .i64 a0.Years)]) }⟩] (tab [(2, (ptr g1 0)), (4, (Value.bool false)), (5, v4), (6, (Value.int .i64 r3.2)), (7, v7), (8, (Value.int .i64 r6.2))]) mixed (fun a hs => hs.tab _ (allT_mem ⟨rfl, rfl, rfl, rfl, rfl, rfl, trivial⟩)) ?_
    refine ta_show (m := (memOf w0 Z0 [] [(oRow v7 4 tyBool r6.1), (oRow v4 4 tyBool r3.1), (oBox g1 33 [(Value.int .i64 a0.Last), (Value.int .i64 a0.Days), (Value.int .i64 a0.Weeks), (Value.int .i64 a0.Months), (Value.int .i64 a0.Years)])] [(fDat (tyList (tyInt .i64)) [v1_0] a1)])) (S := (tab [(2, (ptr g1 0)), (4, (Value.bool false)), (5, v4), (6, (Value.int .i64 r3.2)), (7, v7), (8, (Value.int .i64 r6.2))])) ?_
    refine ta_step 1 _ [0, 2] [21, 23] [0] [] [⟨0, 21, Unit, fun _ => { val := (ag [(Value.int .i64 a0.Last), (Value.int .i64 a0.Days), (Value.int .i64 a0.Weeks), (Value.int .i64 a0.Months), (Value.int .i64 a0.Years)]) }⟩] [⟨2, 23, Unit, fun _ => { val := (ag [(Value.int .i64 a0.Last), (Value.int .i64 a0.Days), (Value.int .i64 a0.Weeks), (Value.int .i64 a0.Months), (Value.int .i64 a0.Years)]) }⟩] rfl rfl rfl (by kernel_rfl) rfl rfl rfl ⟨⟨_, rfl, [], rfl, by
    intro X_ Y_ F_ K_ hK_
    refine al_show (m := Mem.plus (memOf w0 Z0 [] [(oRow v7 4 tyBool r6.1), (oRow v4 4 tyBool r3.1), (oBox g1 33 [(Value.int .i64 a0.Last), (Value.int .i64 a0.Days), (Value.int .i64 a0.Weeks), (Value.int .i64 a0.Months), (Value.int .i64 a0.Years)])] [(fDat (tyList (tyInt .i64)) [v1_0] a1)]) X_ Y_) (S := over (tab [(2, (ptr g1 0)), (4, (Value.bool false)), (5, v4), (6, (Value.int .i64 r3.2)), (7, v7), (8, (Value.int .i64 r6.2))]) F_) ?_
    refine al_val (ov_load (i := 2) (v := (ag [(Value.int .i64 a0.Last), (Value.int .i64 a0.Days), (Value.int .i64 a0.Weeks), (Value.int .i64 a0.Months), (Value.int .i64 a0.Years)])) rfl rfl Try.underlying33 sz33 rfl rfl rfl rfl) ?_
    refine al_nil ?_
    exact fr_fin hK_ ()⟩, ⟨_, rfl, [], rfl, by
    intro X_ Y_ F_ K_ hK_
    refine al_show (m := Mem.plus (memOf w0 Z0 [] [(oRow v7 4 tyBool r6.1), (oRow v4 4 tyBool r3.1), (oBox g1 33 [(Value.int .i64 a0.Last), (Value.int .i64 a0.Days), (Value.int .i64 a0.Weeks), (Value.int .i64 a0.Months), (Value.int .i64 a0.Years)])] [(fDat (tyList (tyInt .i64)) [v1_0] a1)]) X_ Y_) (S := over (tab [(2, (ptr g1 0)), (4, (Value.bool false)), (5, v4), (6, (Value.int .i64 r3.2)), (7, v7), (8, (Value.int .i64 r6.2))]) F_) ?_
    refine al_val (ov_load (i := 2) (v := (ag [(Value.int .i64 a0.Last), (Value.int .i64 a0.Days), (Value.int .i64 a0.Weeks), (Value.int .i64 a0.Months), (Value.int .i64 a0.Years)])) rfl rfl Try.underlying33 sz33 rfl rfl rfl rfl) ?_
    refine al_nil ?_
    exact fr_fin hK_ ()⟩, trivial⟩ ?_
    intro _
    intro X_ Y_ F_ K_ hK_
    refine al_show (m := Mem.plus (memOf w0 Z0 [] [(oRow v7 4 tyBool r6.1), (oRow v4 4 tyBool r3.1), (oBox g1 33 [(Value.int .i64 a0.Last), (Value.int .i64 a0.Days), (Value.int .i64 a0.Weeks), (Value.int .i64 a0.Months), (Value.int .i64 a0.Years)])] [(fDat (tyList (tyInt .i64)) [v1_0] a1)]) X_ Y_) (S := over (put (tab [(2, (ptr g1 0)), (4, (Value.bool false)), (5, v4), (6, (Value.int .i64 r3.2)), (7, v7), (8, (Value.int .i64 r6.2))]) 21 (ag [(Value.int .i64 a0.Last), (Value.int .i64 a0.Days), (Value.int .i64 a0.Weeks), (Value.int .i64 a0.Months), (Value.int .i64 a0.Years)])) F_) ?_
    obtain ⟨r11, hc10, h⟩ := opt_some h
    refine al_callX (vs := [(ag [(Value.int .i64 a0.Last), (Value.int .i64 a0.Days), (Value.int .i64 a0.Weeks), (Value.int .i64 a0.Months), (Value.int .i64 a0.Years)])]) (f_keep_Check_ok fu a0 hc10) [] [] [0, 1, 2] pre_nil rfl (by simp) (by decide) rfl (.inl rfl) rfl Try.func14 rfl rfl rfl (fun _ => ?_)
    refine al_nil ?_
    refine aq_show (m := Mem.plus (memOf w0 Z0 [] [(oRow v7 4 tyBool r6.1), (oRow v4 4 tyBool r3.1), (oBox g1 33 [(Value.int .i64 a0.Last), (Value.int .i64 a0.Days), (Value.int .i64 a0.Weeks), (Value.int .i64 a0.Months), (Value.int .i64 a0.Years)])] [(fDat (tyList (tyInt .i64)) [v1_0] a1)]) X_ Y_) ?_
    refine aq_next hK_ [0, 1, 2] [0] [(2, (ptr g1 0)), (4, (Value.bool false)), (5, v4), (6, (Value.int .i64 r3.2)), (7, v7), (8, (Value.int .i64 r6.2)), (22, (Value.int .i64 r11))] [23] [] rfl rfl (by decide) rfl ⟨rfl, rfl, rfl, rfl, rfl, rfl, rfl, trivial⟩ ⟨rfl, trivial⟩ ?_
    clear hK_ K_ F_ X_ Y_
    refine ta_show (m := (memOf w0 Z0 [] [(oRow v7 4 tyBool r6.1), (oRow v4 4 tyBool r3.1), (oBox g1 33 [(Value.int .i64 a0.Last), (Value.int .i64 a0.Days), (Value.int .i64 a0.Weeks), (Value.int .i64 a0.Months), (Value.int .i64 a0.Years)])] [(fDat (tyList (tyInt .i64)) [v1_0] a1)])) (S := (tab [(2, (ptr g1 0)), (4, (Value.bool false)), (5, v4), (6, (Value.int .i64 r3.2)), (7, v7), (8, (Value.int .i64 r6.2)), (22, (Value.int .i64 r11))])) ?_
    refine ta_step 3 _ [2] [23] [2] [4, 5, 6, 7] [⟨2, 23, Unit, fun _ => { val := (ag [(Value.int .i64 a0.Last), (Value.int .i64 a0.Days), (Value.int .i64 a0.Weeks), (Value.int .i64 a0.Months), (Value.int .i64 a0.Years)]) }⟩] [] rfl rfl rfl (by kernel_rfl) rfl rfl rfl ⟨⟨_, rfl, [], rfl, by
    intro X_ Y_ F_ K_ hK_
    refine al_show (m := Mem.plus (memOf w0 Z0 [] [(oRow v7 4 tyBool r6.1), (oRow v4 4 tyBool r3.1), (oBox g1 33 [(Value.int .i64 a0.Last), (Value.int .i64 a0.Days), (Value.int .i64 a0.Weeks), (Value.int .i64 a0.Months), (Value.int .i64 a0.Years)])] [(fDat (tyList (tyInt .i64)) [v1_0] a1)]) X_ Y_) (S := over (tab [(2, (ptr g1 0)), (4, (Value.bool false)), (5, v4), (6, (Value.int .i64 r3.2)), (7, v7), (8, (Value.int .i64 r6.2)), (22, (Value.int .i64 r11))]) F_) ?_
    refine al_val (ov_load (i := 2) (v := (ag [(Value.int .i64 a0.Last), (Value.int .i64 a0.Days), (Value.int .i64 a0.Weeks), (Value.int .i64 a0.Months), (Value.int .i64 a0.Years)])) rfl rfl Try.underlying33 sz33 rfl rfl rfl rfl) ?_
    refine al_nil ?_
    exact fr_fin hK_ ()⟩, trivial⟩ ?_
    intro _
    intro X_ Y_ F_ K_ hK_
    refine al_show (m := Mem.plus (memOf w0 Z0 [] [(oRow v7 4 tyBool r6.1), (oRow v4 4 tyBool r3.1), (oBox g1 33 [(Value.int .i64 a0.Last), (Value.int .i64 a0.Days), (Value.int .i64 a0.Weeks), (Value.int .i64 a0.Months), (Value.int .i64 a0.Years)])] [(fDat (tyList (tyInt .i64)) [v1_0] a1)]) X_ Y_) (S := over (put (tab [(2, (ptr g1 0)), (4, (Value.bool false)), (5, v4), (6, (Value.int .i64 r3.2)), (7, v7), (8, (Value.int .i64 r6.2)), (22, (Value.int .i64 r11))]) 23 (ag [(Value.int .i64 a0.Last), (Value.int .i64 a0.Days), (Value.int .i64 a0.Weeks), (Value.int .i64 a0.Months), (Value.int .i64 a0.Years)])) F_) ?_
    obtain ⟨r13, hc12, h⟩ := opt_some h
    refine al_callX (vs := [(ag [(Value.int .i64 a0.Last), (Value.int .i64 a0.Days), (Value.int .i64 a0.Weeks), (Value.int .i64 a0.Months), (Value.int .i64 a0.Years)])]) (f_lumref_Policy_ok fu a0 hc12) [] [] [0, 1, 2] pre_nil rfl (by simp) (by decide) rfl (.inl rfl) rfl Try.func15 rfl rfl rfl (fun _ => ?_)
    refine al_nil ?_
    rcases Bool.eq_false_or_eq_true (r11 == r13) with hb14 | hb14
    · replace h := bif_t hb14 h
      refine aq_show (m := Mem.plus (memOf w0 Z0 [] [(oRow v7 4 tyBool r6.1), (oRow v4 4 tyBool r3.1), (oBox g1 33 [(Value.int .i64 a0.Last), (Value.int .i64 a0.Days), (Value.int .i64 a0.Weeks), (Value.int .i64 a0.Months), (Value.int .i64 a0.Years)])] [(fDat (tyList (tyInt .i64)) [v1_0] a1)]) X_ Y_) ?_
      refine aq_next hK_ [0, 1, 2] [0] [(4, (Value.bool false)), (5, v4), (6, (Value.int .i64 r3.2)), (7, v7), (8, (Value.int .i64 r6.2)), (22, (Value.int .i64 r11)), (24, (Value.int .i64 r13))] [] [⟨4, 25, Unit, fun _ => { val := (Value.bool (r11 == r13)) }⟩, ⟨5, 26, Unit, fun _ => { val := (Value.bool true) }⟩, ⟨6, 27, Unit, fun _ => { val := v4 }⟩, ⟨7, 28, Unit, fun _ => { val := v7 }⟩] rfl rfl (by decide) rfl ⟨rfl, rfl, rfl, rfl, rfl, rfl, rfl, trivial⟩ trivial ?_
      clear hK_ K_ F_ X_ Y_
      refine ta_show (m := (memOf w0 Z0 [] [(oRow v7 4 tyBool r6.1), (oRow v4 4 tyBool r3.1), (oBox g1 33 [(Value.int .i64 a0.Last), (Value.int .i64 a0.Days), (Value.int .i64 a0.Weeks), (Value.int .i64 a0.Months), (Value.int .i64 a0.Years)])] [(fDat (tyList (tyInt .i64)) [v1_0] a1)])) (S := (tab [(4, (Value.bool false)), (5, v4), (6, (Value.int .i64 r3.2)), (7, v7), (8, (Value.int .i64 r6.2)), (22, (Value.int .i64 r11)), (24, (Value.int .i64 r13))])) ?_
      refine ta_step 8 _ [4, 5, 6, 7] [25, 26, 27, 28] [4, 5, 6, 7] [9, 10, 11, 12, 13, 14] [⟨4, 25, Unit, fun _ => { val := (Value.bool (r11 == r13)) }⟩, ⟨5, 26, Unit, fun _ => { val := (Value.bool true) }⟩, ⟨6, 27, Unit, fun _ => { val := v4 }⟩, ⟨7, 28, Unit, fun _ => { val := v7 }⟩] [] rfl rfl rfl (by kernel_rfl) rfl rfl rfl ⟨⟨_, rfl, [], rfl, by
    intro X_ Y_ F_ K_ hK_
    refine al_show (m := Mem.plus (memOf w0 Z0 [] [(oRow v7 4 tyBool r6.1), (oRow v4 4 tyBool r3.1), (oBox g1 33 [(Value.int .i64 a0.Last), (Value.int .i64 a0.Days), (Value.int .i64 a0.Weeks), (Value.int .i64 a0.Months), (Value.int .i64 a0.Years)])] [(fDat (tyList (tyInt .i64)) [v1_0] a1)]) X_ Y_) (S := over (tab [(4, (Value.bool false)), (5, v4), (6, (Value.int .i64 r3.2)), (7, v7), (8, (Value.int .i64 r6.2)), (22, (Value.int .i64 r11)), (24, (Value.int .i64 r13))]) F_) ?_
    refine al_val (ov_int rfl rfl rfl rfl) ?_
    refine al_nil ?_
    exact fr_fin hK_ ()⟩, ⟨_, rfl, [0], rfl, by
    intro _
    intro X_ Y_ F_ K_ hK_
    refine al_show (m := Mem.plus (memOf w0 Z0 [] [(oRow v7 4 tyBool r6.1), (oRow v4 4 tyBool r3.1), (oBox g1 33 [(Value.int .i64 a0.Last), (Value.int .i64 a0.Days), (Value.int .i64 a0.Weeks), (Value.int .i64 a0.Months), (Value.int .i64 a0.Years)])] [(fDat (tyList (tyInt .i64)) [v1_0] a1)]) X_ Y_) (S := over (put (tab [(4, (Value.bool false)), (5, v4), (6, (Value.int .i64 r3.2)), (7, v7), (8, (Value.int .i64 r6.2)), (22, (Value.int .i64 r11)), (24, (Value.int .i64 r13))]) 25 (Value.bool (r11 == r13))) F_) ?_
    refine al_val (ov_cast (by first | rw [hb14] | rfl) (ov_move rfl rfl)) ?_
    refine al_nil ?_
    exact fr_fin hK_ ()⟩, ⟨_, rfl, [1], rfl, by
    intro _
    intro X_ Y_ F_ K_ hK_
    refine al_show (m := Mem.plus (memOf w0 Z0 [] [(oRow v7 4 tyBool r6.1), (oRow v4 4 tyBool r3.1), (oBox g1 33 [(Value.int .i64 a0.Last), (Value.int .i64 a0.Days), (Value.int .i64 a0.Weeks), (Value.int .i64 a0.Months), (Value.int .i64 a0.Years)])] [(fDat (tyList (tyInt .i64)) [v1_0] a1)]) X_ Y_) (S := over (put (tab [(4, (Value.bool false)), (5, v4), (6, (Value.int .i64 r3.2)), (7, v7), (8, (Value.int .i64 r6.2)), (22, (Value.int .i64 r11)), (24, (Value.int .i64 r13))]) 26 (Value.bool true)) F_) ?_
    refine al_val (ov_move rfl rfl) ?_
    refine al_nil ?_
    exact fr_fin hK_ ()⟩, ⟨_, rfl, [1], rfl, by
    intro _
    intro X_ Y_ F_ K_ hK_
    refine al_show (m := Mem.plus (memOf w0 Z0 [] [(oRow v7 4 tyBool r6.1), (oRow v4 4 tyBool r3.1), (oBox g1 33 [(Value.int .i64 a0.Last), (Value.int .i64 a0.Days), (Value.int .i64 a0.Weeks), (Value.int .i64 a0.Months), (Value.int .i64 a0.Years)])] [(fDat (tyList (tyInt .i64)) [v1_0] a1)]) X_ Y_) (S := over (put (tab [(4, (Value.bool false)), (5, v4), (6, (Value.int .i64 r3.2)), (7, v7), (8, (Value.int .i64 r6.2)), (22, (Value.int .i64 r11)), (24, (Value.int .i64 r13))]) 26 (Value.bool true)) F_) ?_
    refine al_val (ov_move rfl rfl) ?_
    refine al_nil ?_
    exact fr_fin hK_ ()⟩, trivial⟩ ?_
      intro _
      intro _
      intro _
      intro _
      intro X_ Y_ F_ K_ hK_
      refine al_show (m := Mem.plus (memOf w0 Z0 [] [(oRow v7 4 tyBool r6.1), (oRow v4 4 tyBool r3.1), (oBox g1 33 [(Value.int .i64 a0.Last), (Value.int .i64 a0.Days), (Value.int .i64 a0.Weeks), (Value.int .i64 a0.Months), (Value.int .i64 a0.Years)])] [(fDat (tyList (tyInt .i64)) [v1_0] a1)]) X_ Y_) (S := over (put (put (put (put (tab [(4, (Value.bool false)), (5, v4), (6, (Value.int .i64 r3.2)), (7, v7), (8, (Value.int .i64 r6.2)), (22, (Value.int .i64 r11)), (24, (Value.int .i64 r13))]) 25 (Value.bool (r11 == r13))) 26 (Value.bool true)) 27 v4) 28 v7) F_) ?_
      obtain ⟨r16, hc15, h⟩ := opt_some h
      refine al_callX (vs := [v4, v7]) (f_slices_Equal___bool_bool__ok fu v4 r3.1 v7 r6.1 hc15) [0, 1] [] [0, 1, 2] (pre_own 1 rfl rfl (pre_own 0 rfl rfl pre_nil)) rfl (by simp) (by decide) rfl (.inr flat_res0) rfl Try.func16 rfl rfl rfl (fun _ => ?_)
      refine al_nil ?_
      rcases Bool.eq_false_or_eq_true r16 with hb17 | hb17
      · replace h := bif_t hb17 h
        refine aq_show (m := Mem.plus (memOf w0 Z0 [] [(oRow v7 4 tyBool r6.1), (oRow v4 4 tyBool r3.1), (oBox g1 33 [(Value.int .i64 a0.Last), (Value.int .i64 a0.Days), (Value.int .i64 a0.Weeks), (Value.int .i64 a0.Months), (Value.int .i64 a0.Years)])] [(fDat (tyList (tyInt .i64)) [v1_0] a1)]) X_ Y_) ?_
        refine aq_next hK_ [0, 1, 2] [0] [(4, (Value.bool false)), (6, (Value.int .i64 r3.2)), (8, (Value.int .i64 r6.2)), (26, (Value.bool true)), (29, (Value.bool r16))] [] [⟨9, 30, Unit, fun _ => { val := (Value.bool r16) }⟩, ⟨10, 31, Unit, fun _ => { val := (Value.bool true) }⟩, ⟨11, 32, Unit, fun _ => { val := (Value.int .i64 r3.2) }⟩, ⟨12, 33, Unit, fun _ => { val := (Value.int .i64 r6.2) }⟩, ⟨13, 34, Unit, fun _ => { val := (Value.bool (r3.2 == r6.2)) }⟩, ⟨14, 35, Unit, fun _ => { val := (Value.bool (r3.2 == r6.2)) }⟩] rfl rfl (by decide) rfl ⟨rfl, rfl, rfl, rfl, rfl, trivial⟩ trivial ?_
        clear hK_ K_ F_ X_ Y_
        refine ta_show (m := (memOf w0 Z0 [] [(oRow v7 4 tyBool r6.1), (oRow v4 4 tyBool r3.1), (oBox g1 33 [(Value.int .i64 a0.Last), (Value.int .i64 a0.Days), (Value.int .i64 a0.Weeks), (Value.int .i64 a0.Months), (Value.int .i64 a0.Years)])] [(fDat (tyList (tyInt .i64)) [v1_0] a1)])) (S := (tab [(4, (Value.bool false)), (6, (Value.int .i64 r3.2)), (8, (Value.int .i64 r6.2)), (26, (Value.bool true)), (29, (Value.bool r16))])) ?_
        refine ta_step 15 _ [9, 10, 11, 12, 13, 14] [30, 31, 32, 33, 34, 35] [9, 10, 11, 12, 13, 14] [] [⟨9, 30, Unit, fun _ => { val := (Value.bool r16) }⟩, ⟨10, 31, Unit, fun _ => { val := (Value.bool true) }⟩, ⟨11, 32, Unit, fun _ => { val := (Value.int .i64 r3.2) }⟩, ⟨12, 33, Unit, fun _ => { val := (Value.int .i64 r6.2) }⟩, ⟨13, 34, Unit, fun _ => { val := (Value.bool (r3.2 == r6.2)) }⟩, ⟨14, 35, Unit, fun _ => { val := (Value.bool (r3.2 == r6.2)) }⟩] [] rfl rfl rfl (by kernel_rfl) rfl rfl rfl ⟨⟨_, rfl, [], rfl, by
    intro X_ Y_ F_ K_ hK_
    refine al_show (m := Mem.plus (memOf w0 Z0 [] [(oRow v7 4 tyBool r6.1), (oRow v4 4 tyBool r3.1), (oBox g1 33 [(Value.int .i64 a0.Last), (Value.int .i64 a0.Days), (Value.int .i64 a0.Weeks), (Value.int .i64 a0.Months), (Value.int .i64 a0.Years)])] [(fDat (tyList (tyInt .i64)) [v1_0] a1)]) X_ Y_) (S := over (tab [(4, (Value.bool false)), (6, (Value.int .i64 r3.2)), (8, (Value.int .i64 r6.2)), (26, (Value.bool true)), (29, (Value.bool r16))]) F_) ?_
    refine al_val (ov_pick_t rfl rfl rfl) ?_
    refine al_nil ?_
    exact fr_fin hK_ ()⟩, ⟨_, rfl, [0], rfl, by
    intro _
    intro X_ Y_ F_ K_ hK_
    refine al_show (m := Mem.plus (memOf w0 Z0 [] [(oRow v7 4 tyBool r6.1), (oRow v4 4 tyBool r3.1), (oBox g1 33 [(Value.int .i64 a0.Last), (Value.int .i64 a0.Days), (Value.int .i64 a0.Weeks), (Value.int .i64 a0.Months), (Value.int .i64 a0.Years)])] [(fDat (tyList (tyInt .i64)) [v1_0] a1)]) X_ Y_) (S := over (put (tab [(4, (Value.bool false)), (6, (Value.int .i64 r3.2)), (8, (Value.int .i64 r6.2)), (26, (Value.bool true)), (29, (Value.bool r16))]) 30 (Value.bool r16)) F_) ?_
    refine al_val (ov_cast (by first | rw [hb17] | rfl) (ov_move rfl rfl)) ?_
    refine al_nil ?_
    exact fr_fin hK_ ()⟩, ⟨_, rfl, [1], rfl, by
    intro _
    intro X_ Y_ F_ K_ hK_
    refine al_show (m := Mem.plus (memOf w0 Z0 [] [(oRow v7 4 tyBool r6.1), (oRow v4 4 tyBool r3.1), (oBox g1 33 [(Value.int .i64 a0.Last), (Value.int .i64 a0.Days), (Value.int .i64 a0.Weeks), (Value.int .i64 a0.Months), (Value.int .i64 a0.Years)])] [(fDat (tyList (tyInt .i64)) [v1_0] a1)]) X_ Y_) (S := over (put (tab [(4, (Value.bool false)), (6, (Value.int .i64 r3.2)), (8, (Value.int .i64 r6.2)), (26, (Value.bool true)), (29, (Value.bool r16))]) 31 (Value.bool true)) F_) ?_
    refine al_val (ov_move rfl rfl) ?_
    refine al_nil ?_
    exact fr_fin hK_ ()⟩, ⟨_, rfl, [1], rfl, by
    intro _
    intro X_ Y_ F_ K_ hK_
    refine al_show (m := Mem.plus (memOf w0 Z0 [] [(oRow v7 4 tyBool r6.1), (oRow v4 4 tyBool r3.1), (oBox g1 33 [(Value.int .i64 a0.Last), (Value.int .i64 a0.Days), (Value.int .i64 a0.Weeks), (Value.int .i64 a0.Months), (Value.int .i64 a0.Years)])] [(fDat (tyList (tyInt .i64)) [v1_0] a1)]) X_ Y_) (S := over (put (tab [(4, (Value.bool false)), (6, (Value.int .i64 r3.2)), (8, (Value.int .i64 r6.2)), (26, (Value.bool true)), (29, (Value.bool r16))]) 31 (Value.bool true)) F_) ?_
    refine al_val (ov_move rfl rfl) ?_
    refine al_nil ?_
    exact fr_fin hK_ ()⟩, ⟨_, rfl, [1, 2, 3], rfl, by
    intro _
    intro _
    intro _
    intro X_ Y_ F_ K_ hK_
    refine al_show (m := Mem.plus (memOf w0 Z0 [] [(oRow v7 4 tyBool r6.1), (oRow v4 4 tyBool r3.1), (oBox g1 33 [(Value.int .i64 a0.Last), (Value.int .i64 a0.Days), (Value.int .i64 a0.Weeks), (Value.int .i64 a0.Months), (Value.int .i64 a0.Years)])] [(fDat (tyList (tyInt .i64)) [v1_0] a1)]) X_ Y_) (S := over (put (put (put (tab [(4, (Value.bool false)), (6, (Value.int .i64 r3.2)), (8, (Value.int .i64 r6.2)), (26, (Value.bool true)), (29, (Value.bool r16))]) 31 (Value.bool true)) 32 (Value.int .i64 r3.2)) 33 (Value.int .i64 r6.2)) F_) ?_
    refine al_val (ov_int rfl rfl rfl rfl) ?_
    refine al_nil ?_
    exact fr_fin hK_ ()⟩, ⟨_, rfl, [1, 4], rfl, by
    intro _
    intro _
    intro X_ Y_ F_ K_ hK_
    refine al_show (m := Mem.plus (memOf w0 Z0 [] [(oRow v7 4 tyBool r6.1), (oRow v4 4 tyBool r3.1), (oBox g1 33 [(Value.int .i64 a0.Last), (Value.int .i64 a0.Days), (Value.int .i64 a0.Weeks), (Value.int .i64 a0.Months), (Value.int .i64 a0.Years)])] [(fDat (tyList (tyInt .i64)) [v1_0] a1)]) X_ Y_) (S := over (put (put (tab [(4, (Value.bool false)), (6, (Value.int .i64 r3.2)), (8, (Value.int .i64 r6.2)), (26, (Value.bool true)), (29, (Value.bool r16))]) 31 (Value.bool true)) 34 (Value.bool (r3.2 == r6.2))) F_) ?_
    refine al_val (ov_pick_t rfl rfl rfl) ?_
    refine al_nil ?_
    exact fr_fin hK_ ()⟩, trivial⟩ ?_
        intro _
        intro _
        intro _
        intro _
        intro _
        intro _
        intro X_ Y_ F_ K_ hK_
        refine al_show (m := Mem.plus (memOf w0 Z0 [] [(oRow v7 4 tyBool r6.1), (oRow v4 4 tyBool r3.1), (oBox g1 33 [(Value.int .i64 a0.Last), (Value.int .i64 a0.Days), (Value.int .i64 a0.Weeks), (Value.int .i64 a0.Months), (Value.int .i64 a0.Years)])] [(fDat (tyList (tyInt .i64)) [v1_0] a1)]) X_ Y_) (S := over (put (put (put (put (put (put (tab [(4, (Value.bool false)), (6, (Value.int .i64 r3.2)), (8, (Value.int .i64 r6.2)), (26, (Value.bool true)), (29, (Value.bool r16))]) 30 (Value.bool r16)) 31 (Value.bool true)) 32 (Value.int .i64 r3.2)) 33 (Value.int .i64 r6.2)) 34 (Value.bool (r3.2 == r6.2))) 35 (Value.bool (r3.2 == r6.2))) F_) ?_
        refine al_val (ov_assign rfl rfl) ?_
        refine al_nil ?_
        refine aq_show (m := Mem.plus (memOf w0 Z0 [] [(oRow v7 4 tyBool r6.1), (oRow v4 4 tyBool r3.1), (oBox g1 33 [(Value.int .i64 a0.Last), (Value.int .i64 a0.Days), (Value.int .i64 a0.Weeks), (Value.int .i64 a0.Months), (Value.int .i64 a0.Years)])] [(fDat (tyList (tyInt .i64)) [v1_0] a1)]) X_ Y_) ?_
        refine aq_next hK_ [0, 1, 2] [0] [(4, (Value.bool (r3.2 == r6.2)))] [] [] rfl rfl (by decide) rfl ⟨rfl, trivial⟩ trivial ?_
        clear hK_ K_ F_ X_ Y_
        refine ta_show (m := (memOf w0 Z0 [] [(oRow v7 4 tyBool r6.1), (oRow v4 4 tyBool r3.1), (oBox g1 33 [(Value.int .i64 a0.Last), (Value.int .i64 a0.Days), (Value.int .i64 a0.Weeks), (Value.int .i64 a0.Months), (Value.int .i64 a0.Years)])] [(fDat (tyList (tyInt .i64)) [v1_0] a1)])) (S := (tab [(4, (Value.bool (r3.2 == r6.2)))])) ?_
        refine ta_end [] [] rfl rfl (by kernel_rfl) rfl trivial ?_
        refine aq_show (m := (memOf w0 Z0 [] [(oRow v7 4 tyBool r6.1), (oRow v4 4 tyBool r3.1), (oBox g1 33 [(Value.int .i64 a0.Last), (Value.int .i64 a0.Days), (Value.int .i64 a0.Weeks), (Value.int .i64 a0.Months), (Value.int .i64 a0.Years)])] [(fDat (tyList (tyInt .i64)) [v1_0] a1)])) (S := (tab [(4, (Value.bool (r3.2 == r6.2)))])) ?_
        exact aq_join (r3.2 == r6.2) h (fun w a hm hs => norm hm hs [] [0] [(4, (Value.bool (r3.2 == r6.2)))] (by decide) ⟨rfl, trivial⟩)
      · replace h := bif_f hb17 h
        refine aq_show (m := Mem.plus (memOf w0 Z0 [] [(oRow v7 4 tyBool r6.1), (oRow v4 4 tyBool r3.1), (oBox g1 33 [(Value.int .i64 a0.Last), (Value.int .i64 a0.Days), (Value.int .i64 a0.Weeks), (Value.int .i64 a0.Months), (Value.int .i64 a0.Years)])] [(fDat (tyList (tyInt .i64)) [v1_0] a1)]) X_ Y_) ?_
        refine aq_next hK_ [0, 1, 2] [0] [(4, (Value.bool false)), (6, (Value.int .i64 r3.2)), (8, (Value.int .i64 r6.2)), (26, (Value.bool true)), (29, (Value.bool r16))] [] [⟨9, 30, Unit, fun _ => { val := (Value.bool r16) }⟩, ⟨10, 31, Unit, fun _ => { val := (Value.bool false) }⟩, ⟨11, 32, Unit, fun _ => { val := undef }⟩, ⟨12, 33, Unit, fun _ => { val := undef }⟩, ⟨13, 34, Unit, fun _ => { val := undef }⟩, ⟨14, 35, Unit, fun _ => { val := (Value.bool false) }⟩] rfl rfl (by decide) rfl ⟨rfl, rfl, rfl, rfl, rfl, trivial⟩ trivial ?_
        clear hK_ K_ F_ X_ Y_
        refine ta_show (m := (memOf w0 Z0 [] [(oRow v7 4 tyBool r6.1), (oRow v4 4 tyBool r3.1), (oBox g1 33 [(Value.int .i64 a0.Last), (Value.int .i64 a0.Days), (Value.int .i64 a0.Weeks), (Value.int .i64 a0.Months), (Value.int .i64 a0.Years)])] [(fDat (tyList (tyInt .i64)) [v1_0] a1)])) (S := (tab [(4, (Value.bool false)), (6, (Value.int .i64 r3.2)), (8, (Value.int .i64 r6.2)), (26, (Value.bool true)), (29, (Value.bool r16))])) ?_
        refine ta_step 15 _ [9, 10, 11, 12, 13, 14] [30, 31, 32, 33, 34, 35] [9, 10, 11, 12, 13, 14] [] [⟨9, 30, Unit, fun _ => { val := (Value.bool r16) }⟩, ⟨10, 31, Unit, fun _ => { val := (Value.bool false) }⟩, ⟨11, 32, Unit, fun _ => { val := undef }⟩, ⟨12, 33, Unit, fun _ => { val := undef }⟩, ⟨13, 34, Unit, fun _ => { val := undef }⟩, ⟨14, 35, Unit, fun _ => { val := (Value.bool false) }⟩] [] rfl rfl rfl (by kernel_rfl) rfl rfl rfl ⟨⟨_, rfl, [], rfl, by
    intro X_ Y_ F_ K_ hK_
    refine al_show (m := Mem.plus (memOf w0 Z0 [] [(oRow v7 4 tyBool r6.1), (oRow v4 4 tyBool r3.1), (oBox g1 33 [(Value.int .i64 a0.Last), (Value.int .i64 a0.Days), (Value.int .i64 a0.Weeks), (Value.int .i64 a0.Months), (Value.int .i64 a0.Years)])] [(fDat (tyList (tyInt .i64)) [v1_0] a1)]) X_ Y_) (S := over (tab [(4, (Value.bool false)), (6, (Value.int .i64 r3.2)), (8, (Value.int .i64 r6.2)), (26, (Value.bool true)), (29, (Value.bool r16))]) F_) ?_
    refine al_val (ov_pick_t rfl rfl rfl) ?_
    refine al_nil ?_
    exact fr_fin hK_ ()⟩, ⟨_, rfl, [0], rfl, by
    intro _
    intro X_ Y_ F_ K_ hK_
    refine al_show (m := Mem.plus (memOf w0 Z0 [] [(oRow v7 4 tyBool r6.1), (oRow v4 4 tyBool r3.1), (oBox g1 33 [(Value.int .i64 a0.Last), (Value.int .i64 a0.Days), (Value.int .i64 a0.Weeks), (Value.int .i64 a0.Months), (Value.int .i64 a0.Years)])] [(fDat (tyList (tyInt .i64)) [v1_0] a1)]) X_ Y_) (S := over (put (tab [(4, (Value.bool false)), (6, (Value.int .i64 r3.2)), (8, (Value.int .i64 r6.2)), (26, (Value.bool true)), (29, (Value.bool r16))]) 30 (Value.bool r16)) F_) ?_
    refine al_val (ov_cast (by first | rw [hb17] | rfl) (ov_move rfl rfl)) ?_
    refine al_nil ?_
    exact fr_fin hK_ ()⟩, ⟨_, rfl, [1], rfl, by
    intro _
    intro X_ Y_ F_ K_ hK_
    refine al_show (m := Mem.plus (memOf w0 Z0 [] [(oRow v7 4 tyBool r6.1), (oRow v4 4 tyBool r3.1), (oBox g1 33 [(Value.int .i64 a0.Last), (Value.int .i64 a0.Days), (Value.int .i64 a0.Weeks), (Value.int .i64 a0.Months), (Value.int .i64 a0.Years)])] [(fDat (tyList (tyInt .i64)) [v1_0] a1)]) X_ Y_) (S := over (put (tab [(4, (Value.bool false)), (6, (Value.int .i64 r3.2)), (8, (Value.int .i64 r6.2)), (26, (Value.bool true)), (29, (Value.bool r16))]) 31 (Value.bool false)) F_) ?_
    refine al_skip ?_
    refine al_nil ?_
    exact fr_fin hK_ ()⟩, ⟨_, rfl, [1], rfl, by
    intro _
    intro X_ Y_ F_ K_ hK_
    refine al_show (m := Mem.plus (memOf w0 Z0 [] [(oRow v7 4 tyBool r6.1), (oRow v4 4 tyBool r3.1), (oBox g1 33 [(Value.int .i64 a0.Last), (Value.int .i64 a0.Days), (Value.int .i64 a0.Weeks), (Value.int .i64 a0.Months), (Value.int .i64 a0.Years)])] [(fDat (tyList (tyInt .i64)) [v1_0] a1)]) X_ Y_) (S := over (put (tab [(4, (Value.bool false)), (6, (Value.int .i64 r3.2)), (8, (Value.int .i64 r6.2)), (26, (Value.bool true)), (29, (Value.bool r16))]) 31 (Value.bool false)) F_) ?_
    refine al_skip ?_
    refine al_nil ?_
    exact fr_fin hK_ ()⟩, ⟨_, rfl, [1, 2, 3], rfl, by
    intro _
    intro _
    intro _
    intro X_ Y_ F_ K_ hK_
    refine al_show (m := Mem.plus (memOf w0 Z0 [] [(oRow v7 4 tyBool r6.1), (oRow v4 4 tyBool r3.1), (oBox g1 33 [(Value.int .i64 a0.Last), (Value.int .i64 a0.Days), (Value.int .i64 a0.Weeks), (Value.int .i64 a0.Months), (Value.int .i64 a0.Years)])] [(fDat (tyList (tyInt .i64)) [v1_0] a1)]) X_ Y_) (S := over (put (put (put (tab [(4, (Value.bool false)), (6, (Value.int .i64 r3.2)), (8, (Value.int .i64 r6.2)), (26, (Value.bool true)), (29, (Value.bool r16))]) 31 (Value.bool false)) 32 undef) 33 undef) F_) ?_
    refine al_skip ?_
    refine al_nil ?_
    exact fr_fin hK_ ()⟩, ⟨_, rfl, [1, 4], rfl, by
    intro _
    intro _
    intro X_ Y_ F_ K_ hK_
    refine al_show (m := Mem.plus (memOf w0 Z0 [] [(oRow v7 4 tyBool r6.1), (oRow v4 4 tyBool r3.1), (oBox g1 33 [(Value.int .i64 a0.Last), (Value.int .i64 a0.Days), (Value.int .i64 a0.Weeks), (Value.int .i64 a0.Months), (Value.int .i64 a0.Years)])] [(fDat (tyList (tyInt .i64)) [v1_0] a1)]) X_ Y_) (S := over (put (put (tab [(4, (Value.bool false)), (6, (Value.int .i64 r3.2)), (8, (Value.int .i64 r6.2)), (26, (Value.bool true)), (29, (Value.bool r16))]) 31 (Value.bool false)) 34 undef) F_) ?_
    refine al_val (ov_pick_f rfl rfl rfl) ?_
    refine al_nil ?_
    exact fr_fin hK_ ()⟩, trivial⟩ ?_
        intro _
        intro _
        intro _
        intro _
        intro _
        intro _
        intro X_ Y_ F_ K_ hK_
        refine al_show (m := Mem.plus (memOf w0 Z0 [] [(oRow v7 4 tyBool r6.1), (oRow v4 4 tyBool r3.1), (oBox g1 33 [(Value.int .i64 a0.Last), (Value.int .i64 a0.Days), (Value.int .i64 a0.Weeks), (Value.int .i64 a0.Months), (Value.int .i64 a0.Years)])] [(fDat (tyList (tyInt .i64)) [v1_0] a1)]) X_ Y_) (S := over (put (put (put (put (put (put (tab [(4, (Value.bool false)), (6, (Value.int .i64 r3.2)), (8, (Value.int .i64 r6.2)), (26, (Value.bool true)), (29, (Value.bool r16))]) 30 (Value.bool r16)) 31 (Value.bool false)) 32 undef) 33 undef) 34 undef) 35 (Value.bool false)) F_) ?_
        refine al_val (ov_assign rfl rfl) ?_
        refine al_nil ?_
        refine aq_show (m := Mem.plus (memOf w0 Z0 [] [(oRow v7 4 tyBool r6.1), (oRow v4 4 tyBool r3.1), (oBox g1 33 [(Value.int .i64 a0.Last), (Value.int .i64 a0.Days), (Value.int .i64 a0.Weeks), (Value.int .i64 a0.Months), (Value.int .i64 a0.Years)])] [(fDat (tyList (tyInt .i64)) [v1_0] a1)]) X_ Y_) ?_
        refine aq_next hK_ [0, 1, 2] [0] [(4, (Value.bool false))] [] [] rfl rfl (by decide) rfl ⟨rfl, trivial⟩ trivial ?_
        clear hK_ K_ F_ X_ Y_
        refine ta_show (m := (memOf w0 Z0 [] [(oRow v7 4 tyBool r6.1), (oRow v4 4 tyBool r3.1), (oBox g1 33 [(Value.int .i64 a0.Last), (Value.int .i64 a0.Days), (Value.int .i64 a0.Weeks), (Value.int .i64 a0.Months), (Value.int .i64 a0.Years)])] [(fDat (tyList (tyInt .i64)) [v1_0] a1)])) (S := (tab [(4, (Value.bool false))])) ?_
        refine ta_end [] [] rfl rfl (by kernel_rfl) rfl trivial ?_
        refine aq_show (m := (memOf w0 Z0 [] [(oRow v7 4 tyBool r6.1), (oRow v4 4 tyBool r3.1), (oBox g1 33 [(Value.int .i64 a0.Last), (Value.int .i64 a0.Days), (Value.int .i64 a0.Weeks), (Value.int .i64 a0.Months), (Value.int .i64 a0.Years)])] [(fDat (tyList (tyInt .i64)) [v1_0] a1)])) (S := (tab [(4, (Value.bool false))])) ?_
        exact aq_join false h (fun w a hm hs => norm hm hs [] [0] [(4, (Value.bool false))] (by decide) ⟨rfl, trivial⟩)
    · replace h := bif_f hb14 h
      refine aq_show (m := Mem.plus (memOf w0 Z0 [] [(oRow v7 4 tyBool r6.1), (oRow v4 4 tyBool r3.1), (oBox g1 33 [(Value.int .i64 a0.Last), (Value.int .i64 a0.Days), (Value.int .i64 a0.Weeks), (Value.int .i64 a0.Months), (Value.int .i64 a0.Years)])] [(fDat (tyList (tyInt .i64)) [v1_0] a1)]) X_ Y_) ?_
      refine aq_next hK_ [0, 1, 2] [0] [(4, (Value.bool false)), (5, v4), (6, (Value.int .i64 r3.2)), (7, v7), (8, (Value.int .i64 r6.2)), (22, (Value.int .i64 r11)), (24, (Value.int .i64 r13))] [] [⟨4, 25, Unit, fun _ => { val := (Value.bool (r11 == r13)) }⟩, ⟨5, 26, Unit, fun _ => { val := (Value.bool false) }⟩, ⟨6, 27, Unit, fun _ => { val := undef }⟩, ⟨7, 28, Unit, fun _ => { val := undef }⟩] rfl rfl (by decide) rfl ⟨rfl, rfl, rfl, rfl, rfl, rfl, rfl, trivial⟩ trivial ?_
      clear hK_ K_ F_ X_ Y_
      refine ta_show (m := (memOf w0 Z0 [] [(oRow v7 4 tyBool r6.1), (oRow v4 4 tyBool r3.1), (oBox g1 33 [(Value.int .i64 a0.Last), (Value.int .i64 a0.Days), (Value.int .i64 a0.Weeks), (Value.int .i64 a0.Months), (Value.int .i64 a0.Years)])] [(fDat (tyList (tyInt .i64)) [v1_0] a1)])) (S := (tab [(4, (Value.bool false)), (5, v4), (6, (Value.int .i64 r3.2)), (7, v7), (8, (Value.int .i64 r6.2)), (22, (Value.int .i64 r11)), (24, (Value.int .i64 r13))])) ?_
      refine ta_step 8 _ [4, 5, 6, 7] [25, 26, 27, 28] [4, 5, 6, 7] [9, 10, 11, 12, 13, 14] [⟨4, 25, Unit, fun _ => { val := (Value.bool (r11 == r13)) }⟩, ⟨5, 26, Unit, fun _ => { val := (Value.bool false) }⟩, ⟨6, 27, Unit, fun _ => { val := undef }⟩, ⟨7, 28, Unit, fun _ => { val := undef }⟩] [] rfl rfl rfl (by kernel_rfl) rfl rfl rfl ⟨⟨_, rfl, [], rfl, by
    intro X_ Y_ F_ K_ hK_
    refine al_show (m := Mem.plus (memOf w0 Z0 [] [(oRow v7 4 tyBool r6.1), (oRow v4 4 tyBool r3.1), (oBox g1 33 [(Value.int .i64 a0.Last), (Value.int .i64 a0.Days), (Value.int .i64 a0.Weeks), (Value.int .i64 a0.Months), (Value.int .i64 a0.Years)])] [(fDat (tyList (tyInt .i64)) [v1_0] a1)]) X_ Y_) (S := over (tab [(4, (Value.bool false)), (5, v4), (6, (Value.int .i64 r3.2)), (7, v7), (8, (Value.int .i64 r6.2)), (22, (Value.int .i64 r11)), (24, (Value.int .i64 r13))]) F_) ?_
    refine al_val (ov_int rfl rfl rfl rfl) ?_
    refine al_nil ?_
    exact fr_fin hK_ ()⟩, ⟨_, rfl, [0], rfl, by
    intro _
    intro X_ Y_ F_ K_ hK_
    refine al_show (m := Mem.plus (memOf w0 Z0 [] [(oRow v7 4 tyBool r6.1), (oRow v4 4 tyBool r3.1), (oBox g1 33 [(Value.int .i64 a0.Last), (Value.int .i64 a0.Days), (Value.int .i64 a0.Weeks), (Value.int .i64 a0.Months), (Value.int .i64 a0.Years)])] [(fDat (tyList (tyInt .i64)) [v1_0] a1)]) X_ Y_) (S := over (put (tab [(4, (Value.bool false)), (5, v4), (6, (Value.int .i64 r3.2)), (7, v7), (8, (Value.int .i64 r6.2)), (22, (Value.int .i64 r11)), (24, (Value.int .i64 r13))]) 25 (Value.bool (r11 == r13))) F_) ?_
    refine al_val (ov_cast (by first | rw [hb14] | rfl) (ov_move rfl rfl)) ?_
    refine al_nil ?_
    exact fr_fin hK_ ()⟩, ⟨_, rfl, [1], rfl, by
    intro _
    intro X_ Y_ F_ K_ hK_
    refine al_show (m := Mem.plus (memOf w0 Z0 [] [(oRow v7 4 tyBool r6.1), (oRow v4 4 tyBool r3.1), (oBox g1 33 [(Value.int .i64 a0.Last), (Value.int .i64 a0.Days), (Value.int .i64 a0.Weeks), (Value.int .i64 a0.Months), (Value.int .i64 a0.Years)])] [(fDat (tyList (tyInt .i64)) [v1_0] a1)]) X_ Y_) (S := over (put (tab [(4, (Value.bool false)), (5, v4), (6, (Value.int .i64 r3.2)), (7, v7), (8, (Value.int .i64 r6.2)), (22, (Value.int .i64 r11)), (24, (Value.int .i64 r13))]) 26 (Value.bool false)) F_) ?_
    refine al_skip ?_
    refine al_nil ?_
    exact fr_fin hK_ ()⟩, ⟨_, rfl, [1], rfl, by
    intro _
    intro X_ Y_ F_ K_ hK_
    refine al_show (m := Mem.plus (memOf w0 Z0 [] [(oRow v7 4 tyBool r6.1), (oRow v4 4 tyBool r3.1), (oBox g1 33 [(Value.int .i64 a0.Last), (Value.int .i64 a0.Days), (Value.int .i64 a0.Weeks), (Value.int .i64 a0.Months), (Value.int .i64 a0.Years)])] [(fDat (tyList (tyInt .i64)) [v1_0] a1)]) X_ Y_) (S := over (put (tab [(4, (Value.bool false)), (5, v4), (6, (Value.int .i64 r3.2)), (7, v7), (8, (Value.int .i64 r6.2)), (22, (Value.int .i64 r11)), (24, (Value.int .i64 r13))]) 26 (Value.bool false)) F_) ?_
    refine al_skip ?_
    refine al_nil ?_
    exact fr_fin hK_ ()⟩, trivial⟩ ?_
      intro _
      intro _
      intro _
      intro _
      intro X_ Y_ F_ K_ hK_
      refine al_show (m := Mem.plus (memOf w0 Z0 [] [(oRow v7 4 tyBool r6.1), (oRow v4 4 tyBool r3.1), (oBox g1 33 [(Value.int .i64 a0.Last), (Value.int .i64 a0.Days), (Value.int .i64 a0.Weeks), (Value.int .i64 a0.Months), (Value.int .i64 a0.Years)])] [(fDat (tyList (tyInt .i64)) [v1_0] a1)]) X_ Y_) (S := over (put (put (put (put (tab [(4, (Value.bool false)), (5, v4), (6, (Value.int .i64 r3.2)), (7, v7), (8, (Value.int .i64 r6.2)), (22, (Value.int .i64 r11)), (24, (Value.int .i64 r13))]) 25 (Value.bool (r11 == r13))) 26 (Value.bool false)) 27 undef) 28 undef) F_) ?_
      refine al_skip ?_
      refine al_nil ?_
      refine aq_show (m := Mem.plus (memOf w0 Z0 [] [(oRow v7 4 tyBool r6.1), (oRow v4 4 tyBool r3.1), (oBox g1 33 [(Value.int .i64 a0.Last), (Value.int .i64 a0.Days), (Value.int .i64 a0.Weeks), (Value.int .i64 a0.Months), (Value.int .i64 a0.Years)])] [(fDat (tyList (tyInt .i64)) [v1_0] a1)]) X_ Y_) ?_
      refine aq_next hK_ [0, 1, 2] [0] [(4, (Value.bool false)), (6, (Value.int .i64 r3.2)), (8, (Value.int .i64 r6.2)), (26, (Value.bool false)), (29, undef)] [] [⟨9, 30, Unit, fun _ => { val := (Value.bool false) }⟩, ⟨10, 31, Unit, fun _ => { val := (Value.bool false) }⟩, ⟨11, 32, Unit, fun _ => { val := undef }⟩, ⟨12, 33, Unit, fun _ => { val := undef }⟩, ⟨13, 34, Unit, fun _ => { val := undef }⟩, ⟨14, 35, Unit, fun _ => { val := (Value.bool false) }⟩] rfl rfl (by decide) rfl ⟨rfl, rfl, rfl, rfl, rfl, trivial⟩ trivial ?_
      clear hK_ K_ F_ X_ Y_
      refine ta_show (m := (memOf w0 Z0 [] [(oRow v7 4 tyBool r6.1), (oRow v4 4 tyBool r3.1), (oBox g1 33 [(Value.int .i64 a0.Last), (Value.int .i64 a0.Days), (Value.int .i64 a0.Weeks), (Value.int .i64 a0.Months), (Value.int .i64 a0.Years)])] [(fDat (tyList (tyInt .i64)) [v1_0] a1)])) (S := (tab [(4, (Value.bool false)), (6, (Value.int .i64 r3.2)), (8, (Value.int .i64 r6.2)), (26, (Value.bool false)), (29, undef)])) ?_
      refine ta_step 15 _ [9, 10, 11, 12, 13, 14] [30, 31, 32, 33, 34, 35] [9, 10, 11, 12, 13, 14] [] [⟨9, 30, Unit, fun _ => { val := (Value.bool false) }⟩, ⟨10, 31, Unit, fun _ => { val := (Value.bool false) }⟩, ⟨11, 32, Unit, fun _ => { val := undef }⟩, ⟨12, 33, Unit, fun _ => { val := undef }⟩, ⟨13, 34, Unit, fun _ => { val := undef }⟩, ⟨14, 35, Unit, fun _ => { val := (Value.bool false) }⟩] [] rfl rfl rfl (by kernel_rfl) rfl rfl rfl ⟨⟨_, rfl, [], rfl, by
    intro X_ Y_ F_ K_ hK_
    refine al_show (m := Mem.plus (memOf w0 Z0 [] [(oRow v7 4 tyBool r6.1), (oRow v4 4 tyBool r3.1), (oBox g1 33 [(Value.int .i64 a0.Last), (Value.int .i64 a0.Days), (Value.int .i64 a0.Weeks), (Value.int .i64 a0.Months), (Value.int .i64 a0.Years)])] [(fDat (tyList (tyInt .i64)) [v1_0] a1)]) X_ Y_) (S := over (tab [(4, (Value.bool false)), (6, (Value.int .i64 r3.2)), (8, (Value.int .i64 r6.2)), (26, (Value.bool false)), (29, undef)]) F_) ?_
    refine al_val (ov_pick_f rfl rfl rfl) ?_
    refine al_nil ?_
    exact fr_fin hK_ ()⟩, ⟨_, rfl, [0], rfl, by
    intro _
    intro X_ Y_ F_ K_ hK_
    refine al_show (m := Mem.plus (memOf w0 Z0 [] [(oRow v7 4 tyBool r6.1), (oRow v4 4 tyBool r3.1), (oBox g1 33 [(Value.int .i64 a0.Last), (Value.int .i64 a0.Days), (Value.int .i64 a0.Weeks), (Value.int .i64 a0.Months), (Value.int .i64 a0.Years)])] [(fDat (tyList (tyInt .i64)) [v1_0] a1)]) X_ Y_) (S := over (put (tab [(4, (Value.bool false)), (6, (Value.int .i64 r3.2)), (8, (Value.int .i64 r6.2)), (26, (Value.bool false)), (29, undef)]) 30 (Value.bool false)) F_) ?_
    refine al_val (ov_move rfl rfl) ?_
    refine al_nil ?_
    exact fr_fin hK_ ()⟩, ⟨_, rfl, [1], rfl, by
    intro _
    intro X_ Y_ F_ K_ hK_
    refine al_show (m := Mem.plus (memOf w0 Z0 [] [(oRow v7 4 tyBool r6.1), (oRow v4 4 tyBool r3.1), (oBox g1 33 [(Value.int .i64 a0.Last), (Value.int .i64 a0.Days), (Value.int .i64 a0.Weeks), (Value.int .i64 a0.Months), (Value.int .i64 a0.Years)])] [(fDat (tyList (tyInt .i64)) [v1_0] a1)]) X_ Y_) (S := over (put (tab [(4, (Value.bool false)), (6, (Value.int .i64 r3.2)), (8, (Value.int .i64 r6.2)), (26, (Value.bool false)), (29, undef)]) 31 (Value.bool false)) F_) ?_
    refine al_skip ?_
    refine al_nil ?_
    exact fr_fin hK_ ()⟩, ⟨_, rfl, [1], rfl, by
    intro _
    intro X_ Y_ F_ K_ hK_
    refine al_show (m := Mem.plus (memOf w0 Z0 [] [(oRow v7 4 tyBool r6.1), (oRow v4 4 tyBool r3.1), (oBox g1 33 [(Value.int .i64 a0.Last), (Value.int .i64 a0.Days), (Value.int .i64 a0.Weeks), (Value.int .i64 a0.Months), (Value.int .i64 a0.Years)])] [(fDat (tyList (tyInt .i64)) [v1_0] a1)]) X_ Y_) (S := over (put (tab [(4, (Value.bool false)), (6, (Value.int .i64 r3.2)), (8, (Value.int .i64 r6.2)), (26, (Value.bool false)), (29, undef)]) 31 (Value.bool false)) F_) ?_
    refine al_skip ?_
    refine al_nil ?_
    exact fr_fin hK_ ()⟩, ⟨_, rfl, [1, 2, 3], rfl, by
    intro _
    intro _
    intro _
    intro X_ Y_ F_ K_ hK_
    refine al_show (m := Mem.plus (memOf w0 Z0 [] [(oRow v7 4 tyBool r6.1), (oRow v4 4 tyBool r3.1), (oBox g1 33 [(Value.int .i64 a0.Last), (Value.int .i64 a0.Days), (Value.int .i64 a0.Weeks), (Value.int .i64 a0.Months), (Value.int .i64 a0.Years)])] [(fDat (tyList (tyInt .i64)) [v1_0] a1)]) X_ Y_) (S := over (put (put (put (tab [(4, (Value.bool false)), (6, (Value.int .i64 r3.2)), (8, (Value.int .i64 r6.2)), (26, (Value.bool false)), (29, undef)]) 31 (Value.bool false)) 32 undef) 33 undef) F_) ?_
    refine al_skip ?_
    refine al_nil ?_
    exact fr_fin hK_ ()⟩, ⟨_, rfl, [1, 4], rfl, by
    intro _
    intro _
    intro X_ Y_ F_ K_ hK_
    refine al_show (m := Mem.plus (memOf w0 Z0 [] [(oRow v7 4 tyBool r6.1), (oRow v4 4 tyBool r3.1), (oBox g1 33 [(Value.int .i64 a0.Last), (Value.int .i64 a0.Days), (Value.int .i64 a0.Weeks), (Value.int .i64 a0.Months), (Value.int .i64 a0.Years)])] [(fDat (tyList (tyInt .i64)) [v1_0] a1)]) X_ Y_) (S := over (put (put (tab [(4, (Value.bool false)), (6, (Value.int .i64 r3.2)), (8, (Value.int .i64 r6.2)), (26, (Value.bool false)), (29, undef)]) 31 (Value.bool false)) 34 undef) F_) ?_
    refine al_val (ov_pick_f rfl rfl rfl) ?_
    refine al_nil ?_
    exact fr_fin hK_ ()⟩, trivial⟩ ?_
      intro _
      intro _
      intro _
      intro _
      intro _
      intro _
      intro X_ Y_ F_ K_ hK_
      refine al_show (m := Mem.plus (memOf w0 Z0 [] [(oRow v7 4 tyBool r6.1), (oRow v4 4 tyBool r3.1), (oBox g1 33 [(Value.int .i64 a0.Last), (Value.int .i64 a0.Days), (Value.int .i64 a0.Weeks), (Value.int .i64 a0.Months), (Value.int .i64 a0.Years)])] [(fDat (tyList (tyInt .i64)) [v1_0] a1)]) X_ Y_) (S := over (put (put (put (put (put (put (tab [(4, (Value.bool false)), (6, (Value.int .i64 r3.2)), (8, (Value.int .i64 r6.2)), (26, (Value.bool false)), (29, undef)]) 30 (Value.bool false)) 31 (Value.bool false)) 32 undef) 33 undef) 34 undef) 35 (Value.bool false)) F_) ?_
      refine al_val (ov_assign rfl rfl) ?_
      refine al_nil ?_
      refine aq_show (m := Mem.plus (memOf w0 Z0 [] [(oRow v7 4 tyBool r6.1), (oRow v4 4 tyBool r3.1), (oBox g1 33 [(Value.int .i64 a0.Last), (Value.int .i64 a0.Days), (Value.int .i64 a0.Weeks), (Value.int .i64 a0.Months), (Value.int .i64 a0.Years)])] [(fDat (tyList (tyInt .i64)) [v1_0] a1)]) X_ Y_) ?_
      refine aq_next hK_ [0, 1, 2] [0] [(4, (Value.bool false))] [] [] rfl rfl (by decide) rfl ⟨rfl, trivial⟩ trivial ?_
      clear hK_ K_ F_ X_ Y_
      refine ta_show (m := (memOf w0 Z0 [] [(oRow v7 4 tyBool r6.1), (oRow v4 4 tyBool r3.1), (oBox g1 33 [(Value.int .i64 a0.Last), (Value.int .i64 a0.Days), (Value.int .i64 a0.Weeks), (Value.int .i64 a0.Months), (Value.int .i64 a0.Years)])] [(fDat (tyList (tyInt .i64)) [v1_0] a1)])) (S := (tab [(4, (Value.bool false))])) ?_
      refine ta_end [] [] rfl rfl (by kernel_rfl) rfl trivial ?_
      refine aq_show (m := (memOf w0 Z0 [] [(oRow v7 4 tyBool r6.1), (oRow v4 4 tyBool r3.1), (oBox g1 33 [(Value.int .i64 a0.Last), (Value.int .i64 a0.Days), (Value.int .i64 a0.Weeks), (Value.int .i64 a0.Months), (Value.int .i64 a0.Years)])] [(fDat (tyList (tyInt .i64)) [v1_0] a1)])) (S := (tab [(4, (Value.bool false))])) ?_
      exact aq_join false h (fun w a hm hs => norm hm hs [] [0] [(4, (Value.bool false))] (by decide) ⟨rfl, trivial⟩)
end Go.Proofs.Ytollpgmcmipcoaa
