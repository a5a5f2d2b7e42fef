/- Walks by program. No condition. -/
import Derived.Test.YtjbgahmcobcojaaEn21
import Derived.Test.YtjbgahmcobcojaaChecked
import Derived.Test.YtjbgahmcobcojaaShBEPut
import Derived.Test.YtjbgahmcobcojaaShRepeat
import Derived.Test.YtjbgahmcobcojaaWPackLists_a
namespace Go.Proofs.Ytjbgahmcobcojaa
open Go.RowKit Ytjbgahmcobcojaa.En
set_option linter.unusedVariables false
set_option linter.unusedSimpArgs false
set_option maxRecDepth 100000 in
theorem f_slices_Equal___api_Entry_api_Entry__ok (fu : Nat) (v0_0 : Value) (a0 : (List S_api_Entry)) (v1_0 : Value) (a1 : (List S_api_Entry)) {r : Bool} (h : f_slices_Equal___api_Entry_api_Entry_ fu a0 a1 = some r) : FnOk Try.prog 23 [v0_0, v1_0] [(fDat (tyList tyS_api_Entry) [v0_0] a0), (fDat (tyList tyS_api_Entry) [v1_0] a1)] [] (fun (i : Unit) => { val := (Value.bool r) }) := by
  unfold f_slices_Equal___api_Entry_api_Entry_ at h
  refine fn_enter Try.func23 rfl Try.ntmps23 rfl (fun w0 Z0 => ?_)
  refine aw_seq ?_
  refine aw_region ?_
  refine al_val (ov_assign rfl rfl) ?_
  refine al_nil ?_
  refine aq_then ?_
  refine aw_seq ?_
  refine aw_seq ?_
  refine aw_region ?_
  refine al_val (ov_move rfl rfl) ?_
  refine al_val (ov_lenD 0 rfl rfl Try.underlying43 rfl) ?_
  refine al_val (ov_move rfl rfl) ?_
  refine al_val (ov_lenD 1 rfl rfl Try.underlying43 rfl) ?_
  refine al_val (ov_int rfl rfl rfl rfl) ?_
  refine al_nil ?_
  refine aq_then ?_
  refine aw_cond rfl (fun hb1 => ?_) (fun hb1 => ?_)
  · replace h := bif_t hb1 h
    refine aw_seq ?_
    refine aw_region ?_
    refine al_val (ov_assign rfl rfl) ?_
    refine al_nil ?_
    refine aq_then ?_
    refine aw_ret ?_
    refine aq_then_ret ?_
    obtain rfl := Option.some.inj h
    exact fn_ret () [] [] rfl rfl rfl rfl (res1 rfl rfl) rfl rfl rfl (by decide)
  · replace h := bif_f hb1 h
    refine aw_skip ?_
    refine aq_then ?_
    obtain ⟨kk3, hkk3, h⟩ := lt_some h
    refine aw_seq_join (ι := Unit) (fun i => (memOf w0 Z0 [] [] [(fDat (tyList tyS_api_Entry) [v0_0] a0), (fDat (tyList tyS_api_Entry) [v1_0] a1)])) (fun i => (tab [])) (fun i => kk3 () = some r) ?_ ?_
    · rintro _ h
      have h : kk3 () = some r := h
      rw [hkk3] at h
      dsimp only at h
      clear hkk3
      refine aw_show (m := (memOf w0 Z0 [] [] [(fDat (tyList tyS_api_Entry) [v0_0] a0), (fDat (tyList tyS_api_Entry) [v1_0] a1)])) (S := (tab [])) ?_
      refine aw_seq ?_
      refine aw_region ?_
      refine al_val (ov_assign rfl rfl) ?_
      refine al_nil ?_
      refine aq_then ?_
      refine aw_ret ?_
      obtain rfl := Option.some.inj h
      exact fn_ret () [] [] rfl rfl rfl rfl (res1 rfl rfl) rfl rfl rfl (by decide)
    · clear hkk3
      refine aw_seq ?_
      refine aw_region ?_
      refine al_val (ov_move rfl rfl) ?_
      refine al_val (ov_lenD 0 rfl rfl Try.underlying43 rfl) ?_
      refine al_val (ov_move rfl rfl) ?_
      refine al_nil ?_
      refine aq_then ?_
      refine aw_block ?_
      refine aw_state (aw_loop (ι := Int) (fun i => (memOf w0 Z0 [] [] [(fDat (tyList tyS_api_Entry) [v0_0] a0), (fDat (tyList tyS_api_Entry) [v1_0] a1)])) (fun i => (tab [(0, v0_0), (1, v1_0), (12, (Value.int .i64 (a0.length : Int))), (13, (Value.int .i64 i))])) (fun q i => f_slices_Equal___api_Entry_api_Entry__L6 a0 a1 kk3 q i = some r) ?_ fu (0 : Int) h) (fun w a hm hs => norm hm hs [] [0, 1] [(0, v0_0), (1, v1_0), (12, (Value.int .i64 (a0.length : Int))), (13, (Value.int .i64 (0 : Int)))] (by decide) ⟨rfl, rfl, rfl, rfl, trivial⟩)
      clear h
      rintro k5 l4i13 h
      have h : f_slices_Equal___api_Entry_api_Entry__L6 a0 a1 kk3 k5 l4i13 = some r := h
      obtain _ | k5 := k5
      · rw [f_slices_Equal___api_Entry_api_Entry__L6] at h; cases h
      rw [f_slices_Equal___api_Entry_api_Entry__L6] at h
      refine aw_show (m := (memOf w0 Z0 [] [] [(fDat (tyList tyS_api_Entry) [v0_0] a0), (fDat (tyList tyS_api_Entry) [v1_0] a1)])) (S := (tab [(0, v0_0), (1, v1_0), (12, (Value.int .i64 (a0.length : Int))), (13, (Value.int .i64 l4i13))])) ?_
      refine aw_seq ?_
      refine aw_region ?_
      refine al_val (ov_int rfl rfl rfl rfl) ?_
      refine al_nil ?_
      refine aq_then ?_
      refine aw_seq ?_
      refine aw_cond rfl (fun hb7 => ?_) (fun hb7 => ?_)
      · replace h := bif_t hb7 h
        refine aw_skip ?_
        refine aq_then ?_
        refine aw_seq ?_
        refine aw_block ?_
        refine aw_seq ?_
        refine aw_region ?_
        refine al_val (ov_move rfl rfl) ?_
        refine al_val (ov_assign rfl rfl) ?_
        refine al_nil ?_
        refine aq_then ?_
        refine aw_seq ?_
        obtain ⟨u8, hu9, h⟩ := opt_some h
        obtain ⟨u11, hu12, h⟩ := opt_some h
        refine aw_region_draw 8 [(16, (fun u => fEq u v0_0)), (17, (fun u => fEq u (Value.int .i64 l4i13))), (18, (fun p10 => (fPtr tyS_api_Entry p10 u8))), (19, (fun u => fEq u (ag ((cA8u8 u8.ID) ++ [(Value.int .i64 u8.Kind), (Value.int .i64 u8.At), (Value.int .i64 u8.Len)])))), (20, (fun u => fEq u v1_0)), (21, (fun u => fEq u (Value.int .i64 l4i13))), (22, (fun p13 => (fPtr tyS_api_Entry p13 u11))), (23, (fun u => fEq u (ag ((cA8u8 u11.ID) ++ [(Value.int .i64 u11.Kind), (Value.int .i64 u11.At), (Value.int .i64 u11.Len)]))))] (tab [(0, v0_0), (1, v1_0), (5, (Value.int .i64 l4i13)), (12, (Value.int .i64 (a0.length : Int))), (13, (Value.int .i64 l4i13))]) mixed (by kernel_rfl) rfl rfl rfl (fun a hs => hs.tab _ (allT_mem ⟨rfl, rfl, rfl, rfl, rfl, trivial⟩)) ⟨⟨rfl, ld_val (ov_move rfl rfl)⟩, ⟨rfl, ld_val (ov_move rfl rfl)⟩, ⟨rfl, ld_eq (j := 0) rfl rfl (ld_eq (j := 1) rfl rfl (ld_of (of_idxD 0 hu9 rfl rfl rfl Try.underlying43 sz48 rfl)))⟩, ⟨rfl, ld_fact (j := 2) rfl rfl (fun p10 => ld_val (ov_loadP (ds := ((cA8u8 u8.ID) ++ [(Value.int .i64 u8.Kind), (Value.int .i64 u8.At), (Value.int .i64 u8.Len)])) 0 rfl encS_api_Entry rfl Try.underlying48 sz48 rfl rfl rfl))⟩, ⟨rfl, ld_val (ov_move rfl rfl)⟩, ⟨rfl, ld_val (ov_move rfl rfl)⟩, ⟨rfl, ld_eq (j := 4) rfl rfl (ld_eq (j := 5) rfl rfl (ld_of (of_idxD 1 hu12 rfl rfl rfl Try.underlying43 sz48 rfl)))⟩, ⟨rfl, ld_fact (j := 6) rfl rfl (fun p13 => ld_val (ov_loadP (ds := ((cA8u8 u11.ID) ++ [(Value.int .i64 u11.Kind), (Value.int .i64 u11.At), (Value.int .i64 u11.Len)])) 0 rfl encS_api_Entry rfl Try.underlying48 sz48 rfl rfl rfl))⟩, trivial⟩ ?_
        refine tl_eq 3 rfl ?_
        refine tl_eq 7 rfl ?_
        refine tl_done ?_
        obtain ⟨hc14, h⟩ := req_some h
        obtain ⟨hc15, h⟩ := req_some h
        obtain ⟨hc16, h⟩ := req_some h
        obtain ⟨hc17, h⟩ := req_some h
        obtain ⟨hc18, h⟩ := req_some h
        obtain ⟨hc19, h⟩ := req_some h
        refine al_val (ov_neqA (cs := ((cA8u8 u8.ID) ++ [(Value.int .i64 u8.Kind), (Value.int .i64 u8.At), (Value.int .i64 u8.Len)])) (ds := ((cA8u8 u11.ID) ++ [(Value.int .i64 u11.Kind), (Value.int .i64 u11.At), (Value.int .i64 u11.Len)])) (ls := [5, 5, 5, 5, 5, 5, 5, 5, 3, 3, 3]) (p := (u8 == u11)) eg48 kt48 lv48 rfl rfl (by kernel_rfl) (by kernel_rfl) (fit_cons (fit_u8 Try.underlying5) (fit_cons (fit_u8 Try.underlying5) (fit_cons (fit_u8 Try.underlying5) (fit_cons (fit_u8 Try.underlying5) (fit_cons (fit_u8 Try.underlying5) (fit_cons (fit_u8 Try.underlying5) (fit_cons (fit_u8 Try.underlying5) (fit_cons (fit_u8 Try.underlying5) (fit_cons (fit_int Try.underlying3 hc14) (fit_cons (fit_int Try.underlying3 hc15) (fit_cons (fit_int Try.underlying3 hc16) fit_nil))))))))))) (fit_cons (fit_u8 Try.underlying5) (fit_cons (fit_u8 Try.underlying5) (fit_cons (fit_u8 Try.underlying5) (fit_cons (fit_u8 Try.underlying5) (fit_cons (fit_u8 Try.underlying5) (fit_cons (fit_u8 Try.underlying5) (fit_cons (fit_u8 Try.underlying5) (fit_cons (fit_u8 Try.underlying5) (fit_cons (fit_int Try.underlying3 hc17) (fit_cons (fit_int Try.underlying3 hc18) (fit_cons (fit_int Try.underlying3 hc19) fit_nil))))))))))) (injS_api_Entry (x := u8) (y := u11)) rfl) ?_
        refine al_nil ?_
        refine aq_then ?_
        refine aw_cond rfl (fun hb20 => ?_) (fun hb20 => ?_)
        · replace h := bif_t hb20 h
          refine aw_seq ?_
          refine aw_region ?_
          refine al_val (ov_assign rfl rfl) ?_
          refine al_nil ?_
          refine aq_then ?_
          refine aw_ret ?_
          refine aq_block_ret ?_
          refine aq_then_ret ?_
          refine aq_then_ret ?_
          refine aq_block_ret ?_
          refine aq_then_ret ?_
          obtain rfl := Option.some.inj h
          exact fn_ret () [] [] rfl rfl rfl rfl (res1 rfl rfl) rfl rfl rfl (by decide)
        · replace h := bif_f hb20 h
          refine aw_skip ?_
          refine aq_block ?_
          refine aq_then ?_
          refine aw_region ?_
          refine al_val (ov_int rfl rfl rfl rfl) ?_
          refine al_val (ov_move rfl rfl) ?_
          refine al_nil ?_
          exact aq_again k5 (IntKind.i64.wrap (l4i13 + (1 : Int))) (Nat.lt_succ_self _) h (fun w a hm hs => norm hm hs [] [0, 1] [(0, v0_0), (1, v1_0), (12, (Value.int .i64 (a0.length : Int))), (13, (Value.int .i64 (IntKind.i64.wrap (l4i13 + (1 : Int)))))] (by decide) ⟨rfl, rfl, rfl, rfl, trivial⟩)
      · replace h := bif_f hb7 h
        refine aw_exit ?_
        refine aq_then_exit ?_
        refine aq_then_exit ?_
        refine aq_block_exit ?_
        exact aq_join () h (fun w a hm hs => norm hm hs [] [0, 1] [] (by decide) trivial)
def f_lumlaw_PackLists (fu : Nat) (a0 : (List UInt8)) : Option Bool := (opt (f_pack_List fu a0) fun (r2 : ((List S_api_Entry) × Int)) => (opt (f_lumref_PackList fu a0) fun (r5 : ((List S_api_Entry) × Int)) => (lt (fun (j7b2 : Bool) => (some j7b2)) fun (kk8 : Bool → Option Bool) => (opt (f_slices_Equal___api_Entry_api_Entry_ fu r2.1 r5.1) fun (r10 : Bool) => (bif r10 then (kk8 (r2.2 == r5.2)) else (kk8 false))))))
set_option maxRecDepth 100000 in
theorem f_lumlaw_PackLists_ok (fu : Nat) (a0 : (List UInt8)) {r : Bool} (h : f_lumlaw_PackLists fu a0 = some r) : FnOk Try.prog 5 [(str a0)] [] [] (fun (i : Unit) => { val := (Value.bool r) }) := by
  unfold f_lumlaw_PackLists at h
  refine fn_enter Try.func5 rfl Try.ntmps5 rfl (fun w0 Z0 => ?_)
  refine aw_seq ?_
  refine aw_region ?_
  refine al_val (ov_assign rfl rfl) ?_
  refine al_nil ?_
  refine aq_then ?_
  refine aw_seq ?_
  refine aw_region ?_
  refine al_val (ov_move rfl rfl) ?_
  obtain ⟨r2, hc1, h⟩ := opt_some h
  refine al_call (vs := [(str a0)]) (f_pack_List_ok fu a0 hc1) [] [] [] pre_nil rfl (by simp) (by decide) (.inl rfl) rfl Try.func21 rfl rfl rfl (fun v3 => ?_)
  refine al_val (ov_move rfl rfl) ?_
  refine al_val (ov_extract rfl rfl rfl) ?_
  refine al_val (ov_extract rfl rfl rfl) ?_
  refine al_val (ov_assign rfl rfl) ?_
  refine al_val (ov_assign rfl rfl) ?_
  refine al_nil ?_
  refine aq_then ?_
  refine aw_seq ?_
  refine aw_region ?_
  refine al_val (ov_move rfl rfl) ?_
  obtain ⟨r5, hc4, h⟩ := opt_some h
  refine al_call (vs := [(str a0)]) (f_lumref_PackList_ok fu a0 hc4) [] [] [0] pre_nil rfl (by simp) (by decide) (.inl rfl) rfl Try.func22 rfl rfl rfl (fun v6 => ?_)
  refine al_val (ov_move rfl rfl) ?_
  refine al_val (ov_extract rfl rfl rfl) ?_
  refine al_val (ov_extract rfl rfl rfl) ?_
  refine al_val (ov_assign rfl rfl) ?_
  refine al_val (ov_assign rfl rfl) ?_
  refine al_nil ?_
  refine aq_then ?_
  obtain ⟨kk8, hkk8, h⟩ := lt_some h
  refine aw_seq_join (ι := Bool) (fun i => (memOf w0 Z0 [] [] [])) (fun i => (tab [(2, (Value.bool i))])) (fun i => kk8 i = some r) ?_ ?_
  · rintro j7b2 h
    have h : kk8 j7b2 = some r := h
    rw [hkk8] at h
    dsimp only at h
    clear hkk8
    refine aw_show (m := (memOf w0 Z0 [] [] [])) (S := (tab [(2, (Value.bool j7b2))])) ?_
    refine aw_ret ?_
    obtain rfl := Option.some.inj h
    exact fn_ret () [] [] rfl rfl rfl rfl (res1 rfl rfl) rfl rfl rfl (by decide)
  · clear hkk8
    refine aw_region ?_
    refine al_val (ov_move rfl rfl) ?_
    refine al_val (ov_move rfl rfl) ?_
    obtain ⟨r10, hc9, h⟩ := opt_some h
    refine al_call (vs := [v3, v6]) (f_slices_Equal___api_Entry_api_Entry__ok fu v3 r2.1 v6 r5.1 hc9) [0, 1] [] [0, 1] (pre_own 1 rfl rfl (pre_own 0 rfl rfl pre_nil)) rfl (by simp) (by decide) (.inr flat_res0) rfl Try.func23 rfl rfl rfl (fun _ => ?_)
    refine al_val (ov_move rfl rfl) ?_
    refine al_caseB 20 rfl (fun hb11 => ?_) (fun hb11 => ?_)
    · replace h := bif_t hb11 h
      refine al_val (ov_move rfl rfl) ?_
      refine al_val (ov_move rfl rfl) ?_
      refine al_val (ov_int rfl rfl rfl rfl) ?_
      refine al_val (ov_pick_t rfl rfl rfl) ?_
      refine al_val (ov_assign rfl rfl) ?_
      refine al_nil ?_
      exact aq_join (r2.2 == r5.2) h (fun w a hm hs => norm hm hs [] [] [(2, (Value.bool (r2.2 == r5.2)))] (by decide) ⟨rfl, trivial⟩)
    · replace h := bif_f hb11 h
      refine al_skip ?_
      refine al_skip ?_
      refine al_skip ?_
      refine al_val (ov_pick_f rfl rfl rfl) ?_
      refine al_val (ov_assign rfl rfl) ?_
      refine al_nil ?_
      exact aq_join false h (fun w a hm hs => norm hm hs [] [] [(2, (Value.bool false))] (by decide) ⟨rfl, trivial⟩)
end Go.Proofs.Ytjbgahmcobcojaa
