/- Walks by program. No condition. -/
import Derived.Test.YtaoopodaalhheaaDoorEn17
import Derived.Test.YtaoopodaalhheaaDoorChecked
import Derived.Test.YtaoopodaalhheaaDoorEnU
import Derived.Test.YtaoopodaalhheaaDoorWTreeReads_b
namespace Go.Proofs.YtaoopodaalhheaaDoor
open Go.RowKit YtaoopodaalhheaaDoor.En
set_option linter.unusedVariables false
set_option linter.unusedSimpArgs false
set_option maxRecDepth 100000 in
theorem f_slices_EqualFunc___api_Node___api_Node_api_Node_api_Node__F61_ok (fu : Nat) (v0_0 : Value) (a0 : (List S_api_Node)) (v1_0 : Value) (a1 : (List S_api_Node)) {r : Bool} (h : f_slices_EqualFunc___api_Node___api_Node_api_Node_api_Node__F61 fu a0 a1 = some r) : FnOk Tryd.prog 60 [v0_0, v1_0, (Value.func (.func 61) #[] #[])] [(fDat (tyList tyS_api_Node) [v0_0] a0), (fDat (tyList tyS_api_Node) [v1_0] a1)] [] (fun (i : Unit) => { val := (Value.bool r) }) := by
  unfold f_slices_EqualFunc___api_Node___api_Node_api_Node_api_Node__F61 at h
  refine fn_enter Tryd.func60 rfl Tryd.ntmps60 rfl (fun w0 Z0 => ?_)
  refine aw_seq ?_
  refine aw_region ?_
  refine al_val (ov_assign rfl rfl) ?_
  refine al_nil ?_
  refine aq_then ?_
  refine aw_seq ?_
  refine aw_seq ?_
  refine aw_region ?_
  refine al_val (ov_move rfl rfl) ?_
  refine al_val (ov_lenD 0 rfl rfl Tryd.underlying45 rfl) ?_
  refine al_val (ov_move rfl rfl) ?_
  refine al_val (ov_lenD 1 rfl rfl Tryd.underlying45 rfl) ?_
  refine al_val (ov_int rfl rfl rfl rfl) ?_
  refine al_nil ?_
  refine aq_then ?_
  refine aw_cond rfl (fun hb1 => ?_) (fun hb1 => ?_)
  · replace h := bif_t hb1 h
    refine aw_seq ?_
    refine aw_region ?_
    refine al_val (ov_assign rfl rfl) ?_
    refine al_nil ?_
    refine aq_then ?_
    refine aw_ret ?_
    refine aq_then_ret ?_
    obtain rfl := Option.some.inj h
    exact fn_ret () [] [] rfl rfl rfl rfl (res1 rfl rfl) rfl rfl rfl (by decide)
  · replace h := bif_f hb1 h
    refine aw_skip ?_
    refine aq_then ?_
    obtain ⟨kk3, hkk3, h⟩ := lt_some h
    refine aw_seq_join (ι := Unit) (fun i => (memOf w0 Z0 [] [] [(fDat (tyList tyS_api_Node) [v0_0] a0), (fDat (tyList tyS_api_Node) [v1_0] a1)])) (fun i => (tab [])) (fun i => kk3 () = some r) ?_ ?_
    · rintro _ h
      have h : kk3 () = some r := h
      rw [hkk3] at h
      dsimp only at h
      clear hkk3
      refine aw_show (m := (memOf w0 Z0 [] [] [(fDat (tyList tyS_api_Node) [v0_0] a0), (fDat (tyList tyS_api_Node) [v1_0] a1)])) (S := (tab [])) ?_
      refine aw_seq ?_
      refine aw_region ?_
      refine al_val (ov_assign rfl rfl) ?_
      refine al_nil ?_
      refine aq_then ?_
      refine aw_ret ?_
      obtain rfl := Option.some.inj h
      exact fn_ret () [] [] rfl rfl rfl rfl (res1 rfl rfl) rfl rfl rfl (by decide)
    · clear hkk3
      refine aw_seq ?_
      refine aw_region ?_
      refine al_val (ov_move rfl rfl) ?_
      refine al_val (ov_lenD 0 rfl rfl Tryd.underlying45 rfl) ?_
      refine al_val (ov_move rfl rfl) ?_
      refine al_nil ?_
      refine aq_then ?_
      refine aw_block ?_
      refine aw_state (aw_loop (ι := Int) (fun i => (memOf w0 Z0 [] [] [(fDat (tyList tyS_api_Node) [v1_0] a1), (fDat (tyList tyS_api_Node) [v0_0] a0)])) (fun i => (tab [(1, v1_0), (2, (Value.func (.func 61) #[] #[])), (15, v0_0), (16, (Value.int .i64 (a0.length : Int))), (17, (Value.int .i64 i))])) (fun q i => f_slices_EqualFunc___api_Node___api_Node_api_Node_api_Node__F61_L6 a0 a1 kk3 fu q i = some r) ?_ fu (0 : Int) h) (fun w a hm hs => norm hm hs [] [1, 0] [(1, v1_0), (2, (Value.func (.func 61) #[] #[])), (15, v0_0), (16, (Value.int .i64 (a0.length : Int))), (17, (Value.int .i64 (0 : Int)))] (by decide) ⟨rfl, rfl, rfl, rfl, rfl, trivial⟩)
      clear h
      rintro k5 l4i17 h
      have h : f_slices_EqualFunc___api_Node___api_Node_api_Node_api_Node__F61_L6 a0 a1 kk3 fu k5 l4i17 = some r := h
      obtain _ | k5 := k5
      · rw [f_slices_EqualFunc___api_Node___api_Node_api_Node_api_Node__F61_L6] at h; cases h
      rw [f_slices_EqualFunc___api_Node___api_Node_api_Node_api_Node__F61_L6] at h
      refine aw_show (m := (memOf w0 Z0 [] [] [(fDat (tyList tyS_api_Node) [v1_0] a1), (fDat (tyList tyS_api_Node) [v0_0] a0)])) (S := (tab [(1, v1_0), (2, (Value.func (.func 61) #[] #[])), (15, v0_0), (16, (Value.int .i64 (a0.length : Int))), (17, (Value.int .i64 l4i17))])) ?_
      refine aw_seq ?_
      refine aw_region ?_
      refine al_val (ov_int rfl rfl rfl rfl) ?_
      refine al_nil ?_
      refine aq_then ?_
      refine aw_seq ?_
      refine aw_cond rfl (fun hb7 => ?_) (fun hb7 => ?_)
      · replace h := bif_t hb7 h
        refine aw_skip ?_
        refine aq_then ?_
        refine aw_seq ?_
        refine aw_block ?_
        refine aw_seq ?_
        refine aw_region ?_
        refine al_val (ov_move rfl rfl) ?_
        obtain ⟨u8, hu9, h⟩ := opt_some h
        refine al_idxD 1 hu9 rfl rfl rfl Tryd.underlying45 sz79 rfl (fun p10 => ?_)
        refine al_loadPA 0 rfl rfl Tryd.underlying79 sz79 rfl rfl (fun cs12 => ?_)
        refine al_use (ι := Value) 0 rfl (fun j => cs12 = [(str u8.Name), (Value.int .i64 u8.Kind), (Value.int .i64 u8.Mode), (Value.int .i64 u8.Time), (Value.int .i64 u8.Size), j, (str u8.Link)]) (fun j => [(fDat (tyList tyA8u8) [j] u8.Parts)]) encnS_api_Node (fun s11 hq => ?_)
        subst hq
        refine al_alloc (zs := [(str ([] : List UInt8)), (Value.int .i64 (0 : Int)), (Value.int .i64 (0 : Int)), (Value.int .i64 (0 : Int)), (Value.int .i64 (0 : Int)), (Value.slice none 0 0), (str ([] : List UInt8))]) (zeroOf_to to79) rfl rfl (fun g13 => ?_)
        refine al_val (ov_assign rfl rfl) ?_
        refine al_store (i := 0) (vs := [(str u8.Name), (Value.int .i64 u8.Kind), (Value.int .i64 u8.Mode), (Value.int .i64 u8.Time), (Value.int .i64 u8.Size), s11, (str u8.Link)]) (cs' := [(str u8.Name), (Value.int .i64 u8.Kind), (Value.int .i64 u8.Mode), (Value.int .i64 u8.Time), (Value.int .i64 u8.Size), s11, (str u8.Link)]) rfl rfl rfl sz79 (cv_rfl rfl) rfl (co_val rfl (co_val rfl (co_val rfl (co_val rfl (co_val rfl (co_fz 0 rfl (co_val rfl co_nil))))))) (Nat.le_of_ble_eq_true rfl) rfl rfl ?_
        refine al_nil ?_
        refine aq_then ?_
        refine aw_seq ?_
        refine aw_region ?_
        refine al_val (ov_move rfl rfl) ?_
        refine al_val (ov_move rfl rfl) ?_
        obtain ⟨u14, hu15, h⟩ := opt_some h
        refine al_idxD 3 hu15 rfl rfl rfl Tryd.underlying45 sz79 rfl (fun p16 => ?_)
        refine al_loadPA 0 rfl rfl Tryd.underlying79 sz79 rfl rfl (fun cs18 => ?_)
        refine al_use (ι := Value) 0 rfl (fun j => cs18 = [(str u14.Name), (Value.int .i64 u14.Kind), (Value.int .i64 u14.Mode), (Value.int .i64 u14.Time), (Value.int .i64 u14.Size), j, (str u14.Link)]) (fun j => [(fDat (tyList tyA8u8) [j] u14.Parts)]) encnS_api_Node (fun s17 hq => ?_)
        subst hq
        refine al_alloc (zs := [(str ([] : List UInt8)), (Value.int .i64 (0 : Int)), (Value.int .i64 (0 : Int)), (Value.int .i64 (0 : Int)), (Value.int .i64 (0 : Int)), (Value.slice none 0 0), (str ([] : List UInt8))]) (zeroOf_to to79) rfl rfl (fun g19 => ?_)
        refine al_store (i := 0) (vs := [(str u14.Name), (Value.int .i64 u14.Kind), (Value.int .i64 u14.Mode), (Value.int .i64 u14.Time), (Value.int .i64 u14.Size), s17, (str u14.Link)]) (cs' := [(str u14.Name), (Value.int .i64 u14.Kind), (Value.int .i64 u14.Mode), (Value.int .i64 u14.Time), (Value.int .i64 u14.Size), s17, (str u14.Link)]) rfl rfl rfl sz79 (cv_rfl rfl) rfl (co_val rfl (co_val rfl (co_val rfl (co_val rfl (co_val rfl (co_fz 0 rfl (co_val rfl co_nil))))))) (Nat.le_of_ble_eq_true rfl) rfl rfl ?_
        refine al_nil ?_
        refine aq_then ?_
        refine aw_seq ?_
        refine aw_region ?_
        refine al_val (ov_move rfl rfl) ?_
        refine al_val (ov_load (i := 1) (v := (ag [(str u8.Name), (Value.int .i64 u8.Kind), (Value.int .i64 u8.Mode), (Value.int .i64 u8.Time), (Value.int .i64 u8.Size), s11, (str u8.Link)])) rfl rfl Tryd.underlying79 sz79 rfl rfl rfl rfl) ?_
        refine al_val (ov_load (i := 0) (v := (ag [(str u14.Name), (Value.int .i64 u14.Kind), (Value.int .i64 u14.Mode), (Value.int .i64 u14.Time), (Value.int .i64 u14.Size), s17, (str u14.Link)])) rfl rfl Tryd.underlying79 sz79 rfl rfl rfl rfl) ?_
        obtain ⟨r21, hc20, h⟩ := opt_some h
        refine al_callF (vs := [(ag [(str u8.Name), (Value.int .i64 u8.Kind), (Value.int .i64 u8.Mode), (Value.int .i64 u8.Time), (Value.int .i64 u8.Size), s11, (str u8.Link)]), (ag [(str u14.Name), (Value.int .i64 u14.Kind), (Value.int .i64 u14.Mode), (Value.int .i64 u14.Time), (Value.int .i64 u14.Size), s17, (str u14.Link)])]) (caps := []) (f_lumref_SameNode_ok fu s11 u8 s17 u14 hc20) rfl [] [] [0, 1] (pre_fz 3 rfl (pre_fz 0 rfl pre_nil)) rfl (by simp) (by decide) (.inl rfl) rfl rfl Tryd.func61 rfl rfl rfl (fun _ => ?_)
        refine al_val (ov_not rfl rfl) ?_
        refine al_nil ?_
        refine aq_then ?_
        refine aw_cond rfl (fun hb22 => ?_) (fun hb22 => ?_)
        · replace h := bif_t hb22 h
          refine aw_seq ?_
          refine aw_region ?_
          refine al_val (ov_assign rfl rfl) ?_
          refine al_nil ?_
          refine aq_then ?_
          refine aw_ret ?_
          refine aq_block_ret ?_
          refine aq_then_ret ?_
          refine aq_then_ret ?_
          refine aq_block_ret ?_
          refine aq_then_ret ?_
          obtain rfl := Option.some.inj h
          exact fn_ret () [] [] rfl rfl rfl rfl (res1 rfl rfl) rfl rfl rfl (by decide)
        · replace h := bif_f hb22 h
          refine aw_skip ?_
          refine aq_block ?_
          refine aq_then ?_
          refine aw_region ?_
          refine al_val (ov_int rfl rfl rfl rfl) ?_
          refine al_val (ov_move rfl rfl) ?_
          refine al_nil ?_
          exact aq_again k5 (IntKind.i64.wrap (l4i17 + (1 : Int))) (Nat.lt_succ_self _) h (fun w a hm hs => norm hm hs [] [6, 7] [(1, v1_0), (2, (Value.func (.func 61) #[] #[])), (15, v0_0), (16, (Value.int .i64 (a0.length : Int))), (17, (Value.int .i64 (IntKind.i64.wrap (l4i17 + (1 : Int)))))] (by decide) ⟨rfl, rfl, rfl, rfl, rfl, trivial⟩)
      · replace h := bif_f hb7 h
        refine aw_exit ?_
        refine aq_then_exit ?_
        refine aq_then_exit ?_
        refine aq_block_exit ?_
        exact aq_join () h (fun w a hm hs => norm hm hs [] [1, 0] [] (by decide) trivial)
def f_lumlaw_SameNodes (fu : Nat) (a0 : (List S_api_Node)) (a1 : (List S_api_Node)) : Option Bool := (opt (f_slices_EqualFunc___api_Node___api_Node_api_Node_api_Node__F61 fu a0 a1) fun (r2 : Bool) => (some r2))
set_option maxRecDepth 100000 in
theorem f_lumlaw_SameNodes_ok (fu : Nat) (v0_0 : Value) (a0 : (List S_api_Node)) (v1_0 : Value) (a1 : (List S_api_Node)) {r : Bool} (h : f_lumlaw_SameNodes fu a0 a1 = some r) : FnOk Tryd.prog 30 [v0_0, v1_0] [(fDat (tyList tyS_api_Node) [v0_0] a0), (fDat (tyList tyS_api_Node) [v1_0] a1)] [] (fun (i : Unit) => { val := (Value.bool r) }) := by
  unfold f_lumlaw_SameNodes at h
  refine fn_enter Tryd.func30 rfl Tryd.ntmps30 rfl (fun w0 Z0 => ?_)
  refine aw_seq ?_
  refine aw_region ?_
  refine al_val (ov_assign rfl rfl) ?_
  refine al_nil ?_
  refine aq_then ?_
  refine aw_seq ?_
  refine aw_region ?_
  refine al_val (ov_move rfl rfl) ?_
  refine al_val (ov_move rfl rfl) ?_
  obtain ⟨r2, hc1, h⟩ := opt_some h
  refine al_call (vs := [v0_0, v1_0, (Value.func (.func 61) #[] #[])]) (f_slices_EqualFunc___api_Node___api_Node_api_Node_api_Node__F61_ok fu v0_0 a0 v1_0 a1 hc1) [] [] [] (pre_fz 0 rfl (pre_fz 1 rfl pre_nil)) rfl (by simp) (by decide) (.inl rfl) rfl Tryd.func60 rfl rfl rfl (fun _ => ?_)
  refine al_val (ov_assign rfl rfl) ?_
  refine al_nil ?_
  refine aq_then ?_
  refine aw_ret ?_
  obtain rfl := Option.some.inj h
  exact fn_ret () [] [] rfl rfl rfl rfl (res1 rfl rfl) rfl rfl rfl (by decide)
def f_lumlaw_TreeReads (fu : Nat) (a0 : (List UInt8)) : Option Bool := (opt (f_tree_Read fu a0) fun (r2 : ((List S_api_Node) × Int)) => (opt (f_lumref_TreeRead fu a0) fun (r5 : ((List S_api_Node) × Int)) => (lt (fun (j7b2 : Bool) => (some j7b2)) fun (kk8 : Bool → Option Bool) => (opt (f_lumlaw_SameNodes fu r2.1 r5.1) fun (r10 : Bool) => (bif r10 then (kk8 (r2.2 == r5.2)) else (kk8 false))))))
set_option maxRecDepth 100000 in
theorem f_lumlaw_TreeReads_ok (fu : Nat) (a0 : (List UInt8)) {r : Bool} (h : f_lumlaw_TreeReads fu a0 = some r) : FnOk Tryd.prog 7 [(str a0)] [uTabs] [] (fun (i : Unit) => { val := (Value.bool r) }) := by
  unfold f_lumlaw_TreeReads at h
  refine fn_enter Tryd.func7 rfl Tryd.ntmps7 rfl (fun w0 Z0 => ?_)
  refine aw_seq ?_
  refine aw_region ?_
  refine al_val (ov_assign rfl rfl) ?_
  refine al_nil ?_
  refine aq_then ?_
  refine aw_seq ?_
  refine aw_region ?_
  refine al_val (ov_move rfl rfl) ?_
  obtain ⟨r2, hc1, h⟩ := opt_some h
  refine al_call (vs := [(str a0)]) (f_tree_Read_ok fu a0 hc1) [] [] [] (pre_fz 0 rfl pre_nil) rfl (by simp) (by decide) (.inl rfl) rfl Tryd.func28 rfl rfl rfl (fun v3 => ?_)
  refine al_val (ov_move rfl rfl) ?_
  refine al_val (ov_extract rfl rfl rfl) ?_
  refine al_val (ov_extract rfl rfl rfl) ?_
  refine al_val (ov_assign rfl rfl) ?_
  refine al_val (ov_assign rfl rfl) ?_
  refine al_nil ?_
  refine aq_then ?_
  refine aw_seq ?_
  refine aw_region ?_
  refine al_val (ov_move rfl rfl) ?_
  obtain ⟨r5, hc4, h⟩ := opt_some h
  refine al_call (vs := [(str a0)]) (f_lumref_TreeRead_ok fu a0 hc4) [] [] [0] pre_nil rfl (by simp) (by decide) (.inl rfl) rfl Tryd.func29 rfl rfl rfl (fun v6 => ?_)
  refine al_val (ov_move rfl rfl) ?_
  refine al_val (ov_extract rfl rfl rfl) ?_
  refine al_val (ov_extract rfl rfl rfl) ?_
  refine al_val (ov_assign rfl rfl) ?_
  refine al_val (ov_assign rfl rfl) ?_
  refine al_nil ?_
  refine aq_then ?_
  obtain ⟨kk8, hkk8, h⟩ := lt_some h
  refine aw_seq_join (ι := Bool) (fun i => (memOf w0 Z0 [] [] [uTabs])) (fun i => (tab [(2, (Value.bool i))])) (fun i => kk8 i = some r) ?_ ?_
  · rintro j7b2 h
    have h : kk8 j7b2 = some r := h
    rw [hkk8] at h
    dsimp only at h
    clear hkk8
    refine aw_show (m := (memOf w0 Z0 [] [] [uTabs])) (S := (tab [(2, (Value.bool j7b2))])) ?_
    refine aw_ret ?_
    obtain rfl := Option.some.inj h
    exact fn_ret () [] [] rfl rfl rfl rfl (res1 rfl rfl) rfl rfl rfl (by decide)
  · clear hkk8
    refine aw_region ?_
    refine al_val (ov_move rfl rfl) ?_
    refine al_val (ov_move rfl rfl) ?_
    obtain ⟨r10, hc9, h⟩ := opt_some h
    refine al_call (vs := [v3, v6]) (f_lumlaw_SameNodes_ok fu v3 r2.1 v6 r5.1 hc9) [0, 1] [] [0, 1] (pre_own 1 rfl rfl (pre_own 0 rfl rfl pre_nil)) rfl (by simp) (by decide) (.inr flat_res0) rfl Tryd.func30 rfl rfl rfl (fun _ => ?_)
    refine al_val (ov_move rfl rfl) ?_
    refine al_caseB 20 rfl (fun hb11 => ?_) (fun hb11 => ?_)
    · replace h := bif_t hb11 h
      refine al_val (ov_move rfl rfl) ?_
      refine al_val (ov_move rfl rfl) ?_
      refine al_val (ov_int rfl rfl rfl rfl) ?_
      refine al_val (ov_pick_t rfl rfl rfl) ?_
      refine al_val (ov_assign rfl rfl) ?_
      refine al_nil ?_
      exact aq_join (r2.2 == r5.2) h (fun w a hm hs => norm hm hs [] [0] [(2, (Value.bool (r2.2 == r5.2)))] (by decide) ⟨rfl, trivial⟩)
    · replace h := bif_f hb11 h
      refine al_skip ?_
      refine al_skip ?_
      refine al_skip ?_
      refine al_val (ov_pick_f rfl rfl rfl) ?_
      refine al_val (ov_assign rfl rfl) ?_
      refine al_nil ?_
      exact aq_join false h (fun w a hm hs => norm hm hs [] [0] [(2, (Value.bool false))] (by decide) ⟨rfl, trivial⟩)
end Go.Proofs.YtaoopodaalhheaaDoor
