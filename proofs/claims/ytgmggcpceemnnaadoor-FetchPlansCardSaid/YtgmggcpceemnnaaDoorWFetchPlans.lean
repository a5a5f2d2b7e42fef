/- Walks by program. No condition. -/
import Derived.Test.YtgmggcpceemnnaaDoorEn21
import Derived.Test.YtgmggcpceemnnaaDoorChecked
import Derived.Test.YtgmggcpceemnnaaDoorShBEPut
import Derived.Test.YtgmggcpceemnnaaDoorEn23
import Derived.Test.YtgmggcpceemnnaaDoorEnU
import Derived.Test.YtgmggcpceemnnaaDoorEn25
import Derived.Test.YtgmggcpceemnnaaDoorShRepeat
import Derived.Test.YtgmggcpceemnnaaDoorWFetchPlans_c
namespace Go.Proofs.YtgmggcpceemnnaaDoor
open Go.RowKit YtgmggcpceemnnaaDoor.En
set_option linter.unusedVariables false
set_option linter.unusedSimpArgs false
open Go.Value (int bool)
set_option maxRecDepth 100000 in
theorem f_slices_Equal___api_Blob_api_Blob__ok (fu : Nat) (v0_0 : Value) (a0 : (List S_api_Blob)) (v1_0 : Value) (a1 : (List S_api_Blob)) {r : Bool} (h : f_slices_Equal___api_Blob_api_Blob_ fu a0 a1 = some r) : FnOk Tryd.prog 16 [v0_0, v1_0] [(fDat (tyList tyS_api_Blob) [v0_0] a0), (fDat (tyList tyS_api_Blob) [v1_0] a1)] [] (fun (i : Unit) => { val := (bool r) }) := by
 unfold f_slices_Equal___api_Blob_api_Blob_ at h
 refine fn_enter Tryd.func16 rfl Tryd.ntmps16 rfl (fun w0 Z0 => ?_)
 refine aw_sr ?_
 refine al_as rfl rfl ?_
 refine al_nt ?_
 refine aw_seq ?_
 refine aw_sr ?_
 refine al_mv rfl rfl ?_
 refine al_val (ov_lenD 0 rfl rfl Tryd.underlying28 rfl) ?_
 refine al_mv rfl rfl ?_
 refine al_val (ov_lenD 1 rfl rfl Tryd.underlying28 rfl) ?_
 refine al_in rfl rfl rfl rfl ?_
 refine al_nt ?_
 refine aw_cond rfl (fun hb1 => ?_) (fun hb1 => ?_)
 ·replace h := bif_t hb1 h
  refine aw_sr ?_
  refine al_as rfl rfl ?_
  refine al_nt ?_
  refine aw_ret ?_
  refine aq_then_ret ?_
  obtain rfl := Option.some.inj h
  exact fn_ret () [] [] rfl rfl rfl rfl (res1 rfl rfl) rfl rfl rfl (by decide)
 ·replace h := bif_f hb1 h
  refine aw_skip ?_
  refine aq_then ?_
  obtain ⟨kk3, hkk3, h⟩ := lt_some h
  refine aw_seq_join (ι := Unit) (fun i => (memOf w0 Z0 [] [] [(fDat (tyList tyS_api_Blob) [v0_0] a0), (fDat (tyList tyS_api_Blob) [v1_0] a1)])) (fun i => (tab [])) (fun i => kk3 () = some r) ?_ ?_
  ·rintro _ h
   have h : kk3 () = some r := h
   rw [hkk3] at h
   dsimp only at h
   clear hkk3
   refine aw_show (m := (memOf w0 Z0 [] [] [(fDat (tyList tyS_api_Blob) [v0_0] a0), (fDat (tyList tyS_api_Blob) [v1_0] a1)])) (S := (tab [])) ?_
   refine aw_sr ?_
   refine al_as rfl rfl ?_
   refine al_nt ?_
   refine aw_ret ?_
   obtain rfl := Option.some.inj h
   exact fn_ret () [] [] rfl rfl rfl rfl (res1 rfl rfl) rfl rfl rfl (by decide)
  ·clear hkk3
   refine aw_sr ?_
   refine al_mv rfl rfl ?_
   refine al_val (ov_lenD 0 rfl rfl Tryd.underlying28 rfl) ?_
   refine al_mv rfl rfl ?_
   refine al_nt ?_
   refine aw_block ?_
   refine aw_state (aw_loop (ι := Int) (fun i => (memOf w0 Z0 [] [] [(fDat (tyList tyS_api_Blob) [v0_0] a0), (fDat (tyList tyS_api_Blob) [v1_0] a1)])) (fun i => (tab [(0, v0_0), (1, v1_0), (12, (int .i64 (a0.length : Int))), (13, (int .i64 i))])) (fun q i => f_slices_Equal___api_Blob_api_Blob__L6 a0 a1 kk3 q i = some r) ?_ fu (0 : Int) h) (fun w a hm hs => norm hm hs [] [0, 1] [(0, v0_0), (1, v1_0), (12, (int .i64 (a0.length : Int))), (13, (int .i64 (0 : Int)))] (by decide) ⟨rfl, rfl, rfl, rfl, trivial⟩)
   clear h
   rintro k5 l4i13 h
   have h : f_slices_Equal___api_Blob_api_Blob__L6 a0 a1 kk3 k5 l4i13 = some r := h
   obtain _ | k5 := k5
   · rw [f_slices_Equal___api_Blob_api_Blob__L6] at h; cases h
   rw [f_slices_Equal___api_Blob_api_Blob__L6] at h
   refine aw_show (m := (memOf w0 Z0 [] [] [(fDat (tyList tyS_api_Blob) [v0_0] a0), (fDat (tyList tyS_api_Blob) [v1_0] a1)])) (S := (tab [(0, v0_0), (1, v1_0), (12, (int .i64 (a0.length : Int))), (13, (int .i64 l4i13))])) ?_
   refine aw_sr ?_
   refine al_in rfl rfl rfl rfl ?_
   refine al_nt ?_
   refine aw_seq ?_
   refine aw_cond rfl (fun hb7 => ?_) (fun hb7 => ?_)
   ·replace h := bif_t hb7 h
    refine aw_skip ?_
    refine aq_then ?_
    refine aw_seq ?_
    refine aw_block ?_
    refine aw_sr ?_
    refine al_mv rfl rfl ?_
    refine al_as rfl rfl ?_
    refine al_nt ?_
    refine aw_seq ?_
    obtain ⟨u8, hu9, h⟩ := opt_some h
    obtain ⟨u11, hu12, h⟩ := opt_some h
    refine aw_region_draw 8 [(16, (fun u => fEq u v0_0)), (17, (fun u => fEq u (int .i64 l4i13))), (18, (fun p10 => (fPtr tyS_api_Blob p10 u8))), (19, (fun u => fEq u (ag [(int .i64 u8.Kind), (str u8.Bytes)]))), (20, (fun u => fEq u v1_0)), (21, (fun u => fEq u (int .i64 l4i13))), (22, (fun p13 => (fPtr tyS_api_Blob p13 u11))), (23, (fun u => fEq u (ag [(int .i64 u11.Kind), (str u11.Bytes)])))] (tab [(0, v0_0), (1, v1_0), (5, (int .i64 l4i13)), (12, (int .i64 (a0.length : Int))), (13, (int .i64 l4i13))]) mixed (by kernel_rfl) rfl rfl rfl (fun a hs => hs.tab _ (allT_mem ⟨rfl, rfl, rfl, rfl, rfl, trivial⟩)) ⟨⟨rfl, ld_val (ov_move rfl rfl)⟩, ⟨rfl, ld_val (ov_move rfl rfl)⟩, ⟨rfl, ld_eq (j := 0) rfl rfl (ld_eq (j := 1) rfl rfl (ld_of (of_idxD 0 hu9 rfl rfl rfl Tryd.underlying28 sz34 rfl)))⟩, ⟨rfl, ld_fact (j := 2) rfl rfl (fun p10 => ld_val (ov_loadP (ds := [(int .i64 u8.Kind), (str u8.Bytes)]) 0 rfl encS_api_Blob rfl Tryd.underlying34 sz34 rfl rfl rfl))⟩, ⟨rfl, ld_val (ov_move rfl rfl)⟩, ⟨rfl, ld_val (ov_move rfl rfl)⟩, ⟨rfl, ld_eq (j := 4) rfl rfl (ld_eq (j := 5) rfl rfl (ld_of (of_idxD 1 hu12 rfl rfl rfl Tryd.underlying28 sz34 rfl)))⟩, ⟨rfl, ld_fact (j := 6) rfl rfl (fun p13 => ld_val (ov_loadP (ds := [(int .i64 u11.Kind), (str u11.Bytes)]) 0 rfl encS_api_Blob rfl Tryd.underlying34 sz34 rfl rfl rfl))⟩, trivial⟩ ?_
    refine tl_eq 3 rfl ?_
    refine tl_eq 7 rfl ?_
    refine tl_done ?_
    obtain ⟨hc14, h⟩ := req_some h
    obtain ⟨hc15, h⟩ := req_some h
    obtain ⟨hc16, h⟩ := req_some h
    obtain ⟨hc17, h⟩ := req_some h
    refine al_val (ov_neqA (cs := [(int .i64 u8.Kind), (str u8.Bytes)]) (ds := [(int .i64 u11.Kind), (str u11.Bytes)]) (ls := [3, 9]) (p := (u8 == u11)) eg34 kt34 lv34 rfl rfl (by kernel_rfl) (by kernel_rfl) (fit_cons (fit_int Tryd.underlying3 hc14) (fit_cons (fit_str Tryd.underlying9 hc15) fit_nil)) (fit_cons (fit_int Tryd.underlying3 hc16) (fit_cons (fit_str Tryd.underlying9 hc17) fit_nil)) (injS_api_Blob (x := u8) (y := u11)) rfl) ?_
    refine al_nt ?_
    refine aw_cond rfl (fun hb18 => ?_) (fun hb18 => ?_)
    ·replace h := bif_t hb18 h
     refine aw_sr ?_
     refine al_as rfl rfl ?_
     refine al_nt ?_
     refine aw_ret ?_
     refine aq_block_ret ?_
     refine aq_then_ret ?_
     refine aq_then_ret ?_
     refine aq_block_ret ?_
     refine aq_then_ret ?_
     obtain rfl := Option.some.inj h
     exact fn_ret () [] [] rfl rfl rfl rfl (res1 rfl rfl) rfl rfl rfl (by decide)
    ·replace h := bif_f hb18 h
     refine aw_skip ?_
     refine aq_block ?_
     refine aq_then ?_
     refine aw_region ?_
     refine al_in rfl rfl rfl rfl ?_
     refine al_mv rfl rfl ?_
     refine al_nil ?_
     exact aq_again k5 (IntKind.i64.wrap (l4i13 + (1 : Int))) (Nat.lt_succ_self _) h (fun w a hm hs => norm hm hs [] [0, 1] [(0, v0_0), (1, v1_0), (12, (int .i64 (a0.length : Int))), (13, (int .i64 (IntKind.i64.wrap (l4i13 + (1 : Int)))))] (by decide) ⟨rfl, rfl, rfl, rfl, trivial⟩)
   ·replace h := bif_f hb7 h
    refine aw_exit ?_
    refine aq_then_exit ?_
    refine aq_then_exit ?_
    refine aq_block_exit ?_
    exact aq_join () h (fun w a hm hs => norm hm hs [] [0, 1] [] (by decide) trivial)
def f_lumlaw_FetchPlans (fu : Nat) (a0 : (List A8u8)) (a1 : (List S_api_Blob)) (a2 : (List A8u8)) : Option Bool := (opt (f_fetch_Plan fu a0 a1 a2) fun (r2 : ((List S_api_Blob) × Int)) => (opt (f_lumref_Plan86 fu a0 a1 a2) fun (r5 : ((List S_api_Blob) × Int)) => (lt (fun (j7b6 : Bool) => (some j7b6)) fun (kk8 : Bool → Option Bool) => (opt (f_fetch_Closed fu a1) fun (r10 : Int) => (opt (f_lumref_Closed fu a1) fun (r12 : Int) => (bif (r10 == r12) then (opt (f_slices_Equal___api_Blob_api_Blob_ fu r2.1 r5.1) fun (r15 : Bool) => (bif r15 then (kk8 (r2.2 == r5.2)) else (kk8 false))) else (kk8 false)))))))
set_option maxRecDepth 100000 in
theorem f_lumlaw_FetchPlans_ok (fu : Nat) (v0_0 : Value) (a0 : (List A8u8)) (v1_0 : Value) (a1 : (List S_api_Blob)) (v2_0 : Value) (a2 : (List A8u8)) {r : Bool} (h : f_lumlaw_FetchPlans fu a0 a1 a2 = some r) : FnOk Tryd.prog 4 [v0_0, v1_0, v2_0] [(fDat (tyList tyA8u8) [v0_0] a0), (fDat (tyList tyS_api_Blob) [v1_0] a1), (fDat (tyList tyA8u8) [v2_0] a2), uTabs] [] (fun (i : Unit) => { val := (bool r) }) := by
 unfold f_lumlaw_FetchPlans at h
 refine fn_enter Tryd.func4 rfl Tryd.ntmps4 rfl (fun w0 Z0 => ?_)
 refine aw_sr ?_
 refine al_as rfl rfl ?_
 refine al_nt ?_
 refine aw_sr ?_
 refine al_mv rfl rfl ?_
 refine al_mv rfl rfl ?_
 refine al_mv rfl rfl ?_
 obtain ⟨r2, hc1, h⟩ := opt_some h
 refine al_call (vs := [v0_0, v1_0, v2_0]) (f_fetch_Plan_ok fu v0_0 a0 v1_0 a1 v2_0 a2 hc1) [] [] [] (pre_fz 0 rfl (pre_fz 1 rfl (pre_fz 2 rfl (pre_fz 3 rfl pre_nil)))) rfl (by simp) (by decide) (.inl rfl) rfl Tryd.func12 rfl rfl rfl (fun v3 => ?_)
 refine al_mv rfl rfl ?_
 refine al_ex rfl rfl rfl ?_
 refine al_ex rfl rfl rfl ?_
 refine al_as rfl rfl ?_
 refine al_as rfl rfl ?_
 refine al_nt ?_
 refine aw_sr ?_
 refine al_mv rfl rfl ?_
 refine al_mv rfl rfl ?_
 refine al_mv rfl rfl ?_
 obtain ⟨r5, hc4, h⟩ := opt_some h
 refine al_call (vs := [v0_0, v1_0, v2_0]) (f_lumref_Plan86_ok fu v0_0 a0 v1_0 a1 v2_0 a2 hc4) [] [] [0] (pre_fz 0 rfl (pre_fz 1 rfl (pre_fz 2 rfl pre_nil))) rfl (by simp) (by decide) (.inl rfl) rfl Tryd.func13 rfl rfl rfl (fun v6 => ?_)
 refine al_mv rfl rfl ?_
 refine al_ex rfl rfl rfl ?_
 refine al_ex rfl rfl rfl ?_
 refine al_as rfl rfl ?_
 refine al_as rfl rfl ?_
 refine al_nt ?_
 obtain ⟨kk8, hkk8, h⟩ := lt_some h
 refine aw_seq_join (ι := Bool) (fun i => (memOf w0 Z0 [] [] [(fDat (tyList tyA8u8) [v0_0] a0), (fDat (tyList tyS_api_Blob) [v1_0] a1), (fDat (tyList tyA8u8) [v2_0] a2), uTabs])) (fun i => (tab [(6, (bool i))])) (fun i => kk8 i = some r) ?_ ?_
 ·rintro j7b6 h
  have h : kk8 j7b6 = some r := h
  rw [hkk8] at h
  dsimp only at h
  clear hkk8
  refine aw_show (m := (memOf w0 Z0 [] [] [(fDat (tyList tyA8u8) [v0_0] a0), (fDat (tyList tyS_api_Blob) [v1_0] a1), (fDat (tyList tyA8u8) [v2_0] a2), uTabs])) (S := (tab [(6, (bool j7b6))])) ?_
  refine aw_ret ?_
  obtain rfl := Option.some.inj h
  exact fn_ret () [] [] rfl rfl rfl rfl (res1 rfl rfl) rfl rfl rfl (by decide)
 ·clear hkk8
  refine aw_region ?_
  refine al_mv rfl rfl ?_
  obtain ⟨r10, hc9, h⟩ := opt_some h
  refine al_call (vs := [v1_0]) (f_fetch_Closed_ok fu v1_0 a1 hc9) [] [] [0, 1] (pre_fz 1 rfl (pre_fz 3 rfl pre_nil)) rfl (by simp) (by decide) (.inl rfl) rfl Tryd.func14 rfl rfl rfl (fun _ => ?_)
  refine al_mv rfl rfl ?_
  obtain ⟨r12, hc11, h⟩ := opt_some h
  refine al_call (vs := [v1_0]) (f_lumref_Closed_ok fu v1_0 a1 hc11) [] [] [0, 1] (pre_fz 1 rfl pre_nil) rfl (by simp) (by decide) (.inl rfl) rfl Tryd.func15 rfl rfl rfl (fun _ => ?_)
  refine al_in rfl rfl rfl rfl ?_
  refine al_mv rfl rfl ?_
  refine al_caseB 30 rfl (fun hb13 => ?_) (fun hb13 => ?_)
  ·replace h := bif_t hb13 h
   refine al_mv rfl rfl ?_
   refine al_mv rfl rfl ?_
   obtain ⟨r15, hc14, h⟩ := opt_some h
   refine al_call (vs := [v3, v6]) (f_slices_Equal___api_Blob_api_Blob__ok fu v3 r2.1 v6 r5.1 hc14) [0, 1] [] [0, 1] (pre_own 1 rfl rfl (pre_own 0 rfl rfl pre_nil)) rfl (by simp) (by decide) (.inr flat_res0) rfl Tryd.func16 rfl rfl rfl (fun _ => ?_)
   refine al_val (ov_pick_t rfl rfl rfl) ?_
   refine al_mv rfl rfl ?_
   refine al_caseB 35 rfl (fun hb16 => ?_) (fun hb16 => ?_)
   ·replace h := bif_t hb16 h
    refine al_mv rfl rfl ?_
    refine al_mv rfl rfl ?_
    refine al_in rfl rfl rfl rfl ?_
    refine al_val (ov_pick_t rfl rfl rfl) ?_
    refine al_as rfl rfl ?_
    refine al_nil ?_
    exact aq_join (r2.2 == r5.2) h (fun w a hm hs => norm hm hs [] [0, 1, 2, 3] [(6, (bool (r2.2 == r5.2)))] (by decide) ⟨rfl, trivial⟩)
   ·replace h := bif_f hb16 h
    refine al_skip ?_
    refine al_skip ?_
    refine al_skip ?_
    refine al_val (ov_pick_f rfl rfl rfl) ?_
    refine al_as rfl rfl ?_
    refine al_nil ?_
    exact aq_join false h (fun w a hm hs => norm hm hs [] [0, 1, 2, 3] [(6, (bool false))] (by decide) ⟨rfl, trivial⟩)
  ·replace h := bif_f hb13 h
   refine al_skip ?_
   refine al_skip ?_
   refine al_skip ?_
   refine al_val (ov_pick_f rfl rfl rfl) ?_
   refine al_mv rfl rfl ?_
   refine al_skip ?_
   refine al_skip ?_
   refine al_skip ?_
   refine al_val (ov_pick_f rfl rfl rfl) ?_
   refine al_as rfl rfl ?_
   refine al_nil ?_
   exact aq_join false h (fun w a hm hs => norm hm hs [] [0, 1, 2, 3] [(6, (bool false))] (by decide) ⟨rfl, trivial⟩)
end Go.Proofs.YtgmggcpceemnnaaDoor
