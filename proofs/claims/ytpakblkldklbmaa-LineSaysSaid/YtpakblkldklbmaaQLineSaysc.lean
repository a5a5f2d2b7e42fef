/- What LineSays leans on, part 3. No condition. -/
import Derived.Test.YtpakblkldklbmaaQLineSaysb
import Derived.Test.YtpakblkldklbmaaChecked
import Derived.IntWalk
import Derived.WalkKit
import Derived.Lib.Hide
namespace Go.Proofs.Ytpakblkldklbmaa
open Go.RowKit Ytpakblkldklbmaa.En
set_option linter.unusedVariables false
set_option linter.unusedSimpArgs false
open Go.Value (int bool)
set_option maxHeartbeats 2000000 in
set_option maxRecDepth 100000 in
theorem f_slices_Equal___api_Packet_api_Packet__ok (fu : Nat) (v0_0 : Value) (a0 : (List S_api_Packet)) (v1_0 : Value) (a1 : (List S_api_Packet)) {r : Bool} (h : f_slices_Equal___api_Packet_api_Packet_ fu a0 a1 = some r) : FnOk Try.prog 27 [v0_0, v1_0] [(fDat (tyList tyS_api_Packet) [v0_0] a0), (fDat (tyList tyS_api_Packet) [v1_0] a1)] [] (fun (i : Unit) => { val := (bool r) }) := by
 unfold f_slices_Equal___api_Packet_api_Packet_ at h
 refine fn_enter Try.func27 rfl Try.ntmps27 rfl (fun w0 Z0 => ?_)
 refine aw_sr ?_
 refine al_as rfl rfl ?_
 refine al_nt ?_
 refine aw_seq ?_
 refine aw_sr ?_
 refine al_mv rfl rfl ?_
 refine al_val (ov_lenD 0 rfl rfl Try.underlying59 rfl) ?_
 refine al_mv rfl rfl ?_
 refine al_val (ov_lenD 1 rfl rfl Try.underlying59 rfl) ?_
 refine al_in rfl rfl rfl rfl ?_
 refine al_nt ?_
 refine aw_cond rfl (fun hb1 => ?_) (fun hb1 => ?_)
 ·replace h := bif_t hb1 h
  refine aw_sr ?_
  refine al_as rfl rfl ?_
  refine al_nt ?_
  refine aw_ret ?_
  refine aq_then_ret ?_
  obtain rfl := Option.some.inj h
  exact fn_ret () [] [] rfl rfl rfl rfl (res1 rfl rfl) rfl rfl rfl (by decide)
 ·replace h := bif_f hb1 h
  refine aw_skip ?_
  refine aq_then ?_
  obtain ⟨kk3, hkk3, h⟩ := lt_some h
  refine aw_seq_join (ι := Unit) (fun i => (memOf w0 Z0 [] [] [(fDat (tyList tyS_api_Packet) [v0_0] a0), (fDat (tyList tyS_api_Packet) [v1_0] a1)])) (fun i => (tab [])) (fun i => kk3 () = some r) ?_ ?_
  ·rintro _ h
   have h : kk3 () = some r := h
   rw [hkk3] at h
   dsimp only at h
   clear hkk3
   refine aw_show (m := (memOf w0 Z0 [] [] [(fDat (tyList tyS_api_Packet) [v0_0] a0), (fDat (tyList tyS_api_Packet) [v1_0] a1)])) (S := (tab [])) ?_
   refine aw_sr ?_
   refine al_as rfl rfl ?_
   refine al_nt ?_
   refine aw_ret ?_
   obtain rfl := Option.some.inj h
   exact fn_ret () [] [] rfl rfl rfl rfl (res1 rfl rfl) rfl rfl rfl (by decide)
  ·clear hkk3
   refine aw_sr ?_
   refine al_mv rfl rfl ?_
   refine al_val (ov_lenD 0 rfl rfl Try.underlying59 rfl) ?_
   refine al_mv rfl rfl ?_
   refine al_nt ?_
   refine aw_block ?_
   refine aw_state (aw_loop (ι := Int) (fun i => (memOf w0 Z0 [] [] [(fDat (tyList tyS_api_Packet) [v0_0] a0), (fDat (tyList tyS_api_Packet) [v1_0] a1)])) (fun i => (tab [(0, v0_0), (1, v1_0), (12, (iq (a0.length : Int))), (13, (iq i))])) (fun q i => f_slices_Equal___api_Packet_api_Packet__L6 a0 a1 kk3 q i = some r) ?_ fu (0 : Int) h) (fun w a hm hs => norm hm hs [] [0, 1] [(0, v0_0), (1, v1_0), (12, (iq (a0.length : Int))), (13, (iq (0 : Int)))] (by decide) ⟨rfl, rfl, rfl, rfl, trivial⟩)
   clear h
   rintro k5 l4i13 h
   have h : f_slices_Equal___api_Packet_api_Packet__L6 a0 a1 kk3 k5 l4i13 = some r := h
   obtain _ | k5 := k5
   · rw [f_slices_Equal___api_Packet_api_Packet__L6] at h; cases h
   rw [f_slices_Equal___api_Packet_api_Packet__L6] at h
   refine aw_show (m := (memOf w0 Z0 [] [] [(fDat (tyList tyS_api_Packet) [v0_0] a0), (fDat (tyList tyS_api_Packet) [v1_0] a1)])) (S := (tab [(0, v0_0), (1, v1_0), (12, (iq (a0.length : Int))), (13, (iq l4i13))])) ?_
   refine aw_sr ?_
   refine al_in rfl rfl rfl rfl ?_
   refine al_nt ?_
   refine aw_seq ?_
   refine aw_cond rfl (fun hb7 => ?_) (fun hb7 => ?_)
   ·replace h := bif_t hb7 h
    refine aw_skip ?_
    refine aq_then ?_
    refine aw_seq ?_
    refine aw_block ?_
    refine aw_sr ?_
    refine al_mv rfl rfl ?_
    refine al_as rfl rfl ?_
    refine al_nt ?_
    refine aw_seq ?_
    obtain ⟨u8, hu9, h⟩ := opt_some h
    obtain ⟨u11, hu12, h⟩ := opt_some h
    refine aw_region_draw 8 [(16, (fun u => fEq u v0_0)), (17, (fun u => fEq u (iq l4i13))), (18, (fun p10 => (fPtr tyS_api_Packet p10 u8))), (19, (fun u => fEq u (ag [(iq u8.Kind), (iq u8.Seq), (str u8.Text)]))), (20, (fun u => fEq u v1_0)), (21, (fun u => fEq u (iq l4i13))), (22, (fun p13 => (fPtr tyS_api_Packet p13 u11))), (23, (fun u => fEq u (ag [(iq u11.Kind), (iq u11.Seq), (str u11.Text)])))] (tab [(0, v0_0), (1, v1_0), (5, (iq l4i13)), (12, (iq (a0.length : Int))), (13, (iq l4i13))]) mixed (by kernel_rfl) rfl rfl rfl (fun a hs => hs.tab _ (allT_mem ⟨rfl, rfl, rfl, rfl, rfl, trivial⟩)) ⟨⟨rfl, ld_val (ov_move rfl rfl)⟩, ⟨rfl, ld_val (ov_move rfl rfl)⟩, ⟨rfl, ld_eq (j := 0) rfl rfl (ld_eq (j := 1) rfl rfl (ld_of (of_idxD 0 hu9 rfl rfl rfl Try.underlying59 sz63 rfl)))⟩, ⟨rfl, ld_fact (j := 2) rfl rfl (fun p10 => ld_val (ov_loadP (ds := [(iq u8.Kind), (iq u8.Seq), (str u8.Text)]) 0 rfl encS_api_Packet rfl Try.underlying63 sz63 rfl rfl rfl))⟩, ⟨rfl, ld_val (ov_move rfl rfl)⟩, ⟨rfl, ld_val (ov_move rfl rfl)⟩, ⟨rfl, ld_eq (j := 4) rfl rfl (ld_eq (j := 5) rfl rfl (ld_of (of_idxD 1 hu12 rfl rfl rfl Try.underlying59 sz63 rfl)))⟩, ⟨rfl, ld_fact (j := 6) rfl rfl (fun p13 => ld_val (ov_loadP (ds := [(iq u11.Kind), (iq u11.Seq), (str u11.Text)]) 0 rfl encS_api_Packet rfl Try.underlying63 sz63 rfl rfl rfl))⟩, trivial⟩ ?_
    refine tl_eq 3 rfl ?_
    refine tl_eq 7 rfl ?_
    refine tl_done ?_
    obtain ⟨hc14, h⟩ := req_some h
    obtain ⟨hc15, h⟩ := req_some h
    obtain ⟨hc16, h⟩ := req_some h
    obtain ⟨hc17, h⟩ := req_some h
    obtain ⟨hc18, h⟩ := req_some h
    obtain ⟨hc19, h⟩ := req_some h
    refine al_val (ov_neqA (cs := [(iq u8.Kind), (iq u8.Seq), (str u8.Text)]) (ds := [(iq u11.Kind), (iq u11.Seq), (str u11.Text)]) (ls := [3, 3, 9]) (p := (u8 == u11)) eg63 kt63 lv63 rfl rfl (by kernel_rfl) (by kernel_rfl) (fit_cons (fit_int Try.underlying3 hc14) (fit_cons (fit_int Try.underlying3 hc15) (fit_cons (fit_str Try.underlying9 hc16) fit_nil))) (fit_cons (fit_int Try.underlying3 hc17) (fit_cons (fit_int Try.underlying3 hc18) (fit_cons (fit_str Try.underlying9 hc19) fit_nil))) (injS_api_Packet (x := u8) (y := u11)) rfl) ?_
    refine al_nt ?_
    refine aw_cond rfl (fun hb20 => ?_) (fun hb20 => ?_)
    ·replace h := bif_t hb20 h
     refine aw_sr ?_
     refine al_as rfl rfl ?_
     refine al_nt ?_
     refine aw_ret ?_
     refine aq_block_ret ?_
     refine aq_then_ret ?_
     refine aq_then_ret ?_
     refine aq_block_ret ?_
     refine aq_then_ret ?_
     obtain rfl := Option.some.inj h
     exact fn_ret () [] [] rfl rfl rfl rfl (res1 rfl rfl) rfl rfl rfl (by decide)
    ·replace h := bif_f hb20 h
     refine aw_skip ?_
     refine aq_block ?_
     refine aq_then ?_
     refine aw_region ?_
     refine al_in rfl rfl rfl rfl ?_
     refine al_mv rfl rfl ?_
     refine al_nil ?_
     exact aq_again k5 (wq (l4i13 + (1 : Int))) (Nat.lt_succ_self _) h (fun w a hm hs => norm hm hs [] [0, 1] [(0, v0_0), (1, v1_0), (12, (iq (a0.length : Int))), (13, (iq (wq (l4i13 + (1 : Int)))))] (by decide) ⟨rfl, rfl, rfl, rfl, trivial⟩)
   ·replace h := bif_f hb7 h
    refine aw_exit ?_
    refine aq_then_exit ?_
    refine aq_then_exit ?_
    refine aq_block_exit ?_
    exact aq_join () h (fun w a hm hs => norm hm hs [] [0, 1] [] (by decide) trivial)
def f_lumref_SameReceiver (fu : Nat) (a0 : S_api_Receiver) (a1 : S_api_Receiver) : Option Bool := (lt (fun (j3b4 : Bool) => (some j3b4)) fun (kk4 : Bool → Option Bool) => (opt (f_slices_Equal___string_string_ fu a0.Got a1.Got) fun (r6 : Bool) => (bif r6 then (opt (f_slices_Equal___api_Packet_api_Packet_ fu a0.Held a1.Held) fun (r9 : Bool) => (kk4 r9)) else (kk4 false))))
set_option maxHeartbeats 2000000 in
set_option maxRecDepth 100000 in
theorem f_lumref_SameReceiver_ok (fu : Nat) (v0_0 : Value) (v0_1 : Value) (a0 : S_api_Receiver) (v1_0 : Value) (v1_1 : Value) (a1 : S_api_Receiver) {r : Bool} (h : f_lumref_SameReceiver fu a0 a1 = some r) : FnOk Try.prog 26 [(ag [v0_0, v0_1]), (ag [v1_0, v1_1])] [(fDat (tyList tyStr) [v0_0] a0.Got), (fDat (tyList tyS_api_Packet) [v0_1] a0.Held), (fDat (tyList tyStr) [v1_0] a1.Got), (fDat (tyList tyS_api_Packet) [v1_1] a1.Held)] [] (fun (i : Unit) => { val := (bool r) }) := by
 unfold f_lumref_SameReceiver at h
 refine fn_enter Try.func26 rfl Try.ntmps26 rfl (fun w0 Z0 => ?_)
 refine aw_sr ?_
 refine al_box (vs := [v0_0, v0_1]) rfl (cv_rfl rfl) rfl (fun g1 => ?_)
 refine al_box (vs := [v1_0, v1_1]) rfl (cv_rfl rfl) rfl (fun g2 => ?_)
 refine al_as rfl rfl ?_
 refine al_nt ?_
 obtain ⟨kk4, hkk4, h⟩ := lt_some h
 refine aw_seq_join (ι := Bool) (fun i => (memOf w0 Z0 [] [] [(fDat (tyList tyStr) [v0_0] a0.Got), (fDat (tyList tyS_api_Packet) [v0_1] a0.Held), (fDat (tyList tyStr) [v1_0] a1.Got), (fDat (tyList tyS_api_Packet) [v1_1] a1.Held)])) (fun i => (tab [(4, (bool i))])) (fun i => kk4 i = some r) ?_ ?_
 ·rintro j3b4 h
  have h : kk4 j3b4 = some r := h
  rw [hkk4] at h
  dsimp only at h
  clear hkk4
  refine aw_show (m := (memOf w0 Z0 [] [] [(fDat (tyList tyStr) [v0_0] a0.Got), (fDat (tyList tyS_api_Packet) [v0_1] a0.Held), (fDat (tyList tyStr) [v1_0] a1.Got), (fDat (tyList tyS_api_Packet) [v1_1] a1.Held)])) (S := (tab [(4, (bool j3b4))])) ?_
  refine aw_ret ?_
  obtain rfl := Option.some.inj h
  exact fn_ret () [] [] rfl rfl rfl rfl (res1 rfl rfl) rfl rfl rfl (by decide)
 ·clear hkk4
  refine aw_region ?_
  refine al_val (ov_fieldA (p := 0) rfl Try.underlying61 rfl sz23 rfl rfl rfl) ?_
  refine al_val (ov_load (i := 1) (v := v0_0) rfl rfl Try.underlying23 sz23 rfl rfl rfl rfl) ?_
  refine al_val (ov_fieldA (p := 0) rfl Try.underlying61 rfl sz23 rfl rfl rfl) ?_
  refine al_val (ov_load (i := 0) (v := v1_0) rfl rfl Try.underlying23 sz23 rfl rfl rfl rfl) ?_
  obtain ⟨r6, hc5, h⟩ := opt_some h
  refine al_call (vs := [v0_0, v1_0]) (f_slices_Equal___string_string__ok fu v0_0 a0.Got v1_0 a1.Got hc5) [] [] [0, 1] (pre_fz 0 rfl (pre_fz 2 rfl pre_nil)) rfl (by simp) (by decide) (.inl rfl) rfl Try.func61 rfl rfl rfl (fun _ => ?_)
  refine al_mv rfl rfl ?_
  refine al_caseB 10 rfl (fun hb7 => ?_) (fun hb7 => ?_)
  ·replace h := bif_t hb7 h
   refine al_val (ov_fieldA (p := 1) rfl Try.underlying61 rfl sz59 rfl rfl rfl) ?_
   refine al_val (ov_load (i := 1) (v := v0_1) rfl rfl Try.underlying59 sz59 rfl rfl rfl rfl) ?_
   refine al_val (ov_fieldA (p := 1) rfl Try.underlying61 rfl sz59 rfl rfl rfl) ?_
   refine al_val (ov_load (i := 0) (v := v1_1) rfl rfl Try.underlying59 sz59 rfl rfl rfl rfl) ?_
   obtain ⟨r9, hc8, h⟩ := opt_some h
   refine al_call (vs := [v0_1, v1_1]) (f_slices_Equal___api_Packet_api_Packet__ok fu v0_1 a0.Held v1_1 a1.Held hc8) [] [] [0, 1] (pre_fz 1 rfl (pre_fz 3 rfl pre_nil)) rfl (by simp) (by decide) (.inl rfl) rfl Try.func27 rfl rfl rfl (fun _ => ?_)
   refine al_val (ov_pick_t rfl rfl rfl) ?_
   refine al_as rfl rfl ?_
   refine al_nil ?_
   exact aq_join r9 h (fun w a hm hs => norm hm hs [] [0, 1, 2, 3] [(4, (bool r9))] (by decide) ⟨rfl, trivial⟩)
  ·replace h := bif_f hb7 h
   refine al_skip ?_
   refine al_skip ?_
   refine al_skip ?_
   refine al_skip ?_
   refine al_skip ?_
   refine al_val (ov_pick_f rfl rfl rfl) ?_
   refine al_as rfl rfl ?_
   refine al_nil ?_
   exact aq_join false h (fun w a hm hs => norm hm hs [] [0, 1, 2, 3] [(4, (bool false))] (by decide) ⟨rfl, trivial⟩)
def f_slices_Equal___bool_bool__L6 (a0 : (List Bool)) (a1 : (List Bool)) (kk3 : (Unit → Option Bool)) : Nat → Int → Option Bool
  | 0, _ => none
  | k5 + 1, l4i13 => (bif (decide (l4i13 < (a0.length : Int))) then (opt (at? a0 l4i13) fun (u8 : Bool) => (opt (at? a1 l4i13) fun (u11 : Bool) => (bif (u8 != u11) then (some false) else (f_slices_Equal___bool_bool__L6 a0 a1 kk3 k5 (IntKind.i64.wrap (l4i13 + (1 : Int))))))) else (kk3 ()))
def f_slices_Equal___bool_bool_ (fu : Nat) (a0 : (List Bool)) (a1 : (List Bool)) : Option Bool := (bif ((a0.length : Int) != (a1.length : Int)) then (some false) else (lt (fun (_ : Unit) => (some true)) fun (kk3 : Unit → Option Bool) => (f_slices_Equal___bool_bool__L6 a0 a1 kk3 fu (0 : Int))))
set_option maxHeartbeats 2000000 in
set_option maxRecDepth 100000 in
theorem f_slices_Equal___bool_bool__ok (fu : Nat) (v0_0 : Value) (a0 : (List Bool)) (v1_0 : Value) (a1 : (List Bool)) {r : Bool} (h : f_slices_Equal___bool_bool_ fu a0 a1 = some r) : FnOk Try.prog 37 [v0_0, v1_0] [(fDat (tyList tyBool) [v0_0] a0), (fDat (tyList tyBool) [v1_0] a1)] [] (fun (i : Unit) => { val := (bool r) }) := by
 unfold f_slices_Equal___bool_bool_ at h
 refine fn_enter Try.func37 rfl Try.ntmps37 rfl (fun w0 Z0 => ?_)
 refine aw_sr ?_
 refine al_as rfl rfl ?_
 refine al_nt ?_
 refine aw_seq ?_
 refine aw_sr ?_
 refine al_mv rfl rfl ?_
 refine al_val (ov_lenD 0 rfl rfl Try.underlying56 rfl) ?_
 refine al_mv rfl rfl ?_
 refine al_val (ov_lenD 1 rfl rfl Try.underlying56 rfl) ?_
 refine al_in rfl rfl rfl rfl ?_
 refine al_nt ?_
 refine aw_cond rfl (fun hb1 => ?_) (fun hb1 => ?_)
 ·replace h := bif_t hb1 h
  refine aw_sr ?_
  refine al_as rfl rfl ?_
  refine al_nt ?_
  refine aw_ret ?_
  refine aq_then_ret ?_
  obtain rfl := Option.some.inj h
  exact fn_ret () [] [] rfl rfl rfl rfl (res1 rfl rfl) rfl rfl rfl (by decide)
 ·replace h := bif_f hb1 h
  refine aw_skip ?_
  refine aq_then ?_
  obtain ⟨kk3, hkk3, h⟩ := lt_some h
  refine aw_seq_join (ι := Unit) (fun i => (memOf w0 Z0 [] [] [(fDat (tyList tyBool) [v0_0] a0), (fDat (tyList tyBool) [v1_0] a1)])) (fun i => (tab [])) (fun i => kk3 () = some r) ?_ ?_
  ·rintro _ h
   have h : kk3 () = some r := h
   rw [hkk3] at h
   dsimp only at h
   clear hkk3
   refine aw_show (m := (memOf w0 Z0 [] [] [(fDat (tyList tyBool) [v0_0] a0), (fDat (tyList tyBool) [v1_0] a1)])) (S := (tab [])) ?_
   refine aw_sr ?_
   refine al_as rfl rfl ?_
   refine al_nt ?_
   refine aw_ret ?_
   obtain rfl := Option.some.inj h
   exact fn_ret () [] [] rfl rfl rfl rfl (res1 rfl rfl) rfl rfl rfl (by decide)
  ·clear hkk3
   refine aw_sr ?_
   refine al_mv rfl rfl ?_
   refine al_val (ov_lenD 0 rfl rfl Try.underlying56 rfl) ?_
   refine al_mv rfl rfl ?_
   refine al_nt ?_
   refine aw_block ?_
   refine aw_state (aw_loop (ι := Int) (fun i => (memOf w0 Z0 [] [] [(fDat (tyList tyBool) [v0_0] a0), (fDat (tyList tyBool) [v1_0] a1)])) (fun i => (tab [(0, v0_0), (1, v1_0), (12, (iq (a0.length : Int))), (13, (iq i))])) (fun q i => f_slices_Equal___bool_bool__L6 a0 a1 kk3 q i = some r) ?_ fu (0 : Int) h) (fun w a hm hs => norm hm hs [] [0, 1] [(0, v0_0), (1, v1_0), (12, (iq (a0.length : Int))), (13, (iq (0 : Int)))] (by decide) ⟨rfl, rfl, rfl, rfl, trivial⟩)
   clear h
   rintro k5 l4i13 h
   have h : f_slices_Equal___bool_bool__L6 a0 a1 kk3 k5 l4i13 = some r := h
   obtain _ | k5 := k5
   · rw [f_slices_Equal___bool_bool__L6] at h; cases h
   rw [f_slices_Equal___bool_bool__L6] at h
   refine aw_show (m := (memOf w0 Z0 [] [] [(fDat (tyList tyBool) [v0_0] a0), (fDat (tyList tyBool) [v1_0] a1)])) (S := (tab [(0, v0_0), (1, v1_0), (12, (iq (a0.length : Int))), (13, (iq l4i13))])) ?_
   refine aw_sr ?_
   refine al_in rfl rfl rfl rfl ?_
   refine al_nt ?_
   refine aw_seq ?_
   refine aw_cond rfl (fun hb7 => ?_) (fun hb7 => ?_)
   ·replace h := bif_t hb7 h
    refine aw_skip ?_
    refine aq_then ?_
    refine aw_seq ?_
    refine aw_block ?_
    refine aw_sr ?_
    refine al_mv rfl rfl ?_
    refine al_as rfl rfl ?_
    refine al_nt ?_
    refine aw_seq ?_
    obtain ⟨u8, hu9, h⟩ := opt_some h
    obtain ⟨u11, hu12, h⟩ := opt_some h
    refine aw_region_draw 8 [(16, (fun u => fEq u v0_0)), (17, (fun u => fEq u (iq l4i13))), (18, (fun p10 => (fPtr tyBool p10 u8))), (19, (fun u => fEq u (bool u8))), (20, (fun u => fEq u v1_0)), (21, (fun u => fEq u (iq l4i13))), (22, (fun p13 => (fPtr tyBool p13 u11))), (23, (fun u => fEq u (bool u11)))] (tab [(0, v0_0), (1, v1_0), (5, (iq l4i13)), (12, (iq (a0.length : Int))), (13, (iq l4i13))]) mixed (by kernel_rfl) rfl rfl rfl (fun a hs => hs.tab _ (allT_mem ⟨rfl, rfl, rfl, rfl, rfl, trivial⟩)) ⟨⟨rfl, ld_val (ov_move rfl rfl)⟩, ⟨rfl, ld_val (ov_move rfl rfl)⟩, ⟨rfl, ld_eq (j := 0) rfl rfl (ld_eq (j := 1) rfl rfl (ld_of (of_idxD 0 hu9 rfl rfl rfl Try.underlying56 sz4 rfl)))⟩, ⟨rfl, ld_fact (j := 2) rfl rfl (fun p10 => ld_val (ov_loadP (ds := [(bool u8)]) 0 rfl (fun h => h) rfl Try.underlying4 sz4 rfl rfl rfl))⟩, ⟨rfl, ld_val (ov_move rfl rfl)⟩, ⟨rfl, ld_val (ov_move rfl rfl)⟩, ⟨rfl, ld_eq (j := 4) rfl rfl (ld_eq (j := 5) rfl rfl (ld_of (of_idxD 1 hu12 rfl rfl rfl Try.underlying56 sz4 rfl)))⟩, ⟨rfl, ld_fact (j := 6) rfl rfl (fun p13 => ld_val (ov_loadP (ds := [(bool u11)]) 0 rfl (fun h => h) rfl Try.underlying4 sz4 rfl rfl rfl))⟩, trivial⟩ ?_
    refine tl_eq 3 rfl ?_
    refine tl_eq 7 rfl ?_
    refine tl_done ?_
    refine al_val (ov_boolNe Try.underlying4 rfl rfl rfl) ?_
    refine al_nt ?_
    refine aw_cond rfl (fun hb14 => ?_) (fun hb14 => ?_)
    ·replace h := bif_t hb14 h
     refine aw_sr ?_
     refine al_as rfl rfl ?_
     refine al_nt ?_
     refine aw_ret ?_
     refine aq_block_ret ?_
     refine aq_then_ret ?_
     refine aq_then_ret ?_
     refine aq_block_ret ?_
     refine aq_then_ret ?_
     obtain rfl := Option.some.inj h
     exact fn_ret () [] [] rfl rfl rfl rfl (res1 rfl rfl) rfl rfl rfl (by decide)
    ·replace h := bif_f hb14 h
     refine aw_skip ?_
     refine aq_block ?_
     refine aq_then ?_
     refine aw_region ?_
     refine al_in rfl rfl rfl rfl ?_
     refine al_mv rfl rfl ?_
     refine al_nil ?_
     exact aq_again k5 (wq (l4i13 + (1 : Int))) (Nat.lt_succ_self _) h (fun w a hm hs => norm hm hs [] [0, 1] [(0, v0_0), (1, v1_0), (12, (iq (a0.length : Int))), (13, (iq (wq (l4i13 + (1 : Int)))))] (by decide) ⟨rfl, rfl, rfl, rfl, trivial⟩)
   ·replace h := bif_f hb7 h
    refine aw_exit ?_
    refine aq_then_exit ?_
    refine aq_then_exit ?_
    refine aq_block_exit ?_
    exact aq_join () h (fun w a hm hs => norm hm hs [] [0, 1] [] (by decide) trivial)
def f_lumref_SameSender (fu : Nat) (a0 : S_api_Sender) (a1 : S_api_Sender) : Option Bool := (lt (fun (j3b4 : Bool) => (some j3b4)) fun (kk4 : Bool → Option Bool) => (opt (f_slices_Equal___string_string_ fu a0.Texts a1.Texts) fun (r6 : Bool) => (bif r6 then (opt (f_slices_Equal___bool_bool_ fu a0.Had a1.Had) fun (r9 : Bool) => (bif r9 then (kk4 (a0.Base == a1.Base)) else (kk4 false))) else (kk4 false))))
set_option maxHeartbeats 2000000 in
set_option maxRecDepth 100000 in
theorem f_lumref_SameSender_ok (fu : Nat) (v0_0 : Value) (v0_1 : Value) (a0 : S_api_Sender) (v1_0 : Value) (v1_1 : Value) (a1 : S_api_Sender) {r : Bool} (h : f_lumref_SameSender fu a0 a1 = some r) : FnOk Try.prog 28 [(ag [v0_0, v0_1, (int .i64 a0.Base)]), (ag [v1_0, v1_1, (int .i64 a1.Base)])] [(fDat (tyList tyStr) [v0_0] a0.Texts), (fDat (tyList tyBool) [v0_1] a0.Had), (fDat (tyList tyStr) [v1_0] a1.Texts), (fDat (tyList tyBool) [v1_1] a1.Had)] [] (fun (i : Unit) => { val := (bool r) }) := by
 unfold f_lumref_SameSender at h
 refine fn_enter Try.func28 rfl Try.ntmps28 rfl (fun w0 Z0 => ?_)
 refine aw_sr ?_
 refine al_box (vs := [v0_0, v0_1, (iq a0.Base)]) rfl (cv_rfl rfl) rfl (fun g1 => ?_)
 refine al_box (vs := [v1_0, v1_1, (iq a1.Base)]) rfl (cv_rfl rfl) rfl (fun g2 => ?_)
 refine al_as rfl rfl ?_
 refine al_nt ?_
 obtain ⟨kk4, hkk4, h⟩ := lt_some h
 refine aw_seq_join (ι := Bool) (fun i => (memOf w0 Z0 [] [] [(fDat (tyList tyStr) [v0_0] a0.Texts), (fDat (tyList tyBool) [v0_1] a0.Had), (fDat (tyList tyStr) [v1_0] a1.Texts), (fDat (tyList tyBool) [v1_1] a1.Had)])) (fun i => (tab [(4, (bool i))])) (fun i => kk4 i = some r) ?_ ?_
 ·rintro j3b4 h
  have h : kk4 j3b4 = some r := h
  rw [hkk4] at h
  dsimp only at h
  clear hkk4
  refine aw_show (m := (memOf w0 Z0 [] [] [(fDat (tyList tyStr) [v0_0] a0.Texts), (fDat (tyList tyBool) [v0_1] a0.Had), (fDat (tyList tyStr) [v1_0] a1.Texts), (fDat (tyList tyBool) [v1_1] a1.Had)])) (S := (tab [(4, (bool j3b4))])) ?_
  refine aw_ret ?_
  obtain rfl := Option.some.inj h
  exact fn_ret () [] [] rfl rfl rfl rfl (res1 rfl rfl) rfl rfl rfl (by decide)
 ·clear hkk4
  refine aw_region ?_
  refine al_val (ov_fieldA (p := 0) rfl Try.underlying58 rfl sz23 rfl rfl rfl) ?_
  refine al_val (ov_load (i := 1) (v := v0_0) rfl rfl Try.underlying23 sz23 rfl rfl rfl rfl) ?_
  refine al_val (ov_fieldA (p := 0) rfl Try.underlying58 rfl sz23 rfl rfl rfl) ?_
  refine al_val (ov_load (i := 0) (v := v1_0) rfl rfl Try.underlying23 sz23 rfl rfl rfl rfl) ?_
  obtain ⟨r6, hc5, h⟩ := opt_some h
  refine al_call (vs := [v0_0, v1_0]) (f_slices_Equal___string_string__ok fu v0_0 a0.Texts v1_0 a1.Texts hc5) [] [] [0, 1] (pre_fz 0 rfl (pre_fz 2 rfl pre_nil)) rfl (by simp) (by decide) (.inl rfl) rfl Try.func61 rfl rfl rfl (fun _ => ?_)
  refine al_mv rfl rfl ?_
  refine al_caseB 10 rfl (fun hb7 => ?_) (fun hb7 => ?_)
  ·replace h := bif_t hb7 h
   refine al_val (ov_fieldA (p := 1) rfl Try.underlying58 rfl sz56 rfl rfl rfl) ?_
   refine al_val (ov_load (i := 1) (v := v0_1) rfl rfl Try.underlying56 sz56 rfl rfl rfl rfl) ?_
   refine al_val (ov_fieldA (p := 1) rfl Try.underlying58 rfl sz56 rfl rfl rfl) ?_
   refine al_val (ov_load (i := 0) (v := v1_1) rfl rfl Try.underlying56 sz56 rfl rfl rfl rfl) ?_
   obtain ⟨r9, hc8, h⟩ := opt_some h
   refine al_call (vs := [v0_1, v1_1]) (f_slices_Equal___bool_bool__ok fu v0_1 a0.Had v1_1 a1.Had hc8) [] [] [0, 1] (pre_fz 1 rfl (pre_fz 3 rfl pre_nil)) rfl (by simp) (by decide) (.inl rfl) rfl Try.func37 rfl rfl rfl (fun _ => ?_)
   refine al_val (ov_pick_t rfl rfl rfl) ?_
   refine al_mv rfl rfl ?_
   refine al_caseB 17 rfl (fun hb10 => ?_) (fun hb10 => ?_)
   ·replace h := bif_t hb10 h
    refine al_val (ov_fieldA (p := 2) rfl Try.underlying58 rfl sz3 rfl rfl rfl) ?_
    refine al_val (ov_load (i := 1) (v := (iq a0.Base)) rfl rfl Try.underlying3 sz3 rfl rfl rfl rfl) ?_
    refine al_val (ov_fieldA (p := 2) rfl Try.underlying58 rfl sz3 rfl rfl rfl) ?_
    refine al_val (ov_load (i := 0) (v := (iq a1.Base)) rfl rfl Try.underlying3 sz3 rfl rfl rfl rfl) ?_
    refine al_in rfl rfl rfl rfl ?_
    refine al_val (ov_pick_t rfl rfl rfl) ?_
    refine al_as rfl rfl ?_
    refine al_nil ?_
    exact aq_join (a0.Base == a1.Base) h (fun w a hm hs => norm hm hs [] [0, 1, 2, 3] [(4, (bool (a0.Base == a1.Base)))] (by decide) ⟨rfl, trivial⟩)
   ·replace h := bif_f hb10 h
    refine al_skip ?_
    refine al_skip ?_
    refine al_skip ?_
    refine al_skip ?_
    refine al_skip ?_
    refine al_val (ov_pick_f rfl rfl rfl) ?_
    refine al_as rfl rfl ?_
    refine al_nil ?_
    exact aq_join false h (fun w a hm hs => norm hm hs [] [0, 1, 2, 3] [(4, (bool false))] (by decide) ⟨rfl, trivial⟩)
  ·replace h := bif_f hb7 h
   refine al_skip ?_
   refine al_skip ?_
   refine al_skip ?_
   refine al_skip ?_
   refine al_skip ?_
   refine al_val (ov_pick_f rfl rfl rfl) ?_
   refine al_mv rfl rfl ?_
   refine al_skip ?_
   refine al_skip ?_
   refine al_skip ?_
   refine al_skip ?_
   refine al_skip ?_
   refine al_val (ov_pick_f rfl rfl rfl) ?_
   refine al_as rfl rfl ?_
   refine al_nil ?_
   exact aq_join false h (fun w a hm hs => norm hm hs [] [0, 1, 2, 3] [(4, (bool false))] (by decide) ⟨rfl, trivial⟩)
def f_lumref_Sends_L6 (a0 : S_api_Sender) (kk3 : ((List S_api_Packet) → Option (List S_api_Packet))) : Nat → (List S_api_Packet) → Int → Option (List S_api_Packet)
  | 0, _, _ => none
  | k5 + 1, l4x3, l4i9 => (bif (decide (l4i9 < (a0.Texts.length : Int))) then (lt (fun (j8x3 : (List S_api_Packet)) => (f_lumref_Sends_L6 a0 kk3 k5 j8x3 (IntKind.i64.wrap (l4i9 + (1 : Int))))) fun (kk9 : (List S_api_Packet) → Option (List S_api_Packet)) => (opt (at? a0.Texts l4i9) fun (u10 : (List UInt8)) => (lt (fun (j13b32 : Bool) => (bif j13b32 then (req (((l4x3.length + ([(S_api_Packet.mk (1 : Int) l4i9 u10)]).length) * 32 : Nat) ≤ 140737488355328 ∧ l4x3.length + ([(S_api_Packet.mk (1 : Int) l4i9 u10)]).length ≤ 9223372036854775807) (kk9 (l4x3 ++ ([(S_api_Packet.mk (1 : Int) l4i9 u10)])))) else (kk9 l4x3))) fun (kk14 : Bool → Option (List S_api_Packet)) => (bif (decide (l4i9 ≥ a0.Base)) then (bif (decide ((IntKind.i64.wrap (l4i9 - a0.Base)) < (8 : Int))) then (opt (at? a0.Had l4i9) fun (u21 : Bool) => (kk14 (!u21))) else (kk14 false)) else (kk14 false))))) else (kk3 l4x3))
def f_lumref_Sends (fu : Nat) (a0 : S_api_Sender) : Option (List S_api_Packet) := (lt (fun (j2x3 : (List S_api_Packet)) => (some j2x3)) fun (kk3 : (List S_api_Packet) → Option (List S_api_Packet)) => (f_lumref_Sends_L6 a0 kk3 fu ([] : List S_api_Packet) (0 : Int)))
set_option maxHeartbeats 2000000 in
set_option maxRecDepth 100000 in
theorem f_lumref_Sends_ok (fu : Nat) (v0_0 : Value) (v0_1 : Value) (a0 : S_api_Sender) {r : (List S_api_Packet)} (h : f_lumref_Sends fu a0 = some r) : FnOk Try.prog 29 [(ag [v0_0, v0_1, (int .i64 a0.Base)])] [(fDat (tyList tyStr) [v0_0] a0.Texts), (fDat (tyList tyBool) [v0_1] a0.Had)] [] (fun (i : Value) => { val := i, own := [(oRow i 63 tyS_api_Packet r)] }) := by
 unfold f_lumref_Sends at h
 refine fn_enter Try.func29 rfl Try.ntmps29 rfl (fun w0 Z0 => ?_)
 refine aw_sr ?_
 refine al_box (vs := [v0_0, v0_1, (iq a0.Base)]) rfl (cv_rfl rfl) rfl (fun g1 => ?_)
 refine al_as rfl rfl ?_
 refine al_nt ?_
 refine aw_sr ?_
 refine al_as rfl rfl ?_
 refine al_nt ?_
 obtain ⟨kk3, hkk3, h⟩ := lt_some h
 refine aw_seq_join (ι := Value × (List S_api_Packet)) (fun i => (memOf w0 Z0 [] [(oRow i.1 63 tyS_api_Packet i.2)] [(fDat (tyList tyStr) [v0_0] a0.Texts), (fDat (tyList tyBool) [v0_1] a0.Had)])) (fun i => (tab [(3, i.1)])) (fun i => kk3 i.2 = some r) ?_ ?_
 ·rintro ⟨j2v3, j2x3⟩ h
  have h : kk3 j2x3 = some r := h
  rw [hkk3] at h
  dsimp only at h
  clear hkk3
  refine aw_show (m := (memOf w0 Z0 [] [(oRow j2v3 63 tyS_api_Packet j2x3)] [(fDat (tyList tyStr) [v0_0] a0.Texts), (fDat (tyList tyBool) [v0_1] a0.Had)])) (S := (tab [(3, j2v3)])) ?_
  refine aw_sr ?_
  refine al_mv rfl rfl ?_
  refine al_as rfl rfl ?_
  refine al_nt ?_
  refine aw_ret ?_
  obtain rfl := Option.some.inj h
  exact fn_ret j2v3 [0] [] rfl rfl rfl rfl (res1 rfl rfl) rfl rfl rfl (by decide)
 ·clear hkk3
  refine aw_sr ?_
  refine al_val (ov_fieldA (p := 0) rfl Try.underlying58 rfl sz23 rfl rfl rfl) ?_
  refine al_val (ov_load (i := 0) (v := v0_0) rfl rfl Try.underlying23 sz23 rfl rfl rfl rfl) ?_
  refine al_val (ov_lenD 0 rfl rfl Try.underlying23 rfl) ?_
  refine al_mv rfl rfl ?_
  refine al_nt ?_
  refine aw_block ?_
  refine aw_nilR 63 tyS_api_Packet ?_
  refine aw_state (aw_loop (ι := Value × (List S_api_Packet) × Int) (fun i => (memOf w0 Z0 [] [(oBox g1 58 [v0_0, v0_1, (iq a0.Base)]), (oRow i.1 63 tyS_api_Packet i.2.1)] [(fDat (tyList tyStr) [v0_0] a0.Texts), (fDat (tyList tyBool) [v0_1] a0.Had)])) (fun i => (tab [(1, (pq g1)), (3, i.1), (7, v0_0), (8, (iq (a0.Texts.length : Int))), (9, (iq i.2.2))])) (fun q i => f_lumref_Sends_L6 a0 kk3 q i.2.1 i.2.2 = some r) ?_ fu (nS, ([] : List S_api_Packet), (0 : Int)) h) (fun w a hm hs => norm hm hs [1, 0] [0, 1] [(1, (pq g1)), (3, nS), (7, v0_0), (8, (iq (a0.Texts.length : Int))), (9, (iq (0 : Int)))] (by decide) ⟨rfl, rfl, rfl, rfl, rfl, trivial⟩)
  clear h
  rintro k5 ⟨l4v3, l4x3, l4i9⟩ h
  have h : f_lumref_Sends_L6 a0 kk3 k5 l4x3 l4i9 = some r := h
  obtain _ | k5 := k5
  · rw [f_lumref_Sends_L6] at h; cases h
  rw [f_lumref_Sends_L6] at h
  refine aw_show (m := (memOf w0 Z0 [] [(oBox g1 58 [v0_0, v0_1, (iq a0.Base)]), (oRow l4v3 63 tyS_api_Packet l4x3)] [(fDat (tyList tyStr) [v0_0] a0.Texts), (fDat (tyList tyBool) [v0_1] a0.Had)])) (S := (tab [(1, (pq g1)), (3, l4v3), (7, v0_0), (8, (iq (a0.Texts.length : Int))), (9, (iq l4i9))])) ?_
  refine aw_sr ?_
  refine al_in rfl rfl rfl rfl ?_
  refine al_nt ?_
  refine aw_seq ?_
  refine aw_cond rfl (fun hb7 => ?_) (fun hb7 => ?_)
  ·replace h := bif_t hb7 h
   refine aw_skip ?_
   refine aq_then ?_
   obtain ⟨kk9, hkk9, h⟩ := lt_some h
   refine aw_seq_join (ι := Value × (List S_api_Packet)) (fun i => (memOf w0 Z0 [] [(oBox g1 58 [v0_0, v0_1, (iq a0.Base)]), (oRow i.1 63 tyS_api_Packet i.2)] [(fDat (tyList tyStr) [v0_0] a0.Texts), (fDat (tyList tyBool) [v0_1] a0.Had)])) (fun i => (tab [(1, (pq g1)), (3, i.1), (7, v0_0), (8, (iq (a0.Texts.length : Int))), (9, (iq l4i9))])) (fun i => kk9 i.2 = some r) ?_ ?_
   ·rintro ⟨j8v3, j8x3⟩ h
    have h : kk9 j8x3 = some r := h
    rw [hkk9] at h
    dsimp only at h
    clear hkk9
    refine aw_show (m := (memOf w0 Z0 [] [(oBox g1 58 [v0_0, v0_1, (iq a0.Base)]), (oRow j8v3 63 tyS_api_Packet j8x3)] [(fDat (tyList tyStr) [v0_0] a0.Texts), (fDat (tyList tyBool) [v0_1] a0.Had)])) (S := (tab [(1, (pq g1)), (3, j8v3), (7, v0_0), (8, (iq (a0.Texts.length : Int))), (9, (iq l4i9))])) ?_
    refine aw_region ?_
    refine al_in rfl rfl rfl rfl ?_
    refine al_mv rfl rfl ?_
    refine al_nil ?_
    exact aq_again k5 (j8v3, j8x3, (wq (l4i9 + (1 : Int)))) (Nat.lt_succ_self _) h (fun w a hm hs => norm hm hs [0, 1] [0, 1] [(1, (pq g1)), (3, j8v3), (7, v0_0), (8, (iq (a0.Texts.length : Int))), (9, (iq (wq (l4i9 + (1 : Int)))))] (by decide) ⟨rfl, rfl, rfl, rfl, rfl, trivial⟩)
   ·clear hkk9
    refine aw_block ?_
    refine aw_sr ?_
    refine al_mv rfl rfl ?_
    obtain ⟨u10, hu11, h⟩ := opt_some h
    refine al_idxD 0 hu11 rfl rfl rfl Try.underlying23 sz9 rfl (fun p12 => ?_)
    refine al_val (ov_loadP (ds := [(str u10)]) 0 rfl (fun h => h) rfl Try.underlying9 sz9 rfl rfl rfl) ?_
    refine al_as rfl rfl ?_
    refine al_as rfl rfl ?_
    refine al_nt ?_
    obtain ⟨kk14, hkk14, h⟩ := lt_some h
    refine aw_seq_join (ι := Bool) (fun i => (memOf w0 Z0 [] [(oBox g1 58 [v0_0, v0_1, (iq a0.Base)]), (oRow l4v3 63 tyS_api_Packet l4x3)] [(fDat (tyList tyStr) [v0_0] a0.Texts), (fDat (tyList tyBool) [v0_1] a0.Had), (fPtr tyStr p12 u10)])) (fun i => (tab [(1, (pq g1)), (3, l4v3), (4, (iq l4i9)), (5, (str u10)), (7, v0_0), (8, (iq (a0.Texts.length : Int))), (9, (iq l4i9)), (32, (bool i))])) (fun i => kk14 i = some r) ?_ ?_
    ·rintro j13b32 h
     have h : kk14 j13b32 = some r := h
     rw [hkk14] at h
     dsimp only at h
     clear hkk14
     refine aw_show (m := (memOf w0 Z0 [] [(oBox g1 58 [v0_0, v0_1, (iq a0.Base)]), (oRow l4v3 63 tyS_api_Packet l4x3)] [(fDat (tyList tyStr) [v0_0] a0.Texts), (fDat (tyList tyBool) [v0_1] a0.Had), (fPtr tyStr p12 u10)])) (S := (tab [(1, (pq g1)), (3, l4v3), (4, (iq l4i9)), (5, (str u10)), (7, v0_0), (8, (iq (a0.Texts.length : Int))), (9, (iq l4i9)), (32, (bool j13b32))])) ?_
     refine aw_cond rfl (fun hb15 => ?_) (fun hb15 => ?_)
     ·replace h := bif_t hb15 h
      refine aw_region ?_
      refine al_mv rfl rfl ?_
      refine al_mv rfl rfl ?_
      refine al_mv rfl rfl ?_
      refine al_val (ov_build (cells := ([(iq (1 : Int)), (iq l4i9), (str u10)]).toArray) (cs := [(iq (1 : Int)), (iq l4i9), (str u10)]) rfl (fun w a hm hs => by simp only [List.map_toArray, List.map_cons, List.map_nil, List.toList_toArray, hs.ev (x := .const (iq (1 : Int))) rfl, hs.ev (x := .tmp 34) rfl, hs.ev (x := .tmp 35) rfl]; kernel_rfl)) ?_
      refine al_buildSlice (τ := tyS_api_Packet) (e := 63) (k := 1) (sz := 0) (by_ := 0) (z := undef) (cs := [(iq (1 : Int)), (iq l4i9), (str u10)]) (xs := [(S_api_Packet.mk (1 : Int) l4i9 u10)]) rfl (by decide) (fun w a hm hs => ⟨([(iq (1 : Int)), (iq l4i9), (str u10)]).toArray, rfl, by simp only [List.map_toArray, List.map_cons, List.map_nil, hs.ev (x := .tmp 36) rfl]; exact run_bs [(ag [(iq (1 : Int)), (iq l4i9), (str u10)])] [(iq (1 : Int)), (iq l4i9), (str u10)] Try.underlying59 to63 rfl rfl (bs_cons (l := [(iq (1 : Int)), (iq l4i9), (str u10)]) (cs := []) (cv_rfl rfl) rfl bs_nil) hm⟩) (fun hm => ⟨_, _, rfl, (fun _ => mkS_api_Packet rfl) hm, rfl⟩) rfl (fun v16 => ?_)
      obtain ⟨hc17, h⟩ := req_some h
      refine al_append 2 hc17.1 hc17.2 rfl (src_own (i := 2) 0 rfl) rfl rfl Try.underlying59 to63 rfl rfl rfl (fun v18 => ?_)
      refine al_as rfl rfl ?_
      refine al_nil ?_
      refine aq_block ?_
      exact aq_join (v18, (l4x3 ++ ([(S_api_Packet.mk (1 : Int) l4i9 u10)]))) h (fun w a hm hs => norm hm hs [1, 2] [0, 1] [(1, (pq g1)), (3, v18), (7, v0_0), (8, (iq (a0.Texts.length : Int))), (9, (iq l4i9))] (by decide) ⟨rfl, rfl, rfl, rfl, rfl, trivial⟩)
     ·replace h := bif_f hb15 h
      refine aw_skip ?_
      refine aq_block ?_
      exact aq_join (l4v3, l4x3) h (fun w a hm hs => norm hm hs [0, 1] [0, 1] [(1, (pq g1)), (3, l4v3), (7, v0_0), (8, (iq (a0.Texts.length : Int))), (9, (iq l4i9))] (by decide) ⟨rfl, rfl, rfl, rfl, rfl, trivial⟩)
    ·clear hkk14
     refine aw_region ?_
     refine al_mv rfl rfl ?_
     refine al_val (ov_fieldA (p := 2) rfl Try.underlying58 rfl sz3 rfl rfl rfl) ?_
     refine al_val (ov_load (i := 0) (v := (iq a0.Base)) rfl rfl Try.underlying3 sz3 rfl rfl rfl rfl) ?_
     refine al_in rfl rfl rfl rfl ?_
     refine al_mv rfl rfl ?_
     refine al_caseB 18 rfl (fun hb19 => ?_) (fun hb19 => ?_)
     ·replace h := bif_t hb19 h
      refine al_mv rfl rfl ?_
      refine al_val (ov_fieldA (p := 2) rfl Try.underlying58 rfl sz3 rfl rfl rfl) ?_
      refine al_val (ov_load (i := 0) (v := (iq a0.Base)) rfl rfl Try.underlying3 sz3 rfl rfl rfl rfl) ?_
      refine al_in rfl rfl rfl rfl ?_
      refine al_in rfl rfl rfl rfl ?_
      refine al_val (ov_pick_t rfl rfl rfl) ?_
      refine al_mv rfl rfl ?_
      refine al_caseB 25 rfl (fun hb20 => ?_) (fun hb20 => ?_)
      ·replace h := bif_t hb20 h
       refine al_val (ov_fieldA (p := 1) rfl Try.underlying58 rfl sz56 rfl rfl rfl) ?_
       refine al_val (ov_load (i := 0) (v := v0_1) rfl rfl Try.underlying56 sz56 rfl rfl rfl rfl) ?_
       refine al_mv rfl rfl ?_
       obtain ⟨u21, hu22, h⟩ := opt_some h
       refine al_idxD 2 hu22 rfl rfl rfl Try.underlying56 sz4 rfl (fun p23 => ?_)
       refine al_val (ov_loadP (ds := [(bool u21)]) 0 rfl (fun h => h) rfl Try.underlying4 sz4 rfl rfl rfl) ?_
       refine al_val (ov_not rfl rfl) ?_
       refine al_val (ov_pick_t rfl rfl rfl) ?_
       refine al_nil ?_
       exact aq_join (!u21) h (fun w a hm hs => norm hm hs [0, 1] [2, 3, 1] [(1, (pq g1)), (3, l4v3), (4, (iq l4i9)), (5, (str u10)), (7, v0_0), (8, (iq (a0.Texts.length : Int))), (9, (iq l4i9)), (32, (bool (!u21)))] (by decide) ⟨rfl, rfl, rfl, rfl, rfl, rfl, rfl, rfl, trivial⟩)
      ·replace h := bif_f hb20 h
       refine al_skip ?_
       refine al_skip ?_
       refine al_skip ?_
       refine al_skip ?_
       refine al_skip ?_
       refine al_skip ?_
       refine al_val (ov_pick_f rfl rfl rfl) ?_
       refine al_nil ?_
       exact aq_join false h (fun w a hm hs => norm hm hs [0, 1] [1, 2, 0] [(1, (pq g1)), (3, l4v3), (4, (iq l4i9)), (5, (str u10)), (7, v0_0), (8, (iq (a0.Texts.length : Int))), (9, (iq l4i9)), (32, (bool false))] (by decide) ⟨rfl, rfl, rfl, rfl, rfl, rfl, rfl, rfl, trivial⟩)
     ·replace h := bif_f hb19 h
      refine al_skip ?_
      refine al_skip ?_
      refine al_skip ?_
      refine al_skip ?_
      refine al_skip ?_
      refine al_val (ov_pick_f rfl rfl rfl) ?_
      refine al_mv rfl rfl ?_
      refine al_skip ?_
      refine al_skip ?_
      refine al_skip ?_
      refine al_skip ?_
      refine al_skip ?_
      refine al_skip ?_
      refine al_val (ov_pick_f rfl rfl rfl) ?_
      refine al_nil ?_
      exact aq_join false h (fun w a hm hs => norm hm hs [0, 1] [1, 2, 0] [(1, (pq g1)), (3, l4v3), (4, (iq l4i9)), (5, (str u10)), (7, v0_0), (8, (iq (a0.Texts.length : Int))), (9, (iq l4i9)), (32, (bool false))] (by decide) ⟨rfl, rfl, rfl, rfl, rfl, rfl, rfl, rfl, trivial⟩)
  ·replace h := bif_f hb7 h
   refine aw_exit ?_
   refine aq_then_exit ?_
   refine aq_then_exit ?_
   refine aq_block_exit ?_
   exact aq_join (l4v3, l4x3) h (fun w a hm hs => norm hm hs [1] [0, 1] [(3, l4v3)] (by decide) ⟨rfl, trivial⟩)
def f_lumref_Hears_L11 (j5x5_1 : (List Bool)) (kk8 : (Int → Option S_api_Sender)) : Nat → Int → Option S_api_Sender
  | 0, _ => none
  | k10 + 1, l9i5_2 => (bif (decide (l9i5_2 < (j5x5_1.length : Int))) then (opt (at? j5x5_1 l9i5_2) fun (u13 : Bool) => (bif (!u13) then (kk8 l9i5_2) else (f_lumref_Hears_L11 j5x5_1 kk8 k10 (IntKind.i64.wrap (l9i5_2 + (1 : Int)))))) else (kk8 l9i5_2))
def f_lumref_Hears_L20 (a0 : S_api_Sender) (a1 : S_api_Packet) (kk6 : ((List Bool) → Option S_api_Sender)) : Nat → (List Bool) → Int → Option S_api_Sender
  | 0, _, _ => none
  | k19 + 1, l18x5_1, l18i17 => (bif (decide (l18i17 < (a0.Had.length : Int))) then (lt (fun (j22x5_1 : (List Bool)) => (f_lumref_Hears_L20 a0 a1 kk6 k19 j22x5_1 (IntKind.i64.wrap (l18i17 + (1 : Int))))) fun (kk23 : (List Bool) → Option S_api_Sender) => (opt (at? a0.Had l18i17) fun (u24 : Bool) => (bif u24 then (req (((l18x5_1.length + ([true]).length) * 1 : Nat) ≤ 140737488355328 ∧ l18x5_1.length + ([true]).length ≤ 9223372036854775807) (kk23 (l18x5_1 ++ ([true])))) else (bif (a1.Kind == (2 : Int)) then (req (((l18x5_1.length + ([(a1.Seq == l18i17)]).length) * 1 : Nat) ≤ 140737488355328 ∧ l18x5_1.length + ([(a1.Seq == l18i17)]).length ≤ 9223372036854775807) (kk23 (l18x5_1 ++ ([(a1.Seq == l18i17)])))) else (req (((l18x5_1.length + ([false]).length) * 1 : Nat) ≤ 140737488355328 ∧ l18x5_1.length + ([false]).length ≤ 9223372036854775807) (kk23 (l18x5_1 ++ ([false])))))))) else (kk6 l18x5_1))
def f_lumref_Hears (fu : Nat) (a0 : S_api_Sender) (a1 : S_api_Packet) : Option S_api_Sender := (lt (fun (j5x5_1 : (List Bool)) => (lt (fun (j7i5_2 : Int) => (some (S_api_Sender.mk a0.Texts j5x5_1 j7i5_2))) fun (kk8 : Int → Option S_api_Sender) => (f_lumref_Hears_L11 j5x5_1 kk8 fu a0.Base))) fun (kk6 : (List Bool) → Option S_api_Sender) => (f_lumref_Hears_L20 a0 a1 kk6 fu ([] : List Bool) (0 : Int)))
set_option maxHeartbeats 2000000 in
set_option maxRecDepth 100000 in
theorem f_lumref_Hears_ok (fu : Nat) (v0_0 : Value) (v0_1 : Value) (a0 : S_api_Sender) (a1 : S_api_Packet) {r : S_api_Sender} (h : f_lumref_Hears fu a0 a1 = some r) : FnOk Try.prog 30 [(ag [v0_0, v0_1, (int .i64 a0.Base)]), (ag [(int .i64 a1.Kind), (int .i64 a1.Seq), (str a1.Text)])] [(fDat (tyList tyStr) [v0_0] a0.Texts), (fDat (tyList tyBool) [v0_1] a0.Had)] [] (fun (i : Value × Value) => { val := (ag [i.1, i.2, (int .i64 r.Base)]), fz := [(fDat (tyList tyStr) [i.1] r.Texts), (fDat (tyList tyBool) [i.2] r.Had)] }) := by
 unfold f_lumref_Hears at h
 refine fn_enter Try.func30 rfl Try.ntmps30 rfl (fun w0 Z0 => ?_)
 refine aw_sr ?_
 refine al_box (vs := [v0_0, v0_1, (iq a0.Base)]) rfl (cv_rfl rfl) rfl (fun g1 => ?_)
 refine al_box (vs := [(iq a1.Kind), (iq a1.Seq), (str a1.Text)]) rfl (cv_rfl rfl) rfl (fun g2 => ?_)
 refine al_alloc (zs := [nS, nS, (iq (0 : Int))]) (zeroOf_to to58) rfl rfl (fun g3 => ?_)
 refine al_nt ?_
 refine aw_sr ?_
 refine al_val (ov_fieldA (p := 0) rfl Try.underlying58 rfl sz23 rfl rfl rfl) ?_
 refine al_val (ov_load (i := 2) (v := v0_0) rfl rfl Try.underlying23 sz23 rfl rfl rfl rfl) ?_
 refine al_val (ov_fieldA (p := 2) rfl Try.underlying58 rfl sz3 rfl rfl rfl) ?_
 refine al_val (ov_load (i := 2) (v := (iq a0.Base)) rfl rfl Try.underlying3 sz3 rfl rfl rfl rfl) ?_
 refine al_val (ov_build (cells := ([v0_0, nS, (iq a0.Base)]).toArray) (cs := [v0_0, nS, (iq a0.Base)]) rfl (fun w a hm hs => by simp only [List.map_toArray, List.map_cons, List.map_nil, List.toList_toArray, hs.ev (x := .tmp 10) rfl, hs.ev (x := .tmp 12) rfl]; obtain ⟨A0, l0, c0, e0⟩ := sl_fz 0 rfl hm; rw [e0]; kernel_rfl)) ?_
 refine al_alloc (zs := [nS, nS, (iq (0 : Int))]) (zeroOf_to to58) rfl rfl (fun g4 => ?_)
 refine al_store (i := 0) (vs := [v0_0, nS, (iq a0.Base)]) (cs' := [v0_0, nS, (iq a0.Base)]) rfl rfl rfl sz58 (cv_rfl rfl) rfl (co_fz 0 rfl (co_val rfl (co_val rfl co_nil))) (Nat.le_of_ble_eq_true rfl) rfl rfl ?_
 refine al_nt ?_
 obtain ⟨kk6, hkk6, h⟩ := lt_some h
 refine aw_seq_join (ι := Value × (List Bool)) (fun i => (memOf w0 Z0 [] [(oBox g1 58 [v0_0, v0_1, (iq a0.Base)]), (oBox g3 58 [nS, nS, (iq (0 : Int))]), (oRow i.1 4 tyBool i.2), (oBox g4 58 [v0_0, i.1, (iq a0.Base)])] [(fDat (tyList tyStr) [v0_0] a0.Texts), (fDat (tyList tyBool) [v0_1] a0.Had)])) (fun i => (tab [(2, (pq g1)), (4, (pq g3)), (5, (pq g4))])) (fun i => kk6 i.2 = some r) ?_ ?_
 ·rintro ⟨j5v5_1, j5x5_1⟩ h
  have h : kk6 j5x5_1 = some r := h
  rw [hkk6] at h
  dsimp only at h
  clear hkk6
  refine aw_show (m := (memOf w0 Z0 [] [(oBox g1 58 [v0_0, v0_1, (iq a0.Base)]), (oBox g3 58 [nS, nS, (iq (0 : Int))]), (oRow j5v5_1 4 tyBool j5x5_1), (oBox g4 58 [v0_0, j5v5_1, (iq a0.Base)])] [(fDat (tyList tyStr) [v0_0] a0.Texts), (fDat (tyList tyBool) [v0_1] a0.Had)])) (S := (tab [(2, (pq g1)), (4, (pq g3)), (5, (pq g4))])) ?_
  obtain ⟨kk8, hkk8, h⟩ := lt_some h
  refine aw_seq_join (ι := Int) (fun i => (memOf w0 Z0 [] [(oBox g3 58 [nS, nS, (iq (0 : Int))]), (oRow j5v5_1 4 tyBool j5x5_1), (oBox g4 58 [v0_0, j5v5_1, (iq i)])] [(fDat (tyList tyStr) [v0_0] a0.Texts), (fDat (tyList tyBool) [v0_1] a0.Had)])) (fun i => (tab [(4, (pq g3)), (5, (pq g4))])) (fun i => kk8 i = some r) ?_ ?_
  ·rintro j7i5_2 h
   have h : kk8 j7i5_2 = some r := h
   rw [hkk8] at h
   dsimp only at h
   clear hkk8
   refine aw_show (m := (memOf w0 Z0 [] [(oBox g3 58 [nS, nS, (iq (0 : Int))]), (oRow j5v5_1 4 tyBool j5x5_1), (oBox g4 58 [v0_0, j5v5_1, (iq j7i5_2)])] [(fDat (tyList tyStr) [v0_0] a0.Texts), (fDat (tyList tyBool) [v0_1] a0.Had)])) (S := (tab [(4, (pq g3)), (5, (pq g4))])) ?_
   refine aw_sr ?_
   refine al_val (ov_load (i := 2) (v := (ag [v0_0, j5v5_1, (iq j7i5_2)])) rfl rfl Try.underlying58 sz58 rfl rfl rfl rfl) ?_
   refine al_store (i := 0) (vs := [v0_0, j5v5_1, (iq j7i5_2)]) (cs' := [v0_0, j5v5_1, (iq j7i5_2)]) rfl rfl rfl sz58 (cv_rfl rfl) rfl (co_fz 0 rfl (co_own 1 rfl (co_val rfl co_nil))) (Nat.le_of_ble_eq_true rfl) rfl rfl ?_
   refine al_nt ?_
   refine aw_ret ?_
   refine aq_freeze 1 rfl rfl ?_
   obtain rfl := Option.some.inj h
   exact fn_ret (v0_0, j5v5_1) [] [1, 0] rfl rfl rfl rfl (resC rfl (resB (i := 0) rfl rfl Try.underlying58 sz58 rfl rfl rfl (resN)) rfl) rfl rfl rfl (by decide)
  ·clear hkk8
   refine aw_sr ?_
   refine al_val (ov_fieldA (p := 2) rfl Try.underlying58 rfl sz3 rfl rfl rfl) ?_
   refine al_val (ov_load (i := 0) (v := (iq a0.Base)) rfl rfl Try.underlying3 sz3 rfl rfl rfl rfl) ?_
   refine al_as rfl rfl ?_
   refine al_nt ?_
   refine aw_block ?_
   refine aw_state (aw_loop (ι := Int) (fun i => (memOf w0 Z0 [] [(oBox g3 58 [nS, nS, (iq (0 : Int))]), (oRow j5v5_1 4 tyBool j5x5_1), (oBox g4 58 [v0_0, j5v5_1, (iq i)])] [(fDat (tyList tyStr) [v0_0] a0.Texts), (fDat (tyList tyBool) [v0_1] a0.Had)])) (fun i => (tab [(4, (pq g3)), (5, (pq g4)), (8, (iq i))])) (fun q i => f_lumref_Hears_L11 j5x5_1 kk8 q i = some r) ?_ fu a0.Base h) (fun w a hm hs => norm hm hs [1, 2, 3] [0, 1] [(4, (pq g3)), (5, (pq g4)), (8, (iq a0.Base))] (by decide) ⟨rfl, rfl, rfl, trivial⟩)
   clear h
   rintro k10 l9i5_2 h
   have h : f_lumref_Hears_L11 j5x5_1 kk8 k10 l9i5_2 = some r := h
   obtain _ | k10 := k10
   · rw [f_lumref_Hears_L11] at h; cases h
   rw [f_lumref_Hears_L11] at h
   refine aw_show (m := (memOf w0 Z0 [] [(oBox g3 58 [nS, nS, (iq (0 : Int))]), (oRow j5v5_1 4 tyBool j5x5_1), (oBox g4 58 [v0_0, j5v5_1, (iq l9i5_2)])] [(fDat (tyList tyStr) [v0_0] a0.Texts), (fDat (tyList tyBool) [v0_1] a0.Had)])) (S := (tab [(4, (pq g3)), (5, (pq g4)), (8, (iq l9i5_2))])) ?_
   refine aw_seq ?_
   refine aw_sr ?_
   refine al_mv rfl rfl ?_
   refine al_val (ov_fieldA (p := 1) rfl Try.underlying58 rfl sz56 rfl rfl rfl) ?_
   refine al_val (ov_load (i := 2) (v := j5v5_1) rfl rfl Try.underlying56 sz56 rfl rfl rfl rfl) ?_
   refine al_val (ov_lenR 1 rfl rfl Try.underlying56 rfl) ?_
   refine al_in rfl rfl rfl rfl ?_
   refine al_nt ?_
   refine aw_cond rfl (fun hb12 => ?_) (fun hb12 => ?_)
   ·replace h := bif_t hb12 h
    refine aw_skip ?_
    refine aq_then ?_
    refine aw_seq ?_
    refine aw_block ?_
    refine aw_seq ?_
    refine aw_sr ?_
    refine al_val (ov_fieldA (p := 1) rfl Try.underlying58 rfl sz56 rfl rfl rfl) ?_
    refine al_val (ov_load (i := 2) (v := j5v5_1) rfl rfl Try.underlying56 sz56 rfl rfl rfl rfl) ?_
    refine al_mv rfl rfl ?_
    obtain ⟨u13, hu14, h⟩ := opt_some h
    refine al_idxR 1 (at_some hu14).1 (at_some hu14).2.1 rfl rfl rfl Try.underlying56 sz4 rfl (fun p15 hp16 => ?_)
    refine al_val (ov_loadR (ds := [(bool u13)]) 1 rfl hp16 (at_some hu14).2.2 (fun h => h) rfl Try.underlying4 sz4 rfl rfl rfl) ?_
    refine al_val (ov_not rfl rfl) ?_
    refine al_nt ?_
    refine aw_cond rfl (fun hb17 => ?_) (fun hb17 => ?_)
    ·replace h := bif_t hb17 h
     refine aw_exit ?_
     refine aq_then_exit ?_
     refine aq_block_other rfl ?_
     refine aq_then_exit ?_
     refine aq_then_exit ?_
     refine aq_block_exit ?_
     exact aq_join l9i5_2 h (fun w a hm hs => norm hm hs [0, 1, 2] [0, 1] [(4, (pq g3)), (5, (pq g4))] (by decide) ⟨rfl, rfl, trivial⟩)
    ·replace h := bif_f hb17 h
     refine aw_skip ?_
     refine aq_then ?_
     refine aw_region ?_
     refine al_mv rfl rfl ?_
     refine al_in rfl rfl rfl rfl ?_
     refine al_val (ov_fieldA (p := 2) rfl Try.underlying58 rfl sz3 rfl rfl rfl) ?_
     refine al_store (i := 2) (vs := [(iq (wq (l9i5_2 + (1 : Int))))]) (cs' := [v0_0, j5v5_1, (iq (wq (l9i5_2 + (1 : Int))))]) rfl rfl rfl sz3 (cv_rfl rfl) rfl (co_val rfl co_nil) (Nat.le_of_ble_eq_true rfl) rfl rfl ?_
     refine al_nil ?_
     refine aq_block ?_
     refine aq_then ?_
     refine aw_region ?_
     refine al_mv rfl rfl ?_
     refine al_in rfl rfl rfl rfl ?_
     refine al_as rfl rfl ?_
     refine al_nil ?_
     exact aq_again k10 (wq (l9i5_2 + (1 : Int))) (Nat.lt_succ_self _) h (fun w a hm hs => norm hm hs [0, 1, 2] [0, 1] [(4, (pq g3)), (5, (pq g4)), (8, (iq (wq (l9i5_2 + (1 : Int)))))] (by decide) ⟨rfl, rfl, rfl, trivial⟩)
   ·replace h := bif_f hb12 h
    refine aw_exit ?_
    refine aq_then_exit ?_
    refine aq_then_exit ?_
    refine aq_block_exit ?_
    exact aq_join l9i5_2 h (fun w a hm hs => norm hm hs [0, 1, 2] [0, 1] [(4, (pq g3)), (5, (pq g4))] (by decide) ⟨rfl, rfl, trivial⟩)
 ·clear hkk6
  refine aw_sr ?_
  refine al_val (ov_fieldA (p := 1) rfl Try.underlying58 rfl sz56 rfl rfl rfl) ?_
  refine al_val (ov_load (i := 3) (v := v0_1) rfl rfl Try.underlying56 sz56 rfl rfl rfl rfl) ?_
  refine al_val (ov_lenD 1 rfl rfl Try.underlying56 rfl) ?_
  refine al_mv rfl rfl ?_
  refine al_nt ?_
  refine aw_block ?_
  refine aw_nilR 4 tyBool ?_
  refine aw_state (aw_loop (ι := Value × (List Bool) × Int) (fun i => (memOf w0 Z0 [] [(oBox g1 58 [v0_0, v0_1, (iq a0.Base)]), (oBox g2 63 [(iq a1.Kind), (iq a1.Seq), (str a1.Text)]), (oBox g3 58 [nS, nS, (iq (0 : Int))]), (oRow i.1 4 tyBool i.2.1), (oBox g4 58 [v0_0, i.1, (iq a0.Base)])] [(fDat (tyList tyStr) [v0_0] a0.Texts), (fDat (tyList tyBool) [v0_1] a0.Had)])) (fun i => (tab [(2, (pq g1)), (3, (pq g2)), (4, (pq g3)), (5, (pq g4)), (15, v0_1), (16, (iq (a0.Had.length : Int))), (17, (iq i.2.2))])) (fun q i => f_lumref_Hears_L20 a0 a1 kk6 q i.2.1 i.2.2 = some r) ?_ fu (nS, ([] : List Bool), (0 : Int)) h) (fun w a hm hs => norm hm hs [4, 3, 2, 0, 1] [0, 1] [(2, (pq g1)), (3, (pq g2)), (4, (pq g3)), (5, (pq g4)), (15, v0_1), (16, (iq (a0.Had.length : Int))), (17, (iq (0 : Int)))] (by decide) ⟨rfl, rfl, rfl, rfl, rfl, rfl, rfl, trivial⟩)
  clear h
  rintro k19 ⟨l18v5_1, l18x5_1, l18i17⟩ h
  have h : f_lumref_Hears_L20 a0 a1 kk6 k19 l18x5_1 l18i17 = some r := h
  obtain _ | k19 := k19
  · rw [f_lumref_Hears_L20] at h; cases h
  rw [f_lumref_Hears_L20] at h
  refine aw_show (m := (memOf w0 Z0 [] [(oBox g1 58 [v0_0, v0_1, (iq a0.Base)]), (oBox g2 63 [(iq a1.Kind), (iq a1.Seq), (str a1.Text)]), (oBox g3 58 [nS, nS, (iq (0 : Int))]), (oRow l18v5_1 4 tyBool l18x5_1), (oBox g4 58 [v0_0, l18v5_1, (iq a0.Base)])] [(fDat (tyList tyStr) [v0_0] a0.Texts), (fDat (tyList tyBool) [v0_1] a0.Had)])) (S := (tab [(2, (pq g1)), (3, (pq g2)), (4, (pq g3)), (5, (pq g4)), (15, v0_1), (16, (iq (a0.Had.length : Int))), (17, (iq l18i17))])) ?_
  refine aw_sr ?_
  refine al_in rfl rfl rfl rfl ?_
  refine al_nt ?_
  refine aw_seq ?_
  refine aw_cond rfl (fun hb21 => ?_) (fun hb21 => ?_)
  ·replace h := bif_t hb21 h
   refine aw_skip ?_
   refine aq_then ?_
   obtain ⟨kk23, hkk23, h⟩ := lt_some h
   refine aw_seq_join (ι := Value × (List Bool)) (fun i => (memOf w0 Z0 [] [(oBox g1 58 [v0_0, v0_1, (iq a0.Base)]), (oBox g2 63 [(iq a1.Kind), (iq a1.Seq), (str a1.Text)]), (oBox g3 58 [nS, nS, (iq (0 : Int))]), (oRow i.1 4 tyBool i.2), (oBox g4 58 [v0_0, i.1, (iq a0.Base)])] [(fDat (tyList tyStr) [v0_0] a0.Texts), (fDat (tyList tyBool) [v0_1] a0.Had)])) (fun i => (tab [(2, (pq g1)), (3, (pq g2)), (4, (pq g3)), (5, (pq g4)), (15, v0_1), (16, (iq (a0.Had.length : Int))), (17, (iq l18i17))])) (fun i => kk23 i.2 = some r) ?_ ?_
   ·rintro ⟨j22v5_1, j22x5_1⟩ h
    have h : kk23 j22x5_1 = some r := h
    rw [hkk23] at h
    dsimp only at h
    clear hkk23
    refine aw_show (m := (memOf w0 Z0 [] [(oBox g1 58 [v0_0, v0_1, (iq a0.Base)]), (oBox g2 63 [(iq a1.Kind), (iq a1.Seq), (str a1.Text)]), (oBox g3 58 [nS, nS, (iq (0 : Int))]), (oRow j22v5_1 4 tyBool j22x5_1), (oBox g4 58 [v0_0, j22v5_1, (iq a0.Base)])] [(fDat (tyList tyStr) [v0_0] a0.Texts), (fDat (tyList tyBool) [v0_1] a0.Had)])) (S := (tab [(2, (pq g1)), (3, (pq g2)), (4, (pq g3)), (5, (pq g4)), (15, v0_1), (16, (iq (a0.Had.length : Int))), (17, (iq l18i17))])) ?_
    refine aw_region ?_
    refine al_in rfl rfl rfl rfl ?_
    refine al_mv rfl rfl ?_
    refine al_nil ?_
    exact aq_again k19 (j22v5_1, j22x5_1, (wq (l18i17 + (1 : Int)))) (Nat.lt_succ_self _) h (fun w a hm hs => norm hm hs [0, 1, 2, 3, 4] [0, 1] [(2, (pq g1)), (3, (pq g2)), (4, (pq g3)), (5, (pq g4)), (15, v0_1), (16, (iq (a0.Had.length : Int))), (17, (iq (wq (l18i17 + (1 : Int)))))] (by decide) ⟨rfl, rfl, rfl, rfl, rfl, rfl, rfl, trivial⟩)
   ·clear hkk23
    refine aw_block ?_
    refine aw_sr ?_
    refine al_mv rfl rfl ?_
    obtain ⟨u24, hu25, h⟩ := opt_some h
    refine al_idxD 1 hu25 rfl rfl rfl Try.underlying56 sz4 rfl (fun p26 => ?_)
    refine al_val (ov_loadP (ds := [(bool u24)]) 0 rfl (fun h => h) rfl Try.underlying4 sz4 rfl rfl rfl) ?_
    refine al_as rfl rfl ?_
    refine al_as rfl rfl ?_
    refine al_nt ?_
    refine aw_region ?_
    refine al_val (ov_fieldA (p := 1) rfl Try.underlying58 rfl sz56 rfl rfl rfl) ?_
    refine al_val (ov_load (i := 4) (v := l18v5_1) rfl rfl Try.underlying56 sz56 rfl rfl rfl rfl) ?_
    refine al_mv rfl rfl ?_
    refine al_mv rfl rfl ?_
    refine al_caseB 25 rfl (fun hb27 => ?_) (fun hb27 => ?_)
    ·replace h := bif_t hb27 h
     refine al_skip ?_
     refine al_skip ?_
     refine al_skip ?_
     refine al_skip ?_
     refine al_skip ?_
     refine al_skip ?_
     refine al_skip ?_
     refine al_skip ?_
     refine al_skip ?_
     refine al_val (ov_pick_t rfl rfl rfl) ?_
     refine al_buildSlice (τ := tyBool) (e := 4) (k := 1) (sz := 0) (by_ := 0) (z := undef) (cs := [(bool true)]) (xs := [true]) rfl (by decide) (fun w a hm hs => ⟨([(bool true)]).toArray, rfl, by simp only [List.map_toArray, List.map_cons, List.map_nil, hs.ev (x := .tmp 35) rfl]; exact run_bs [(bool true)] [(bool true)] Try.underlying56 to4 rfl rfl (bs_cons (l := [(bool true)]) (cs := []) (cv_rfl rfl) rfl bs_nil) hm⟩) (fun hm => ⟨_, _, rfl, (fun _ => rfl) hm, rfl⟩) rfl (fun v28 => ?_)
     obtain ⟨hc29, h⟩ := req_some h
     refine al_append 4 hc29.1 hc29.2 rfl (src_own (i := 4) 0 rfl) rfl rfl Try.underlying56 to4 rfl rfl rfl (fun v30 => ?_)
     refine al_val (ov_fieldA (p := 1) rfl Try.underlying58 rfl sz56 rfl rfl rfl) ?_
     refine al_store (i := 5) (vs := [v30]) (cs' := [v0_0, v30, (iq a0.Base)]) rfl rfl rfl sz56 (cv_own 4 rfl) rfl (co_own 4 rfl co_nil) (Nat.le_of_ble_eq_true rfl) rfl rfl ?_
     refine al_nil ?_
     refine aq_block ?_
     exact aq_join (v30, (l18x5_1 ++ ([true]))) h (fun w a hm hs => norm hm hs [1, 2, 3, 4, 5] [1, 2] [(2, (pq g1)), (3, (pq g2)), (4, (pq g3)), (5, (pq g4)), (15, v0_1), (16, (iq (a0.Had.length : Int))), (17, (iq l18i17))] (by decide) ⟨rfl, rfl, rfl, rfl, rfl, rfl, rfl, trivial⟩)
    ·replace h := bif_f hb27 h
     refine al_val (ov_fieldA (p := 0) rfl Try.underlying63 rfl sz3 rfl rfl rfl) ?_
     refine al_val (ov_load (i := 1) (v := (iq a1.Kind)) rfl rfl Try.underlying3 sz3 rfl rfl rfl rfl) ?_
     refine al_in rfl rfl rfl rfl ?_
     refine al_mv rfl rfl ?_
     refine al_caseB 29 rfl (fun hb31 => ?_) (fun hb31 => ?_)
     ·replace h := bif_t hb31 h
      refine al_val (ov_fieldA (p := 1) rfl Try.underlying63 rfl sz3 rfl rfl rfl) ?_
      refine al_val (ov_load (i := 1) (v := (iq a1.Seq)) rfl rfl Try.underlying3 sz3 rfl rfl rfl rfl) ?_
      refine al_mv rfl rfl ?_
      refine al_in rfl rfl rfl rfl ?_
      refine al_val (ov_pick_t rfl rfl rfl) ?_
      refine al_val (ov_pick_f rfl rfl rfl) ?_
      refine al_buildSlice (τ := tyBool) (e := 4) (k := 1) (sz := 0) (by_ := 0) (z := undef) (cs := [(bool (a1.Seq == l18i17))]) (xs := [(a1.Seq == l18i17)]) rfl (by decide) (fun w a hm hs => ⟨([(bool (a1.Seq == l18i17))]).toArray, rfl, by simp only [List.map_toArray, List.map_cons, List.map_nil, hs.ev (x := .tmp 35) rfl]; exact run_bs [(bool (a1.Seq == l18i17))] [(bool (a1.Seq == l18i17))] Try.underlying56 to4 rfl rfl (bs_cons (l := [(bool (a1.Seq == l18i17))]) (cs := []) (cv_rfl rfl) rfl bs_nil) hm⟩) (fun hm => ⟨_, _, rfl, (fun _ => rfl) hm, rfl⟩) rfl (fun v32 => ?_)
      obtain ⟨hc33, h⟩ := req_some h
      refine al_append 4 hc33.1 hc33.2 rfl (src_own (i := 4) 0 rfl) rfl rfl Try.underlying56 to4 rfl rfl rfl (fun v34 => ?_)
      refine al_val (ov_fieldA (p := 1) rfl Try.underlying58 rfl sz56 rfl rfl rfl) ?_
      refine al_store (i := 5) (vs := [v34]) (cs' := [v0_0, v34, (iq a0.Base)]) rfl rfl rfl sz56 (cv_own 4 rfl) rfl (co_own 4 rfl co_nil) (Nat.le_of_ble_eq_true rfl) rfl rfl ?_
      refine al_nil ?_
      refine aq_block ?_
      exact aq_join (v34, (l18x5_1 ++ ([(a1.Seq == l18i17)]))) h (fun w a hm hs => norm hm hs [1, 2, 3, 4, 5] [1, 2] [(2, (pq g1)), (3, (pq g2)), (4, (pq g3)), (5, (pq g4)), (15, v0_1), (16, (iq (a0.Had.length : Int))), (17, (iq l18i17))] (by decide) ⟨rfl, rfl, rfl, rfl, rfl, rfl, rfl, trivial⟩)
     ·replace h := bif_f hb31 h
      refine al_skip ?_
      refine al_skip ?_
      refine al_skip ?_
      refine al_skip ?_
      refine al_val (ov_pick_f rfl rfl rfl) ?_
      refine al_val (ov_pick_f rfl rfl rfl) ?_
      refine al_buildSlice (τ := tyBool) (e := 4) (k := 1) (sz := 0) (by_ := 0) (z := undef) (cs := [(bool false)]) (xs := [false]) rfl (by decide) (fun w a hm hs => ⟨([(bool false)]).toArray, rfl, by simp only [List.map_toArray, List.map_cons, List.map_nil, hs.ev (x := .tmp 35) rfl]; exact run_bs [(bool false)] [(bool false)] Try.underlying56 to4 rfl rfl (bs_cons (l := [(bool false)]) (cs := []) (cv_rfl rfl) rfl bs_nil) hm⟩) (fun hm => ⟨_, _, rfl, (fun _ => rfl) hm, rfl⟩) rfl (fun v35 => ?_)
      obtain ⟨hc36, h⟩ := req_some h
      refine al_append 4 hc36.1 hc36.2 rfl (src_own (i := 4) 0 rfl) rfl rfl Try.underlying56 to4 rfl rfl rfl (fun v37 => ?_)
      refine al_val (ov_fieldA (p := 1) rfl Try.underlying58 rfl sz56 rfl rfl rfl) ?_
      refine al_store (i := 5) (vs := [v37]) (cs' := [v0_0, v37, (iq a0.Base)]) rfl rfl rfl sz56 (cv_own 4 rfl) rfl (co_own 4 rfl co_nil) (Nat.le_of_ble_eq_true rfl) rfl rfl ?_
      refine al_nil ?_
      refine aq_block ?_
      exact aq_join (v37, (l18x5_1 ++ ([false]))) h (fun w a hm hs => norm hm hs [1, 2, 3, 4, 5] [1, 2] [(2, (pq g1)), (3, (pq g2)), (4, (pq g3)), (5, (pq g4)), (15, v0_1), (16, (iq (a0.Had.length : Int))), (17, (iq l18i17))] (by decide) ⟨rfl, rfl, rfl, rfl, rfl, rfl, rfl, trivial⟩)
  ·replace h := bif_f hb21 h
   refine aw_exit ?_
   refine aq_then_exit ?_
   refine aq_then_exit ?_
   refine aq_block_exit ?_
   exact aq_join (l18v5_1, l18x5_1) h (fun w a hm hs => norm hm hs [0, 2, 3, 4] [0, 1] [(2, (pq g1)), (4, (pq g3)), (5, (pq g4))] (by decide) ⟨rfl, rfl, rfl, trivial⟩)
def f_lumlaw_LineSays (fu : Nat) (a0 : S_api_Sender) (a1 : S_api_Receiver) (a2 : S_api_Packet) : Option Bool := (opt (f_lumref_SenderErr fu a0) fun (r5 : Int) => (opt (f_line_Sends fu a0) fun (r7 : ((List S_api_Packet) × Int)) => (opt (f_line_Hears fu a0 a2) fun (r10 : (S_api_Sender × Int)) => (opt (f_line_Takes fu a1 a2) fun (r15 : (S_api_Receiver × (List S_api_Packet) × Int)) => (opt (f_lumref_Takes fu a1 a2) fun (r21 : (S_api_Receiver × (List S_api_Packet) × Int)) => (lt (fun (j26b59 : Bool) => (bif j26b59 then (some false) else (bif (r5 != (0 : Int)) then (lt (fun (j30b6 : Bool) => (some j30b6)) fun (kk31 : Bool → Option Bool) => (bif ((r7.1.length : Int) == (0 : Int)) then (bif (r7.2 == r5) then (bif (r10.2 == r5) then (opt (f_lumref_SameSender fu (S_api_Sender.mk r10.1.Texts r10.1.Had r10.1.Base) (S_api_Sender.mk ([] : (List (List UInt8))) ([] : (List Bool)) (0 : Int))) fun (r36 : Bool) => (kk31 r36)) else (kk31 false)) else (kk31 false)) else (kk31 false))) else (lt (fun (j37b6 : Bool) => (some j37b6)) fun (kk38 : Bool → Option Bool) => (bif (r7.2 == (0 : Int)) then (opt (f_lumref_Sends fu a0) fun (r41 : (List S_api_Packet)) => (opt (f_slices_Equal___api_Packet_api_Packet_ fu r7.1 r41) fun (r44 : Bool) => (bif r44 then (bif (r10.2 == (0 : Int)) then (opt (f_lumref_Hears fu a0 a2) fun (r48 : S_api_Sender) => (opt (f_lumref_SameSender fu (S_api_Sender.mk r10.1.Texts r10.1.Had r10.1.Base) r48) fun (r52 : Bool) => (kk38 r52))) else (kk38 false)) else (kk38 false)))) else (kk38 false)))))) fun (kk27 : Bool → Option Bool) => (bif (r15.2.2 != r21.2.2) then (kk27 true) else (opt (f_lumref_SameReceiver fu (S_api_Receiver.mk r15.1.Got r15.1.Held) (S_api_Receiver.mk r21.1.Got r21.1.Held)) fun (r55 : Bool) => (bif (!r55) then (kk27 true) else (opt (f_slices_Equal___api_Packet_api_Packet_ fu r15.2.1 r21.2.1) fun (r58 : Bool) => (kk27 (!r58))))))))))))
set_option maxRecDepth 100000 in
set_option maxHeartbeats 2000000 in
set_option maxHeartbeats 2000000 in
theorem f_lumlaw_LineSays_ok (fu : Nat) (v0_0 : Value) (v0_1 : Value) (a0 : S_api_Sender) (v1_0 : Value) (v1_1 : Value) (a1 : S_api_Receiver) (a2 : S_api_Packet) {r : Bool} (h : f_lumlaw_LineSays fu a0 a1 a2 = some r) : FnOk Try.prog 6 [(ag [v0_0, v0_1, (int .i64 a0.Base)]), (ag [v1_0, v1_1]), (ag [(int .i64 a2.Kind), (int .i64 a2.Seq), (str a2.Text)])] [(fDat (tyList tyStr) [v0_0] a0.Texts), (fDat (tyList tyBool) [v0_1] a0.Had), (fDat (tyList tyStr) [v1_0] a1.Got), (fDat (tyList tyS_api_Packet) [v1_1] a1.Held)] [] (fun (i : Unit) => { val := (bool r) }) := by
 unfold f_lumlaw_LineSays at h
 refine fn_enter Try.func6 rfl Try.ntmps6 rfl (fun w0 Z0 => ?_)
 refine aw_sr ?_
 refine al_box (vs := [v0_0, v0_1, (iq a0.Base)]) rfl (cv_rfl rfl) rfl (fun g1 => ?_)
 refine al_box (vs := [v1_0, v1_1]) rfl (cv_rfl rfl) rfl (fun g2 => ?_)
 refine al_box (vs := [(iq a2.Kind), (iq a2.Seq), (str a2.Text)]) rfl (cv_rfl rfl) rfl (fun g3 => ?_)
 refine al_as rfl rfl ?_
 refine al_nt ?_
 refine aw_sr ?_
 refine al_val (ov_load (i := 2) (v := (ag [v0_0, v0_1, (iq a0.Base)])) rfl rfl Try.underlying58 sz58 rfl rfl rfl rfl) ?_
 obtain ⟨r5, hc4, h⟩ := opt_some h
 refine al_call (vs := [(ag [v0_0, v0_1, (iq a0.Base)])]) (f_lumref_SenderErr_ok fu v0_0 v0_1 a0 hc4) [] [] [0, 1, 2] (pre_fz 0 rfl (pre_fz 1 rfl pre_nil)) rfl (by simp) (by decide) (.inl rfl) rfl Try.func21 rfl rfl rfl (fun _ => ?_)
 refine al_as rfl rfl ?_
 refine al_nt ?_
 refine aw_sr ?_
 refine al_val (ov_load (i := 2) (v := (ag [v0_0, v0_1, (iq a0.Base)])) rfl rfl Try.underlying58 sz58 rfl rfl rfl rfl) ?_
 obtain ⟨r7, hc6, h⟩ := opt_some h
 refine al_call (vs := [(ag [v0_0, v0_1, (iq a0.Base)])]) (f_line_Sends_ok fu v0_0 v0_1 a0 hc6) [] [] [0, 1, 2] (pre_fz 0 rfl (pre_fz 1 rfl pre_nil)) rfl (by simp) (by decide) (.inl rfl) rfl Try.func22 rfl rfl rfl (fun v8 => ?_)
 refine al_mv rfl rfl ?_
 refine al_ex rfl rfl rfl ?_
 refine al_ex rfl rfl rfl ?_
 refine al_as rfl rfl ?_
 refine al_as rfl rfl ?_
 refine al_nt ?_
 refine aw_sr ?_
 refine al_val (ov_load (i := 3) (v := (ag [v0_0, v0_1, (iq a0.Base)])) rfl rfl Try.underlying58 sz58 rfl rfl rfl rfl) ?_
 refine al_val (ov_load (i := 1) (v := (ag [(iq a2.Kind), (iq a2.Seq), (str a2.Text)])) rfl rfl Try.underlying63 sz63 rfl rfl rfl rfl) ?_
 obtain ⟨r10, hc9, h⟩ := opt_some h
 refine al_call (vs := [(ag [v0_0, v0_1, (iq a0.Base)]), (ag [(iq a2.Kind), (iq a2.Seq), (str a2.Text)])]) (f_line_Hears_ok fu v0_0 v0_1 a0 a2 hc9) [] [] [0, 1, 2, 3] (pre_fz 0 rfl (pre_fz 1 rfl pre_nil)) rfl (by simp) (by decide) (.inl rfl) rfl Try.func23 rfl rfl rfl (fun ⟨v11, v12⟩ => ?_)
 refine al_mv rfl rfl ?_
 refine al_ex rfl rfl rfl ?_
 refine al_ex rfl rfl rfl ?_
 refine al_alloc (zs := [nS, nS, (iq (0 : Int))]) (zeroOf_to to58) rfl rfl (fun g13 => ?_)
 refine al_store (i := 0) (vs := [v11, v12, (iq r10.1.Base)]) (cs' := [v11, v12, (iq r10.1.Base)]) rfl rfl rfl sz58 (cv_rfl rfl) rfl (co_fz 0 rfl (co_fz 1 rfl (co_val rfl co_nil))) (Nat.le_of_ble_eq_true rfl) rfl rfl ?_
 refine al_as rfl rfl ?_
 refine al_nt ?_
 refine aw_sr ?_
 refine al_val (ov_load (i := 3) (v := (ag [v1_0, v1_1])) rfl rfl Try.underlying61 sz61 rfl rfl rfl rfl) ?_
 refine al_val (ov_load (i := 2) (v := (ag [(iq a2.Kind), (iq a2.Seq), (str a2.Text)])) rfl rfl Try.underlying63 sz63 rfl rfl rfl rfl) ?_
 obtain ⟨r15, hc14, h⟩ := opt_some h
 refine al_call (vs := [(ag [v1_0, v1_1]), (ag [(iq a2.Kind), (iq a2.Seq), (str a2.Text)])]) (f_line_Takes_ok fu v1_0 v1_1 a1 a2 hc14) [] [] [0, 1, 2, 3, 4] (pre_fz 4 rfl (pre_fz 5 rfl pre_nil)) rfl (by simp) (by decide) (.inl rfl) rfl Try.func24 rfl rfl rfl (fun ⟨v16, v17, v18⟩ => ?_)
 refine al_mv rfl rfl ?_
 refine al_ex rfl rfl rfl ?_
 refine al_ex rfl rfl rfl ?_
 refine al_ex rfl rfl rfl ?_
 refine al_alloc (zs := [nS, nS]) (zeroOf_to to61) rfl rfl (fun g19 => ?_)
 refine al_store (i := 0) (vs := [v16, v17]) (cs' := [v16, v17]) rfl rfl rfl sz61 (cv_rfl rfl) rfl (co_fz 0 rfl (co_fz 1 rfl co_nil)) (Nat.le_of_ble_eq_true rfl) rfl rfl ?_
 refine al_as rfl rfl ?_
 refine al_as rfl rfl ?_
 refine al_nt ?_
 refine aw_sr ?_
 refine al_val (ov_load (i := 5) (v := (ag [v1_0, v1_1])) rfl rfl Try.underlying61 sz61 rfl rfl rfl rfl) ?_
 refine al_val (ov_load (i := 4) (v := (ag [(iq a2.Kind), (iq a2.Seq), (str a2.Text)])) rfl rfl Try.underlying63 sz63 rfl rfl rfl rfl) ?_
 obtain ⟨r21, hc20, h⟩ := opt_some h
 refine al_call (vs := [(ag [v1_0, v1_1]), (ag [(iq a2.Kind), (iq a2.Seq), (str a2.Text)])]) (f_lumref_Takes_ok fu v1_0 v1_1 a1 a2 hc20) [] [] [0, 1, 2, 3, 4, 5, 6] (pre_fz 6 rfl (pre_fz 7 rfl pre_nil)) rfl (by simp) (by decide) (.inl rfl) rfl Try.func25 rfl rfl rfl (fun ⟨v22, v23, v24⟩ => ?_)
 refine al_mv rfl rfl ?_
 refine al_ex rfl rfl rfl ?_
 refine al_ex rfl rfl rfl ?_
 refine al_ex rfl rfl rfl ?_
 refine al_alloc (zs := [nS, nS]) (zeroOf_to to61) rfl rfl (fun g25 => ?_)
 refine al_store (i := 0) (vs := [v22, v23]) (cs' := [v22, v23]) rfl rfl rfl sz61 (cv_rfl rfl) rfl (co_fz 0 rfl (co_fz 1 rfl co_nil)) (Nat.le_of_ble_eq_true rfl) rfl rfl ?_
 refine al_as rfl rfl ?_
 refine al_as rfl rfl ?_
 refine al_nt ?_
 refine aw_seq ?_
 obtain ⟨kk27, hkk27, h⟩ := lt_some h
 refine aw_seq_join (ι := Bool) (fun i => (memOf w0 Z0 [] [(oBox g1 58 [v0_0, v0_1, (iq a0.Base)]), (oBox g3 63 [(iq a2.Kind), (iq a2.Seq), (str a2.Text)]), (oRow v8 63 tyS_api_Packet r7.1), (oBox g13 58 [v11, v12, (iq r10.1.Base)])] [(fDat (tyList tyStr) [v0_0] a0.Texts), (fDat (tyList tyBool) [v0_1] a0.Had), (fDat (tyList tyStr) [v11] r10.1.Texts), (fDat (tyList tyBool) [v12] r10.1.Had), (fDat (tyList tyStr) [v22] r21.1.Got), (fDat (tyList tyS_api_Packet) [v23] r21.1.Held), (fDat (tyList tyS_api_Packet) [v24] r21.2.1), (fDat (tyList tyStr) [v16] r15.1.Got), (fDat (tyList tyS_api_Packet) [v17] r15.1.Held), (fDat (tyList tyStr) [v1_0] a1.Got), (fDat (tyList tyS_api_Packet) [v1_1] a1.Held)])) (fun i => (tab [(3, (pq g1)), (5, (pq g3)), (7, (iq r5)), (8, v8), (9, (iq r7.2)), (10, (pq g13)), (11, (iq r10.2)), (59, (bool i))])) (fun i => kk27 i = some r) ?_ ?_
 ·rintro j26b59 h
  have h : kk27 j26b59 = some r := h
  rw [hkk27] at h
  dsimp only at h
  clear hkk27
  refine aw_show (m := (memOf w0 Z0 [] [(oBox g1 58 [v0_0, v0_1, (iq a0.Base)]), (oBox g3 63 [(iq a2.Kind), (iq a2.Seq), (str a2.Text)]), (oRow v8 63 tyS_api_Packet r7.1), (oBox g13 58 [v11, v12, (iq r10.1.Base)])] [(fDat (tyList tyStr) [v0_0] a0.Texts), (fDat (tyList tyBool) [v0_1] a0.Had), (fDat (tyList tyStr) [v11] r10.1.Texts), (fDat (tyList tyBool) [v12] r10.1.Had), (fDat (tyList tyStr) [v22] r21.1.Got), (fDat (tyList tyS_api_Packet) [v23] r21.1.Held), (fDat (tyList tyS_api_Packet) [v24] r21.2.1), (fDat (tyList tyStr) [v16] r15.1.Got), (fDat (tyList tyS_api_Packet) [v17] r15.1.Held), (fDat (tyList tyStr) [v1_0] a1.Got), (fDat (tyList tyS_api_Packet) [v1_1] a1.Held)])) (S := (tab [(3, (pq g1)), (5, (pq g3)), (7, (iq r5)), (8, v8), (9, (iq r7.2)), (10, (pq g13)), (11, (iq r10.2)), (59, (bool j26b59))])) ?_
  refine aw_cond rfl (fun hb28 => ?_) (fun hb28 => ?_)
  ·replace h := bif_t hb28 h
   refine aw_sr ?_
   refine al_as rfl rfl ?_
   refine al_nt ?_
   refine aw_ret ?_
   refine aq_then_ret ?_
   obtain rfl := Option.some.inj h
   exact fn_ret () [] [] rfl rfl rfl rfl (res1 rfl rfl) rfl rfl rfl (by decide)
  ·replace h := bif_f hb28 h
   refine aw_skip ?_
   refine aq_then ?_
   refine aw_seq ?_
   refine aw_sr ?_
   refine al_mv rfl rfl ?_
   refine al_in rfl rfl rfl rfl ?_
   refine al_nt ?_
   refine aw_cond rfl (fun hb29 => ?_) (fun hb29 => ?_)
   ·replace h := bif_t hb29 h
    obtain ⟨kk31, hkk31, h⟩ := lt_some h
    refine aw_seq_join (ι := Bool) (fun i => (memOf w0 Z0 [] [] [(fDat (tyList tyStr) [v0_0] a0.Texts), (fDat (tyList tyBool) [v0_1] a0.Had), (fDat (tyList tyStr) [v11] r10.1.Texts), (fDat (tyList tyBool) [v12] r10.1.Had), (fDat (tyList tyStr) [v22] r21.1.Got), (fDat (tyList tyS_api_Packet) [v23] r21.1.Held), (fDat (tyList tyS_api_Packet) [v24] r21.2.1), (fDat (tyList tyStr) [v16] r15.1.Got), (fDat (tyList tyS_api_Packet) [v17] r15.1.Held), (fDat (tyList tyStr) [v1_0] a1.Got), (fDat (tyList tyS_api_Packet) [v1_1] a1.Held)])) (fun i => (tab [(6, (bool i))])) (fun i => kk31 i = some r) ?_ ?_
    ·rintro j30b6 h
     have h : kk31 j30b6 = some r := h
     rw [hkk31] at h
     dsimp only at h
     clear hkk31
     refine aw_show (m := (memOf w0 Z0 [] [] [(fDat (tyList tyStr) [v0_0] a0.Texts), (fDat (tyList tyBool) [v0_1] a0.Had), (fDat (tyList tyStr) [v11] r10.1.Texts), (fDat (tyList tyBool) [v12] r10.1.Had), (fDat (tyList tyStr) [v22] r21.1.Got), (fDat (tyList tyS_api_Packet) [v23] r21.1.Held), (fDat (tyList tyS_api_Packet) [v24] r21.2.1), (fDat (tyList tyStr) [v16] r15.1.Got), (fDat (tyList tyS_api_Packet) [v17] r15.1.Held), (fDat (tyList tyStr) [v1_0] a1.Got), (fDat (tyList tyS_api_Packet) [v1_1] a1.Held)])) (S := (tab [(6, (bool j30b6))])) ?_
     refine aw_ret ?_
     refine aq_then_ret ?_
     obtain rfl := Option.some.inj h
     exact fn_ret () [] [] rfl rfl rfl rfl (res1 rfl rfl) rfl rfl rfl (by decide)
    ·clear hkk31
     refine aw_region ?_
     refine al_mv rfl rfl ?_
     refine al_val (ov_lenR 2 rfl rfl Try.underlying59 rfl) ?_
     refine al_in rfl rfl rfl rfl ?_
     refine al_mv rfl rfl ?_
     refine al_caseB 65 rfl (fun hb32 => ?_) (fun hb32 => ?_)
     ·replace h := bif_t hb32 h
      refine al_mv rfl rfl ?_
      refine al_mv rfl rfl ?_
      refine al_in rfl rfl rfl rfl ?_
      refine al_val (ov_pick_t rfl rfl rfl) ?_
      refine al_mv rfl rfl ?_
      refine al_caseB 70 rfl (fun hb33 => ?_) (fun hb33 => ?_)
      ·replace h := bif_t hb33 h
       refine al_mv rfl rfl ?_
       refine al_mv rfl rfl ?_
       refine al_in rfl rfl rfl rfl ?_
       refine al_val (ov_pick_t rfl rfl rfl) ?_
       refine al_mv rfl rfl ?_
       refine al_caseB 75 rfl (fun hb34 => ?_) (fun hb34 => ?_)
       ·replace h := bif_t hb34 h
        refine al_val (ov_load (i := 3) (v := (ag [v11, v12, (iq r10.1.Base)])) rfl rfl Try.underlying58 sz58 rfl rfl rfl rfl) ?_
        refine al_val (ov_build (cells := ([nS, nS, (iq (0 : Int))]).toArray) (cs := [nS, nS, (iq (0 : Int))]) rfl (fun w a hm hs => by simp only [List.map_toArray, List.map_cons, List.map_nil, List.toList_toArray]; kernel_rfl)) ?_
        obtain ⟨r36, hc35, h⟩ := opt_some h
        refine al_call (vs := [(ag [v11, v12, (iq r10.1.Base)]), (ag [nS, nS, (iq (0 : Int))])]) (f_lumref_SameSender_ok fu v11 v12 (S_api_Sender.mk r10.1.Texts r10.1.Had r10.1.Base) nS nS (S_api_Sender.mk ([] : (List (List UInt8))) ([] : (List Bool)) (0 : Int)) hc35) [] [] [0, 1, 2, 3] (pre_fz 2 rfl (pre_fz 3 rfl (pre_nilD (pre_nilD pre_nil)))) rfl (by simp) (by decide) (.inl rfl) rfl Try.func28 rfl rfl rfl (fun _ => ?_)
        refine al_val (ov_pick_t rfl rfl rfl) ?_
        refine al_as rfl rfl ?_
        refine al_nil ?_
        exact aq_join r36 h (fun w a hm hs => norm hm hs [] [0, 1, 2, 3, 4, 5, 6, 7, 8, 9, 10] [(6, (bool r36))] (by decide) ⟨rfl, trivial⟩)
       ·replace h := bif_f hb34 h
        refine al_skip ?_
        refine al_skip ?_
        refine al_skip ?_
        refine al_val (ov_pick_f rfl rfl rfl) ?_
        refine al_as rfl rfl ?_
        refine al_nil ?_
        exact aq_join false h (fun w a hm hs => norm hm hs [] [0, 1, 2, 3, 4, 5, 6, 7, 8, 9, 10] [(6, (bool false))] (by decide) ⟨rfl, trivial⟩)
      ·replace h := bif_f hb33 h
       refine al_skip ?_
       refine al_skip ?_
       refine al_skip ?_
       refine al_val (ov_pick_f rfl rfl rfl) ?_
       refine al_mv rfl rfl ?_
       refine al_skip ?_
       refine al_skip ?_
       refine al_skip ?_
       refine al_val (ov_pick_f rfl rfl rfl) ?_
       refine al_as rfl rfl ?_
       refine al_nil ?_
       exact aq_join false h (fun w a hm hs => norm hm hs [] [0, 1, 2, 3, 4, 5, 6, 7, 8, 9, 10] [(6, (bool false))] (by decide) ⟨rfl, trivial⟩)
     ·replace h := bif_f hb32 h
      refine al_skip ?_
      refine al_skip ?_
      refine al_skip ?_
      refine al_val (ov_pick_f rfl rfl rfl) ?_
      refine al_mv rfl rfl ?_
      refine al_skip ?_
      refine al_skip ?_
      refine al_skip ?_
      refine al_val (ov_pick_f rfl rfl rfl) ?_
      refine al_mv rfl rfl ?_
      refine al_skip ?_
      refine al_skip ?_
      refine al_skip ?_
      refine al_val (ov_pick_f rfl rfl rfl) ?_
      refine al_as rfl rfl ?_
      refine al_nil ?_
      exact aq_join false h (fun w a hm hs => norm hm hs [] [0, 1, 2, 3, 4, 5, 6, 7, 8, 9, 10] [(6, (bool false))] (by decide) ⟨rfl, trivial⟩)
   ·replace h := bif_f hb29 h
    refine aw_skip ?_
    refine aq_then ?_
    obtain ⟨kk38, hkk38, h⟩ := lt_some h
    refine aw_seq_join (ι := Bool) (fun i => (memOf w0 Z0 [] [] [(fDat (tyList tyStr) [v0_0] a0.Texts), (fDat (tyList tyBool) [v0_1] a0.Had), (fDat (tyList tyStr) [v11] r10.1.Texts), (fDat (tyList tyBool) [v12] r10.1.Had), (fDat (tyList tyStr) [v22] r21.1.Got), (fDat (tyList tyS_api_Packet) [v23] r21.1.Held), (fDat (tyList tyS_api_Packet) [v24] r21.2.1), (fDat (tyList tyStr) [v16] r15.1.Got), (fDat (tyList tyS_api_Packet) [v17] r15.1.Held), (fDat (tyList tyStr) [v1_0] a1.Got), (fDat (tyList tyS_api_Packet) [v1_1] a1.Held)])) (fun i => (tab [(6, (bool i))])) (fun i => kk38 i = some r) ?_ ?_
    ·rintro j37b6 h
     have h : kk38 j37b6 = some r := h
     rw [hkk38] at h
     dsimp only at h
     clear hkk38
     refine aw_show (m := (memOf w0 Z0 [] [] [(fDat (tyList tyStr) [v0_0] a0.Texts), (fDat (tyList tyBool) [v0_1] a0.Had), (fDat (tyList tyStr) [v11] r10.1.Texts), (fDat (tyList tyBool) [v12] r10.1.Had), (fDat (tyList tyStr) [v22] r21.1.Got), (fDat (tyList tyS_api_Packet) [v23] r21.1.Held), (fDat (tyList tyS_api_Packet) [v24] r21.2.1), (fDat (tyList tyStr) [v16] r15.1.Got), (fDat (tyList tyS_api_Packet) [v17] r15.1.Held), (fDat (tyList tyStr) [v1_0] a1.Got), (fDat (tyList tyS_api_Packet) [v1_1] a1.Held)])) (S := (tab [(6, (bool j37b6))])) ?_
     refine aw_ret ?_
     obtain rfl := Option.some.inj h
     exact fn_ret () [] [] rfl rfl rfl rfl (res1 rfl rfl) rfl rfl rfl (by decide)
    ·clear hkk38
     rcases Bool.eq_false_or_eq_true (r7.2 == (0 : Int)) with hb39 | hb39
     ·replace h := bif_t hb39 h
      refine aw_region_open [⟨0, 80, Unit, fun _ => { val := (iq r7.2) }⟩, ⟨1, 81, Unit, fun _ => { val := (bool (r7.2 == (0 : Int))) }⟩, ⟨2, 82, Unit, fun _ => { val := (bool true) }⟩, ⟨3, 83, Unit, fun _ => { val := v8 }⟩, ⟨4, 84, Unit, fun _ => { val := (ag [v0_0, v0_1, (iq a0.Base)]) }⟩] (tab [(3, (pq g1)), (5, (pq g3)), (8, v8), (9, (iq r7.2)), (10, (pq g13)), (11, (iq r10.2))]) mixed (fun a hs => hs.tab _ (allT_mem ⟨rfl, rfl, rfl, rfl, rfl, rfl, trivial⟩)) ?_
      refine ta_show (m := (memOf w0 Z0 [] [(oBox g1 58 [v0_0, v0_1, (iq a0.Base)]), (oBox g3 63 [(iq a2.Kind), (iq a2.Seq), (str a2.Text)]), (oRow v8 63 tyS_api_Packet r7.1), (oBox g13 58 [v11, v12, (iq r10.1.Base)])] [(fDat (tyList tyStr) [v0_0] a0.Texts), (fDat (tyList tyBool) [v0_1] a0.Had), (fDat (tyList tyStr) [v11] r10.1.Texts), (fDat (tyList tyBool) [v12] r10.1.Had), (fDat (tyList tyStr) [v22] r21.1.Got), (fDat (tyList tyS_api_Packet) [v23] r21.1.Held), (fDat (tyList tyS_api_Packet) [v24] r21.2.1), (fDat (tyList tyStr) [v16] r15.1.Got), (fDat (tyList tyS_api_Packet) [v17] r15.1.Held), (fDat (tyList tyStr) [v1_0] a1.Got), (fDat (tyList tyS_api_Packet) [v1_1] a1.Held)])) (S := (tab [(3, (pq g1)), (5, (pq g3)), (8, v8), (9, (iq r7.2)), (10, (pq g13)), (11, (iq r10.2))])) ?_
      refine ta_step 5 _ [0, 1, 2, 3, 4] [80, 81, 82, 83, 84] [0, 1, 2, 4] [] [⟨0, 80, Unit, fun _ => { val := (iq r7.2) }⟩, ⟨1, 81, Unit, fun _ => { val := (bool (r7.2 == (0 : Int))) }⟩, ⟨2, 82, Unit, fun _ => { val := (bool true) }⟩, ⟨4, 84, Unit, fun _ => { val := (ag [v0_0, v0_1, (iq a0.Base)]) }⟩] [⟨3, 83, Unit, fun _ => { val := v8 }⟩] rfl rfl rfl (by kernel_rfl) rfl rfl rfl ⟨⟨_, rfl, [], rfl, by
 intro X_ Y_ F_ K_ hK_
 refine al_show (m := Mem.plus (memOf w0 Z0 [] [(oBox g1 58 [v0_0, v0_1, (iq a0.Base)]), (oBox g3 63 [(iq a2.Kind), (iq a2.Seq), (str a2.Text)]), (oRow v8 63 tyS_api_Packet r7.1), (oBox g13 58 [v11, v12, (iq r10.1.Base)])] [(fDat (tyList tyStr) [v0_0] a0.Texts), (fDat (tyList tyBool) [v0_1] a0.Had), (fDat (tyList tyStr) [v11] r10.1.Texts), (fDat (tyList tyBool) [v12] r10.1.Had), (fDat (tyList tyStr) [v22] r21.1.Got), (fDat (tyList tyS_api_Packet) [v23] r21.1.Held), (fDat (tyList tyS_api_Packet) [v24] r21.2.1), (fDat (tyList tyStr) [v16] r15.1.Got), (fDat (tyList tyS_api_Packet) [v17] r15.1.Held), (fDat (tyList tyStr) [v1_0] a1.Got), (fDat (tyList tyS_api_Packet) [v1_1] a1.Held)]) X_ Y_) (S := over (tab [(3, (pq g1)), (5, (pq g3)), (8, v8), (9, (iq r7.2)), (10, (pq g13)), (11, (iq r10.2))]) F_) ?_
 refine al_mv rfl rfl ?_
 refine al_nil ?_
 exact fr_fin hK_ ()⟩, ⟨_, rfl, [0], rfl, by
 intro _
 intro X_ Y_ F_ K_ hK_
 refine al_show (m := Mem.plus (memOf w0 Z0 [] [(oBox g1 58 [v0_0, v0_1, (iq a0.Base)]), (oBox g3 63 [(iq a2.Kind), (iq a2.Seq), (str a2.Text)]), (oRow v8 63 tyS_api_Packet r7.1), (oBox g13 58 [v11, v12, (iq r10.1.Base)])] [(fDat (tyList tyStr) [v0_0] a0.Texts), (fDat (tyList tyBool) [v0_1] a0.Had), (fDat (tyList tyStr) [v11] r10.1.Texts), (fDat (tyList tyBool) [v12] r10.1.Had), (fDat (tyList tyStr) [v22] r21.1.Got), (fDat (tyList tyS_api_Packet) [v23] r21.1.Held), (fDat (tyList tyS_api_Packet) [v24] r21.2.1), (fDat (tyList tyStr) [v16] r15.1.Got), (fDat (tyList tyS_api_Packet) [v17] r15.1.Held), (fDat (tyList tyStr) [v1_0] a1.Got), (fDat (tyList tyS_api_Packet) [v1_1] a1.Held)]) X_ Y_) (S := over (put (tab [(3, (pq g1)), (5, (pq g3)), (8, v8), (9, (iq r7.2)), (10, (pq g13)), (11, (iq r10.2))]) 80 (iq r7.2)) F_) ?_
 refine al_in rfl rfl rfl rfl ?_
 refine al_nil ?_
 exact fr_fin hK_ ()⟩, ⟨_, rfl, [1], rfl, by
 intro _
 intro X_ Y_ F_ K_ hK_
 refine al_show (m := Mem.plus (memOf w0 Z0 [] [(oBox g1 58 [v0_0, v0_1, (iq a0.Base)]), (oBox g3 63 [(iq a2.Kind), (iq a2.Seq), (str a2.Text)]), (oRow v8 63 tyS_api_Packet r7.1), (oBox g13 58 [v11, v12, (iq r10.1.Base)])] [(fDat (tyList tyStr) [v0_0] a0.Texts), (fDat (tyList tyBool) [v0_1] a0.Had), (fDat (tyList tyStr) [v11] r10.1.Texts), (fDat (tyList tyBool) [v12] r10.1.Had), (fDat (tyList tyStr) [v22] r21.1.Got), (fDat (tyList tyS_api_Packet) [v23] r21.1.Held), (fDat (tyList tyS_api_Packet) [v24] r21.2.1), (fDat (tyList tyStr) [v16] r15.1.Got), (fDat (tyList tyS_api_Packet) [v17] r15.1.Held), (fDat (tyList tyStr) [v1_0] a1.Got), (fDat (tyList tyS_api_Packet) [v1_1] a1.Held)]) X_ Y_) (S := over (put (tab [(3, (pq g1)), (5, (pq g3)), (8, v8), (9, (iq r7.2)), (10, (pq g13)), (11, (iq r10.2))]) 81 (bool (r7.2 == (0 : Int)))) F_) ?_
 refine al_val (ov_cast (by first | rw [hb39] | rfl) (ov_move rfl rfl)) ?_
 refine al_nil ?_
 exact fr_fin hK_ ()⟩, ⟨_, rfl, [2], rfl, by
 intro _
 intro X_ Y_ F_ K_ hK_
 refine al_show (m := Mem.plus (memOf w0 Z0 [] [(oBox g1 58 [v0_0, v0_1, (iq a0.Base)]), (oBox g3 63 [(iq a2.Kind), (iq a2.Seq), (str a2.Text)]), (oRow v8 63 tyS_api_Packet r7.1), (oBox g13 58 [v11, v12, (iq r10.1.Base)])] [(fDat (tyList tyStr) [v0_0] a0.Texts), (fDat (tyList tyBool) [v0_1] a0.Had), (fDat (tyList tyStr) [v11] r10.1.Texts), (fDat (tyList tyBool) [v12] r10.1.Had), (fDat (tyList tyStr) [v22] r21.1.Got), (fDat (tyList tyS_api_Packet) [v23] r21.1.Held), (fDat (tyList tyS_api_Packet) [v24] r21.2.1), (fDat (tyList tyStr) [v16] r15.1.Got), (fDat (tyList tyS_api_Packet) [v17] r15.1.Held), (fDat (tyList tyStr) [v1_0] a1.Got), (fDat (tyList tyS_api_Packet) [v1_1] a1.Held)]) X_ Y_) (S := over (put (tab [(3, (pq g1)), (5, (pq g3)), (8, v8), (9, (iq r7.2)), (10, (pq g13)), (11, (iq r10.2))]) 82 (bool true)) F_) ?_
 refine al_mv rfl rfl ?_
 refine al_nil ?_
 exact fr_fin hK_ ()⟩, ⟨_, rfl, [2], rfl, by
 intro _
 intro X_ Y_ F_ K_ hK_
 refine al_show (m := Mem.plus (memOf w0 Z0 [] [(oBox g1 58 [v0_0, v0_1, (iq a0.Base)]), (oBox g3 63 [(iq a2.Kind), (iq a2.Seq), (str a2.Text)]), (oRow v8 63 tyS_api_Packet r7.1), (oBox g13 58 [v11, v12, (iq r10.1.Base)])] [(fDat (tyList tyStr) [v0_0] a0.Texts), (fDat (tyList tyBool) [v0_1] a0.Had), (fDat (tyList tyStr) [v11] r10.1.Texts), (fDat (tyList tyBool) [v12] r10.1.Had), (fDat (tyList tyStr) [v22] r21.1.Got), (fDat (tyList tyS_api_Packet) [v23] r21.1.Held), (fDat (tyList tyS_api_Packet) [v24] r21.2.1), (fDat (tyList tyStr) [v16] r15.1.Got), (fDat (tyList tyS_api_Packet) [v17] r15.1.Held), (fDat (tyList tyStr) [v1_0] a1.Got), (fDat (tyList tyS_api_Packet) [v1_1] a1.Held)]) X_ Y_) (S := over (put (tab [(3, (pq g1)), (5, (pq g3)), (8, v8), (9, (iq r7.2)), (10, (pq g13)), (11, (iq r10.2))]) 82 (bool true)) F_) ?_
 refine al_val (ov_load (i := 0) (v := (ag [v0_0, v0_1, (iq a0.Base)])) rfl rfl Try.underlying58 sz58 rfl rfl rfl rfl) ?_
 refine al_nil ?_
 exact fr_fin hK_ ()⟩, trivial⟩ ?_
      intro _
      intro _
      intro _
      intro _
      intro X_ Y_ F_ K_ hK_
      refine al_show (m := Mem.plus (memOf w0 Z0 [] [(oBox g1 58 [v0_0, v0_1, (iq a0.Base)]), (oBox g3 63 [(iq a2.Kind), (iq a2.Seq), (str a2.Text)]), (oRow v8 63 tyS_api_Packet r7.1), (oBox g13 58 [v11, v12, (iq r10.1.Base)])] [(fDat (tyList tyStr) [v0_0] a0.Texts), (fDat (tyList tyBool) [v0_1] a0.Had), (fDat (tyList tyStr) [v11] r10.1.Texts), (fDat (tyList tyBool) [v12] r10.1.Had), (fDat (tyList tyStr) [v22] r21.1.Got), (fDat (tyList tyS_api_Packet) [v23] r21.1.Held), (fDat (tyList tyS_api_Packet) [v24] r21.2.1), (fDat (tyList tyStr) [v16] r15.1.Got), (fDat (tyList tyS_api_Packet) [v17] r15.1.Held), (fDat (tyList tyStr) [v1_0] a1.Got), (fDat (tyList tyS_api_Packet) [v1_1] a1.Held)]) X_ Y_) (S := over (put (put (put (put (tab [(3, (pq g1)), (5, (pq g3)), (8, v8), (9, (iq r7.2)), (10, (pq g13)), (11, (iq r10.2))]) 80 (iq r7.2)) 81 (bool (r7.2 == (0 : Int)))) 82 (bool true)) 84 (ag [v0_0, v0_1, (iq a0.Base)])) F_) ?_
      obtain ⟨r41, hc40, h⟩ := opt_some h
      refine al_callX (vs := [(ag [v0_0, v0_1, (iq a0.Base)])]) (f_lumref_Sends_ok fu v0_0 v0_1 a0 hc40) [] [] [0, 1, 2, 3] (pre_fz 0 rfl (pre_fz 1 rfl pre_nil)) rfl (by simp) (by decide) rfl (.inl rfl) rfl Try.func29 rfl rfl rfl (fun v42 => ?_)
      refine al_nil ?_
      refine aq_show (m := Mem.plus (memOf w0 Z0 [] [(oRow v42 63 tyS_api_Packet r41), (oBox g1 58 [v0_0, v0_1, (iq a0.Base)]), (oBox g3 63 [(iq a2.Kind), (iq a2.Seq), (str a2.Text)]), (oRow v8 63 tyS_api_Packet r7.1), (oBox g13 58 [v11, v12, (iq r10.1.Base)])] [(fDat (tyList tyStr) [v0_0] a0.Texts), (fDat (tyList tyBool) [v0_1] a0.Had), (fDat (tyList tyStr) [v11] r10.1.Texts), (fDat (tyList tyBool) [v12] r10.1.Had), (fDat (tyList tyStr) [v22] r21.1.Got), (fDat (tyList tyS_api_Packet) [v23] r21.1.Held), (fDat (tyList tyS_api_Packet) [v24] r21.2.1), (fDat (tyList tyStr) [v16] r15.1.Got), (fDat (tyList tyS_api_Packet) [v17] r15.1.Held), (fDat (tyList tyStr) [v1_0] a1.Got), (fDat (tyList tyS_api_Packet) [v1_1] a1.Held)]) X_ Y_) ?_
      refine aq_next hK_ [0, 1, 2, 3, 4] [0, 1, 2, 3, 4, 5, 6, 7, 8, 9, 10] [(3, (pq g1)), (5, (pq g3)), (8, v8), (10, (pq g13)), (11, (iq r10.2)), (82, (bool true)), (85, v42)] [83] [] rfl rfl (by decide) rfl ⟨rfl, rfl, rfl, rfl, rfl, rfl, rfl, trivial⟩ ⟨rfl, trivial⟩ ?_
      clear hK_ K_ F_ X_ Y_
      refine ta_show (m := (memOf w0 Z0 [] [(oRow v42 63 tyS_api_Packet r41), (oBox g1 58 [v0_0, v0_1, (iq a0.Base)]), (oBox g3 63 [(iq a2.Kind), (iq a2.Seq), (str a2.Text)]), (oRow v8 63 tyS_api_Packet r7.1), (oBox g13 58 [v11, v12, (iq r10.1.Base)])] [(fDat (tyList tyStr) [v0_0] a0.Texts), (fDat (tyList tyBool) [v0_1] a0.Had), (fDat (tyList tyStr) [v11] r10.1.Texts), (fDat (tyList tyBool) [v12] r10.1.Had), (fDat (tyList tyStr) [v22] r21.1.Got), (fDat (tyList tyS_api_Packet) [v23] r21.1.Held), (fDat (tyList tyS_api_Packet) [v24] r21.2.1), (fDat (tyList tyStr) [v16] r15.1.Got), (fDat (tyList tyS_api_Packet) [v17] r15.1.Held), (fDat (tyList tyStr) [v1_0] a1.Got), (fDat (tyList tyS_api_Packet) [v1_1] a1.Held)])) (S := (tab [(3, (pq g1)), (5, (pq g3)), (8, v8), (10, (pq g13)), (11, (iq r10.2)), (82, (bool true)), (85, v42)])) ?_
      refine ta_step 6 _ [3] [83] [3] [7, 8, 9, 10, 11, 12, 13, 14, 15] [⟨3, 83, Unit, fun _ => { val := v8 }⟩] [] rfl rfl rfl (by kernel_rfl) rfl rfl rfl ⟨⟨_, rfl, [], rfl, by
 intro X_ Y_ F_ K_ hK_
 refine al_show (m := Mem.plus (memOf w0 Z0 [] [(oRow v42 63 tyS_api_Packet r41), (oBox g1 58 [v0_0, v0_1, (iq a0.Base)]), (oBox g3 63 [(iq a2.Kind), (iq a2.Seq), (str a2.Text)]), (oRow v8 63 tyS_api_Packet r7.1), (oBox g13 58 [v11, v12, (iq r10.1.Base)])] [(fDat (tyList tyStr) [v0_0] a0.Texts), (fDat (tyList tyBool) [v0_1] a0.Had), (fDat (tyList tyStr) [v11] r10.1.Texts), (fDat (tyList tyBool) [v12] r10.1.Had), (fDat (tyList tyStr) [v22] r21.1.Got), (fDat (tyList tyS_api_Packet) [v23] r21.1.Held), (fDat (tyList tyS_api_Packet) [v24] r21.2.1), (fDat (tyList tyStr) [v16] r15.1.Got), (fDat (tyList tyS_api_Packet) [v17] r15.1.Held), (fDat (tyList tyStr) [v1_0] a1.Got), (fDat (tyList tyS_api_Packet) [v1_1] a1.Held)]) X_ Y_) (S := over (tab [(3, (pq g1)), (5, (pq g3)), (8, v8), (10, (pq g13)), (11, (iq r10.2)), (82, (bool true)), (85, v42)]) F_) ?_
 refine al_mv rfl rfl ?_
 refine al_nil ?_
 exact fr_fin hK_ ()⟩, trivial⟩ ?_
      intro _
      intro X_ Y_ F_ K_ hK_
      refine al_show (m := Mem.plus (memOf w0 Z0 [] [(oRow v42 63 tyS_api_Packet r41), (oBox g1 58 [v0_0, v0_1, (iq a0.Base)]), (oBox g3 63 [(iq a2.Kind), (iq a2.Seq), (str a2.Text)]), (oRow v8 63 tyS_api_Packet r7.1), (oBox g13 58 [v11, v12, (iq r10.1.Base)])] [(fDat (tyList tyStr) [v0_0] a0.Texts), (fDat (tyList tyBool) [v0_1] a0.Had), (fDat (tyList tyStr) [v11] r10.1.Texts), (fDat (tyList tyBool) [v12] r10.1.Had), (fDat (tyList tyStr) [v22] r21.1.Got), (fDat (tyList tyS_api_Packet) [v23] r21.1.Held), (fDat (tyList tyS_api_Packet) [v24] r21.2.1), (fDat (tyList tyStr) [v16] r15.1.Got), (fDat (tyList tyS_api_Packet) [v17] r15.1.Held), (fDat (tyList tyStr) [v1_0] a1.Got), (fDat (tyList tyS_api_Packet) [v1_1] a1.Held)]) X_ Y_) (S := over (put (tab [(3, (pq g1)), (5, (pq g3)), (8, v8), (10, (pq g13)), (11, (iq r10.2)), (82, (bool true)), (85, v42)]) 83 v8) F_) ?_
      obtain ⟨r44, hc43, h⟩ := opt_some h
      refine al_callX (vs := [v8, v42]) (f_slices_Equal___api_Packet_api_Packet__ok fu v8 r7.1 v42 r41 hc43) [0, 3] [] [0, 1, 2, 3, 4] (pre_own 3 rfl rfl (pre_own 0 rfl rfl pre_nil)) rfl (by simp) (by decide) rfl (.inr flat_res0) rfl Try.func27 rfl rfl rfl (fun _ => ?_)
      refine al_nil ?_
      rcases Bool.eq_false_or_eq_true r44 with hb45 | hb45
      ·replace h := bif_t hb45 h
       rcases Bool.eq_false_or_eq_true (r10.2 == (0 : Int)) with hb46 | hb46
       ·replace h := bif_t hb46 h
        refine aq_show (m := Mem.plus (memOf w0 Z0 [] [(oRow v42 63 tyS_api_Packet r41), (oBox g1 58 [v0_0, v0_1, (iq a0.Base)]), (oBox g3 63 [(iq a2.Kind), (iq a2.Seq), (str a2.Text)]), (oRow v8 63 tyS_api_Packet r7.1), (oBox g13 58 [v11, v12, (iq r10.1.Base)])] [(fDat (tyList tyStr) [v0_0] a0.Texts), (fDat (tyList tyBool) [v0_1] a0.Had), (fDat (tyList tyStr) [v11] r10.1.Texts), (fDat (tyList tyBool) [v12] r10.1.Had), (fDat (tyList tyStr) [v22] r21.1.Got), (fDat (tyList tyS_api_Packet) [v23] r21.1.Held), (fDat (tyList tyS_api_Packet) [v24] r21.2.1), (fDat (tyList tyStr) [v16] r15.1.Got), (fDat (tyList tyS_api_Packet) [v17] r15.1.Held), (fDat (tyList tyStr) [v1_0] a1.Got), (fDat (tyList tyS_api_Packet) [v1_1] a1.Held)]) X_ Y_) ?_
        refine aq_next hK_ [0, 1, 2, 3, 4] [0, 1, 2, 3, 4, 5, 6, 7, 8, 9, 10] [(3, (pq g1)), (5, (pq g3)), (10, (pq g13)), (11, (iq r10.2)), (82, (bool true)), (86, (bool r44))] [] [⟨7, 87, Unit, fun _ => { val := (bool r44) }⟩, ⟨8, 88, Unit, fun _ => { val := (bool true) }⟩, ⟨9, 89, Unit, fun _ => { val := (iq r10.2) }⟩, ⟨10, 90, Unit, fun _ => { val := (bool (r10.2 == (0 : Int))) }⟩, ⟨11, 91, Unit, fun _ => { val := (bool (r10.2 == (0 : Int))) }⟩, ⟨12, 92, Unit, fun _ => { val := (bool true) }⟩, ⟨13, 93, Unit, fun _ => { val := (ag [v11, v12, (iq r10.1.Base)]) }⟩, ⟨14, 94, Unit, fun _ => { val := (ag [v0_0, v0_1, (iq a0.Base)]) }⟩, ⟨15, 95, Unit, fun _ => { val := (ag [(iq a2.Kind), (iq a2.Seq), (str a2.Text)]) }⟩] rfl rfl (by decide) rfl ⟨rfl, rfl, rfl, rfl, rfl, rfl, trivial⟩ trivial ?_
        clear hK_ K_ F_ X_ Y_
        refine ta_show (m := (memOf w0 Z0 [] [(oRow v42 63 tyS_api_Packet r41), (oBox g1 58 [v0_0, v0_1, (iq a0.Base)]), (oBox g3 63 [(iq a2.Kind), (iq a2.Seq), (str a2.Text)]), (oRow v8 63 tyS_api_Packet r7.1), (oBox g13 58 [v11, v12, (iq r10.1.Base)])] [(fDat (tyList tyStr) [v0_0] a0.Texts), (fDat (tyList tyBool) [v0_1] a0.Had), (fDat (tyList tyStr) [v11] r10.1.Texts), (fDat (tyList tyBool) [v12] r10.1.Had), (fDat (tyList tyStr) [v22] r21.1.Got), (fDat (tyList tyS_api_Packet) [v23] r21.1.Held), (fDat (tyList tyS_api_Packet) [v24] r21.2.1), (fDat (tyList tyStr) [v16] r15.1.Got), (fDat (tyList tyS_api_Packet) [v17] r15.1.Held), (fDat (tyList tyStr) [v1_0] a1.Got), (fDat (tyList tyS_api_Packet) [v1_1] a1.Held)])) (S := (tab [(3, (pq g1)), (5, (pq g3)), (10, (pq g13)), (11, (iq r10.2)), (82, (bool true)), (86, (bool r44))])) ?_
        refine ta_step 16 _ [7, 8, 9, 10, 11, 12, 13, 14, 15] [87, 88, 89, 90, 91, 92, 93, 94, 95] [7, 8, 9, 10, 11, 12, 14, 15] [] [⟨7, 87, Unit, fun _ => { val := (bool r44) }⟩, ⟨8, 88, Unit, fun _ => { val := (bool true) }⟩, ⟨9, 89, Unit, fun _ => { val := (iq r10.2) }⟩, ⟨10, 90, Unit, fun _ => { val := (bool (r10.2 == (0 : Int))) }⟩, ⟨11, 91, Unit, fun _ => { val := (bool (r10.2 == (0 : Int))) }⟩, ⟨12, 92, Unit, fun _ => { val := (bool true) }⟩, ⟨14, 94, Unit, fun _ => { val := (ag [v0_0, v0_1, (iq a0.Base)]) }⟩, ⟨15, 95, Unit, fun _ => { val := (ag [(iq a2.Kind), (iq a2.Seq), (str a2.Text)]) }⟩] [⟨13, 93, Unit, fun _ => { val := (ag [v11, v12, (iq r10.1.Base)]) }⟩] rfl rfl rfl (by kernel_rfl) rfl rfl rfl ⟨⟨_, rfl, [], rfl, by
 intro X_ Y_ F_ K_ hK_
 refine al_show (m := Mem.plus (memOf w0 Z0 [] [(oRow v42 63 tyS_api_Packet r41), (oBox g1 58 [v0_0, v0_1, (iq a0.Base)]), (oBox g3 63 [(iq a2.Kind), (iq a2.Seq), (str a2.Text)]), (oRow v8 63 tyS_api_Packet r7.1), (oBox g13 58 [v11, v12, (iq r10.1.Base)])] [(fDat (tyList tyStr) [v0_0] a0.Texts), (fDat (tyList tyBool) [v0_1] a0.Had), (fDat (tyList tyStr) [v11] r10.1.Texts), (fDat (tyList tyBool) [v12] r10.1.Had), (fDat (tyList tyStr) [v22] r21.1.Got), (fDat (tyList tyS_api_Packet) [v23] r21.1.Held), (fDat (tyList tyS_api_Packet) [v24] r21.2.1), (fDat (tyList tyStr) [v16] r15.1.Got), (fDat (tyList tyS_api_Packet) [v17] r15.1.Held), (fDat (tyList tyStr) [v1_0] a1.Got), (fDat (tyList tyS_api_Packet) [v1_1] a1.Held)]) X_ Y_) (S := over (tab [(3, (pq g1)), (5, (pq g3)), (10, (pq g13)), (11, (iq r10.2)), (82, (bool true)), (86, (bool r44))]) F_) ?_
 refine al_val (ov_pick_t rfl rfl rfl) ?_
 refine al_nil ?_
 exact fr_fin hK_ ()⟩, ⟨_, rfl, [0], rfl, by
 intro _
 intro X_ Y_ F_ K_ hK_
 refine al_show (m := Mem.plus (memOf w0 Z0 [] [(oRow v42 63 tyS_api_Packet r41), (oBox g1 58 [v0_0, v0_1, (iq a0.Base)]), (oBox g3 63 [(iq a2.Kind), (iq a2.Seq), (str a2.Text)]), (oRow v8 63 tyS_api_Packet r7.1), (oBox g13 58 [v11, v12, (iq r10.1.Base)])] [(fDat (tyList tyStr) [v0_0] a0.Texts), (fDat (tyList tyBool) [v0_1] a0.Had), (fDat (tyList tyStr) [v11] r10.1.Texts), (fDat (tyList tyBool) [v12] r10.1.Had), (fDat (tyList tyStr) [v22] r21.1.Got), (fDat (tyList tyS_api_Packet) [v23] r21.1.Held), (fDat (tyList tyS_api_Packet) [v24] r21.2.1), (fDat (tyList tyStr) [v16] r15.1.Got), (fDat (tyList tyS_api_Packet) [v17] r15.1.Held), (fDat (tyList tyStr) [v1_0] a1.Got), (fDat (tyList tyS_api_Packet) [v1_1] a1.Held)]) X_ Y_) (S := over (put (tab [(3, (pq g1)), (5, (pq g3)), (10, (pq g13)), (11, (iq r10.2)), (82, (bool true)), (86, (bool r44))]) 87 (bool r44)) F_) ?_
 refine al_val (ov_cast (by first | rw [hb45] | rfl) (ov_move rfl rfl)) ?_
 refine al_nil ?_
 exact fr_fin hK_ ()⟩, ⟨_, rfl, [1], rfl, by
 intro _
 intro X_ Y_ F_ K_ hK_
 refine al_show (m := Mem.plus (memOf w0 Z0 [] [(oRow v42 63 tyS_api_Packet r41), (oBox g1 58 [v0_0, v0_1, (iq a0.Base)]), (oBox g3 63 [(iq a2.Kind), (iq a2.Seq), (str a2.Text)]), (oRow v8 63 tyS_api_Packet r7.1), (oBox g13 58 [v11, v12, (iq r10.1.Base)])] [(fDat (tyList tyStr) [v0_0] a0.Texts), (fDat (tyList tyBool) [v0_1] a0.Had), (fDat (tyList tyStr) [v11] r10.1.Texts), (fDat (tyList tyBool) [v12] r10.1.Had), (fDat (tyList tyStr) [v22] r21.1.Got), (fDat (tyList tyS_api_Packet) [v23] r21.1.Held), (fDat (tyList tyS_api_Packet) [v24] r21.2.1), (fDat (tyList tyStr) [v16] r15.1.Got), (fDat (tyList tyS_api_Packet) [v17] r15.1.Held), (fDat (tyList tyStr) [v1_0] a1.Got), (fDat (tyList tyS_api_Packet) [v1_1] a1.Held)]) X_ Y_) (S := over (put (tab [(3, (pq g1)), (5, (pq g3)), (10, (pq g13)), (11, (iq r10.2)), (82, (bool true)), (86, (bool r44))]) 88 (bool true)) F_) ?_
 refine al_mv rfl rfl ?_
 refine al_nil ?_
 exact fr_fin hK_ ()⟩, ⟨_, rfl, [1, 2], rfl, by
 intro _
 intro _
 intro X_ Y_ F_ K_ hK_
 refine al_show (m := Mem.plus (memOf w0 Z0 [] [(oRow v42 63 tyS_api_Packet r41), (oBox g1 58 [v0_0, v0_1, (iq a0.Base)]), (oBox g3 63 [(iq a2.Kind), (iq a2.Seq), (str a2.Text)]), (oRow v8 63 tyS_api_Packet r7.1), (oBox g13 58 [v11, v12, (iq r10.1.Base)])] [(fDat (tyList tyStr) [v0_0] a0.Texts), (fDat (tyList tyBool) [v0_1] a0.Had), (fDat (tyList tyStr) [v11] r10.1.Texts), (fDat (tyList tyBool) [v12] r10.1.Had), (fDat (tyList tyStr) [v22] r21.1.Got), (fDat (tyList tyS_api_Packet) [v23] r21.1.Held), (fDat (tyList tyS_api_Packet) [v24] r21.2.1), (fDat (tyList tyStr) [v16] r15.1.Got), (fDat (tyList tyS_api_Packet) [v17] r15.1.Held), (fDat (tyList tyStr) [v1_0] a1.Got), (fDat (tyList tyS_api_Packet) [v1_1] a1.Held)]) X_ Y_) (S := over (put (put (tab [(3, (pq g1)), (5, (pq g3)), (10, (pq g13)), (11, (iq r10.2)), (82, (bool true)), (86, (bool r44))]) 88 (bool true)) 89 (iq r10.2)) F_) ?_
 refine al_in rfl rfl rfl rfl ?_
 refine al_nil ?_
 exact fr_fin hK_ ()⟩, ⟨_, rfl, [1, 3], rfl, by
 intro _
 intro _
 intro X_ Y_ F_ K_ hK_
 refine al_show (m := Mem.plus (memOf w0 Z0 [] [(oRow v42 63 tyS_api_Packet r41), (oBox g1 58 [v0_0, v0_1, (iq a0.Base)]), (oBox g3 63 [(iq a2.Kind), (iq a2.Seq), (str a2.Text)]), (oRow v8 63 tyS_api_Packet r7.1), (oBox g13 58 [v11, v12, (iq r10.1.Base)])] [(fDat (tyList tyStr) [v0_0] a0.Texts), (fDat (tyList tyBool) [v0_1] a0.Had), (fDat (tyList tyStr) [v11] r10.1.Texts), (fDat (tyList tyBool) [v12] r10.1.Had), (fDat (tyList tyStr) [v22] r21.1.Got), (fDat (tyList tyS_api_Packet) [v23] r21.1.Held), (fDat (tyList tyS_api_Packet) [v24] r21.2.1), (fDat (tyList tyStr) [v16] r15.1.Got), (fDat (tyList tyS_api_Packet) [v17] r15.1.Held), (fDat (tyList tyStr) [v1_0] a1.Got), (fDat (tyList tyS_api_Packet) [v1_1] a1.Held)]) X_ Y_) (S := over (put (put (tab [(3, (pq g1)), (5, (pq g3)), (10, (pq g13)), (11, (iq r10.2)), (82, (bool true)), (86, (bool r44))]) 88 (bool true)) 90 (bool (r10.2 == (0 : Int)))) F_) ?_
 refine al_val (ov_pick_t rfl rfl rfl) ?_
 refine al_nil ?_
 exact fr_fin hK_ ()⟩, ⟨_, rfl, [1, 4], rfl, by
 intro _
 intro _
 intro X_ Y_ F_ K_ hK_
 refine al_show (m := Mem.plus (memOf w0 Z0 [] [(oRow v42 63 tyS_api_Packet r41), (oBox g1 58 [v0_0, v0_1, (iq a0.Base)]), (oBox g3 63 [(iq a2.Kind), (iq a2.Seq), (str a2.Text)]), (oRow v8 63 tyS_api_Packet r7.1), (oBox g13 58 [v11, v12, (iq r10.1.Base)])] [(fDat (tyList tyStr) [v0_0] a0.Texts), (fDat (tyList tyBool) [v0_1] a0.Had), (fDat (tyList tyStr) [v11] r10.1.Texts), (fDat (tyList tyBool) [v12] r10.1.Had), (fDat (tyList tyStr) [v22] r21.1.Got), (fDat (tyList tyS_api_Packet) [v23] r21.1.Held), (fDat (tyList tyS_api_Packet) [v24] r21.2.1), (fDat (tyList tyStr) [v16] r15.1.Got), (fDat (tyList tyS_api_Packet) [v17] r15.1.Held), (fDat (tyList tyStr) [v1_0] a1.Got), (fDat (tyList tyS_api_Packet) [v1_1] a1.Held)]) X_ Y_) (S := over (put (put (tab [(3, (pq g1)), (5, (pq g3)), (10, (pq g13)), (11, (iq r10.2)), (82, (bool true)), (86, (bool r44))]) 88 (bool true)) 91 (bool (r10.2 == (0 : Int)))) F_) ?_
 refine al_val (ov_cast (by first | rw [hb46] | rfl) (ov_move rfl rfl)) ?_
 refine al_nil ?_
 exact fr_fin hK_ ()⟩, ⟨_, rfl, [5], rfl, by
 intro _
 intro X_ Y_ F_ K_ hK_
 refine al_show (m := Mem.plus (memOf w0 Z0 [] [(oRow v42 63 tyS_api_Packet r41), (oBox g1 58 [v0_0, v0_1, (iq a0.Base)]), (oBox g3 63 [(iq a2.Kind), (iq a2.Seq), (str a2.Text)]), (oRow v8 63 tyS_api_Packet r7.1), (oBox g13 58 [v11, v12, (iq r10.1.Base)])] [(fDat (tyList tyStr) [v0_0] a0.Texts), (fDat (tyList tyBool) [v0_1] a0.Had), (fDat (tyList tyStr) [v11] r10.1.Texts), (fDat (tyList tyBool) [v12] r10.1.Had), (fDat (tyList tyStr) [v22] r21.1.Got), (fDat (tyList tyS_api_Packet) [v23] r21.1.Held), (fDat (tyList tyS_api_Packet) [v24] r21.2.1), (fDat (tyList tyStr) [v16] r15.1.Got), (fDat (tyList tyS_api_Packet) [v17] r15.1.Held), (fDat (tyList tyStr) [v1_0] a1.Got), (fDat (tyList tyS_api_Packet) [v1_1] a1.Held)]) X_ Y_) (S := over (put (tab [(3, (pq g1)), (5, (pq g3)), (10, (pq g13)), (11, (iq r10.2)), (82, (bool true)), (86, (bool r44))]) 92 (bool true)) F_) ?_
 refine al_val (ov_load (i := 4) (v := (ag [v11, v12, (iq r10.1.Base)])) rfl rfl Try.underlying58 sz58 rfl rfl rfl rfl) ?_
 refine al_nil ?_
 exact fr_fin hK_ ()⟩, ⟨_, rfl, [5], rfl, by
 intro _
 intro X_ Y_ F_ K_ hK_
 refine al_show (m := Mem.plus (memOf w0 Z0 [] [(oRow v42 63 tyS_api_Packet r41), (oBox g1 58 [v0_0, v0_1, (iq a0.Base)]), (oBox g3 63 [(iq a2.Kind), (iq a2.Seq), (str a2.Text)]), (oRow v8 63 tyS_api_Packet r7.1), (oBox g13 58 [v11, v12, (iq r10.1.Base)])] [(fDat (tyList tyStr) [v0_0] a0.Texts), (fDat (tyList tyBool) [v0_1] a0.Had), (fDat (tyList tyStr) [v11] r10.1.Texts), (fDat (tyList tyBool) [v12] r10.1.Had), (fDat (tyList tyStr) [v22] r21.1.Got), (fDat (tyList tyS_api_Packet) [v23] r21.1.Held), (fDat (tyList tyS_api_Packet) [v24] r21.2.1), (fDat (tyList tyStr) [v16] r15.1.Got), (fDat (tyList tyS_api_Packet) [v17] r15.1.Held), (fDat (tyList tyStr) [v1_0] a1.Got), (fDat (tyList tyS_api_Packet) [v1_1] a1.Held)]) X_ Y_) (S := over (put (tab [(3, (pq g1)), (5, (pq g3)), (10, (pq g13)), (11, (iq r10.2)), (82, (bool true)), (86, (bool r44))]) 92 (bool true)) F_) ?_
 refine al_val (ov_load (i := 1) (v := (ag [v0_0, v0_1, (iq a0.Base)])) rfl rfl Try.underlying58 sz58 rfl rfl rfl rfl) ?_
 refine al_nil ?_
 exact fr_fin hK_ ()⟩, ⟨_, rfl, [5], rfl, by
 intro _
 intro X_ Y_ F_ K_ hK_
 refine al_show (m := Mem.plus (memOf w0 Z0 [] [(oRow v42 63 tyS_api_Packet r41), (oBox g1 58 [v0_0, v0_1, (iq a0.Base)]), (oBox g3 63 [(iq a2.Kind), (iq a2.Seq), (str a2.Text)]), (oRow v8 63 tyS_api_Packet r7.1), (oBox g13 58 [v11, v12, (iq r10.1.Base)])] [(fDat (tyList tyStr) [v0_0] a0.Texts), (fDat (tyList tyBool) [v0_1] a0.Had), (fDat (tyList tyStr) [v11] r10.1.Texts), (fDat (tyList tyBool) [v12] r10.1.Had), (fDat (tyList tyStr) [v22] r21.1.Got), (fDat (tyList tyS_api_Packet) [v23] r21.1.Held), (fDat (tyList tyS_api_Packet) [v24] r21.2.1), (fDat (tyList tyStr) [v16] r15.1.Got), (fDat (tyList tyS_api_Packet) [v17] r15.1.Held), (fDat (tyList tyStr) [v1_0] a1.Got), (fDat (tyList tyS_api_Packet) [v1_1] a1.Held)]) X_ Y_) (S := over (put (tab [(3, (pq g1)), (5, (pq g3)), (10, (pq g13)), (11, (iq r10.2)), (82, (bool true)), (86, (bool r44))]) 92 (bool true)) F_) ?_
 refine al_val (ov_load (i := 2) (v := (ag [(iq a2.Kind), (iq a2.Seq), (str a2.Text)])) rfl rfl Try.underlying63 sz63 rfl rfl rfl rfl) ?_
 refine al_nil ?_
 exact fr_fin hK_ ()⟩, trivial⟩ ?_
        intro _
        intro _
        intro _
        intro _
        intro _
        intro _
        intro _
        intro _
        intro X_ Y_ F_ K_ hK_
        refine al_show (m := Mem.plus (memOf w0 Z0 [] [(oRow v42 63 tyS_api_Packet r41), (oBox g1 58 [v0_0, v0_1, (iq a0.Base)]), (oBox g3 63 [(iq a2.Kind), (iq a2.Seq), (str a2.Text)]), (oRow v8 63 tyS_api_Packet r7.1), (oBox g13 58 [v11, v12, (iq r10.1.Base)])] [(fDat (tyList tyStr) [v0_0] a0.Texts), (fDat (tyList tyBool) [v0_1] a0.Had), (fDat (tyList tyStr) [v11] r10.1.Texts), (fDat (tyList tyBool) [v12] r10.1.Had), (fDat (tyList tyStr) [v22] r21.1.Got), (fDat (tyList tyS_api_Packet) [v23] r21.1.Held), (fDat (tyList tyS_api_Packet) [v24] r21.2.1), (fDat (tyList tyStr) [v16] r15.1.Got), (fDat (tyList tyS_api_Packet) [v17] r15.1.Held), (fDat (tyList tyStr) [v1_0] a1.Got), (fDat (tyList tyS_api_Packet) [v1_1] a1.Held)]) X_ Y_) (S := over (put (put (put (put (put (put (put (put (tab [(3, (pq g1)), (5, (pq g3)), (10, (pq g13)), (11, (iq r10.2)), (82, (bool true)), (86, (bool r44))]) 87 (bool r44)) 88 (bool true)) 89 (iq r10.2)) 90 (bool (r10.2 == (0 : Int)))) 91 (bool (r10.2 == (0 : Int)))) 92 (bool true)) 94 (ag [v0_0, v0_1, (iq a0.Base)])) 95 (ag [(iq a2.Kind), (iq a2.Seq), (str a2.Text)])) F_) ?_
        obtain ⟨r48, hc47, h⟩ := opt_some h
        refine al_callX (vs := [(ag [v0_0, v0_1, (iq a0.Base)]), (ag [(iq a2.Kind), (iq a2.Seq), (str a2.Text)])]) (f_lumref_Hears_ok fu v0_0 v0_1 a0 a2 hc47) [] [] [0, 1, 2, 3, 4] (pre_fz 0 rfl (pre_fz 1 rfl pre_nil)) rfl (by simp) (by decide) rfl (.inl rfl) rfl Try.func30 rfl rfl rfl (fun ⟨v49, v50⟩ => ?_)
        refine al_nil ?_
        refine aq_show (m := Mem.plus (memOf w0 Z0 [] [(oRow v42 63 tyS_api_Packet r41), (oBox g1 58 [v0_0, v0_1, (iq a0.Base)]), (oBox g3 63 [(iq a2.Kind), (iq a2.Seq), (str a2.Text)]), (oRow v8 63 tyS_api_Packet r7.1), (oBox g13 58 [v11, v12, (iq r10.1.Base)])] [(fDat (tyList tyStr) [v49] r48.Texts), (fDat (tyList tyBool) [v50] r48.Had), (fDat (tyList tyStr) [v0_0] a0.Texts), (fDat (tyList tyBool) [v0_1] a0.Had), (fDat (tyList tyStr) [v11] r10.1.Texts), (fDat (tyList tyBool) [v12] r10.1.Had), (fDat (tyList tyStr) [v22] r21.1.Got), (fDat (tyList tyS_api_Packet) [v23] r21.1.Held), (fDat (tyList tyS_api_Packet) [v24] r21.2.1), (fDat (tyList tyStr) [v16] r15.1.Got), (fDat (tyList tyS_api_Packet) [v17] r15.1.Held), (fDat (tyList tyStr) [v1_0] a1.Got), (fDat (tyList tyS_api_Packet) [v1_1] a1.Held)]) X_ Y_) ?_
        refine aq_next hK_ [0, 1, 2, 3, 4] [0, 1, 2, 3, 4, 5, 6, 7, 8, 9, 10, 11, 12] [(10, (pq g13)), (92, (bool true)), (96, (ag [v49, v50, (iq r48.Base)]))] [93] [] rfl rfl (by decide) rfl ⟨rfl, rfl, rfl, trivial⟩ ⟨rfl, trivial⟩ ?_
        clear hK_ K_ F_ X_ Y_
        refine ta_show (m := (memOf w0 Z0 [] [(oRow v42 63 tyS_api_Packet r41), (oBox g1 58 [v0_0, v0_1, (iq a0.Base)]), (oBox g3 63 [(iq a2.Kind), (iq a2.Seq), (str a2.Text)]), (oRow v8 63 tyS_api_Packet r7.1), (oBox g13 58 [v11, v12, (iq r10.1.Base)])] [(fDat (tyList tyStr) [v49] r48.Texts), (fDat (tyList tyBool) [v50] r48.Had), (fDat (tyList tyStr) [v0_0] a0.Texts), (fDat (tyList tyBool) [v0_1] a0.Had), (fDat (tyList tyStr) [v11] r10.1.Texts), (fDat (tyList tyBool) [v12] r10.1.Had), (fDat (tyList tyStr) [v22] r21.1.Got), (fDat (tyList tyS_api_Packet) [v23] r21.1.Held), (fDat (tyList tyS_api_Packet) [v24] r21.2.1), (fDat (tyList tyStr) [v16] r15.1.Got), (fDat (tyList tyS_api_Packet) [v17] r15.1.Held), (fDat (tyList tyStr) [v1_0] a1.Got), (fDat (tyList tyS_api_Packet) [v1_1] a1.Held)])) (S := (tab [(10, (pq g13)), (92, (bool true)), (96, (ag [v49, v50, (iq r48.Base)]))])) ?_
        refine ta_step 17 _ [13] [93] [13] [18] [⟨13, 93, Unit, fun _ => { val := (ag [v11, v12, (iq r10.1.Base)]) }⟩] [] rfl rfl rfl (by kernel_rfl) rfl rfl rfl ⟨⟨_, rfl, [], rfl, by
 intro X_ Y_ F_ K_ hK_
 refine al_show (m := Mem.plus (memOf w0 Z0 [] [(oRow v42 63 tyS_api_Packet r41), (oBox g1 58 [v0_0, v0_1, (iq a0.Base)]), (oBox g3 63 [(iq a2.Kind), (iq a2.Seq), (str a2.Text)]), (oRow v8 63 tyS_api_Packet r7.1), (oBox g13 58 [v11, v12, (iq r10.1.Base)])] [(fDat (tyList tyStr) [v49] r48.Texts), (fDat (tyList tyBool) [v50] r48.Had), (fDat (tyList tyStr) [v0_0] a0.Texts), (fDat (tyList tyBool) [v0_1] a0.Had), (fDat (tyList tyStr) [v11] r10.1.Texts), (fDat (tyList tyBool) [v12] r10.1.Had), (fDat (tyList tyStr) [v22] r21.1.Got), (fDat (tyList tyS_api_Packet) [v23] r21.1.Held), (fDat (tyList tyS_api_Packet) [v24] r21.2.1), (fDat (tyList tyStr) [v16] r15.1.Got), (fDat (tyList tyS_api_Packet) [v17] r15.1.Held), (fDat (tyList tyStr) [v1_0] a1.Got), (fDat (tyList tyS_api_Packet) [v1_1] a1.Held)]) X_ Y_) (S := over (tab [(10, (pq g13)), (92, (bool true)), (96, (ag [v49, v50, (iq r48.Base)]))]) F_) ?_
 refine al_val (ov_load (i := 4) (v := (ag [v11, v12, (iq r10.1.Base)])) rfl rfl Try.underlying58 sz58 rfl rfl rfl rfl) ?_
 refine al_nil ?_
 exact fr_fin hK_ ()⟩, trivial⟩ ?_
        intro _
        intro X_ Y_ F_ K_ hK_
        refine al_show (m := Mem.plus (memOf w0 Z0 [] [(oRow v42 63 tyS_api_Packet r41), (oBox g1 58 [v0_0, v0_1, (iq a0.Base)]), (oBox g3 63 [(iq a2.Kind), (iq a2.Seq), (str a2.Text)]), (oRow v8 63 tyS_api_Packet r7.1), (oBox g13 58 [v11, v12, (iq r10.1.Base)])] [(fDat (tyList tyStr) [v49] r48.Texts), (fDat (tyList tyBool) [v50] r48.Had), (fDat (tyList tyStr) [v0_0] a0.Texts), (fDat (tyList tyBool) [v0_1] a0.Had), (fDat (tyList tyStr) [v11] r10.1.Texts), (fDat (tyList tyBool) [v12] r10.1.Had), (fDat (tyList tyStr) [v22] r21.1.Got), (fDat (tyList tyS_api_Packet) [v23] r21.1.Held), (fDat (tyList tyS_api_Packet) [v24] r21.2.1), (fDat (tyList tyStr) [v16] r15.1.Got), (fDat (tyList tyS_api_Packet) [v17] r15.1.Held), (fDat (tyList tyStr) [v1_0] a1.Got), (fDat (tyList tyS_api_Packet) [v1_1] a1.Held)]) X_ Y_) (S := over (put (tab [(10, (pq g13)), (92, (bool true)), (96, (ag [v49, v50, (iq r48.Base)]))]) 93 (ag [v11, v12, (iq r10.1.Base)])) F_) ?_
        obtain ⟨r52, hc51, h⟩ := opt_some h
        refine al_callX (vs := [(ag [v11, v12, (iq r10.1.Base)]), (ag [v49, v50, (iq r48.Base)])]) (f_lumref_SameSender_ok fu v11 v12 (S_api_Sender.mk r10.1.Texts r10.1.Had r10.1.Base) v49 v50 r48 hc51) [] [] [0, 1, 2, 3, 4] (pre_fz 4 rfl (pre_fz 5 rfl (pre_fz 0 rfl (pre_fz 1 rfl pre_nil)))) rfl (by simp) (by decide) rfl (.inl rfl) rfl Try.func28 rfl rfl rfl (fun _ => ?_)
        refine al_nil ?_
        refine aq_show (m := Mem.plus (memOf w0 Z0 [] [(oRow v42 63 tyS_api_Packet r41), (oBox g1 58 [v0_0, v0_1, (iq a0.Base)]), (oBox g3 63 [(iq a2.Kind), (iq a2.Seq), (str a2.Text)]), (oRow v8 63 tyS_api_Packet r7.1), (oBox g13 58 [v11, v12, (iq r10.1.Base)])] [(fDat (tyList tyStr) [v49] r48.Texts), (fDat (tyList tyBool) [v50] r48.Had), (fDat (tyList tyStr) [v0_0] a0.Texts), (fDat (tyList tyBool) [v0_1] a0.Had), (fDat (tyList tyStr) [v11] r10.1.Texts), (fDat (tyList tyBool) [v12] r10.1.Had), (fDat (tyList tyStr) [v22] r21.1.Got), (fDat (tyList tyS_api_Packet) [v23] r21.1.Held), (fDat (tyList tyS_api_Packet) [v24] r21.2.1), (fDat (tyList tyStr) [v16] r15.1.Got), (fDat (tyList tyS_api_Packet) [v17] r15.1.Held), (fDat (tyList tyStr) [v1_0] a1.Got), (fDat (tyList tyS_api_Packet) [v1_1] a1.Held)]) X_ Y_) ?_
        refine aq_next hK_ [0, 1, 2, 3, 4] [0, 1, 2, 3, 4, 5, 6, 7, 8, 9, 10, 11, 12] [(92, (bool true)), (97, (bool r52))] [] [⟨18, 98, Unit, fun _ => { val := (bool r52) }⟩] rfl rfl (by decide) rfl ⟨rfl, rfl, trivial⟩ trivial ?_
        clear hK_ K_ F_ X_ Y_
        refine ta_show (m := (memOf w0 Z0 [] [(oRow v42 63 tyS_api_Packet r41), (oBox g1 58 [v0_0, v0_1, (iq a0.Base)]), (oBox g3 63 [(iq a2.Kind), (iq a2.Seq), (str a2.Text)]), (oRow v8 63 tyS_api_Packet r7.1), (oBox g13 58 [v11, v12, (iq r10.1.Base)])] [(fDat (tyList tyStr) [v49] r48.Texts), (fDat (tyList tyBool) [v50] r48.Had), (fDat (tyList tyStr) [v0_0] a0.Texts), (fDat (tyList tyBool) [v0_1] a0.Had), (fDat (tyList tyStr) [v11] r10.1.Texts), (fDat (tyList tyBool) [v12] r10.1.Had), (fDat (tyList tyStr) [v22] r21.1.Got), (fDat (tyList tyS_api_Packet) [v23] r21.1.Held), (fDat (tyList tyS_api_Packet) [v24] r21.2.1), (fDat (tyList tyStr) [v16] r15.1.Got), (fDat (tyList tyS_api_Packet) [v17] r15.1.Held), (fDat (tyList tyStr) [v1_0] a1.Got), (fDat (tyList tyS_api_Packet) [v1_1] a1.Held)])) (S := (tab [(92, (bool true)), (97, (bool r52))])) ?_
        refine ta_step 19 _ [18] [98] [18] [] [⟨18, 98, Unit, fun _ => { val := (bool r52) }⟩] [] rfl rfl rfl (by kernel_rfl) rfl rfl rfl ⟨⟨_, rfl, [], rfl, by
 intro X_ Y_ F_ K_ hK_
 refine al_show (m := Mem.plus (memOf w0 Z0 [] [(oRow v42 63 tyS_api_Packet r41), (oBox g1 58 [v0_0, v0_1, (iq a0.Base)]), (oBox g3 63 [(iq a2.Kind), (iq a2.Seq), (str a2.Text)]), (oRow v8 63 tyS_api_Packet r7.1), (oBox g13 58 [v11, v12, (iq r10.1.Base)])] [(fDat (tyList tyStr) [v49] r48.Texts), (fDat (tyList tyBool) [v50] r48.Had), (fDat (tyList tyStr) [v0_0] a0.Texts), (fDat (tyList tyBool) [v0_1] a0.Had), (fDat (tyList tyStr) [v11] r10.1.Texts), (fDat (tyList tyBool) [v12] r10.1.Had), (fDat (tyList tyStr) [v22] r21.1.Got), (fDat (tyList tyS_api_Packet) [v23] r21.1.Held), (fDat (tyList tyS_api_Packet) [v24] r21.2.1), (fDat (tyList tyStr) [v16] r15.1.Got), (fDat (tyList tyS_api_Packet) [v17] r15.1.Held), (fDat (tyList tyStr) [v1_0] a1.Got), (fDat (tyList tyS_api_Packet) [v1_1] a1.Held)]) X_ Y_) (S := over (tab [(92, (bool true)), (97, (bool r52))]) F_) ?_
 refine al_val (ov_pick_t rfl rfl rfl) ?_
 refine al_nil ?_
 exact fr_fin hK_ ()⟩, trivial⟩ ?_
        intro _
        intro X_ Y_ F_ K_ hK_
        refine al_show (m := Mem.plus (memOf w0 Z0 [] [(oRow v42 63 tyS_api_Packet r41), (oBox g1 58 [v0_0, v0_1, (iq a0.Base)]), (oBox g3 63 [(iq a2.Kind), (iq a2.Seq), (str a2.Text)]), (oRow v8 63 tyS_api_Packet r7.1), (oBox g13 58 [v11, v12, (iq r10.1.Base)])] [(fDat (tyList tyStr) [v49] r48.Texts), (fDat (tyList tyBool) [v50] r48.Had), (fDat (tyList tyStr) [v0_0] a0.Texts), (fDat (tyList tyBool) [v0_1] a0.Had), (fDat (tyList tyStr) [v11] r10.1.Texts), (fDat (tyList tyBool) [v12] r10.1.Had), (fDat (tyList tyStr) [v22] r21.1.Got), (fDat (tyList tyS_api_Packet) [v23] r21.1.Held), (fDat (tyList tyS_api_Packet) [v24] r21.2.1), (fDat (tyList tyStr) [v16] r15.1.Got), (fDat (tyList tyS_api_Packet) [v17] r15.1.Held), (fDat (tyList tyStr) [v1_0] a1.Got), (fDat (tyList tyS_api_Packet) [v1_1] a1.Held)]) X_ Y_) (S := over (put (tab [(92, (bool true)), (97, (bool r52))]) 98 (bool r52)) F_) ?_
        refine al_as rfl rfl ?_
        refine al_nil ?_
        refine aq_show (m := Mem.plus (memOf w0 Z0 [] [(oRow v42 63 tyS_api_Packet r41), (oBox g1 58 [v0_0, v0_1, (iq a0.Base)]), (oBox g3 63 [(iq a2.Kind), (iq a2.Seq), (str a2.Text)]), (oRow v8 63 tyS_api_Packet r7.1), (oBox g13 58 [v11, v12, (iq r10.1.Base)])] [(fDat (tyList tyStr) [v49] r48.Texts), (fDat (tyList tyBool) [v50] r48.Had), (fDat (tyList tyStr) [v0_0] a0.Texts), (fDat (tyList tyBool) [v0_1] a0.Had), (fDat (tyList tyStr) [v11] r10.1.Texts), (fDat (tyList tyBool) [v12] r10.1.Had), (fDat (tyList tyStr) [v22] r21.1.Got), (fDat (tyList tyS_api_Packet) [v23] r21.1.Held), (fDat (tyList tyS_api_Packet) [v24] r21.2.1), (fDat (tyList tyStr) [v16] r15.1.Got), (fDat (tyList tyS_api_Packet) [v17] r15.1.Held), (fDat (tyList tyStr) [v1_0] a1.Got), (fDat (tyList tyS_api_Packet) [v1_1] a1.Held)]) X_ Y_) ?_
        refine aq_next hK_ [0, 1, 2, 3, 4] [0, 1, 2, 3, 4, 5, 6, 7, 8, 9, 10, 11, 12] [(6, (bool r52))] [] [] rfl rfl (by decide) rfl ⟨rfl, trivial⟩ trivial ?_
        clear hK_ K_ F_ X_ Y_
        refine ta_show (m := (memOf w0 Z0 [] [(oRow v42 63 tyS_api_Packet r41), (oBox g1 58 [v0_0, v0_1, (iq a0.Base)]), (oBox g3 63 [(iq a2.Kind), (iq a2.Seq), (str a2.Text)]), (oRow v8 63 tyS_api_Packet r7.1), (oBox g13 58 [v11, v12, (iq r10.1.Base)])] [(fDat (tyList tyStr) [v49] r48.Texts), (fDat (tyList tyBool) [v50] r48.Had), (fDat (tyList tyStr) [v0_0] a0.Texts), (fDat (tyList tyBool) [v0_1] a0.Had), (fDat (tyList tyStr) [v11] r10.1.Texts), (fDat (tyList tyBool) [v12] r10.1.Had), (fDat (tyList tyStr) [v22] r21.1.Got), (fDat (tyList tyS_api_Packet) [v23] r21.1.Held), (fDat (tyList tyS_api_Packet) [v24] r21.2.1), (fDat (tyList tyStr) [v16] r15.1.Got), (fDat (tyList tyS_api_Packet) [v17] r15.1.Held), (fDat (tyList tyStr) [v1_0] a1.Got), (fDat (tyList tyS_api_Packet) [v1_1] a1.Held)])) (S := (tab [(6, (bool r52))])) ?_
        refine ta_end [] [] rfl rfl (by kernel_rfl) rfl trivial ?_
        refine aq_show (m := (memOf w0 Z0 [] [(oRow v42 63 tyS_api_Packet r41), (oBox g1 58 [v0_0, v0_1, (iq a0.Base)]), (oBox g3 63 [(iq a2.Kind), (iq a2.Seq), (str a2.Text)]), (oRow v8 63 tyS_api_Packet r7.1), (oBox g13 58 [v11, v12, (iq r10.1.Base)])] [(fDat (tyList tyStr) [v49] r48.Texts), (fDat (tyList tyBool) [v50] r48.Had), (fDat (tyList tyStr) [v0_0] a0.Texts), (fDat (tyList tyBool) [v0_1] a0.Had), (fDat (tyList tyStr) [v11] r10.1.Texts), (fDat (tyList tyBool) [v12] r10.1.Had), (fDat (tyList tyStr) [v22] r21.1.Got), (fDat (tyList tyS_api_Packet) [v23] r21.1.Held), (fDat (tyList tyS_api_Packet) [v24] r21.2.1), (fDat (tyList tyStr) [v16] r15.1.Got), (fDat (tyList tyS_api_Packet) [v17] r15.1.Held), (fDat (tyList tyStr) [v1_0] a1.Got), (fDat (tyList tyS_api_Packet) [v1_1] a1.Held)])) (S := (tab [(6, (bool r52))])) ?_
        exact aq_join r52 h (fun w a hm hs => norm hm hs [] [2, 3, 4, 5, 6, 7, 8, 9, 10, 11, 12] [(6, (bool r52))] (by decide) ⟨rfl, trivial⟩)
       ·replace h := bif_f hb46 h
        refine aq_show (m := Mem.plus (memOf w0 Z0 [] [(oRow v42 63 tyS_api_Packet r41), (oBox g1 58 [v0_0, v0_1, (iq a0.Base)]), (oBox g3 63 [(iq a2.Kind), (iq a2.Seq), (str a2.Text)]), (oRow v8 63 tyS_api_Packet r7.1), (oBox g13 58 [v11, v12, (iq r10.1.Base)])] [(fDat (tyList tyStr) [v0_0] a0.Texts), (fDat (tyList tyBool) [v0_1] a0.Had), (fDat (tyList tyStr) [v11] r10.1.Texts), (fDat (tyList tyBool) [v12] r10.1.Had), (fDat (tyList tyStr) [v22] r21.1.Got), (fDat (tyList tyS_api_Packet) [v23] r21.1.Held), (fDat (tyList tyS_api_Packet) [v24] r21.2.1), (fDat (tyList tyStr) [v16] r15.1.Got), (fDat (tyList tyS_api_Packet) [v17] r15.1.Held), (fDat (tyList tyStr) [v1_0] a1.Got), (fDat (tyList tyS_api_Packet) [v1_1] a1.Held)]) X_ Y_) ?_
        refine aq_next hK_ [0, 1, 2, 3, 4] [0, 1, 2, 3, 4, 5, 6, 7, 8, 9, 10] [(3, (pq g1)), (5, (pq g3)), (10, (pq g13)), (11, (iq r10.2)), (82, (bool true)), (86, (bool r44))] [] [⟨7, 87, Unit, fun _ => { val := (bool r44) }⟩, ⟨8, 88, Unit, fun _ => { val := (bool true) }⟩, ⟨9, 89, Unit, fun _ => { val := (iq r10.2) }⟩, ⟨10, 90, Unit, fun _ => { val := (bool (r10.2 == (0 : Int))) }⟩, ⟨11, 91, Unit, fun _ => { val := (bool (r10.2 == (0 : Int))) }⟩, ⟨12, 92, Unit, fun _ => { val := (bool false) }⟩, ⟨13, 93, Unit, fun _ => { val := undef }⟩, ⟨14, 94, Unit, fun _ => { val := undef }⟩, ⟨15, 95, Unit, fun _ => { val := undef }⟩] rfl rfl (by decide) rfl ⟨rfl, rfl, rfl, rfl, rfl, rfl, trivial⟩ trivial ?_
        clear hK_ K_ F_ X_ Y_
        refine ta_show (m := (memOf w0 Z0 [] [(oRow v42 63 tyS_api_Packet r41), (oBox g1 58 [v0_0, v0_1, (iq a0.Base)]), (oBox g3 63 [(iq a2.Kind), (iq a2.Seq), (str a2.Text)]), (oRow v8 63 tyS_api_Packet r7.1), (oBox g13 58 [v11, v12, (iq r10.1.Base)])] [(fDat (tyList tyStr) [v0_0] a0.Texts), (fDat (tyList tyBool) [v0_1] a0.Had), (fDat (tyList tyStr) [v11] r10.1.Texts), (fDat (tyList tyBool) [v12] r10.1.Had), (fDat (tyList tyStr) [v22] r21.1.Got), (fDat (tyList tyS_api_Packet) [v23] r21.1.Held), (fDat (tyList tyS_api_Packet) [v24] r21.2.1), (fDat (tyList tyStr) [v16] r15.1.Got), (fDat (tyList tyS_api_Packet) [v17] r15.1.Held), (fDat (tyList tyStr) [v1_0] a1.Got), (fDat (tyList tyS_api_Packet) [v1_1] a1.Held)])) (S := (tab [(3, (pq g1)), (5, (pq g3)), (10, (pq g13)), (11, (iq r10.2)), (82, (bool true)), (86, (bool r44))])) ?_
        refine ta_step 16 _ [7, 8, 9, 10, 11, 12, 13, 14, 15] [87, 88, 89, 90, 91, 92, 93, 94, 95] [7, 8, 9, 10, 11, 12, 14, 15] [] [⟨7, 87, Unit, fun _ => { val := (bool r44) }⟩, ⟨8, 88, Unit, fun _ => { val := (bool true) }⟩, ⟨9, 89, Unit, fun _ => { val := (iq r10.2) }⟩, ⟨10, 90, Unit, fun _ => { val := (bool (r10.2 == (0 : Int))) }⟩, ⟨11, 91, Unit, fun _ => { val := (bool (r10.2 == (0 : Int))) }⟩, ⟨12, 92, Unit, fun _ => { val := (bool false) }⟩, ⟨14, 94, Unit, fun _ => { val := undef }⟩, ⟨15, 95, Unit, fun _ => { val := undef }⟩] [⟨13, 93, Unit, fun _ => { val := undef }⟩] rfl rfl rfl (by kernel_rfl) rfl rfl rfl ⟨⟨_, rfl, [], rfl, by
 intro X_ Y_ F_ K_ hK_
 refine al_show (m := Mem.plus (memOf w0 Z0 [] [(oRow v42 63 tyS_api_Packet r41), (oBox g1 58 [v0_0, v0_1, (iq a0.Base)]), (oBox g3 63 [(iq a2.Kind), (iq a2.Seq), (str a2.Text)]), (oRow v8 63 tyS_api_Packet r7.1), (oBox g13 58 [v11, v12, (iq r10.1.Base)])] [(fDat (tyList tyStr) [v0_0] a0.Texts), (fDat (tyList tyBool) [v0_1] a0.Had), (fDat (tyList tyStr) [v11] r10.1.Texts), (fDat (tyList tyBool) [v12] r10.1.Had), (fDat (tyList tyStr) [v22] r21.1.Got), (fDat (tyList tyS_api_Packet) [v23] r21.1.Held), (fDat (tyList tyS_api_Packet) [v24] r21.2.1), (fDat (tyList tyStr) [v16] r15.1.Got), (fDat (tyList tyS_api_Packet) [v17] r15.1.Held), (fDat (tyList tyStr) [v1_0] a1.Got), (fDat (tyList tyS_api_Packet) [v1_1] a1.Held)]) X_ Y_) (S := over (tab [(3, (pq g1)), (5, (pq g3)), (10, (pq g13)), (11, (iq r10.2)), (82, (bool true)), (86, (bool r44))]) F_) ?_
 refine al_val (ov_pick_t rfl rfl rfl) ?_
 refine al_nil ?_
 exact fr_fin hK_ ()⟩, ⟨_, rfl, [0], rfl, by
 intro _
 intro X_ Y_ F_ K_ hK_
 refine al_show (m := Mem.plus (memOf w0 Z0 [] [(oRow v42 63 tyS_api_Packet r41), (oBox g1 58 [v0_0, v0_1, (iq a0.Base)]), (oBox g3 63 [(iq a2.Kind), (iq a2.Seq), (str a2.Text)]), (oRow v8 63 tyS_api_Packet r7.1), (oBox g13 58 [v11, v12, (iq r10.1.Base)])] [(fDat (tyList tyStr) [v0_0] a0.Texts), (fDat (tyList tyBool) [v0_1] a0.Had), (fDat (tyList tyStr) [v11] r10.1.Texts), (fDat (tyList tyBool) [v12] r10.1.Had), (fDat (tyList tyStr) [v22] r21.1.Got), (fDat (tyList tyS_api_Packet) [v23] r21.1.Held), (fDat (tyList tyS_api_Packet) [v24] r21.2.1), (fDat (tyList tyStr) [v16] r15.1.Got), (fDat (tyList tyS_api_Packet) [v17] r15.1.Held), (fDat (tyList tyStr) [v1_0] a1.Got), (fDat (tyList tyS_api_Packet) [v1_1] a1.Held)]) X_ Y_) (S := over (put (tab [(3, (pq g1)), (5, (pq g3)), (10, (pq g13)), (11, (iq r10.2)), (82, (bool true)), (86, (bool r44))]) 87 (bool r44)) F_) ?_
 refine al_val (ov_cast (by first | rw [hb45] | rfl) (ov_move rfl rfl)) ?_
 refine al_nil ?_
 exact fr_fin hK_ ()⟩, ⟨_, rfl, [1], rfl, by
 intro _
 intro X_ Y_ F_ K_ hK_
 refine al_show (m := Mem.plus (memOf w0 Z0 [] [(oRow v42 63 tyS_api_Packet r41), (oBox g1 58 [v0_0, v0_1, (iq a0.Base)]), (oBox g3 63 [(iq a2.Kind), (iq a2.Seq), (str a2.Text)]), (oRow v8 63 tyS_api_Packet r7.1), (oBox g13 58 [v11, v12, (iq r10.1.Base)])] [(fDat (tyList tyStr) [v0_0] a0.Texts), (fDat (tyList tyBool) [v0_1] a0.Had), (fDat (tyList tyStr) [v11] r10.1.Texts), (fDat (tyList tyBool) [v12] r10.1.Had), (fDat (tyList tyStr) [v22] r21.1.Got), (fDat (tyList tyS_api_Packet) [v23] r21.1.Held), (fDat (tyList tyS_api_Packet) [v24] r21.2.1), (fDat (tyList tyStr) [v16] r15.1.Got), (fDat (tyList tyS_api_Packet) [v17] r15.1.Held), (fDat (tyList tyStr) [v1_0] a1.Got), (fDat (tyList tyS_api_Packet) [v1_1] a1.Held)]) X_ Y_) (S := over (put (tab [(3, (pq g1)), (5, (pq g3)), (10, (pq g13)), (11, (iq r10.2)), (82, (bool true)), (86, (bool r44))]) 88 (bool true)) F_) ?_
 refine al_mv rfl rfl ?_
 refine al_nil ?_
 exact fr_fin hK_ ()⟩, ⟨_, rfl, [1, 2], rfl, by
 intro _
 intro _
 intro X_ Y_ F_ K_ hK_
 refine al_show (m := Mem.plus (memOf w0 Z0 [] [(oRow v42 63 tyS_api_Packet r41), (oBox g1 58 [v0_0, v0_1, (iq a0.Base)]), (oBox g3 63 [(iq a2.Kind), (iq a2.Seq), (str a2.Text)]), (oRow v8 63 tyS_api_Packet r7.1), (oBox g13 58 [v11, v12, (iq r10.1.Base)])] [(fDat (tyList tyStr) [v0_0] a0.Texts), (fDat (tyList tyBool) [v0_1] a0.Had), (fDat (tyList tyStr) [v11] r10.1.Texts), (fDat (tyList tyBool) [v12] r10.1.Had), (fDat (tyList tyStr) [v22] r21.1.Got), (fDat (tyList tyS_api_Packet) [v23] r21.1.Held), (fDat (tyList tyS_api_Packet) [v24] r21.2.1), (fDat (tyList tyStr) [v16] r15.1.Got), (fDat (tyList tyS_api_Packet) [v17] r15.1.Held), (fDat (tyList tyStr) [v1_0] a1.Got), (fDat (tyList tyS_api_Packet) [v1_1] a1.Held)]) X_ Y_) (S := over (put (put (tab [(3, (pq g1)), (5, (pq g3)), (10, (pq g13)), (11, (iq r10.2)), (82, (bool true)), (86, (bool r44))]) 88 (bool true)) 89 (iq r10.2)) F_) ?_
 refine al_in rfl rfl rfl rfl ?_
 refine al_nil ?_
 exact fr_fin hK_ ()⟩, ⟨_, rfl, [1, 3], rfl, by
 intro _
 intro _
 intro X_ Y_ F_ K_ hK_
 refine al_show (m := Mem.plus (memOf w0 Z0 [] [(oRow v42 63 tyS_api_Packet r41), (oBox g1 58 [v0_0, v0_1, (iq a0.Base)]), (oBox g3 63 [(iq a2.Kind), (iq a2.Seq), (str a2.Text)]), (oRow v8 63 tyS_api_Packet r7.1), (oBox g13 58 [v11, v12, (iq r10.1.Base)])] [(fDat (tyList tyStr) [v0_0] a0.Texts), (fDat (tyList tyBool) [v0_1] a0.Had), (fDat (tyList tyStr) [v11] r10.1.Texts), (fDat (tyList tyBool) [v12] r10.1.Had), (fDat (tyList tyStr) [v22] r21.1.Got), (fDat (tyList tyS_api_Packet) [v23] r21.1.Held), (fDat (tyList tyS_api_Packet) [v24] r21.2.1), (fDat (tyList tyStr) [v16] r15.1.Got), (fDat (tyList tyS_api_Packet) [v17] r15.1.Held), (fDat (tyList tyStr) [v1_0] a1.Got), (fDat (tyList tyS_api_Packet) [v1_1] a1.Held)]) X_ Y_) (S := over (put (put (tab [(3, (pq g1)), (5, (pq g3)), (10, (pq g13)), (11, (iq r10.2)), (82, (bool true)), (86, (bool r44))]) 88 (bool true)) 90 (bool (r10.2 == (0 : Int)))) F_) ?_
 refine al_val (ov_pick_t rfl rfl rfl) ?_
 refine al_nil ?_
 exact fr_fin hK_ ()⟩, ⟨_, rfl, [1, 4], rfl, by
 intro _
 intro _
 intro X_ Y_ F_ K_ hK_
 refine al_show (m := Mem.plus (memOf w0 Z0 [] [(oRow v42 63 tyS_api_Packet r41), (oBox g1 58 [v0_0, v0_1, (iq a0.Base)]), (oBox g3 63 [(iq a2.Kind), (iq a2.Seq), (str a2.Text)]), (oRow v8 63 tyS_api_Packet r7.1), (oBox g13 58 [v11, v12, (iq r10.1.Base)])] [(fDat (tyList tyStr) [v0_0] a0.Texts), (fDat (tyList tyBool) [v0_1] a0.Had), (fDat (tyList tyStr) [v11] r10.1.Texts), (fDat (tyList tyBool) [v12] r10.1.Had), (fDat (tyList tyStr) [v22] r21.1.Got), (fDat (tyList tyS_api_Packet) [v23] r21.1.Held), (fDat (tyList tyS_api_Packet) [v24] r21.2.1), (fDat (tyList tyStr) [v16] r15.1.Got), (fDat (tyList tyS_api_Packet) [v17] r15.1.Held), (fDat (tyList tyStr) [v1_0] a1.Got), (fDat (tyList tyS_api_Packet) [v1_1] a1.Held)]) X_ Y_) (S := over (put (put (tab [(3, (pq g1)), (5, (pq g3)), (10, (pq g13)), (11, (iq r10.2)), (82, (bool true)), (86, (bool r44))]) 88 (bool true)) 91 (bool (r10.2 == (0 : Int)))) F_) ?_
 refine al_val (ov_cast (by first | rw [hb46] | rfl) (ov_move rfl rfl)) ?_
 refine al_nil ?_
 exact fr_fin hK_ ()⟩, ⟨_, rfl, [5], rfl, by
 intro _
 intro X_ Y_ F_ K_ hK_
 refine al_show (m := Mem.plus (memOf w0 Z0 [] [(oRow v42 63 tyS_api_Packet r41), (oBox g1 58 [v0_0, v0_1, (iq a0.Base)]), (oBox g3 63 [(iq a2.Kind), (iq a2.Seq), (str a2.Text)]), (oRow v8 63 tyS_api_Packet r7.1), (oBox g13 58 [v11, v12, (iq r10.1.Base)])] [(fDat (tyList tyStr) [v0_0] a0.Texts), (fDat (tyList tyBool) [v0_1] a0.Had), (fDat (tyList tyStr) [v11] r10.1.Texts), (fDat (tyList tyBool) [v12] r10.1.Had), (fDat (tyList tyStr) [v22] r21.1.Got), (fDat (tyList tyS_api_Packet) [v23] r21.1.Held), (fDat (tyList tyS_api_Packet) [v24] r21.2.1), (fDat (tyList tyStr) [v16] r15.1.Got), (fDat (tyList tyS_api_Packet) [v17] r15.1.Held), (fDat (tyList tyStr) [v1_0] a1.Got), (fDat (tyList tyS_api_Packet) [v1_1] a1.Held)]) X_ Y_) (S := over (put (tab [(3, (pq g1)), (5, (pq g3)), (10, (pq g13)), (11, (iq r10.2)), (82, (bool true)), (86, (bool r44))]) 92 (bool false)) F_) ?_
 refine al_skip ?_
 refine al_nil ?_
 exact fr_fin hK_ ()⟩, ⟨_, rfl, [5], rfl, by
 intro _
 intro X_ Y_ F_ K_ hK_
 refine al_show (m := Mem.plus (memOf w0 Z0 [] [(oRow v42 63 tyS_api_Packet r41), (oBox g1 58 [v0_0, v0_1, (iq a0.Base)]), (oBox g3 63 [(iq a2.Kind), (iq a2.Seq), (str a2.Text)]), (oRow v8 63 tyS_api_Packet r7.1), (oBox g13 58 [v11, v12, (iq r10.1.Base)])] [(fDat (tyList tyStr) [v0_0] a0.Texts), (fDat (tyList tyBool) [v0_1] a0.Had), (fDat (tyList tyStr) [v11] r10.1.Texts), (fDat (tyList tyBool) [v12] r10.1.Had), (fDat (tyList tyStr) [v22] r21.1.Got), (fDat (tyList tyS_api_Packet) [v23] r21.1.Held), (fDat (tyList tyS_api_Packet) [v24] r21.2.1), (fDat (tyList tyStr) [v16] r15.1.Got), (fDat (tyList tyS_api_Packet) [v17] r15.1.Held), (fDat (tyList tyStr) [v1_0] a1.Got), (fDat (tyList tyS_api_Packet) [v1_1] a1.Held)]) X_ Y_) (S := over (put (tab [(3, (pq g1)), (5, (pq g3)), (10, (pq g13)), (11, (iq r10.2)), (82, (bool true)), (86, (bool r44))]) 92 (bool false)) F_) ?_
 refine al_skip ?_
 refine al_nil ?_
 exact fr_fin hK_ ()⟩, ⟨_, rfl, [5], rfl, by
 intro _
 intro X_ Y_ F_ K_ hK_
 refine al_show (m := Mem.plus (memOf w0 Z0 [] [(oRow v42 63 tyS_api_Packet r41), (oBox g1 58 [v0_0, v0_1, (iq a0.Base)]), (oBox g3 63 [(iq a2.Kind), (iq a2.Seq), (str a2.Text)]), (oRow v8 63 tyS_api_Packet r7.1), (oBox g13 58 [v11, v12, (iq r10.1.Base)])] [(fDat (tyList tyStr) [v0_0] a0.Texts), (fDat (tyList tyBool) [v0_1] a0.Had), (fDat (tyList tyStr) [v11] r10.1.Texts), (fDat (tyList tyBool) [v12] r10.1.Had), (fDat (tyList tyStr) [v22] r21.1.Got), (fDat (tyList tyS_api_Packet) [v23] r21.1.Held), (fDat (tyList tyS_api_Packet) [v24] r21.2.1), (fDat (tyList tyStr) [v16] r15.1.Got), (fDat (tyList tyS_api_Packet) [v17] r15.1.Held), (fDat (tyList tyStr) [v1_0] a1.Got), (fDat (tyList tyS_api_Packet) [v1_1] a1.Held)]) X_ Y_) (S := over (put (tab [(3, (pq g1)), (5, (pq g3)), (10, (pq g13)), (11, (iq r10.2)), (82, (bool true)), (86, (bool r44))]) 92 (bool false)) F_) ?_
 refine al_skip ?_
 refine al_nil ?_
 exact fr_fin hK_ ()⟩, trivial⟩ ?_
        intro _
        intro _
        intro _
        intro _
        intro _
        intro _
        intro _
        intro _
        intro X_ Y_ F_ K_ hK_
        refine al_show (m := Mem.plus (memOf w0 Z0 [] [(oRow v42 63 tyS_api_Packet r41), (oBox g1 58 [v0_0, v0_1, (iq a0.Base)]), (oBox g3 63 [(iq a2.Kind), (iq a2.Seq), (str a2.Text)]), (oRow v8 63 tyS_api_Packet r7.1), (oBox g13 58 [v11, v12, (iq r10.1.Base)])] [(fDat (tyList tyStr) [v0_0] a0.Texts), (fDat (tyList tyBool) [v0_1] a0.Had), (fDat (tyList tyStr) [v11] r10.1.Texts), (fDat (tyList tyBool) [v12] r10.1.Had), (fDat (tyList tyStr) [v22] r21.1.Got), (fDat (tyList tyS_api_Packet) [v23] r21.1.Held), (fDat (tyList tyS_api_Packet) [v24] r21.2.1), (fDat (tyList tyStr) [v16] r15.1.Got), (fDat (tyList tyS_api_Packet) [v17] r15.1.Held), (fDat (tyList tyStr) [v1_0] a1.Got), (fDat (tyList tyS_api_Packet) [v1_1] a1.Held)]) X_ Y_) (S := over (put (put (put (put (put (put (put (put (tab [(3, (pq g1)), (5, (pq g3)), (10, (pq g13)), (11, (iq r10.2)), (82, (bool true)), (86, (bool r44))]) 87 (bool r44)) 88 (bool true)) 89 (iq r10.2)) 90 (bool (r10.2 == (0 : Int)))) 91 (bool (r10.2 == (0 : Int)))) 92 (bool false)) 94 undef) 95 undef) F_) ?_
        refine al_skip ?_
        refine al_nil ?_
        refine aq_show (m := Mem.plus (memOf w0 Z0 [] [(oRow v42 63 tyS_api_Packet r41), (oBox g1 58 [v0_0, v0_1, (iq a0.Base)]), (oBox g3 63 [(iq a2.Kind), (iq a2.Seq), (str a2.Text)]), (oRow v8 63 tyS_api_Packet r7.1), (oBox g13 58 [v11, v12, (iq r10.1.Base)])] [(fDat (tyList tyStr) [v0_0] a0.Texts), (fDat (tyList tyBool) [v0_1] a0.Had), (fDat (tyList tyStr) [v11] r10.1.Texts), (fDat (tyList tyBool) [v12] r10.1.Had), (fDat (tyList tyStr) [v22] r21.1.Got), (fDat (tyList tyS_api_Packet) [v23] r21.1.Held), (fDat (tyList tyS_api_Packet) [v24] r21.2.1), (fDat (tyList tyStr) [v16] r15.1.Got), (fDat (tyList tyS_api_Packet) [v17] r15.1.Held), (fDat (tyList tyStr) [v1_0] a1.Got), (fDat (tyList tyS_api_Packet) [v1_1] a1.Held)]) X_ Y_) ?_
        refine aq_next hK_ [0, 1, 2, 3, 4] [0, 1, 2, 3, 4, 5, 6, 7, 8, 9, 10] [(10, (pq g13)), (92, (bool false)), (96, undef)] [93] [] rfl rfl (by decide) rfl ⟨rfl, rfl, rfl, trivial⟩ ⟨rfl, trivial⟩ ?_
        clear hK_ K_ F_ X_ Y_
        refine ta_show (m := (memOf w0 Z0 [] [(oRow v42 63 tyS_api_Packet r41), (oBox g1 58 [v0_0, v0_1, (iq a0.Base)]), (oBox g3 63 [(iq a2.Kind), (iq a2.Seq), (str a2.Text)]), (oRow v8 63 tyS_api_Packet r7.1), (oBox g13 58 [v11, v12, (iq r10.1.Base)])] [(fDat (tyList tyStr) [v0_0] a0.Texts), (fDat (tyList tyBool) [v0_1] a0.Had), (fDat (tyList tyStr) [v11] r10.1.Texts), (fDat (tyList tyBool) [v12] r10.1.Had), (fDat (tyList tyStr) [v22] r21.1.Got), (fDat (tyList tyS_api_Packet) [v23] r21.1.Held), (fDat (tyList tyS_api_Packet) [v24] r21.2.1), (fDat (tyList tyStr) [v16] r15.1.Got), (fDat (tyList tyS_api_Packet) [v17] r15.1.Held), (fDat (tyList tyStr) [v1_0] a1.Got), (fDat (tyList tyS_api_Packet) [v1_1] a1.Held)])) (S := (tab [(10, (pq g13)), (92, (bool false)), (96, undef)])) ?_
        refine ta_step 17 _ [13] [93] [13] [18] [⟨13, 93, Unit, fun _ => { val := undef }⟩] [] rfl rfl rfl (by kernel_rfl) rfl rfl rfl ⟨⟨_, rfl, [], rfl, by
 intro X_ Y_ F_ K_ hK_
 refine al_show (m := Mem.plus (memOf w0 Z0 [] [(oRow v42 63 tyS_api_Packet r41), (oBox g1 58 [v0_0, v0_1, (iq a0.Base)]), (oBox g3 63 [(iq a2.Kind), (iq a2.Seq), (str a2.Text)]), (oRow v8 63 tyS_api_Packet r7.1), (oBox g13 58 [v11, v12, (iq r10.1.Base)])] [(fDat (tyList tyStr) [v0_0] a0.Texts), (fDat (tyList tyBool) [v0_1] a0.Had), (fDat (tyList tyStr) [v11] r10.1.Texts), (fDat (tyList tyBool) [v12] r10.1.Had), (fDat (tyList tyStr) [v22] r21.1.Got), (fDat (tyList tyS_api_Packet) [v23] r21.1.Held), (fDat (tyList tyS_api_Packet) [v24] r21.2.1), (fDat (tyList tyStr) [v16] r15.1.Got), (fDat (tyList tyS_api_Packet) [v17] r15.1.Held), (fDat (tyList tyStr) [v1_0] a1.Got), (fDat (tyList tyS_api_Packet) [v1_1] a1.Held)]) X_ Y_) (S := over (tab [(10, (pq g13)), (92, (bool false)), (96, undef)]) F_) ?_
 refine al_skip ?_
 refine al_nil ?_
 exact fr_fin hK_ ()⟩, trivial⟩ ?_
        intro _
        intro X_ Y_ F_ K_ hK_
        refine al_show (m := Mem.plus (memOf w0 Z0 [] [(oRow v42 63 tyS_api_Packet r41), (oBox g1 58 [v0_0, v0_1, (iq a0.Base)]), (oBox g3 63 [(iq a2.Kind), (iq a2.Seq), (str a2.Text)]), (oRow v8 63 tyS_api_Packet r7.1), (oBox g13 58 [v11, v12, (iq r10.1.Base)])] [(fDat (tyList tyStr) [v0_0] a0.Texts), (fDat (tyList tyBool) [v0_1] a0.Had), (fDat (tyList tyStr) [v11] r10.1.Texts), (fDat (tyList tyBool) [v12] r10.1.Had), (fDat (tyList tyStr) [v22] r21.1.Got), (fDat (tyList tyS_api_Packet) [v23] r21.1.Held), (fDat (tyList tyS_api_Packet) [v24] r21.2.1), (fDat (tyList tyStr) [v16] r15.1.Got), (fDat (tyList tyS_api_Packet) [v17] r15.1.Held), (fDat (tyList tyStr) [v1_0] a1.Got), (fDat (tyList tyS_api_Packet) [v1_1] a1.Held)]) X_ Y_) (S := over (put (tab [(10, (pq g13)), (92, (bool false)), (96, undef)]) 93 undef) F_) ?_
        refine al_skip ?_
        refine al_nil ?_
        refine aq_show (m := Mem.plus (memOf w0 Z0 [] [(oRow v42 63 tyS_api_Packet r41), (oBox g1 58 [v0_0, v0_1, (iq a0.Base)]), (oBox g3 63 [(iq a2.Kind), (iq a2.Seq), (str a2.Text)]), (oRow v8 63 tyS_api_Packet r7.1), (oBox g13 58 [v11, v12, (iq r10.1.Base)])] [(fDat (tyList tyStr) [v0_0] a0.Texts), (fDat (tyList tyBool) [v0_1] a0.Had), (fDat (tyList tyStr) [v11] r10.1.Texts), (fDat (tyList tyBool) [v12] r10.1.Had), (fDat (tyList tyStr) [v22] r21.1.Got), (fDat (tyList tyS_api_Packet) [v23] r21.1.Held), (fDat (tyList tyS_api_Packet) [v24] r21.2.1), (fDat (tyList tyStr) [v16] r15.1.Got), (fDat (tyList tyS_api_Packet) [v17] r15.1.Held), (fDat (tyList tyStr) [v1_0] a1.Got), (fDat (tyList tyS_api_Packet) [v1_1] a1.Held)]) X_ Y_) ?_
        refine aq_next hK_ [0, 1, 2, 3, 4] [0, 1, 2, 3, 4, 5, 6, 7, 8, 9, 10] [(92, (bool false)), (97, undef)] [] [⟨18, 98, Unit, fun _ => { val := (bool false) }⟩] rfl rfl (by decide) rfl ⟨rfl, rfl, trivial⟩ trivial ?_
        clear hK_ K_ F_ X_ Y_
        refine ta_show (m := (memOf w0 Z0 [] [(oRow v42 63 tyS_api_Packet r41), (oBox g1 58 [v0_0, v0_1, (iq a0.Base)]), (oBox g3 63 [(iq a2.Kind), (iq a2.Seq), (str a2.Text)]), (oRow v8 63 tyS_api_Packet r7.1), (oBox g13 58 [v11, v12, (iq r10.1.Base)])] [(fDat (tyList tyStr) [v0_0] a0.Texts), (fDat (tyList tyBool) [v0_1] a0.Had), (fDat (tyList tyStr) [v11] r10.1.Texts), (fDat (tyList tyBool) [v12] r10.1.Had), (fDat (tyList tyStr) [v22] r21.1.Got), (fDat (tyList tyS_api_Packet) [v23] r21.1.Held), (fDat (tyList tyS_api_Packet) [v24] r21.2.1), (fDat (tyList tyStr) [v16] r15.1.Got), (fDat (tyList tyS_api_Packet) [v17] r15.1.Held), (fDat (tyList tyStr) [v1_0] a1.Got), (fDat (tyList tyS_api_Packet) [v1_1] a1.Held)])) (S := (tab [(92, (bool false)), (97, undef)])) ?_
        refine ta_step 19 _ [18] [98] [18] [] [⟨18, 98, Unit, fun _ => { val := (bool false) }⟩] [] rfl rfl rfl (by kernel_rfl) rfl rfl rfl ⟨⟨_, rfl, [], rfl, by
 intro X_ Y_ F_ K_ hK_
 refine al_show (m := Mem.plus (memOf w0 Z0 [] [(oRow v42 63 tyS_api_Packet r41), (oBox g1 58 [v0_0, v0_1, (iq a0.Base)]), (oBox g3 63 [(iq a2.Kind), (iq a2.Seq), (str a2.Text)]), (oRow v8 63 tyS_api_Packet r7.1), (oBox g13 58 [v11, v12, (iq r10.1.Base)])] [(fDat (tyList tyStr) [v0_0] a0.Texts), (fDat (tyList tyBool) [v0_1] a0.Had), (fDat (tyList tyStr) [v11] r10.1.Texts), (fDat (tyList tyBool) [v12] r10.1.Had), (fDat (tyList tyStr) [v22] r21.1.Got), (fDat (tyList tyS_api_Packet) [v23] r21.1.Held), (fDat (tyList tyS_api_Packet) [v24] r21.2.1), (fDat (tyList tyStr) [v16] r15.1.Got), (fDat (tyList tyS_api_Packet) [v17] r15.1.Held), (fDat (tyList tyStr) [v1_0] a1.Got), (fDat (tyList tyS_api_Packet) [v1_1] a1.Held)]) X_ Y_) (S := over (tab [(92, (bool false)), (97, undef)]) F_) ?_
 refine al_val (ov_pick_f rfl rfl rfl) ?_
 refine al_nil ?_
 exact fr_fin hK_ ()⟩, trivial⟩ ?_
        intro _
        intro X_ Y_ F_ K_ hK_
        refine al_show (m := Mem.plus (memOf w0 Z0 [] [(oRow v42 63 tyS_api_Packet r41), (oBox g1 58 [v0_0, v0_1, (iq a0.Base)]), (oBox g3 63 [(iq a2.Kind), (iq a2.Seq), (str a2.Text)]), (oRow v8 63 tyS_api_Packet r7.1), (oBox g13 58 [v11, v12, (iq r10.1.Base)])] [(fDat (tyList tyStr) [v0_0] a0.Texts), (fDat (tyList tyBool) [v0_1] a0.Had), (fDat (tyList tyStr) [v11] r10.1.Texts), (fDat (tyList tyBool) [v12] r10.1.Had), (fDat (tyList tyStr) [v22] r21.1.Got), (fDat (tyList tyS_api_Packet) [v23] r21.1.Held), (fDat (tyList tyS_api_Packet) [v24] r21.2.1), (fDat (tyList tyStr) [v16] r15.1.Got), (fDat (tyList tyS_api_Packet) [v17] r15.1.Held), (fDat (tyList tyStr) [v1_0] a1.Got), (fDat (tyList tyS_api_Packet) [v1_1] a1.Held)]) X_ Y_) (S := over (put (tab [(92, (bool false)), (97, undef)]) 98 (bool false)) F_) ?_
        refine al_as rfl rfl ?_
        refine al_nil ?_
        refine aq_show (m := Mem.plus (memOf w0 Z0 [] [(oRow v42 63 tyS_api_Packet r41), (oBox g1 58 [v0_0, v0_1, (iq a0.Base)]), (oBox g3 63 [(iq a2.Kind), (iq a2.Seq), (str a2.Text)]), (oRow v8 63 tyS_api_Packet r7.1), (oBox g13 58 [v11, v12, (iq r10.1.Base)])] [(fDat (tyList tyStr) [v0_0] a0.Texts), (fDat (tyList tyBool) [v0_1] a0.Had), (fDat (tyList tyStr) [v11] r10.1.Texts), (fDat (tyList tyBool) [v12] r10.1.Had), (fDat (tyList tyStr) [v22] r21.1.Got), (fDat (tyList tyS_api_Packet) [v23] r21.1.Held), (fDat (tyList tyS_api_Packet) [v24] r21.2.1), (fDat (tyList tyStr) [v16] r15.1.Got), (fDat (tyList tyS_api_Packet) [v17] r15.1.Held), (fDat (tyList tyStr) [v1_0] a1.Got), (fDat (tyList tyS_api_Packet) [v1_1] a1.Held)]) X_ Y_) ?_
        refine aq_next hK_ [0, 1, 2, 3, 4] [0, 1, 2, 3, 4, 5, 6, 7, 8, 9, 10] [(6, (bool false))] [] [] rfl rfl (by decide) rfl ⟨rfl, trivial⟩ trivial ?_
        clear hK_ K_ F_ X_ Y_
        refine ta_show (m := (memOf w0 Z0 [] [(oRow v42 63 tyS_api_Packet r41), (oBox g1 58 [v0_0, v0_1, (iq a0.Base)]), (oBox g3 63 [(iq a2.Kind), (iq a2.Seq), (str a2.Text)]), (oRow v8 63 tyS_api_Packet r7.1), (oBox g13 58 [v11, v12, (iq r10.1.Base)])] [(fDat (tyList tyStr) [v0_0] a0.Texts), (fDat (tyList tyBool) [v0_1] a0.Had), (fDat (tyList tyStr) [v11] r10.1.Texts), (fDat (tyList tyBool) [v12] r10.1.Had), (fDat (tyList tyStr) [v22] r21.1.Got), (fDat (tyList tyS_api_Packet) [v23] r21.1.Held), (fDat (tyList tyS_api_Packet) [v24] r21.2.1), (fDat (tyList tyStr) [v16] r15.1.Got), (fDat (tyList tyS_api_Packet) [v17] r15.1.Held), (fDat (tyList tyStr) [v1_0] a1.Got), (fDat (tyList tyS_api_Packet) [v1_1] a1.Held)])) (S := (tab [(6, (bool false))])) ?_
        refine ta_end [] [] rfl rfl (by kernel_rfl) rfl trivial ?_
        refine aq_show (m := (memOf w0 Z0 [] [(oRow v42 63 tyS_api_Packet r41), (oBox g1 58 [v0_0, v0_1, (iq a0.Base)]), (oBox g3 63 [(iq a2.Kind), (iq a2.Seq), (str a2.Text)]), (oRow v8 63 tyS_api_Packet r7.1), (oBox g13 58 [v11, v12, (iq r10.1.Base)])] [(fDat (tyList tyStr) [v0_0] a0.Texts), (fDat (tyList tyBool) [v0_1] a0.Had), (fDat (tyList tyStr) [v11] r10.1.Texts), (fDat (tyList tyBool) [v12] r10.1.Had), (fDat (tyList tyStr) [v22] r21.1.Got), (fDat (tyList tyS_api_Packet) [v23] r21.1.Held), (fDat (tyList tyS_api_Packet) [v24] r21.2.1), (fDat (tyList tyStr) [v16] r15.1.Got), (fDat (tyList tyS_api_Packet) [v17] r15.1.Held), (fDat (tyList tyStr) [v1_0] a1.Got), (fDat (tyList tyS_api_Packet) [v1_1] a1.Held)])) (S := (tab [(6, (bool false))])) ?_
        exact aq_join false h (fun w a hm hs => norm hm hs [] [0, 1, 2, 3, 4, 5, 6, 7, 8, 9, 10] [(6, (bool false))] (by decide) ⟨rfl, trivial⟩)
      ·replace h := bif_f hb45 h
       refine aq_show (m := Mem.plus (memOf w0 Z0 [] [(oRow v42 63 tyS_api_Packet r41), (oBox g1 58 [v0_0, v0_1, (iq a0.Base)]), (oBox g3 63 [(iq a2.Kind), (iq a2.Seq), (str a2.Text)]), (oRow v8 63 tyS_api_Packet r7.1), (oBox g13 58 [v11, v12, (iq r10.1.Base)])] [(fDat (tyList tyStr) [v0_0] a0.Texts), (fDat (tyList tyBool) [v0_1] a0.Had), (fDat (tyList tyStr) [v11] r10.1.Texts), (fDat (tyList tyBool) [v12] r10.1.Had), (fDat (tyList tyStr) [v22] r21.1.Got), (fDat (tyList tyS_api_Packet) [v23] r21.1.Held), (fDat (tyList tyS_api_Packet) [v24] r21.2.1), (fDat (tyList tyStr) [v16] r15.1.Got), (fDat (tyList tyS_api_Packet) [v17] r15.1.Held), (fDat (tyList tyStr) [v1_0] a1.Got), (fDat (tyList tyS_api_Packet) [v1_1] a1.Held)]) X_ Y_) ?_
       refine aq_next hK_ [0, 1, 2, 3, 4] [0, 1, 2, 3, 4, 5, 6, 7, 8, 9, 10] [(3, (pq g1)), (5, (pq g3)), (10, (pq g13)), (11, (iq r10.2)), (82, (bool true)), (86, (bool r44))] [] [⟨7, 87, Unit, fun _ => { val := (bool r44) }⟩, ⟨8, 88, Unit, fun _ => { val := (bool false) }⟩, ⟨9, 89, Unit, fun _ => { val := undef }⟩, ⟨10, 90, Unit, fun _ => { val := undef }⟩, ⟨11, 91, Unit, fun _ => { val := (bool false) }⟩, ⟨12, 92, Unit, fun _ => { val := (bool false) }⟩, ⟨13, 93, Unit, fun _ => { val := undef }⟩, ⟨14, 94, Unit, fun _ => { val := undef }⟩, ⟨15, 95, Unit, fun _ => { val := undef }⟩] rfl rfl (by decide) rfl ⟨rfl, rfl, rfl, rfl, rfl, rfl, trivial⟩ trivial ?_
       clear hK_ K_ F_ X_ Y_
       refine ta_show (m := (memOf w0 Z0 [] [(oRow v42 63 tyS_api_Packet r41), (oBox g1 58 [v0_0, v0_1, (iq a0.Base)]), (oBox g3 63 [(iq a2.Kind), (iq a2.Seq), (str a2.Text)]), (oRow v8 63 tyS_api_Packet r7.1), (oBox g13 58 [v11, v12, (iq r10.1.Base)])] [(fDat (tyList tyStr) [v0_0] a0.Texts), (fDat (tyList tyBool) [v0_1] a0.Had), (fDat (tyList tyStr) [v11] r10.1.Texts), (fDat (tyList tyBool) [v12] r10.1.Had), (fDat (tyList tyStr) [v22] r21.1.Got), (fDat (tyList tyS_api_Packet) [v23] r21.1.Held), (fDat (tyList tyS_api_Packet) [v24] r21.2.1), (fDat (tyList tyStr) [v16] r15.1.Got), (fDat (tyList tyS_api_Packet) [v17] r15.1.Held), (fDat (tyList tyStr) [v1_0] a1.Got), (fDat (tyList tyS_api_Packet) [v1_1] a1.Held)])) (S := (tab [(3, (pq g1)), (5, (pq g3)), (10, (pq g13)), (11, (iq r10.2)), (82, (bool true)), (86, (bool r44))])) ?_
       refine ta_step 16 _ [7, 8, 9, 10, 11, 12, 13, 14, 15] [87, 88, 89, 90, 91, 92, 93, 94, 95] [7, 8, 9, 10, 11, 12, 14, 15] [] [⟨7, 87, Unit, fun _ => { val := (bool r44) }⟩, ⟨8, 88, Unit, fun _ => { val := (bool false) }⟩, ⟨9, 89, Unit, fun _ => { val := undef }⟩, ⟨10, 90, Unit, fun _ => { val := undef }⟩, ⟨11, 91, Unit, fun _ => { val := (bool false) }⟩, ⟨12, 92, Unit, fun _ => { val := (bool false) }⟩, ⟨14, 94, Unit, fun _ => { val := undef }⟩, ⟨15, 95, Unit, fun _ => { val := undef }⟩] [⟨13, 93, Unit, fun _ => { val := undef }⟩] rfl rfl rfl (by kernel_rfl) rfl rfl rfl ⟨⟨_, rfl, [], rfl, by
 intro X_ Y_ F_ K_ hK_
 refine al_show (m := Mem.plus (memOf w0 Z0 [] [(oRow v42 63 tyS_api_Packet r41), (oBox g1 58 [v0_0, v0_1, (iq a0.Base)]), (oBox g3 63 [(iq a2.Kind), (iq a2.Seq), (str a2.Text)]), (oRow v8 63 tyS_api_Packet r7.1), (oBox g13 58 [v11, v12, (iq r10.1.Base)])] [(fDat (tyList tyStr) [v0_0] a0.Texts), (fDat (tyList tyBool) [v0_1] a0.Had), (fDat (tyList tyStr) [v11] r10.1.Texts), (fDat (tyList tyBool) [v12] r10.1.Had), (fDat (tyList tyStr) [v22] r21.1.Got), (fDat (tyList tyS_api_Packet) [v23] r21.1.Held), (fDat (tyList tyS_api_Packet) [v24] r21.2.1), (fDat (tyList tyStr) [v16] r15.1.Got), (fDat (tyList tyS_api_Packet) [v17] r15.1.Held), (fDat (tyList tyStr) [v1_0] a1.Got), (fDat (tyList tyS_api_Packet) [v1_1] a1.Held)]) X_ Y_) (S := over (tab [(3, (pq g1)), (5, (pq g3)), (10, (pq g13)), (11, (iq r10.2)), (82, (bool true)), (86, (bool r44))]) F_) ?_
 refine al_val (ov_pick_t rfl rfl rfl) ?_
 refine al_nil ?_
 exact fr_fin hK_ ()⟩, ⟨_, rfl, [0], rfl, by
 intro _
 intro X_ Y_ F_ K_ hK_
 refine al_show (m := Mem.plus (memOf w0 Z0 [] [(oRow v42 63 tyS_api_Packet r41), (oBox g1 58 [v0_0, v0_1, (iq a0.Base)]), (oBox g3 63 [(iq a2.Kind), (iq a2.Seq), (str a2.Text)]), (oRow v8 63 tyS_api_Packet r7.1), (oBox g13 58 [v11, v12, (iq r10.1.Base)])] [(fDat (tyList tyStr) [v0_0] a0.Texts), (fDat (tyList tyBool) [v0_1] a0.Had), (fDat (tyList tyStr) [v11] r10.1.Texts), (fDat (tyList tyBool) [v12] r10.1.Had), (fDat (tyList tyStr) [v22] r21.1.Got), (fDat (tyList tyS_api_Packet) [v23] r21.1.Held), (fDat (tyList tyS_api_Packet) [v24] r21.2.1), (fDat (tyList tyStr) [v16] r15.1.Got), (fDat (tyList tyS_api_Packet) [v17] r15.1.Held), (fDat (tyList tyStr) [v1_0] a1.Got), (fDat (tyList tyS_api_Packet) [v1_1] a1.Held)]) X_ Y_) (S := over (put (tab [(3, (pq g1)), (5, (pq g3)), (10, (pq g13)), (11, (iq r10.2)), (82, (bool true)), (86, (bool r44))]) 87 (bool r44)) F_) ?_
 refine al_val (ov_cast (by first | rw [hb45] | rfl) (ov_move rfl rfl)) ?_
 refine al_nil ?_
 exact fr_fin hK_ ()⟩, ⟨_, rfl, [1], rfl, by
 intro _
 intro X_ Y_ F_ K_ hK_
 refine al_show (m := Mem.plus (memOf w0 Z0 [] [(oRow v42 63 tyS_api_Packet r41), (oBox g1 58 [v0_0, v0_1, (iq a0.Base)]), (oBox g3 63 [(iq a2.Kind), (iq a2.Seq), (str a2.Text)]), (oRow v8 63 tyS_api_Packet r7.1), (oBox g13 58 [v11, v12, (iq r10.1.Base)])] [(fDat (tyList tyStr) [v0_0] a0.Texts), (fDat (tyList tyBool) [v0_1] a0.Had), (fDat (tyList tyStr) [v11] r10.1.Texts), (fDat (tyList tyBool) [v12] r10.1.Had), (fDat (tyList tyStr) [v22] r21.1.Got), (fDat (tyList tyS_api_Packet) [v23] r21.1.Held), (fDat (tyList tyS_api_Packet) [v24] r21.2.1), (fDat (tyList tyStr) [v16] r15.1.Got), (fDat (tyList tyS_api_Packet) [v17] r15.1.Held), (fDat (tyList tyStr) [v1_0] a1.Got), (fDat (tyList tyS_api_Packet) [v1_1] a1.Held)]) X_ Y_) (S := over (put (tab [(3, (pq g1)), (5, (pq g3)), (10, (pq g13)), (11, (iq r10.2)), (82, (bool true)), (86, (bool r44))]) 88 (bool false)) F_) ?_
 refine al_skip ?_
 refine al_nil ?_
 exact fr_fin hK_ ()⟩, ⟨_, rfl, [1, 2], rfl, by
 intro _
 intro _
 intro X_ Y_ F_ K_ hK_
 refine al_show (m := Mem.plus (memOf w0 Z0 [] [(oRow v42 63 tyS_api_Packet r41), (oBox g1 58 [v0_0, v0_1, (iq a0.Base)]), (oBox g3 63 [(iq a2.Kind), (iq a2.Seq), (str a2.Text)]), (oRow v8 63 tyS_api_Packet r7.1), (oBox g13 58 [v11, v12, (iq r10.1.Base)])] [(fDat (tyList tyStr) [v0_0] a0.Texts), (fDat (tyList tyBool) [v0_1] a0.Had), (fDat (tyList tyStr) [v11] r10.1.Texts), (fDat (tyList tyBool) [v12] r10.1.Had), (fDat (tyList tyStr) [v22] r21.1.Got), (fDat (tyList tyS_api_Packet) [v23] r21.1.Held), (fDat (tyList tyS_api_Packet) [v24] r21.2.1), (fDat (tyList tyStr) [v16] r15.1.Got), (fDat (tyList tyS_api_Packet) [v17] r15.1.Held), (fDat (tyList tyStr) [v1_0] a1.Got), (fDat (tyList tyS_api_Packet) [v1_1] a1.Held)]) X_ Y_) (S := over (put (put (tab [(3, (pq g1)), (5, (pq g3)), (10, (pq g13)), (11, (iq r10.2)), (82, (bool true)), (86, (bool r44))]) 88 (bool false)) 89 undef) F_) ?_
 refine al_skip ?_
 refine al_nil ?_
 exact fr_fin hK_ ()⟩, ⟨_, rfl, [1, 3], rfl, by
 intro _
 intro _
 intro X_ Y_ F_ K_ hK_
 refine al_show (m := Mem.plus (memOf w0 Z0 [] [(oRow v42 63 tyS_api_Packet r41), (oBox g1 58 [v0_0, v0_1, (iq a0.Base)]), (oBox g3 63 [(iq a2.Kind), (iq a2.Seq), (str a2.Text)]), (oRow v8 63 tyS_api_Packet r7.1), (oBox g13 58 [v11, v12, (iq r10.1.Base)])] [(fDat (tyList tyStr) [v0_0] a0.Texts), (fDat (tyList tyBool) [v0_1] a0.Had), (fDat (tyList tyStr) [v11] r10.1.Texts), (fDat (tyList tyBool) [v12] r10.1.Had), (fDat (tyList tyStr) [v22] r21.1.Got), (fDat (tyList tyS_api_Packet) [v23] r21.1.Held), (fDat (tyList tyS_api_Packet) [v24] r21.2.1), (fDat (tyList tyStr) [v16] r15.1.Got), (fDat (tyList tyS_api_Packet) [v17] r15.1.Held), (fDat (tyList tyStr) [v1_0] a1.Got), (fDat (tyList tyS_api_Packet) [v1_1] a1.Held)]) X_ Y_) (S := over (put (put (tab [(3, (pq g1)), (5, (pq g3)), (10, (pq g13)), (11, (iq r10.2)), (82, (bool true)), (86, (bool r44))]) 88 (bool false)) 90 undef) F_) ?_
 refine al_val (ov_pick_f rfl rfl rfl) ?_
 refine al_nil ?_
 exact fr_fin hK_ ()⟩, ⟨_, rfl, [1, 4], rfl, by
 intro _
 intro _
 intro X_ Y_ F_ K_ hK_
 refine al_show (m := Mem.plus (memOf w0 Z0 [] [(oRow v42 63 tyS_api_Packet r41), (oBox g1 58 [v0_0, v0_1, (iq a0.Base)]), (oBox g3 63 [(iq a2.Kind), (iq a2.Seq), (str a2.Text)]), (oRow v8 63 tyS_api_Packet r7.1), (oBox g13 58 [v11, v12, (iq r10.1.Base)])] [(fDat (tyList tyStr) [v0_0] a0.Texts), (fDat (tyList tyBool) [v0_1] a0.Had), (fDat (tyList tyStr) [v11] r10.1.Texts), (fDat (tyList tyBool) [v12] r10.1.Had), (fDat (tyList tyStr) [v22] r21.1.Got), (fDat (tyList tyS_api_Packet) [v23] r21.1.Held), (fDat (tyList tyS_api_Packet) [v24] r21.2.1), (fDat (tyList tyStr) [v16] r15.1.Got), (fDat (tyList tyS_api_Packet) [v17] r15.1.Held), (fDat (tyList tyStr) [v1_0] a1.Got), (fDat (tyList tyS_api_Packet) [v1_1] a1.Held)]) X_ Y_) (S := over (put (put (tab [(3, (pq g1)), (5, (pq g3)), (10, (pq g13)), (11, (iq r10.2)), (82, (bool true)), (86, (bool r44))]) 88 (bool false)) 91 (bool false)) F_) ?_
 refine al_mv rfl rfl ?_
 refine al_nil ?_
 exact fr_fin hK_ ()⟩, ⟨_, rfl, [5], rfl, by
 intro _
 intro X_ Y_ F_ K_ hK_
 refine al_show (m := Mem.plus (memOf w0 Z0 [] [(oRow v42 63 tyS_api_Packet r41), (oBox g1 58 [v0_0, v0_1, (iq a0.Base)]), (oBox g3 63 [(iq a2.Kind), (iq a2.Seq), (str a2.Text)]), (oRow v8 63 tyS_api_Packet r7.1), (oBox g13 58 [v11, v12, (iq r10.1.Base)])] [(fDat (tyList tyStr) [v0_0] a0.Texts), (fDat (tyList tyBool) [v0_1] a0.Had), (fDat (tyList tyStr) [v11] r10.1.Texts), (fDat (tyList tyBool) [v12] r10.1.Had), (fDat (tyList tyStr) [v22] r21.1.Got), (fDat (tyList tyS_api_Packet) [v23] r21.1.Held), (fDat (tyList tyS_api_Packet) [v24] r21.2.1), (fDat (tyList tyStr) [v16] r15.1.Got), (fDat (tyList tyS_api_Packet) [v17] r15.1.Held), (fDat (tyList tyStr) [v1_0] a1.Got), (fDat (tyList tyS_api_Packet) [v1_1] a1.Held)]) X_ Y_) (S := over (put (tab [(3, (pq g1)), (5, (pq g3)), (10, (pq g13)), (11, (iq r10.2)), (82, (bool true)), (86, (bool r44))]) 92 (bool false)) F_) ?_
 refine al_skip ?_
 refine al_nil ?_
 exact fr_fin hK_ ()⟩, ⟨_, rfl, [5], rfl, by
 intro _
 intro X_ Y_ F_ K_ hK_
 refine al_show (m := Mem.plus (memOf w0 Z0 [] [(oRow v42 63 tyS_api_Packet r41), (oBox g1 58 [v0_0, v0_1, (iq a0.Base)]), (oBox g3 63 [(iq a2.Kind), (iq a2.Seq), (str a2.Text)]), (oRow v8 63 tyS_api_Packet r7.1), (oBox g13 58 [v11, v12, (iq r10.1.Base)])] [(fDat (tyList tyStr) [v0_0] a0.Texts), (fDat (tyList tyBool) [v0_1] a0.Had), (fDat (tyList tyStr) [v11] r10.1.Texts), (fDat (tyList tyBool) [v12] r10.1.Had), (fDat (tyList tyStr) [v22] r21.1.Got), (fDat (tyList tyS_api_Packet) [v23] r21.1.Held), (fDat (tyList tyS_api_Packet) [v24] r21.2.1), (fDat (tyList tyStr) [v16] r15.1.Got), (fDat (tyList tyS_api_Packet) [v17] r15.1.Held), (fDat (tyList tyStr) [v1_0] a1.Got), (fDat (tyList tyS_api_Packet) [v1_1] a1.Held)]) X_ Y_) (S := over (put (tab [(3, (pq g1)), (5, (pq g3)), (10, (pq g13)), (11, (iq r10.2)), (82, (bool true)), (86, (bool r44))]) 92 (bool false)) F_) ?_
 refine al_skip ?_
 refine al_nil ?_
 exact fr_fin hK_ ()⟩, ⟨_, rfl, [5], rfl, by
 intro _
 intro X_ Y_ F_ K_ hK_
 refine al_show (m := Mem.plus (memOf w0 Z0 [] [(oRow v42 63 tyS_api_Packet r41), (oBox g1 58 [v0_0, v0_1, (iq a0.Base)]), (oBox g3 63 [(iq a2.Kind), (iq a2.Seq), (str a2.Text)]), (oRow v8 63 tyS_api_Packet r7.1), (oBox g13 58 [v11, v12, (iq r10.1.Base)])] [(fDat (tyList tyStr) [v0_0] a0.Texts), (fDat (tyList tyBool) [v0_1] a0.Had), (fDat (tyList tyStr) [v11] r10.1.Texts), (fDat (tyList tyBool) [v12] r10.1.Had), (fDat (tyList tyStr) [v22] r21.1.Got), (fDat (tyList tyS_api_Packet) [v23] r21.1.Held), (fDat (tyList tyS_api_Packet) [v24] r21.2.1), (fDat (tyList tyStr) [v16] r15.1.Got), (fDat (tyList tyS_api_Packet) [v17] r15.1.Held), (fDat (tyList tyStr) [v1_0] a1.Got), (fDat (tyList tyS_api_Packet) [v1_1] a1.Held)]) X_ Y_) (S := over (put (tab [(3, (pq g1)), (5, (pq g3)), (10, (pq g13)), (11, (iq r10.2)), (82, (bool true)), (86, (bool r44))]) 92 (bool false)) F_) ?_
 refine al_skip ?_
 refine al_nil ?_
 exact fr_fin hK_ ()⟩, trivial⟩ ?_
       intro _
       intro _
       intro _
       intro _
       intro _
       intro _
       intro _
       intro _
       intro X_ Y_ F_ K_ hK_
       refine al_show (m := Mem.plus (memOf w0 Z0 [] [(oRow v42 63 tyS_api_Packet r41), (oBox g1 58 [v0_0, v0_1, (iq a0.Base)]), (oBox g3 63 [(iq a2.Kind), (iq a2.Seq), (str a2.Text)]), (oRow v8 63 tyS_api_Packet r7.1), (oBox g13 58 [v11, v12, (iq r10.1.Base)])] [(fDat (tyList tyStr) [v0_0] a0.Texts), (fDat (tyList tyBool) [v0_1] a0.Had), (fDat (tyList tyStr) [v11] r10.1.Texts), (fDat (tyList tyBool) [v12] r10.1.Had), (fDat (tyList tyStr) [v22] r21.1.Got), (fDat (tyList tyS_api_Packet) [v23] r21.1.Held), (fDat (tyList tyS_api_Packet) [v24] r21.2.1), (fDat (tyList tyStr) [v16] r15.1.Got), (fDat (tyList tyS_api_Packet) [v17] r15.1.Held), (fDat (tyList tyStr) [v1_0] a1.Got), (fDat (tyList tyS_api_Packet) [v1_1] a1.Held)]) X_ Y_) (S := over (put (put (put (put (put (put (put (put (tab [(3, (pq g1)), (5, (pq g3)), (10, (pq g13)), (11, (iq r10.2)), (82, (bool true)), (86, (bool r44))]) 87 (bool r44)) 88 (bool false)) 89 undef) 90 undef) 91 (bool false)) 92 (bool false)) 94 undef) 95 undef) F_) ?_
       refine al_skip ?_
       refine al_nil ?_
       refine aq_show (m := Mem.plus (memOf w0 Z0 [] [(oRow v42 63 tyS_api_Packet r41), (oBox g1 58 [v0_0, v0_1, (iq a0.Base)]), (oBox g3 63 [(iq a2.Kind), (iq a2.Seq), (str a2.Text)]), (oRow v8 63 tyS_api_Packet r7.1), (oBox g13 58 [v11, v12, (iq r10.1.Base)])] [(fDat (tyList tyStr) [v0_0] a0.Texts), (fDat (tyList tyBool) [v0_1] a0.Had), (fDat (tyList tyStr) [v11] r10.1.Texts), (fDat (tyList tyBool) [v12] r10.1.Had), (fDat (tyList tyStr) [v22] r21.1.Got), (fDat (tyList tyS_api_Packet) [v23] r21.1.Held), (fDat (tyList tyS_api_Packet) [v24] r21.2.1), (fDat (tyList tyStr) [v16] r15.1.Got), (fDat (tyList tyS_api_Packet) [v17] r15.1.Held), (fDat (tyList tyStr) [v1_0] a1.Got), (fDat (tyList tyS_api_Packet) [v1_1] a1.Held)]) X_ Y_) ?_
       refine aq_next hK_ [0, 1, 2, 3, 4] [0, 1, 2, 3, 4, 5, 6, 7, 8, 9, 10] [(10, (pq g13)), (92, (bool false)), (96, undef)] [93] [] rfl rfl (by decide) rfl ⟨rfl, rfl, rfl, trivial⟩ ⟨rfl, trivial⟩ ?_
       clear hK_ K_ F_ X_ Y_
       refine ta_show (m := (memOf w0 Z0 [] [(oRow v42 63 tyS_api_Packet r41), (oBox g1 58 [v0_0, v0_1, (iq a0.Base)]), (oBox g3 63 [(iq a2.Kind), (iq a2.Seq), (str a2.Text)]), (oRow v8 63 tyS_api_Packet r7.1), (oBox g13 58 [v11, v12, (iq r10.1.Base)])] [(fDat (tyList tyStr) [v0_0] a0.Texts), (fDat (tyList tyBool) [v0_1] a0.Had), (fDat (tyList tyStr) [v11] r10.1.Texts), (fDat (tyList tyBool) [v12] r10.1.Had), (fDat (tyList tyStr) [v22] r21.1.Got), (fDat (tyList tyS_api_Packet) [v23] r21.1.Held), (fDat (tyList tyS_api_Packet) [v24] r21.2.1), (fDat (tyList tyStr) [v16] r15.1.Got), (fDat (tyList tyS_api_Packet) [v17] r15.1.Held), (fDat (tyList tyStr) [v1_0] a1.Got), (fDat (tyList tyS_api_Packet) [v1_1] a1.Held)])) (S := (tab [(10, (pq g13)), (92, (bool false)), (96, undef)])) ?_
       refine ta_step 17 _ [13] [93] [13] [18] [⟨13, 93, Unit, fun _ => { val := undef }⟩] [] rfl rfl rfl (by kernel_rfl) rfl rfl rfl ⟨⟨_, rfl, [], rfl, by
 intro X_ Y_ F_ K_ hK_
 refine al_show (m := Mem.plus (memOf w0 Z0 [] [(oRow v42 63 tyS_api_Packet r41), (oBox g1 58 [v0_0, v0_1, (iq a0.Base)]), (oBox g3 63 [(iq a2.Kind), (iq a2.Seq), (str a2.Text)]), (oRow v8 63 tyS_api_Packet r7.1), (oBox g13 58 [v11, v12, (iq r10.1.Base)])] [(fDat (tyList tyStr) [v0_0] a0.Texts), (fDat (tyList tyBool) [v0_1] a0.Had), (fDat (tyList tyStr) [v11] r10.1.Texts), (fDat (tyList tyBool) [v12] r10.1.Had), (fDat (tyList tyStr) [v22] r21.1.Got), (fDat (tyList tyS_api_Packet) [v23] r21.1.Held), (fDat (tyList tyS_api_Packet) [v24] r21.2.1), (fDat (tyList tyStr) [v16] r15.1.Got), (fDat (tyList tyS_api_Packet) [v17] r15.1.Held), (fDat (tyList tyStr) [v1_0] a1.Got), (fDat (tyList tyS_api_Packet) [v1_1] a1.Held)]) X_ Y_) (S := over (tab [(10, (pq g13)), (92, (bool false)), (96, undef)]) F_) ?_
 refine al_skip ?_
 refine al_nil ?_
 exact fr_fin hK_ ()⟩, trivial⟩ ?_
       intro _
       intro X_ Y_ F_ K_ hK_
       refine al_show (m := Mem.plus (memOf w0 Z0 [] [(oRow v42 63 tyS_api_Packet r41), (oBox g1 58 [v0_0, v0_1, (iq a0.Base)]), (oBox g3 63 [(iq a2.Kind), (iq a2.Seq), (str a2.Text)]), (oRow v8 63 tyS_api_Packet r7.1), (oBox g13 58 [v11, v12, (iq r10.1.Base)])] [(fDat (tyList tyStr) [v0_0] a0.Texts), (fDat (tyList tyBool) [v0_1] a0.Had), (fDat (tyList tyStr) [v11] r10.1.Texts), (fDat (tyList tyBool) [v12] r10.1.Had), (fDat (tyList tyStr) [v22] r21.1.Got), (fDat (tyList tyS_api_Packet) [v23] r21.1.Held), (fDat (tyList tyS_api_Packet) [v24] r21.2.1), (fDat (tyList tyStr) [v16] r15.1.Got), (fDat (tyList tyS_api_Packet) [v17] r15.1.Held), (fDat (tyList tyStr) [v1_0] a1.Got), (fDat (tyList tyS_api_Packet) [v1_1] a1.Held)]) X_ Y_) (S := over (put (tab [(10, (pq g13)), (92, (bool false)), (96, undef)]) 93 undef) F_) ?_
       refine al_skip ?_
       refine al_nil ?_
       refine aq_show (m := Mem.plus (memOf w0 Z0 [] [(oRow v42 63 tyS_api_Packet r41), (oBox g1 58 [v0_0, v0_1, (iq a0.Base)]), (oBox g3 63 [(iq a2.Kind), (iq a2.Seq), (str a2.Text)]), (oRow v8 63 tyS_api_Packet r7.1), (oBox g13 58 [v11, v12, (iq r10.1.Base)])] [(fDat (tyList tyStr) [v0_0] a0.Texts), (fDat (tyList tyBool) [v0_1] a0.Had), (fDat (tyList tyStr) [v11] r10.1.Texts), (fDat (tyList tyBool) [v12] r10.1.Had), (fDat (tyList tyStr) [v22] r21.1.Got), (fDat (tyList tyS_api_Packet) [v23] r21.1.Held), (fDat (tyList tyS_api_Packet) [v24] r21.2.1), (fDat (tyList tyStr) [v16] r15.1.Got), (fDat (tyList tyS_api_Packet) [v17] r15.1.Held), (fDat (tyList tyStr) [v1_0] a1.Got), (fDat (tyList tyS_api_Packet) [v1_1] a1.Held)]) X_ Y_) ?_
       refine aq_next hK_ [0, 1, 2, 3, 4] [0, 1, 2, 3, 4, 5, 6, 7, 8, 9, 10] [(92, (bool false)), (97, undef)] [] [⟨18, 98, Unit, fun _ => { val := (bool false) }⟩] rfl rfl (by decide) rfl ⟨rfl, rfl, trivial⟩ trivial ?_
       clear hK_ K_ F_ X_ Y_
       refine ta_show (m := (memOf w0 Z0 [] [(oRow v42 63 tyS_api_Packet r41), (oBox g1 58 [v0_0, v0_1, (iq a0.Base)]), (oBox g3 63 [(iq a2.Kind), (iq a2.Seq), (str a2.Text)]), (oRow v8 63 tyS_api_Packet r7.1), (oBox g13 58 [v11, v12, (iq r10.1.Base)])] [(fDat (tyList tyStr) [v0_0] a0.Texts), (fDat (tyList tyBool) [v0_1] a0.Had), (fDat (tyList tyStr) [v11] r10.1.Texts), (fDat (tyList tyBool) [v12] r10.1.Had), (fDat (tyList tyStr) [v22] r21.1.Got), (fDat (tyList tyS_api_Packet) [v23] r21.1.Held), (fDat (tyList tyS_api_Packet) [v24] r21.2.1), (fDat (tyList tyStr) [v16] r15.1.Got), (fDat (tyList tyS_api_Packet) [v17] r15.1.Held), (fDat (tyList tyStr) [v1_0] a1.Got), (fDat (tyList tyS_api_Packet) [v1_1] a1.Held)])) (S := (tab [(92, (bool false)), (97, undef)])) ?_
       refine ta_step 19 _ [18] [98] [18] [] [⟨18, 98, Unit, fun _ => { val := (bool false) }⟩] [] rfl rfl rfl (by kernel_rfl) rfl rfl rfl ⟨⟨_, rfl, [], rfl, by
 intro X_ Y_ F_ K_ hK_
 refine al_show (m := Mem.plus (memOf w0 Z0 [] [(oRow v42 63 tyS_api_Packet r41), (oBox g1 58 [v0_0, v0_1, (iq a0.Base)]), (oBox g3 63 [(iq a2.Kind), (iq a2.Seq), (str a2.Text)]), (oRow v8 63 tyS_api_Packet r7.1), (oBox g13 58 [v11, v12, (iq r10.1.Base)])] [(fDat (tyList tyStr) [v0_0] a0.Texts), (fDat (tyList tyBool) [v0_1] a0.Had), (fDat (tyList tyStr) [v11] r10.1.Texts), (fDat (tyList tyBool) [v12] r10.1.Had), (fDat (tyList tyStr) [v22] r21.1.Got), (fDat (tyList tyS_api_Packet) [v23] r21.1.Held), (fDat (tyList tyS_api_Packet) [v24] r21.2.1), (fDat (tyList tyStr) [v16] r15.1.Got), (fDat (tyList tyS_api_Packet) [v17] r15.1.Held), (fDat (tyList tyStr) [v1_0] a1.Got), (fDat (tyList tyS_api_Packet) [v1_1] a1.Held)]) X_ Y_) (S := over (tab [(92, (bool false)), (97, undef)]) F_) ?_
 refine al_val (ov_pick_f rfl rfl rfl) ?_
 refine al_nil ?_
 exact fr_fin hK_ ()⟩, trivial⟩ ?_
       intro _
       intro X_ Y_ F_ K_ hK_
       refine al_show (m := Mem.plus (memOf w0 Z0 [] [(oRow v42 63 tyS_api_Packet r41), (oBox g1 58 [v0_0, v0_1, (iq a0.Base)]), (oBox g3 63 [(iq a2.Kind), (iq a2.Seq), (str a2.Text)]), (oRow v8 63 tyS_api_Packet r7.1), (oBox g13 58 [v11, v12, (iq r10.1.Base)])] [(fDat (tyList tyStr) [v0_0] a0.Texts), (fDat (tyList tyBool) [v0_1] a0.Had), (fDat (tyList tyStr) [v11] r10.1.Texts), (fDat (tyList tyBool) [v12] r10.1.Had), (fDat (tyList tyStr) [v22] r21.1.Got), (fDat (tyList tyS_api_Packet) [v23] r21.1.Held), (fDat (tyList tyS_api_Packet) [v24] r21.2.1), (fDat (tyList tyStr) [v16] r15.1.Got), (fDat (tyList tyS_api_Packet) [v17] r15.1.Held), (fDat (tyList tyStr) [v1_0] a1.Got), (fDat (tyList tyS_api_Packet) [v1_1] a1.Held)]) X_ Y_) (S := over (put (tab [(92, (bool false)), (97, undef)]) 98 (bool false)) F_) ?_
       refine al_as rfl rfl ?_
       refine al_nil ?_
       refine aq_show (m := Mem.plus (memOf w0 Z0 [] [(oRow v42 63 tyS_api_Packet r41), (oBox g1 58 [v0_0, v0_1, (iq a0.Base)]), (oBox g3 63 [(iq a2.Kind), (iq a2.Seq), (str a2.Text)]), (oRow v8 63 tyS_api_Packet r7.1), (oBox g13 58 [v11, v12, (iq r10.1.Base)])] [(fDat (tyList tyStr) [v0_0] a0.Texts), (fDat (tyList tyBool) [v0_1] a0.Had), (fDat (tyList tyStr) [v11] r10.1.Texts), (fDat (tyList tyBool) [v12] r10.1.Had), (fDat (tyList tyStr) [v22] r21.1.Got), (fDat (tyList tyS_api_Packet) [v23] r21.1.Held), (fDat (tyList tyS_api_Packet) [v24] r21.2.1), (fDat (tyList tyStr) [v16] r15.1.Got), (fDat (tyList tyS_api_Packet) [v17] r15.1.Held), (fDat (tyList tyStr) [v1_0] a1.Got), (fDat (tyList tyS_api_Packet) [v1_1] a1.Held)]) X_ Y_) ?_
       refine aq_next hK_ [0, 1, 2, 3, 4] [0, 1, 2, 3, 4, 5, 6, 7, 8, 9, 10] [(6, (bool false))] [] [] rfl rfl (by decide) rfl ⟨rfl, trivial⟩ trivial ?_
       clear hK_ K_ F_ X_ Y_
       refine ta_show (m := (memOf w0 Z0 [] [(oRow v42 63 tyS_api_Packet r41), (oBox g1 58 [v0_0, v0_1, (iq a0.Base)]), (oBox g3 63 [(iq a2.Kind), (iq a2.Seq), (str a2.Text)]), (oRow v8 63 tyS_api_Packet r7.1), (oBox g13 58 [v11, v12, (iq r10.1.Base)])] [(fDat (tyList tyStr) [v0_0] a0.Texts), (fDat (tyList tyBool) [v0_1] a0.Had), (fDat (tyList tyStr) [v11] r10.1.Texts), (fDat (tyList tyBool) [v12] r10.1.Had), (fDat (tyList tyStr) [v22] r21.1.Got), (fDat (tyList tyS_api_Packet) [v23] r21.1.Held), (fDat (tyList tyS_api_Packet) [v24] r21.2.1), (fDat (tyList tyStr) [v16] r15.1.Got), (fDat (tyList tyS_api_Packet) [v17] r15.1.Held), (fDat (tyList tyStr) [v1_0] a1.Got), (fDat (tyList tyS_api_Packet) [v1_1] a1.Held)])) (S := (tab [(6, (bool false))])) ?_
       refine ta_end [] [] rfl rfl (by kernel_rfl) rfl trivial ?_
       refine aq_show (m := (memOf w0 Z0 [] [(oRow v42 63 tyS_api_Packet r41), (oBox g1 58 [v0_0, v0_1, (iq a0.Base)]), (oBox g3 63 [(iq a2.Kind), (iq a2.Seq), (str a2.Text)]), (oRow v8 63 tyS_api_Packet r7.1), (oBox g13 58 [v11, v12, (iq r10.1.Base)])] [(fDat (tyList tyStr) [v0_0] a0.Texts), (fDat (tyList tyBool) [v0_1] a0.Had), (fDat (tyList tyStr) [v11] r10.1.Texts), (fDat (tyList tyBool) [v12] r10.1.Had), (fDat (tyList tyStr) [v22] r21.1.Got), (fDat (tyList tyS_api_Packet) [v23] r21.1.Held), (fDat (tyList tyS_api_Packet) [v24] r21.2.1), (fDat (tyList tyStr) [v16] r15.1.Got), (fDat (tyList tyS_api_Packet) [v17] r15.1.Held), (fDat (tyList tyStr) [v1_0] a1.Got), (fDat (tyList tyS_api_Packet) [v1_1] a1.Held)])) (S := (tab [(6, (bool false))])) ?_
       exact aq_join false h (fun w a hm hs => norm hm hs [] [0, 1, 2, 3, 4, 5, 6, 7, 8, 9, 10] [(6, (bool false))] (by decide) ⟨rfl, trivial⟩)
     ·replace h := bif_f hb39 h
      refine aw_region_open [⟨0, 80, Unit, fun _ => { val := (iq r7.2) }⟩, ⟨1, 81, Unit, fun _ => { val := (bool (r7.2 == (0 : Int))) }⟩, ⟨2, 82, Unit, fun _ => { val := (bool false) }⟩, ⟨3, 83, Unit, fun _ => { val := undef }⟩, ⟨4, 84, Unit, fun _ => { val := undef }⟩] (tab [(3, (pq g1)), (5, (pq g3)), (8, v8), (9, (iq r7.2)), (10, (pq g13)), (11, (iq r10.2))]) mixed (fun a hs => hs.tab _ (allT_mem ⟨rfl, rfl, rfl, rfl, rfl, rfl, trivial⟩)) ?_
      refine ta_show (m := (memOf w0 Z0 [] [(oBox g1 58 [v0_0, v0_1, (iq a0.Base)]), (oBox g3 63 [(iq a2.Kind), (iq a2.Seq), (str a2.Text)]), (oRow v8 63 tyS_api_Packet r7.1), (oBox g13 58 [v11, v12, (iq r10.1.Base)])] [(fDat (tyList tyStr) [v0_0] a0.Texts), (fDat (tyList tyBool) [v0_1] a0.Had), (fDat (tyList tyStr) [v11] r10.1.Texts), (fDat (tyList tyBool) [v12] r10.1.Had), (fDat (tyList tyStr) [v22] r21.1.Got), (fDat (tyList tyS_api_Packet) [v23] r21.1.Held), (fDat (tyList tyS_api_Packet) [v24] r21.2.1), (fDat (tyList tyStr) [v16] r15.1.Got), (fDat (tyList tyS_api_Packet) [v17] r15.1.Held), (fDat (tyList tyStr) [v1_0] a1.Got), (fDat (tyList tyS_api_Packet) [v1_1] a1.Held)])) (S := (tab [(3, (pq g1)), (5, (pq g3)), (8, v8), (9, (iq r7.2)), (10, (pq g13)), (11, (iq r10.2))])) ?_
      refine ta_step 5 _ [0, 1, 2, 3, 4] [80, 81, 82, 83, 84] [0, 1, 2, 4] [] [⟨0, 80, Unit, fun _ => { val := (iq r7.2) }⟩, ⟨1, 81, Unit, fun _ => { val := (bool (r7.2 == (0 : Int))) }⟩, ⟨2, 82, Unit, fun _ => { val := (bool false) }⟩, ⟨4, 84, Unit, fun _ => { val := undef }⟩] [⟨3, 83, Unit, fun _ => { val := undef }⟩] rfl rfl rfl (by kernel_rfl) rfl rfl rfl ⟨⟨_, rfl, [], rfl, by
 intro X_ Y_ F_ K_ hK_
 refine al_show (m := Mem.plus (memOf w0 Z0 [] [(oBox g1 58 [v0_0, v0_1, (iq a0.Base)]), (oBox g3 63 [(iq a2.Kind), (iq a2.Seq), (str a2.Text)]), (oRow v8 63 tyS_api_Packet r7.1), (oBox g13 58 [v11, v12, (iq r10.1.Base)])] [(fDat (tyList tyStr) [v0_0] a0.Texts), (fDat (tyList tyBool) [v0_1] a0.Had), (fDat (tyList tyStr) [v11] r10.1.Texts), (fDat (tyList tyBool) [v12] r10.1.Had), (fDat (tyList tyStr) [v22] r21.1.Got), (fDat (tyList tyS_api_Packet) [v23] r21.1.Held), (fDat (tyList tyS_api_Packet) [v24] r21.2.1), (fDat (tyList tyStr) [v16] r15.1.Got), (fDat (tyList tyS_api_Packet) [v17] r15.1.Held), (fDat (tyList tyStr) [v1_0] a1.Got), (fDat (tyList tyS_api_Packet) [v1_1] a1.Held)]) X_ Y_) (S := over (tab [(3, (pq g1)), (5, (pq g3)), (8, v8), (9, (iq r7.2)), (10, (pq g13)), (11, (iq r10.2))]) F_) ?_
 refine al_mv rfl rfl ?_
 refine al_nil ?_
 exact fr_fin hK_ ()⟩, ⟨_, rfl, [0], rfl, by
 intro _
 intro X_ Y_ F_ K_ hK_
 refine al_show (m := Mem.plus (memOf w0 Z0 [] [(oBox g1 58 [v0_0, v0_1, (iq a0.Base)]), (oBox g3 63 [(iq a2.Kind), (iq a2.Seq), (str a2.Text)]), (oRow v8 63 tyS_api_Packet r7.1), (oBox g13 58 [v11, v12, (iq r10.1.Base)])] [(fDat (tyList tyStr) [v0_0] a0.Texts), (fDat (tyList tyBool) [v0_1] a0.Had), (fDat (tyList tyStr) [v11] r10.1.Texts), (fDat (tyList tyBool) [v12] r10.1.Had), (fDat (tyList tyStr) [v22] r21.1.Got), (fDat (tyList tyS_api_Packet) [v23] r21.1.Held), (fDat (tyList tyS_api_Packet) [v24] r21.2.1), (fDat (tyList tyStr) [v16] r15.1.Got), (fDat (tyList tyS_api_Packet) [v17] r15.1.Held), (fDat (tyList tyStr) [v1_0] a1.Got), (fDat (tyList tyS_api_Packet) [v1_1] a1.Held)]) X_ Y_) (S := over (put (tab [(3, (pq g1)), (5, (pq g3)), (8, v8), (9, (iq r7.2)), (10, (pq g13)), (11, (iq r10.2))]) 80 (iq r7.2)) F_) ?_
 refine al_in rfl rfl rfl rfl ?_
 refine al_nil ?_
 exact fr_fin hK_ ()⟩, ⟨_, rfl, [1], rfl, by
 intro _
 intro X_ Y_ F_ K_ hK_
 refine al_show (m := Mem.plus (memOf w0 Z0 [] [(oBox g1 58 [v0_0, v0_1, (iq a0.Base)]), (oBox g3 63 [(iq a2.Kind), (iq a2.Seq), (str a2.Text)]), (oRow v8 63 tyS_api_Packet r7.1), (oBox g13 58 [v11, v12, (iq r10.1.Base)])] [(fDat (tyList tyStr) [v0_0] a0.Texts), (fDat (tyList tyBool) [v0_1] a0.Had), (fDat (tyList tyStr) [v11] r10.1.Texts), (fDat (tyList tyBool) [v12] r10.1.Had), (fDat (tyList tyStr) [v22] r21.1.Got), (fDat (tyList tyS_api_Packet) [v23] r21.1.Held), (fDat (tyList tyS_api_Packet) [v24] r21.2.1), (fDat (tyList tyStr) [v16] r15.1.Got), (fDat (tyList tyS_api_Packet) [v17] r15.1.Held), (fDat (tyList tyStr) [v1_0] a1.Got), (fDat (tyList tyS_api_Packet) [v1_1] a1.Held)]) X_ Y_) (S := over (put (tab [(3, (pq g1)), (5, (pq g3)), (8, v8), (9, (iq r7.2)), (10, (pq g13)), (11, (iq r10.2))]) 81 (bool (r7.2 == (0 : Int)))) F_) ?_
 refine al_val (ov_cast (by first | rw [hb39] | rfl) (ov_move rfl rfl)) ?_
 refine al_nil ?_
 exact fr_fin hK_ ()⟩, ⟨_, rfl, [2], rfl, by
 intro _
 intro X_ Y_ F_ K_ hK_
 refine al_show (m := Mem.plus (memOf w0 Z0 [] [(oBox g1 58 [v0_0, v0_1, (iq a0.Base)]), (oBox g3 63 [(iq a2.Kind), (iq a2.Seq), (str a2.Text)]), (oRow v8 63 tyS_api_Packet r7.1), (oBox g13 58 [v11, v12, (iq r10.1.Base)])] [(fDat (tyList tyStr) [v0_0] a0.Texts), (fDat (tyList tyBool) [v0_1] a0.Had), (fDat (tyList tyStr) [v11] r10.1.Texts), (fDat (tyList tyBool) [v12] r10.1.Had), (fDat (tyList tyStr) [v22] r21.1.Got), (fDat (tyList tyS_api_Packet) [v23] r21.1.Held), (fDat (tyList tyS_api_Packet) [v24] r21.2.1), (fDat (tyList tyStr) [v16] r15.1.Got), (fDat (tyList tyS_api_Packet) [v17] r15.1.Held), (fDat (tyList tyStr) [v1_0] a1.Got), (fDat (tyList tyS_api_Packet) [v1_1] a1.Held)]) X_ Y_) (S := over (put (tab [(3, (pq g1)), (5, (pq g3)), (8, v8), (9, (iq r7.2)), (10, (pq g13)), (11, (iq r10.2))]) 82 (bool false)) F_) ?_
 refine al_skip ?_
 refine al_nil ?_
 exact fr_fin hK_ ()⟩, ⟨_, rfl, [2], rfl, by
 intro _
 intro X_ Y_ F_ K_ hK_
 refine al_show (m := Mem.plus (memOf w0 Z0 [] [(oBox g1 58 [v0_0, v0_1, (iq a0.Base)]), (oBox g3 63 [(iq a2.Kind), (iq a2.Seq), (str a2.Text)]), (oRow v8 63 tyS_api_Packet r7.1), (oBox g13 58 [v11, v12, (iq r10.1.Base)])] [(fDat (tyList tyStr) [v0_0] a0.Texts), (fDat (tyList tyBool) [v0_1] a0.Had), (fDat (tyList tyStr) [v11] r10.1.Texts), (fDat (tyList tyBool) [v12] r10.1.Had), (fDat (tyList tyStr) [v22] r21.1.Got), (fDat (tyList tyS_api_Packet) [v23] r21.1.Held), (fDat (tyList tyS_api_Packet) [v24] r21.2.1), (fDat (tyList tyStr) [v16] r15.1.Got), (fDat (tyList tyS_api_Packet) [v17] r15.1.Held), (fDat (tyList tyStr) [v1_0] a1.Got), (fDat (tyList tyS_api_Packet) [v1_1] a1.Held)]) X_ Y_) (S := over (put (tab [(3, (pq g1)), (5, (pq g3)), (8, v8), (9, (iq r7.2)), (10, (pq g13)), (11, (iq r10.2))]) 82 (bool false)) F_) ?_
 refine al_skip ?_
 refine al_nil ?_
 exact fr_fin hK_ ()⟩, trivial⟩ ?_
      intro _
      intro _
      intro _
      intro _
      intro X_ Y_ F_ K_ hK_
      refine al_show (m := Mem.plus (memOf w0 Z0 [] [(oBox g1 58 [v0_0, v0_1, (iq a0.Base)]), (oBox g3 63 [(iq a2.Kind), (iq a2.Seq), (str a2.Text)]), (oRow v8 63 tyS_api_Packet r7.1), (oBox g13 58 [v11, v12, (iq r10.1.Base)])] [(fDat (tyList tyStr) [v0_0] a0.Texts), (fDat (tyList tyBool) [v0_1] a0.Had), (fDat (tyList tyStr) [v11] r10.1.Texts), (fDat (tyList tyBool) [v12] r10.1.Had), (fDat (tyList tyStr) [v22] r21.1.Got), (fDat (tyList tyS_api_Packet) [v23] r21.1.Held), (fDat (tyList tyS_api_Packet) [v24] r21.2.1), (fDat (tyList tyStr) [v16] r15.1.Got), (fDat (tyList tyS_api_Packet) [v17] r15.1.Held), (fDat (tyList tyStr) [v1_0] a1.Got), (fDat (tyList tyS_api_Packet) [v1_1] a1.Held)]) X_ Y_) (S := over (put (put (put (put (tab [(3, (pq g1)), (5, (pq g3)), (8, v8), (9, (iq r7.2)), (10, (pq g13)), (11, (iq r10.2))]) 80 (iq r7.2)) 81 (bool (r7.2 == (0 : Int)))) 82 (bool false)) 84 undef) F_) ?_
      refine al_skip ?_
      refine al_nil ?_
      refine aq_show (m := Mem.plus (memOf w0 Z0 [] [(oBox g1 58 [v0_0, v0_1, (iq a0.Base)]), (oBox g3 63 [(iq a2.Kind), (iq a2.Seq), (str a2.Text)]), (oRow v8 63 tyS_api_Packet r7.1), (oBox g13 58 [v11, v12, (iq r10.1.Base)])] [(fDat (tyList tyStr) [v0_0] a0.Texts), (fDat (tyList tyBool) [v0_1] a0.Had), (fDat (tyList tyStr) [v11] r10.1.Texts), (fDat (tyList tyBool) [v12] r10.1.Had), (fDat (tyList tyStr) [v22] r21.1.Got), (fDat (tyList tyS_api_Packet) [v23] r21.1.Held), (fDat (tyList tyS_api_Packet) [v24] r21.2.1), (fDat (tyList tyStr) [v16] r15.1.Got), (fDat (tyList tyS_api_Packet) [v17] r15.1.Held), (fDat (tyList tyStr) [v1_0] a1.Got), (fDat (tyList tyS_api_Packet) [v1_1] a1.Held)]) X_ Y_) ?_
      refine aq_next hK_ [0, 1, 2, 3] [0, 1, 2, 3, 4, 5, 6, 7, 8, 9, 10] [(3, (pq g1)), (5, (pq g3)), (8, v8), (10, (pq g13)), (11, (iq r10.2)), (82, (bool false)), (85, undef)] [83] [] rfl rfl (by decide) rfl ⟨rfl, rfl, rfl, rfl, rfl, rfl, rfl, trivial⟩ ⟨rfl, trivial⟩ ?_
      clear hK_ K_ F_ X_ Y_
      refine ta_show (m := (memOf w0 Z0 [] [(oBox g1 58 [v0_0, v0_1, (iq a0.Base)]), (oBox g3 63 [(iq a2.Kind), (iq a2.Seq), (str a2.Text)]), (oRow v8 63 tyS_api_Packet r7.1), (oBox g13 58 [v11, v12, (iq r10.1.Base)])] [(fDat (tyList tyStr) [v0_0] a0.Texts), (fDat (tyList tyBool) [v0_1] a0.Had), (fDat (tyList tyStr) [v11] r10.1.Texts), (fDat (tyList tyBool) [v12] r10.1.Had), (fDat (tyList tyStr) [v22] r21.1.Got), (fDat (tyList tyS_api_Packet) [v23] r21.1.Held), (fDat (tyList tyS_api_Packet) [v24] r21.2.1), (fDat (tyList tyStr) [v16] r15.1.Got), (fDat (tyList tyS_api_Packet) [v17] r15.1.Held), (fDat (tyList tyStr) [v1_0] a1.Got), (fDat (tyList tyS_api_Packet) [v1_1] a1.Held)])) (S := (tab [(3, (pq g1)), (5, (pq g3)), (8, v8), (10, (pq g13)), (11, (iq r10.2)), (82, (bool false)), (85, undef)])) ?_
      refine ta_step 6 _ [3] [83] [3] [7, 8, 9, 10, 11, 12, 13, 14, 15] [⟨3, 83, Unit, fun _ => { val := undef }⟩] [] rfl rfl rfl (by kernel_rfl) rfl rfl rfl ⟨⟨_, rfl, [], rfl, by
 intro X_ Y_ F_ K_ hK_
 refine al_show (m := Mem.plus (memOf w0 Z0 [] [(oBox g1 58 [v0_0, v0_1, (iq a0.Base)]), (oBox g3 63 [(iq a2.Kind), (iq a2.Seq), (str a2.Text)]), (oRow v8 63 tyS_api_Packet r7.1), (oBox g13 58 [v11, v12, (iq r10.1.Base)])] [(fDat (tyList tyStr) [v0_0] a0.Texts), (fDat (tyList tyBool) [v0_1] a0.Had), (fDat (tyList tyStr) [v11] r10.1.Texts), (fDat (tyList tyBool) [v12] r10.1.Had), (fDat (tyList tyStr) [v22] r21.1.Got), (fDat (tyList tyS_api_Packet) [v23] r21.1.Held), (fDat (tyList tyS_api_Packet) [v24] r21.2.1), (fDat (tyList tyStr) [v16] r15.1.Got), (fDat (tyList tyS_api_Packet) [v17] r15.1.Held), (fDat (tyList tyStr) [v1_0] a1.Got), (fDat (tyList tyS_api_Packet) [v1_1] a1.Held)]) X_ Y_) (S := over (tab [(3, (pq g1)), (5, (pq g3)), (8, v8), (10, (pq g13)), (11, (iq r10.2)), (82, (bool false)), (85, undef)]) F_) ?_
 refine al_skip ?_
 refine al_nil ?_
 exact fr_fin hK_ ()⟩, trivial⟩ ?_
      intro _
      intro X_ Y_ F_ K_ hK_
      refine al_show (m := Mem.plus (memOf w0 Z0 [] [(oBox g1 58 [v0_0, v0_1, (iq a0.Base)]), (oBox g3 63 [(iq a2.Kind), (iq a2.Seq), (str a2.Text)]), (oRow v8 63 tyS_api_Packet r7.1), (oBox g13 58 [v11, v12, (iq r10.1.Base)])] [(fDat (tyList tyStr) [v0_0] a0.Texts), (fDat (tyList tyBool) [v0_1] a0.Had), (fDat (tyList tyStr) [v11] r10.1.Texts), (fDat (tyList tyBool) [v12] r10.1.Had), (fDat (tyList tyStr) [v22] r21.1.Got), (fDat (tyList tyS_api_Packet) [v23] r21.1.Held), (fDat (tyList tyS_api_Packet) [v24] r21.2.1), (fDat (tyList tyStr) [v16] r15.1.Got), (fDat (tyList tyS_api_Packet) [v17] r15.1.Held), (fDat (tyList tyStr) [v1_0] a1.Got), (fDat (tyList tyS_api_Packet) [v1_1] a1.Held)]) X_ Y_) (S := over (put (tab [(3, (pq g1)), (5, (pq g3)), (8, v8), (10, (pq g13)), (11, (iq r10.2)), (82, (bool false)), (85, undef)]) 83 undef) F_) ?_
      refine al_skip ?_
      refine al_nil ?_
      refine aq_show (m := Mem.plus (memOf w0 Z0 [] [(oBox g1 58 [v0_0, v0_1, (iq a0.Base)]), (oBox g3 63 [(iq a2.Kind), (iq a2.Seq), (str a2.Text)]), (oRow v8 63 tyS_api_Packet r7.1), (oBox g13 58 [v11, v12, (iq r10.1.Base)])] [(fDat (tyList tyStr) [v0_0] a0.Texts), (fDat (tyList tyBool) [v0_1] a0.Had), (fDat (tyList tyStr) [v11] r10.1.Texts), (fDat (tyList tyBool) [v12] r10.1.Had), (fDat (tyList tyStr) [v22] r21.1.Got), (fDat (tyList tyS_api_Packet) [v23] r21.1.Held), (fDat (tyList tyS_api_Packet) [v24] r21.2.1), (fDat (tyList tyStr) [v16] r15.1.Got), (fDat (tyList tyS_api_Packet) [v17] r15.1.Held), (fDat (tyList tyStr) [v1_0] a1.Got), (fDat (tyList tyS_api_Packet) [v1_1] a1.Held)]) X_ Y_) ?_
      refine aq_next hK_ [0, 1, 2, 3] [0, 1, 2, 3, 4, 5, 6, 7, 8, 9, 10] [(3, (pq g1)), (5, (pq g3)), (10, (pq g13)), (11, (iq r10.2)), (82, (bool false)), (86, undef)] [] [⟨7, 87, Unit, fun _ => { val := (bool false) }⟩, ⟨8, 88, Unit, fun _ => { val := (bool false) }⟩, ⟨9, 89, Unit, fun _ => { val := undef }⟩, ⟨10, 90, Unit, fun _ => { val := undef }⟩, ⟨11, 91, Unit, fun _ => { val := (bool false) }⟩, ⟨12, 92, Unit, fun _ => { val := (bool false) }⟩, ⟨13, 93, Unit, fun _ => { val := undef }⟩, ⟨14, 94, Unit, fun _ => { val := undef }⟩, ⟨15, 95, Unit, fun _ => { val := undef }⟩] rfl rfl (by decide) rfl ⟨rfl, rfl, rfl, rfl, rfl, rfl, trivial⟩ trivial ?_
      clear hK_ K_ F_ X_ Y_
      refine ta_show (m := (memOf w0 Z0 [] [(oBox g1 58 [v0_0, v0_1, (iq a0.Base)]), (oBox g3 63 [(iq a2.Kind), (iq a2.Seq), (str a2.Text)]), (oRow v8 63 tyS_api_Packet r7.1), (oBox g13 58 [v11, v12, (iq r10.1.Base)])] [(fDat (tyList tyStr) [v0_0] a0.Texts), (fDat (tyList tyBool) [v0_1] a0.Had), (fDat (tyList tyStr) [v11] r10.1.Texts), (fDat (tyList tyBool) [v12] r10.1.Had), (fDat (tyList tyStr) [v22] r21.1.Got), (fDat (tyList tyS_api_Packet) [v23] r21.1.Held), (fDat (tyList tyS_api_Packet) [v24] r21.2.1), (fDat (tyList tyStr) [v16] r15.1.Got), (fDat (tyList tyS_api_Packet) [v17] r15.1.Held), (fDat (tyList tyStr) [v1_0] a1.Got), (fDat (tyList tyS_api_Packet) [v1_1] a1.Held)])) (S := (tab [(3, (pq g1)), (5, (pq g3)), (10, (pq g13)), (11, (iq r10.2)), (82, (bool false)), (86, undef)])) ?_
      refine ta_step 16 _ [7, 8, 9, 10, 11, 12, 13, 14, 15] [87, 88, 89, 90, 91, 92, 93, 94, 95] [7, 8, 9, 10, 11, 12, 14, 15] [] [⟨7, 87, Unit, fun _ => { val := (bool false) }⟩, ⟨8, 88, Unit, fun _ => { val := (bool false) }⟩, ⟨9, 89, Unit, fun _ => { val := undef }⟩, ⟨10, 90, Unit, fun _ => { val := undef }⟩, ⟨11, 91, Unit, fun _ => { val := (bool false) }⟩, ⟨12, 92, Unit, fun _ => { val := (bool false) }⟩, ⟨14, 94, Unit, fun _ => { val := undef }⟩, ⟨15, 95, Unit, fun _ => { val := undef }⟩] [⟨13, 93, Unit, fun _ => { val := undef }⟩] rfl rfl rfl (by kernel_rfl) rfl rfl rfl ⟨⟨_, rfl, [], rfl, by
 intro X_ Y_ F_ K_ hK_
 refine al_show (m := Mem.plus (memOf w0 Z0 [] [(oBox g1 58 [v0_0, v0_1, (iq a0.Base)]), (oBox g3 63 [(iq a2.Kind), (iq a2.Seq), (str a2.Text)]), (oRow v8 63 tyS_api_Packet r7.1), (oBox g13 58 [v11, v12, (iq r10.1.Base)])] [(fDat (tyList tyStr) [v0_0] a0.Texts), (fDat (tyList tyBool) [v0_1] a0.Had), (fDat (tyList tyStr) [v11] r10.1.Texts), (fDat (tyList tyBool) [v12] r10.1.Had), (fDat (tyList tyStr) [v22] r21.1.Got), (fDat (tyList tyS_api_Packet) [v23] r21.1.Held), (fDat (tyList tyS_api_Packet) [v24] r21.2.1), (fDat (tyList tyStr) [v16] r15.1.Got), (fDat (tyList tyS_api_Packet) [v17] r15.1.Held), (fDat (tyList tyStr) [v1_0] a1.Got), (fDat (tyList tyS_api_Packet) [v1_1] a1.Held)]) X_ Y_) (S := over (tab [(3, (pq g1)), (5, (pq g3)), (10, (pq g13)), (11, (iq r10.2)), (82, (bool false)), (86, undef)]) F_) ?_
 refine al_val (ov_pick_f rfl rfl rfl) ?_
 refine al_nil ?_
 exact fr_fin hK_ ()⟩, ⟨_, rfl, [0], rfl, by
 intro _
 intro X_ Y_ F_ K_ hK_
 refine al_show (m := Mem.plus (memOf w0 Z0 [] [(oBox g1 58 [v0_0, v0_1, (iq a0.Base)]), (oBox g3 63 [(iq a2.Kind), (iq a2.Seq), (str a2.Text)]), (oRow v8 63 tyS_api_Packet r7.1), (oBox g13 58 [v11, v12, (iq r10.1.Base)])] [(fDat (tyList tyStr) [v0_0] a0.Texts), (fDat (tyList tyBool) [v0_1] a0.Had), (fDat (tyList tyStr) [v11] r10.1.Texts), (fDat (tyList tyBool) [v12] r10.1.Had), (fDat (tyList tyStr) [v22] r21.1.Got), (fDat (tyList tyS_api_Packet) [v23] r21.1.Held), (fDat (tyList tyS_api_Packet) [v24] r21.2.1), (fDat (tyList tyStr) [v16] r15.1.Got), (fDat (tyList tyS_api_Packet) [v17] r15.1.Held), (fDat (tyList tyStr) [v1_0] a1.Got), (fDat (tyList tyS_api_Packet) [v1_1] a1.Held)]) X_ Y_) (S := over (put (tab [(3, (pq g1)), (5, (pq g3)), (10, (pq g13)), (11, (iq r10.2)), (82, (bool false)), (86, undef)]) 87 (bool false)) F_) ?_
 refine al_mv rfl rfl ?_
 refine al_nil ?_
 exact fr_fin hK_ ()⟩, ⟨_, rfl, [1], rfl, by
 intro _
 intro X_ Y_ F_ K_ hK_
 refine al_show (m := Mem.plus (memOf w0 Z0 [] [(oBox g1 58 [v0_0, v0_1, (iq a0.Base)]), (oBox g3 63 [(iq a2.Kind), (iq a2.Seq), (str a2.Text)]), (oRow v8 63 tyS_api_Packet r7.1), (oBox g13 58 [v11, v12, (iq r10.1.Base)])] [(fDat (tyList tyStr) [v0_0] a0.Texts), (fDat (tyList tyBool) [v0_1] a0.Had), (fDat (tyList tyStr) [v11] r10.1.Texts), (fDat (tyList tyBool) [v12] r10.1.Had), (fDat (tyList tyStr) [v22] r21.1.Got), (fDat (tyList tyS_api_Packet) [v23] r21.1.Held), (fDat (tyList tyS_api_Packet) [v24] r21.2.1), (fDat (tyList tyStr) [v16] r15.1.Got), (fDat (tyList tyS_api_Packet) [v17] r15.1.Held), (fDat (tyList tyStr) [v1_0] a1.Got), (fDat (tyList tyS_api_Packet) [v1_1] a1.Held)]) X_ Y_) (S := over (put (tab [(3, (pq g1)), (5, (pq g3)), (10, (pq g13)), (11, (iq r10.2)), (82, (bool false)), (86, undef)]) 88 (bool false)) F_) ?_
 refine al_skip ?_
 refine al_nil ?_
 exact fr_fin hK_ ()⟩, ⟨_, rfl, [1, 2], rfl, by
 intro _
 intro _
 intro X_ Y_ F_ K_ hK_
 refine al_show (m := Mem.plus (memOf w0 Z0 [] [(oBox g1 58 [v0_0, v0_1, (iq a0.Base)]), (oBox g3 63 [(iq a2.Kind), (iq a2.Seq), (str a2.Text)]), (oRow v8 63 tyS_api_Packet r7.1), (oBox g13 58 [v11, v12, (iq r10.1.Base)])] [(fDat (tyList tyStr) [v0_0] a0.Texts), (fDat (tyList tyBool) [v0_1] a0.Had), (fDat (tyList tyStr) [v11] r10.1.Texts), (fDat (tyList tyBool) [v12] r10.1.Had), (fDat (tyList tyStr) [v22] r21.1.Got), (fDat (tyList tyS_api_Packet) [v23] r21.1.Held), (fDat (tyList tyS_api_Packet) [v24] r21.2.1), (fDat (tyList tyStr) [v16] r15.1.Got), (fDat (tyList tyS_api_Packet) [v17] r15.1.Held), (fDat (tyList tyStr) [v1_0] a1.Got), (fDat (tyList tyS_api_Packet) [v1_1] a1.Held)]) X_ Y_) (S := over (put (put (tab [(3, (pq g1)), (5, (pq g3)), (10, (pq g13)), (11, (iq r10.2)), (82, (bool false)), (86, undef)]) 88 (bool false)) 89 undef) F_) ?_
 refine al_skip ?_
 refine al_nil ?_
 exact fr_fin hK_ ()⟩, ⟨_, rfl, [1, 3], rfl, by
 intro _
 intro _
 intro X_ Y_ F_ K_ hK_
 refine al_show (m := Mem.plus (memOf w0 Z0 [] [(oBox g1 58 [v0_0, v0_1, (iq a0.Base)]), (oBox g3 63 [(iq a2.Kind), (iq a2.Seq), (str a2.Text)]), (oRow v8 63 tyS_api_Packet r7.1), (oBox g13 58 [v11, v12, (iq r10.1.Base)])] [(fDat (tyList tyStr) [v0_0] a0.Texts), (fDat (tyList tyBool) [v0_1] a0.Had), (fDat (tyList tyStr) [v11] r10.1.Texts), (fDat (tyList tyBool) [v12] r10.1.Had), (fDat (tyList tyStr) [v22] r21.1.Got), (fDat (tyList tyS_api_Packet) [v23] r21.1.Held), (fDat (tyList tyS_api_Packet) [v24] r21.2.1), (fDat (tyList tyStr) [v16] r15.1.Got), (fDat (tyList tyS_api_Packet) [v17] r15.1.Held), (fDat (tyList tyStr) [v1_0] a1.Got), (fDat (tyList tyS_api_Packet) [v1_1] a1.Held)]) X_ Y_) (S := over (put (put (tab [(3, (pq g1)), (5, (pq g3)), (10, (pq g13)), (11, (iq r10.2)), (82, (bool false)), (86, undef)]) 88 (bool false)) 90 undef) F_) ?_
 refine al_val (ov_pick_f rfl rfl rfl) ?_
 refine al_nil ?_
 exact fr_fin hK_ ()⟩, ⟨_, rfl, [1, 4], rfl, by
 intro _
 intro _
 intro X_ Y_ F_ K_ hK_
 refine al_show (m := Mem.plus (memOf w0 Z0 [] [(oBox g1 58 [v0_0, v0_1, (iq a0.Base)]), (oBox g3 63 [(iq a2.Kind), (iq a2.Seq), (str a2.Text)]), (oRow v8 63 tyS_api_Packet r7.1), (oBox g13 58 [v11, v12, (iq r10.1.Base)])] [(fDat (tyList tyStr) [v0_0] a0.Texts), (fDat (tyList tyBool) [v0_1] a0.Had), (fDat (tyList tyStr) [v11] r10.1.Texts), (fDat (tyList tyBool) [v12] r10.1.Had), (fDat (tyList tyStr) [v22] r21.1.Got), (fDat (tyList tyS_api_Packet) [v23] r21.1.Held), (fDat (tyList tyS_api_Packet) [v24] r21.2.1), (fDat (tyList tyStr) [v16] r15.1.Got), (fDat (tyList tyS_api_Packet) [v17] r15.1.Held), (fDat (tyList tyStr) [v1_0] a1.Got), (fDat (tyList tyS_api_Packet) [v1_1] a1.Held)]) X_ Y_) (S := over (put (put (tab [(3, (pq g1)), (5, (pq g3)), (10, (pq g13)), (11, (iq r10.2)), (82, (bool false)), (86, undef)]) 88 (bool false)) 91 (bool false)) F_) ?_
 refine al_mv rfl rfl ?_
 refine al_nil ?_
 exact fr_fin hK_ ()⟩, ⟨_, rfl, [5], rfl, by
 intro _
 intro X_ Y_ F_ K_ hK_
 refine al_show (m := Mem.plus (memOf w0 Z0 [] [(oBox g1 58 [v0_0, v0_1, (iq a0.Base)]), (oBox g3 63 [(iq a2.Kind), (iq a2.Seq), (str a2.Text)]), (oRow v8 63 tyS_api_Packet r7.1), (oBox g13 58 [v11, v12, (iq r10.1.Base)])] [(fDat (tyList tyStr) [v0_0] a0.Texts), (fDat (tyList tyBool) [v0_1] a0.Had), (fDat (tyList tyStr) [v11] r10.1.Texts), (fDat (tyList tyBool) [v12] r10.1.Had), (fDat (tyList tyStr) [v22] r21.1.Got), (fDat (tyList tyS_api_Packet) [v23] r21.1.Held), (fDat (tyList tyS_api_Packet) [v24] r21.2.1), (fDat (tyList tyStr) [v16] r15.1.Got), (fDat (tyList tyS_api_Packet) [v17] r15.1.Held), (fDat (tyList tyStr) [v1_0] a1.Got), (fDat (tyList tyS_api_Packet) [v1_1] a1.Held)]) X_ Y_) (S := over (put (tab [(3, (pq g1)), (5, (pq g3)), (10, (pq g13)), (11, (iq r10.2)), (82, (bool false)), (86, undef)]) 92 (bool false)) F_) ?_
 refine al_skip ?_
 refine al_nil ?_
 exact fr_fin hK_ ()⟩, ⟨_, rfl, [5], rfl, by
 intro _
 intro X_ Y_ F_ K_ hK_
 refine al_show (m := Mem.plus (memOf w0 Z0 [] [(oBox g1 58 [v0_0, v0_1, (iq a0.Base)]), (oBox g3 63 [(iq a2.Kind), (iq a2.Seq), (str a2.Text)]), (oRow v8 63 tyS_api_Packet r7.1), (oBox g13 58 [v11, v12, (iq r10.1.Base)])] [(fDat (tyList tyStr) [v0_0] a0.Texts), (fDat (tyList tyBool) [v0_1] a0.Had), (fDat (tyList tyStr) [v11] r10.1.Texts), (fDat (tyList tyBool) [v12] r10.1.Had), (fDat (tyList tyStr) [v22] r21.1.Got), (fDat (tyList tyS_api_Packet) [v23] r21.1.Held), (fDat (tyList tyS_api_Packet) [v24] r21.2.1), (fDat (tyList tyStr) [v16] r15.1.Got), (fDat (tyList tyS_api_Packet) [v17] r15.1.Held), (fDat (tyList tyStr) [v1_0] a1.Got), (fDat (tyList tyS_api_Packet) [v1_1] a1.Held)]) X_ Y_) (S := over (put (tab [(3, (pq g1)), (5, (pq g3)), (10, (pq g13)), (11, (iq r10.2)), (82, (bool false)), (86, undef)]) 92 (bool false)) F_) ?_
 refine al_skip ?_
 refine al_nil ?_
 exact fr_fin hK_ ()⟩, ⟨_, rfl, [5], rfl, by
 intro _
 intro X_ Y_ F_ K_ hK_
 refine al_show (m := Mem.plus (memOf w0 Z0 [] [(oBox g1 58 [v0_0, v0_1, (iq a0.Base)]), (oBox g3 63 [(iq a2.Kind), (iq a2.Seq), (str a2.Text)]), (oRow v8 63 tyS_api_Packet r7.1), (oBox g13 58 [v11, v12, (iq r10.1.Base)])] [(fDat (tyList tyStr) [v0_0] a0.Texts), (fDat (tyList tyBool) [v0_1] a0.Had), (fDat (tyList tyStr) [v11] r10.1.Texts), (fDat (tyList tyBool) [v12] r10.1.Had), (fDat (tyList tyStr) [v22] r21.1.Got), (fDat (tyList tyS_api_Packet) [v23] r21.1.Held), (fDat (tyList tyS_api_Packet) [v24] r21.2.1), (fDat (tyList tyStr) [v16] r15.1.Got), (fDat (tyList tyS_api_Packet) [v17] r15.1.Held), (fDat (tyList tyStr) [v1_0] a1.Got), (fDat (tyList tyS_api_Packet) [v1_1] a1.Held)]) X_ Y_) (S := over (put (tab [(3, (pq g1)), (5, (pq g3)), (10, (pq g13)), (11, (iq r10.2)), (82, (bool false)), (86, undef)]) 92 (bool false)) F_) ?_
 refine al_skip ?_
 refine al_nil ?_
 exact fr_fin hK_ ()⟩, trivial⟩ ?_
      intro _
      intro _
      intro _
      intro _
      intro _
      intro _
      intro _
      intro _
      intro X_ Y_ F_ K_ hK_
      refine al_show (m := Mem.plus (memOf w0 Z0 [] [(oBox g1 58 [v0_0, v0_1, (iq a0.Base)]), (oBox g3 63 [(iq a2.Kind), (iq a2.Seq), (str a2.Text)]), (oRow v8 63 tyS_api_Packet r7.1), (oBox g13 58 [v11, v12, (iq r10.1.Base)])] [(fDat (tyList tyStr) [v0_0] a0.Texts), (fDat (tyList tyBool) [v0_1] a0.Had), (fDat (tyList tyStr) [v11] r10.1.Texts), (fDat (tyList tyBool) [v12] r10.1.Had), (fDat (tyList tyStr) [v22] r21.1.Got), (fDat (tyList tyS_api_Packet) [v23] r21.1.Held), (fDat (tyList tyS_api_Packet) [v24] r21.2.1), (fDat (tyList tyStr) [v16] r15.1.Got), (fDat (tyList tyS_api_Packet) [v17] r15.1.Held), (fDat (tyList tyStr) [v1_0] a1.Got), (fDat (tyList tyS_api_Packet) [v1_1] a1.Held)]) X_ Y_) (S := over (put (put (put (put (put (put (put (put (tab [(3, (pq g1)), (5, (pq g3)), (10, (pq g13)), (11, (iq r10.2)), (82, (bool false)), (86, undef)]) 87 (bool false)) 88 (bool false)) 89 undef) 90 undef) 91 (bool false)) 92 (bool false)) 94 undef) 95 undef) F_) ?_
      refine al_skip ?_
      refine al_nil ?_
      refine aq_show (m := Mem.plus (memOf w0 Z0 [] [(oBox g1 58 [v0_0, v0_1, (iq a0.Base)]), (oBox g3 63 [(iq a2.Kind), (iq a2.Seq), (str a2.Text)]), (oRow v8 63 tyS_api_Packet r7.1), (oBox g13 58 [v11, v12, (iq r10.1.Base)])] [(fDat (tyList tyStr) [v0_0] a0.Texts), (fDat (tyList tyBool) [v0_1] a0.Had), (fDat (tyList tyStr) [v11] r10.1.Texts), (fDat (tyList tyBool) [v12] r10.1.Had), (fDat (tyList tyStr) [v22] r21.1.Got), (fDat (tyList tyS_api_Packet) [v23] r21.1.Held), (fDat (tyList tyS_api_Packet) [v24] r21.2.1), (fDat (tyList tyStr) [v16] r15.1.Got), (fDat (tyList tyS_api_Packet) [v17] r15.1.Held), (fDat (tyList tyStr) [v1_0] a1.Got), (fDat (tyList tyS_api_Packet) [v1_1] a1.Held)]) X_ Y_) ?_
      refine aq_next hK_ [0, 1, 2, 3] [0, 1, 2, 3, 4, 5, 6, 7, 8, 9, 10] [(10, (pq g13)), (92, (bool false)), (96, undef)] [93] [] rfl rfl (by decide) rfl ⟨rfl, rfl, rfl, trivial⟩ ⟨rfl, trivial⟩ ?_
      clear hK_ K_ F_ X_ Y_
      refine ta_show (m := (memOf w0 Z0 [] [(oBox g1 58 [v0_0, v0_1, (iq a0.Base)]), (oBox g3 63 [(iq a2.Kind), (iq a2.Seq), (str a2.Text)]), (oRow v8 63 tyS_api_Packet r7.1), (oBox g13 58 [v11, v12, (iq r10.1.Base)])] [(fDat (tyList tyStr) [v0_0] a0.Texts), (fDat (tyList tyBool) [v0_1] a0.Had), (fDat (tyList tyStr) [v11] r10.1.Texts), (fDat (tyList tyBool) [v12] r10.1.Had), (fDat (tyList tyStr) [v22] r21.1.Got), (fDat (tyList tyS_api_Packet) [v23] r21.1.Held), (fDat (tyList tyS_api_Packet) [v24] r21.2.1), (fDat (tyList tyStr) [v16] r15.1.Got), (fDat (tyList tyS_api_Packet) [v17] r15.1.Held), (fDat (tyList tyStr) [v1_0] a1.Got), (fDat (tyList tyS_api_Packet) [v1_1] a1.Held)])) (S := (tab [(10, (pq g13)), (92, (bool false)), (96, undef)])) ?_
      refine ta_step 17 _ [13] [93] [13] [18] [⟨13, 93, Unit, fun _ => { val := undef }⟩] [] rfl rfl rfl (by kernel_rfl) rfl rfl rfl ⟨⟨_, rfl, [], rfl, by
 intro X_ Y_ F_ K_ hK_
 refine al_show (m := Mem.plus (memOf w0 Z0 [] [(oBox g1 58 [v0_0, v0_1, (iq a0.Base)]), (oBox g3 63 [(iq a2.Kind), (iq a2.Seq), (str a2.Text)]), (oRow v8 63 tyS_api_Packet r7.1), (oBox g13 58 [v11, v12, (iq r10.1.Base)])] [(fDat (tyList tyStr) [v0_0] a0.Texts), (fDat (tyList tyBool) [v0_1] a0.Had), (fDat (tyList tyStr) [v11] r10.1.Texts), (fDat (tyList tyBool) [v12] r10.1.Had), (fDat (tyList tyStr) [v22] r21.1.Got), (fDat (tyList tyS_api_Packet) [v23] r21.1.Held), (fDat (tyList tyS_api_Packet) [v24] r21.2.1), (fDat (tyList tyStr) [v16] r15.1.Got), (fDat (tyList tyS_api_Packet) [v17] r15.1.Held), (fDat (tyList tyStr) [v1_0] a1.Got), (fDat (tyList tyS_api_Packet) [v1_1] a1.Held)]) X_ Y_) (S := over (tab [(10, (pq g13)), (92, (bool false)), (96, undef)]) F_) ?_
 refine al_skip ?_
 refine al_nil ?_
 exact fr_fin hK_ ()⟩, trivial⟩ ?_
      intro _
      intro X_ Y_ F_ K_ hK_
      refine al_show (m := Mem.plus (memOf w0 Z0 [] [(oBox g1 58 [v0_0, v0_1, (iq a0.Base)]), (oBox g3 63 [(iq a2.Kind), (iq a2.Seq), (str a2.Text)]), (oRow v8 63 tyS_api_Packet r7.1), (oBox g13 58 [v11, v12, (iq r10.1.Base)])] [(fDat (tyList tyStr) [v0_0] a0.Texts), (fDat (tyList tyBool) [v0_1] a0.Had), (fDat (tyList tyStr) [v11] r10.1.Texts), (fDat (tyList tyBool) [v12] r10.1.Had), (fDat (tyList tyStr) [v22] r21.1.Got), (fDat (tyList tyS_api_Packet) [v23] r21.1.Held), (fDat (tyList tyS_api_Packet) [v24] r21.2.1), (fDat (tyList tyStr) [v16] r15.1.Got), (fDat (tyList tyS_api_Packet) [v17] r15.1.Held), (fDat (tyList tyStr) [v1_0] a1.Got), (fDat (tyList tyS_api_Packet) [v1_1] a1.Held)]) X_ Y_) (S := over (put (tab [(10, (pq g13)), (92, (bool false)), (96, undef)]) 93 undef) F_) ?_
      refine al_skip ?_
      refine al_nil ?_
      refine aq_show (m := Mem.plus (memOf w0 Z0 [] [(oBox g1 58 [v0_0, v0_1, (iq a0.Base)]), (oBox g3 63 [(iq a2.Kind), (iq a2.Seq), (str a2.Text)]), (oRow v8 63 tyS_api_Packet r7.1), (oBox g13 58 [v11, v12, (iq r10.1.Base)])] [(fDat (tyList tyStr) [v0_0] a0.Texts), (fDat (tyList tyBool) [v0_1] a0.Had), (fDat (tyList tyStr) [v11] r10.1.Texts), (fDat (tyList tyBool) [v12] r10.1.Had), (fDat (tyList tyStr) [v22] r21.1.Got), (fDat (tyList tyS_api_Packet) [v23] r21.1.Held), (fDat (tyList tyS_api_Packet) [v24] r21.2.1), (fDat (tyList tyStr) [v16] r15.1.Got), (fDat (tyList tyS_api_Packet) [v17] r15.1.Held), (fDat (tyList tyStr) [v1_0] a1.Got), (fDat (tyList tyS_api_Packet) [v1_1] a1.Held)]) X_ Y_) ?_
      refine aq_next hK_ [0, 1, 2, 3] [0, 1, 2, 3, 4, 5, 6, 7, 8, 9, 10] [(92, (bool false)), (97, undef)] [] [⟨18, 98, Unit, fun _ => { val := (bool false) }⟩] rfl rfl (by decide) rfl ⟨rfl, rfl, trivial⟩ trivial ?_
      clear hK_ K_ F_ X_ Y_
      refine ta_show (m := (memOf w0 Z0 [] [(oBox g1 58 [v0_0, v0_1, (iq a0.Base)]), (oBox g3 63 [(iq a2.Kind), (iq a2.Seq), (str a2.Text)]), (oRow v8 63 tyS_api_Packet r7.1), (oBox g13 58 [v11, v12, (iq r10.1.Base)])] [(fDat (tyList tyStr) [v0_0] a0.Texts), (fDat (tyList tyBool) [v0_1] a0.Had), (fDat (tyList tyStr) [v11] r10.1.Texts), (fDat (tyList tyBool) [v12] r10.1.Had), (fDat (tyList tyStr) [v22] r21.1.Got), (fDat (tyList tyS_api_Packet) [v23] r21.1.Held), (fDat (tyList tyS_api_Packet) [v24] r21.2.1), (fDat (tyList tyStr) [v16] r15.1.Got), (fDat (tyList tyS_api_Packet) [v17] r15.1.Held), (fDat (tyList tyStr) [v1_0] a1.Got), (fDat (tyList tyS_api_Packet) [v1_1] a1.Held)])) (S := (tab [(92, (bool false)), (97, undef)])) ?_
      refine ta_step 19 _ [18] [98] [18] [] [⟨18, 98, Unit, fun _ => { val := (bool false) }⟩] [] rfl rfl rfl (by kernel_rfl) rfl rfl rfl ⟨⟨_, rfl, [], rfl, by
 intro X_ Y_ F_ K_ hK_
 refine al_show (m := Mem.plus (memOf w0 Z0 [] [(oBox g1 58 [v0_0, v0_1, (iq a0.Base)]), (oBox g3 63 [(iq a2.Kind), (iq a2.Seq), (str a2.Text)]), (oRow v8 63 tyS_api_Packet r7.1), (oBox g13 58 [v11, v12, (iq r10.1.Base)])] [(fDat (tyList tyStr) [v0_0] a0.Texts), (fDat (tyList tyBool) [v0_1] a0.Had), (fDat (tyList tyStr) [v11] r10.1.Texts), (fDat (tyList tyBool) [v12] r10.1.Had), (fDat (tyList tyStr) [v22] r21.1.Got), (fDat (tyList tyS_api_Packet) [v23] r21.1.Held), (fDat (tyList tyS_api_Packet) [v24] r21.2.1), (fDat (tyList tyStr) [v16] r15.1.Got), (fDat (tyList tyS_api_Packet) [v17] r15.1.Held), (fDat (tyList tyStr) [v1_0] a1.Got), (fDat (tyList tyS_api_Packet) [v1_1] a1.Held)]) X_ Y_) (S := over (tab [(92, (bool false)), (97, undef)]) F_) ?_
 refine al_val (ov_pick_f rfl rfl rfl) ?_
 refine al_nil ?_
 exact fr_fin hK_ ()⟩, trivial⟩ ?_
      intro _
      intro X_ Y_ F_ K_ hK_
      refine al_show (m := Mem.plus (memOf w0 Z0 [] [(oBox g1 58 [v0_0, v0_1, (iq a0.Base)]), (oBox g3 63 [(iq a2.Kind), (iq a2.Seq), (str a2.Text)]), (oRow v8 63 tyS_api_Packet r7.1), (oBox g13 58 [v11, v12, (iq r10.1.Base)])] [(fDat (tyList tyStr) [v0_0] a0.Texts), (fDat (tyList tyBool) [v0_1] a0.Had), (fDat (tyList tyStr) [v11] r10.1.Texts), (fDat (tyList tyBool) [v12] r10.1.Had), (fDat (tyList tyStr) [v22] r21.1.Got), (fDat (tyList tyS_api_Packet) [v23] r21.1.Held), (fDat (tyList tyS_api_Packet) [v24] r21.2.1), (fDat (tyList tyStr) [v16] r15.1.Got), (fDat (tyList tyS_api_Packet) [v17] r15.1.Held), (fDat (tyList tyStr) [v1_0] a1.Got), (fDat (tyList tyS_api_Packet) [v1_1] a1.Held)]) X_ Y_) (S := over (put (tab [(92, (bool false)), (97, undef)]) 98 (bool false)) F_) ?_
      refine al_as rfl rfl ?_
      refine al_nil ?_
      refine aq_show (m := Mem.plus (memOf w0 Z0 [] [(oBox g1 58 [v0_0, v0_1, (iq a0.Base)]), (oBox g3 63 [(iq a2.Kind), (iq a2.Seq), (str a2.Text)]), (oRow v8 63 tyS_api_Packet r7.1), (oBox g13 58 [v11, v12, (iq r10.1.Base)])] [(fDat (tyList tyStr) [v0_0] a0.Texts), (fDat (tyList tyBool) [v0_1] a0.Had), (fDat (tyList tyStr) [v11] r10.1.Texts), (fDat (tyList tyBool) [v12] r10.1.Had), (fDat (tyList tyStr) [v22] r21.1.Got), (fDat (tyList tyS_api_Packet) [v23] r21.1.Held), (fDat (tyList tyS_api_Packet) [v24] r21.2.1), (fDat (tyList tyStr) [v16] r15.1.Got), (fDat (tyList tyS_api_Packet) [v17] r15.1.Held), (fDat (tyList tyStr) [v1_0] a1.Got), (fDat (tyList tyS_api_Packet) [v1_1] a1.Held)]) X_ Y_) ?_
      refine aq_next hK_ [0, 1, 2, 3] [0, 1, 2, 3, 4, 5, 6, 7, 8, 9, 10] [(6, (bool false))] [] [] rfl rfl (by decide) rfl ⟨rfl, trivial⟩ trivial ?_
      clear hK_ K_ F_ X_ Y_
      refine ta_show (m := (memOf w0 Z0 [] [(oBox g1 58 [v0_0, v0_1, (iq a0.Base)]), (oBox g3 63 [(iq a2.Kind), (iq a2.Seq), (str a2.Text)]), (oRow v8 63 tyS_api_Packet r7.1), (oBox g13 58 [v11, v12, (iq r10.1.Base)])] [(fDat (tyList tyStr) [v0_0] a0.Texts), (fDat (tyList tyBool) [v0_1] a0.Had), (fDat (tyList tyStr) [v11] r10.1.Texts), (fDat (tyList tyBool) [v12] r10.1.Had), (fDat (tyList tyStr) [v22] r21.1.Got), (fDat (tyList tyS_api_Packet) [v23] r21.1.Held), (fDat (tyList tyS_api_Packet) [v24] r21.2.1), (fDat (tyList tyStr) [v16] r15.1.Got), (fDat (tyList tyS_api_Packet) [v17] r15.1.Held), (fDat (tyList tyStr) [v1_0] a1.Got), (fDat (tyList tyS_api_Packet) [v1_1] a1.Held)])) (S := (tab [(6, (bool false))])) ?_
      refine ta_end [] [] rfl rfl (by kernel_rfl) rfl trivial ?_
      refine aq_show (m := (memOf w0 Z0 [] [(oBox g1 58 [v0_0, v0_1, (iq a0.Base)]), (oBox g3 63 [(iq a2.Kind), (iq a2.Seq), (str a2.Text)]), (oRow v8 63 tyS_api_Packet r7.1), (oBox g13 58 [v11, v12, (iq r10.1.Base)])] [(fDat (tyList tyStr) [v0_0] a0.Texts), (fDat (tyList tyBool) [v0_1] a0.Had), (fDat (tyList tyStr) [v11] r10.1.Texts), (fDat (tyList tyBool) [v12] r10.1.Had), (fDat (tyList tyStr) [v22] r21.1.Got), (fDat (tyList tyS_api_Packet) [v23] r21.1.Held), (fDat (tyList tyS_api_Packet) [v24] r21.2.1), (fDat (tyList tyStr) [v16] r15.1.Got), (fDat (tyList tyS_api_Packet) [v17] r15.1.Held), (fDat (tyList tyStr) [v1_0] a1.Got), (fDat (tyList tyS_api_Packet) [v1_1] a1.Held)])) (S := (tab [(6, (bool false))])) ?_
      exact aq_join false h (fun w a hm hs => norm hm hs [] [0, 1, 2, 3, 4, 5, 6, 7, 8, 9, 10] [(6, (bool false))] (by decide) ⟨rfl, trivial⟩)
 ·clear hkk27
  refine aw_state (m' := (memOf w0 Z0 [] [(oBox g25 61 [v22, v23]), (oBox g19 61 [v16, v17]), (oRow v18 63 tyS_api_Packet r15.2.1), (oBox g13 58 [v11, v12, (iq r10.1.Base)]), (oRow v8 63 tyS_api_Packet r7.1), (oBox g3 63 [(iq a2.Kind), (iq a2.Seq), (str a2.Text)]), (oBox g2 61 [v1_0, v1_1]), (oBox g1 58 [v0_0, v0_1, (iq a0.Base)])] [(fDat (tyList tyStr) [v22] r21.1.Got), (fDat (tyList tyS_api_Packet) [v23] r21.1.Held), (fDat (tyList tyS_api_Packet) [v24] r21.2.1), (fDat (tyList tyStr) [v16] r15.1.Got), (fDat (tyList tyS_api_Packet) [v17] r15.1.Held), (fDat (tyList tyStr) [v11] r10.1.Texts), (fDat (tyList tyBool) [v12] r10.1.Had), (fDat (tyList tyStr) [v0_0] a0.Texts), (fDat (tyList tyBool) [v0_1] a0.Had), (fDat (tyList tyStr) [v1_0] a1.Got), (fDat (tyList tyS_api_Packet) [v1_1] a1.Held)])) (S' := (tab [(3, (pq g1)), (5, (pq g3)), (7, (iq r5)), (8, v8), (9, (iq r7.2)), (10, (pq g13)), (11, (iq r10.2)), (12, (pq g19)), (13, v18), (14, (iq r15.2.2)), (15, (pq g25)), (16, v24), (17, (iq r21.2.2))])) ?_ (fun w a hm hs => norm hm hs [0, 1, 2, 3, 4, 5, 6, 7] [0, 1, 2, 3, 4, 5, 6, 7, 8, 9, 10] [(3, (pq g1)), (5, (pq g3)), (7, (iq r5)), (8, v8), (9, (iq r7.2)), (10, (pq g13)), (11, (iq r10.2)), (12, (pq g19)), (13, v18), (14, (iq r15.2.2)), (15, (pq g25)), (16, v24), (17, (iq r21.2.2))] (by decide) ⟨rfl, rfl, rfl, rfl, rfl, rfl, rfl, rfl, rfl, rfl, rfl, rfl, rfl, trivial⟩)
  refine aw_region ?_
  refine al_mv rfl rfl ?_
  refine al_mv rfl rfl ?_
  refine al_in rfl rfl rfl rfl ?_
  refine al_mv rfl rfl ?_
  refine al_caseB 48 rfl (fun hb53 => ?_) (fun hb53 => ?_)
  ·replace h := bif_t hb53 h
   refine al_skip ?_
   refine al_skip ?_
   refine al_skip ?_
   refine al_skip ?_
   refine al_val (ov_pick_t rfl rfl rfl) ?_
   refine al_mv rfl rfl ?_
   refine al_skip ?_
   refine al_skip ?_
   refine al_skip ?_
   refine al_skip ?_
   refine al_val (ov_pick_t rfl rfl rfl) ?_
   refine al_nil ?_
   exact aq_join true h (fun w a hm hs => norm hm hs [7, 5, 4, 3] [7, 8, 5, 6, 0, 1, 2, 3, 4, 9, 10] [(3, (pq g1)), (5, (pq g3)), (7, (iq r5)), (8, v8), (9, (iq r7.2)), (10, (pq g13)), (11, (iq r10.2)), (59, (bool true))] (by decide) ⟨rfl, rfl, rfl, rfl, rfl, rfl, rfl, rfl, trivial⟩)
  ·replace h := bif_f hb53 h
   refine al_val (ov_load (i := 1) (v := (ag [v16, v17])) rfl rfl Try.underlying61 sz61 rfl rfl rfl rfl) ?_
   refine al_val (ov_load (i := 0) (v := (ag [v22, v23])) rfl rfl Try.underlying61 sz61 rfl rfl rfl rfl) ?_
   obtain ⟨r55, hc54, h⟩ := opt_some h
   refine al_call (vs := [(ag [v16, v17]), (ag [v22, v23])]) (f_lumref_SameReceiver_ok fu v16 v17 (S_api_Receiver.mk r15.1.Got r15.1.Held) v22 v23 (S_api_Receiver.mk r21.1.Got r21.1.Held) hc54) [] [] [0, 1, 2, 3, 4, 5, 6, 7] (pre_fz 3 rfl (pre_fz 4 rfl (pre_fz 0 rfl (pre_fz 1 rfl pre_nil)))) rfl (by simp) (by decide) (.inl rfl) rfl Try.func26 rfl rfl rfl (fun _ => ?_)
   refine al_val (ov_not rfl rfl) ?_
   refine al_val (ov_pick_f rfl rfl rfl) ?_
   refine al_mv rfl rfl ?_
   refine al_caseB 54 rfl (fun hb56 => ?_) (fun hb56 => ?_)
   ·replace h := bif_t hb56 h
    refine al_skip ?_
    refine al_skip ?_
    refine al_skip ?_
    refine al_skip ?_
    refine al_val (ov_pick_t rfl rfl rfl) ?_
    refine al_nil ?_
    exact aq_join true h (fun w a hm hs => norm hm hs [7, 5, 4, 3] [7, 8, 5, 6, 0, 1, 2, 3, 4, 9, 10] [(3, (pq g1)), (5, (pq g3)), (7, (iq r5)), (8, v8), (9, (iq r7.2)), (10, (pq g13)), (11, (iq r10.2)), (59, (bool true))] (by decide) ⟨rfl, rfl, rfl, rfl, rfl, rfl, rfl, rfl, trivial⟩)
   ·replace h := bif_f hb56 h
    refine al_mv rfl rfl ?_
    refine al_mv rfl rfl ?_
    obtain ⟨r58, hc57, h⟩ := opt_some h
    refine al_call (vs := [v18, v24]) (f_slices_Equal___api_Packet_api_Packet__ok fu v18 r15.2.1 v24 r21.2.1 hc57) [2] [] [0, 1, 2, 3, 4, 5, 6, 7] (pre_own 2 rfl rfl (pre_fz 2 rfl pre_nil)) rfl (by simp) (by decide) (.inr flat_res0) rfl Try.func27 rfl rfl rfl (fun _ => ?_)
    refine al_val (ov_not rfl rfl) ?_
    refine al_val (ov_pick_f rfl rfl rfl) ?_
    refine al_nil ?_
    exact aq_join (!r58) h (fun w a hm hs => norm hm hs [7, 5, 4, 3] [7, 8, 5, 6, 0, 1, 2, 3, 4, 9, 10] [(3, (pq g1)), (5, (pq g3)), (7, (iq r5)), (8, v8), (9, (iq r7.2)), (10, (pq g13)), (11, (iq r10.2)), (59, (bool (!r58)))] (by decide) ⟨rfl, rfl, rfl, rfl, rfl, rfl, rfl, rfl, trivial⟩)
end Go.Proofs.Ytpakblkldklbmaa
namespace Go.Proofs.Ytpakblkldklbmaa
open Go.RowKit Ytpakblkldklbmaa.En
theorem at_nat {α : Type} (xs : List α) (k : Nat) : at? xs (k : Int) = xs[k]? := by unfold at?; rw [if_pos (Int.natCast_nonneg k)]; simp
theorem at_lt {α : Type} {xs : List α} {k : Nat} (h : k < xs.length) : at? xs (k : Int) = some xs[k] := by rw [at_nat, List.getElem?_eq_getElem h]
theorem w64 {x : Int} (h0 : -9223372036854775808 ≤ x) (h1 : x ≤ 9223372036854775807) : IntKind.i64.wrap x = x := IntWalk.i64_in x (by omega)
theorem wsucc {k : Nat} (h : k < 9223372036854775807) : IntKind.i64.wrap ((k : Int) + 1) = ((k + 1 : Nat) : Int) := by rw [w64 (by omega) (by omega)]; omega
theorem dlt {a b : Int} (h : a < b) : decide (a < b) = true := decide_eq_true h
theorem dge {a b : Int} (h : b ≤ a) : decide (a < b) = false := decide_eq_false (by omega)
theorem cond_tt {α : Type} {b : Bool} {x y : α} (h : b = true) : (bif b then x else y) = x := by rw [h]; rfl
theorem cond_ff {α : Type} {b : Bool} {x y : α} (h : b = false) : (bif b then x else y) = y := by rw [h]; rfl
theorem wfi64 {x : Int} (h : (Lit.int .i64 x).wf = true) : -9223372036854775808 ≤ x ∧ x ≤ 9223372036854775807 := by
  simpa [Lit.wf, IntKind.min, IntKind.max, IntKind.signed, IntKind.bits] using h
end Go.Proofs.Ytpakblkldklbmaa
namespace Go.Proofs.Ytpakblkldklbmaa
open Go.RowKit Ytpakblkldklbmaa.En
theorem shr_nat {x m : Nat} {j : Int} {k : IntKind} (hj : j = (m : Int)) (hm : m ≤ k.bits) : ((x : Int)).fdiv (2 ^ min j.toNat k.bits) = ((x / 2 ^ m : Nat) : Int) := by
  subst hj
  rw [Int.toNat_natCast, Nat.min_eq_left hm, Int.fdiv_eq_ediv_of_nonneg _ (by apply Int.le_of_lt; apply Int.pow_pos; decide)]
  simp
end Go.Proofs.Ytpakblkldklbmaa
namespace Go.Proofs.Ytpakblkldklbmaa.PLineSays
open Go.RowKit Ytpakblkldklbmaa.En Ytpakblkldklbmaa
set_option linter.unusedVariables false
set_option linter.unusedSimpArgs false
theorem eqS_loop (l : List (List UInt8)) (hl : l.length ≤ 2010) (kk : Unit → Option Bool) : ∀ (fuel i : Nat), i ≤ l.length → l.length - i < fuel → f_slices_Equal___string_string__L6 l l kk fuel (i : Int) = kk ()
  | 0, i, _, h => absurd h (Nat.not_lt_zero _)
  | fuel + 1, i, hi, hf => by
    rw [f_slices_Equal___string_string__L6]
    by_cases hlt : i < l.length
    · rw [cond_tt (dlt (by omega)), at_lt hlt, opt_of, opt_of, cond_ff (by simp), wsucc (by omega)]
      exact eqS_loop l hl kk fuel (i + 1) (by omega) (by omega)
    · rw [cond_ff (dge (by omega))]
theorem eqS {l : List (List UInt8)} (hl : l.length ≤ 2010) (fu : Nat) (hf : 3000 ≤ fu) : f_slices_Equal___string_string_ fu l l = some true := by
  unfold f_slices_Equal___string_string_
  rw [cond_ff (by simp), lt_of]
  exact eqS_loop l hl (fun _ => some true) fu 0 (Nat.zero_le _) (by omega)
theorem eqB_loop (l : List Bool) (hl : l.length ≤ 2010) (kk : Unit → Option Bool) : ∀ (fuel i : Nat), i ≤ l.length → l.length - i < fuel → f_slices_Equal___bool_bool__L6 l l kk fuel (i : Int) = kk ()
  | 0, i, _, h => absurd h (Nat.not_lt_zero _)
  | fuel + 1, i, hi, hf => by
    rw [f_slices_Equal___bool_bool__L6]
    by_cases hlt : i < l.length
    · rw [cond_tt (dlt (by omega)), at_lt hlt, opt_of, opt_of, cond_ff (by simp), wsucc (by omega)]
      exact eqB_loop l hl kk fuel (i + 1) (by omega) (by omega)
    · rw [cond_ff (dge (by omega))]
theorem eqB {l : List Bool} (hl : l.length ≤ 2010) (fu : Nat) (hf : 3000 ≤ fu) : f_slices_Equal___bool_bool_ fu l l = some true := by
  unfold f_slices_Equal___bool_bool_
  rw [cond_ff (by simp), lt_of]
  exact eqB_loop l hl (fun _ => some true) fu 0 (Nat.zero_le _) (by omega)
theorem eqP_loop (l : List S_api_Packet) (hl : l.length ≤ 2010) (hw : ∀ x ∈ l, okS_api_Packet x) (kk : Unit → Option Bool) : ∀ (fuel i : Nat), i ≤ l.length → l.length - i < fuel → f_slices_Equal___api_Packet_api_Packet__L6 l l kk fuel (i : Int) = kk ()
  | 0, i, _, h => absurd h (Nat.not_lt_zero _)
  | fuel + 1, i, hi, hf => by
    rw [f_slices_Equal___api_Packet_api_Packet__L6]
    by_cases hlt : i < l.length
    · have h := hw _ (List.getElem_mem hlt)
      rw [cond_tt (dlt (by omega)), at_lt hlt, opt_of, opt_of, req_pos h.1, req_pos h.2.1, req_pos h.2.2, req_pos h.1, req_pos h.2.1, req_pos h.2.2, cond_ff (by simp), wsucc (by omega)]
      exact eqP_loop l hl hw kk fuel (i + 1) (by omega) (by omega)
    · rw [cond_ff (dge (by omega))]
theorem eqP {l : List S_api_Packet} (hl : l.length ≤ 2010) (hw : ∀ x ∈ l, okS_api_Packet x) (fu : Nat) (hf : 3000 ≤ fu) : f_slices_Equal___api_Packet_api_Packet_ fu l l = some true := by
  unfold f_slices_Equal___api_Packet_api_Packet_
  rw [cond_ff (by simp), lt_of]
  exact eqP_loop l hl hw (fun _ => some true) fu 0 (Nat.zero_le _) (by omega)
theorem amb_same {β : Type} [DecidableEq β] {c : Bool} {x y : Option β} (h : c = true → x = y) : amb c x y = y := by
  unfold amb
  cases c with
  | true => rw [h rfl]; simp
  | false => rfl
theorem clS {l : List (List UInt8)} (hl : l.length ≤ 2010) (fu : Nat) : f_slices_Clone___string_string_ fu l = some l := by
  unfold f_slices_Clone___string_string_
  rw [amb_same, req_pos (by simp; omega), List.nil_append]
  intro h; obtain rfl : l = [] := by simpa using h
  rw [req_pos (by simp)]; rfl
theorem clB {l : List Bool} (hl : l.length ≤ 2010) (fu : Nat) : f_slices_Clone___bool_bool_ fu l = some l := by
  unfold f_slices_Clone___bool_bool_
  rw [amb_same, req_pos (by simp; omega), List.nil_append]
  intro h; obtain rfl : l = [] := by simpa using h
  rw [req_pos (by simp)]; rfl
theorem clP {l : List S_api_Packet} (hl : l.length ≤ 2010) (fu : Nat) : f_slices_Clone___api_Packet_api_Packet_ fu l = some l := by
  unfold f_slices_Clone___api_Packet_api_Packet_
  rw [amb_same, req_pos (by simp; omega), List.nil_append]
  intro h; obtain rfl : l = [] := by simpa using h
  rw [req_pos (by simp)]; rfl
theorem snd_loops (x : S_api_Sender) (kk : Unit → Option Int) : ∀ (fuel : Nat) (i : Int), f_line_checkSender_L9 x kk fuel i = f_lumref_SenderErr_L9 x kk fuel i
  | 0, _ => rfl
  | fuel + 1, i => by rw [f_line_checkSender_L9, f_lumref_SenderErr_L9, snd_loops x kk fuel]
theorem snd_ends (x : S_api_Sender) (hl : x.Texts.length ≤ 2000) (hh : x.Had.length = x.Texts.length) : ∀ (fuel i : Nat), i ≤ x.Texts.length → x.Texts.length - i < fuel → ∃ r, f_lumref_SenderErr_L9 x (fun _ => some 0) fuel (i : Int) = some r
  | 0, i, _, h => absurd h (Nat.not_lt_zero _)
  | fuel + 1, i, hi, hf => by
    rw [f_lumref_SenderErr_L9]
    by_cases hlt : i < x.Texts.length
    · obtain ⟨r, hr⟩ := snd_ends x hl hh fuel (i + 1) (by omega) (by omega)
      rw [cond_tt (dlt (by omega)), at_lt hlt, opt_of]
      cases decide ((x.Texts[i].length : Int) > 1024) with
      | true => exact ⟨2, rfl⟩
      | false =>
        rw [cond_ff (by rfl), lt_of, wsucc (by omega)]
        cases decide ((i : Int) < x.Base) with
        | false => exact ⟨r, hr⟩
        | true =>
          rw [cond_tt (by rfl), at_lt (show i < x.Had.length by omega), opt_of]
          cases x.Had[i] with
          | false => exact ⟨4, rfl⟩
          | true => exact ⟨r, hr⟩
    · rw [cond_ff (dge (by omega))]; exact ⟨0, rfl⟩
theorem snd_ok (x : S_api_Sender) (fu : Nat) (hf : 3000 ≤ fu) : ∃ r, f_lumref_SenderErr fu x = some r ∧ f_line_checkSender fu x = some r ∧ (r = 0 → x.Texts.length ≤ 2000 ∧ x.Had.length = x.Texts.length ∧ ∃ b : Nat, x.Base = b ∧ b ≤ x.Texts.length) := by
  have e : f_line_checkSender fu x = f_lumref_SenderErr fu x := by
    unfold f_line_checkSender f_lumref_SenderErr
    simp only [snd_loops]
  rw [e]
  unfold f_lumref_SenderErr
  simp only [lt_of]
  by_cases h1 : (x.Texts.length : Int) > 2000
  · simp only [decide_eq_true h1, cond_true]; exact ⟨1, rfl, rfl, fun h => absurd h (by decide)⟩
  simp only [decide_eq_false h1, cond_false]
  by_cases h2 : x.Had.length = x.Texts.length
  · have h2' : ((x.Had.length : Int) != (x.Texts.length : Int)) = false := by simp [h2]
    simp only [h2', cond_false]
    by_cases h3 : x.Base < 0
    · simp only [decide_eq_true h3, cond_true]; exact ⟨1, rfl, rfl, fun h => absurd h (by decide)⟩
    simp only [decide_eq_false h3, cond_false]
    by_cases h4 : x.Base > (x.Texts.length : Int)
    · simp only [decide_eq_true h4, cond_true]; exact ⟨1, rfl, rfl, fun h => absurd h (by decide)⟩
    simp only [decide_eq_false h4, cond_false]
    obtain ⟨r, hr⟩ := snd_ends x (by omega) h2 fu 0 (Nat.zero_le _) (by omega)
    exact ⟨r, hr, hr, fun _ => ⟨by omega, h2, x.Base.toNat, by omega, by omega⟩⟩
  · have h2' : ((x.Had.length : Int) != (x.Texts.length : Int)) = true := by rw [bne_iff_ne]; omega
    simp only [h2', cond_true]; exact ⟨1, rfl, rfl, fun h => absurd h (by decide)⟩
section
variable (x : S_api_Sender) (b : Nat) (hb : x.Base = b) (hbl : b ≤ x.Texts.length) (hl : x.Texts.length ≤ 2000) (hh : x.Had.length = x.Texts.length)
def sel (i : Nat) : Bool := decide (b ≤ i) && decide (i - b < 8) && !(x.Had.getD i true)
def mk (i : Nat) : S_api_Packet := ⟨1, (i : Int), x.Texts.getD i []⟩
def acc : Nat → List S_api_Packet
  | 0 => []
  | k + 1 => acc k ++ (if sel x b k = true then [mk x k] else [])
theorem acc_low : ∀ k, k ≤ b → acc x b k = []
  | 0, _ => rfl
  | k + 1, h => by
    unfold acc
    rw [acc_low k (by omega), if_neg (by unfold sel; simp; omega)]; rfl
theorem acc_high : ∀ k e, b + 8 ≤ e → e ≤ k → acc x b k = acc x b e
  | 0, e, h1, h2 => by obtain rfl : e = 0 := by omega
                       rfl
  | k + 1, e, h1, h2 => by
    by_cases h : e = k + 1
    · rw [h]
    · show acc x b k ++ _ = _
      rw [acc_high k e h1 (by omega), if_neg (by unfold sel; simp; omega), List.append_nil]
theorem acc_len : ∀ k, (acc x b k).length ≤ k
  | 0 => Nat.le_refl _
  | k + 1 => by unfold acc; rw [List.length_append]; have := acc_len k; split <;> simp <;> omega
include hb hbl hl hh
theorem code_sends (kk : List S_api_Packet → Option (List S_api_Packet × Int)) : ∀ (fuel i : Nat), b ≤ i → i ≤ x.Texts.length → i ≤ b + 8 → x.Texts.length - i < fuel → f_line_Sends_L9 x kk fuel (acc x b i) (i : Int) = kk (acc x b x.Texts.length)
  | 0, i, _, _, _, h => absurd h (Nat.not_lt_zero _)
  | fuel + 1, i, h1, h2, h3, h4 => by
    rw [f_line_Sends_L9, hb, w64 (x := (b : Int) + 8) (by omega) (by omega)]
    have hmin : (if (x.Texts.length : Int) < (b : Int) + 8 then (x.Texts.length : Int) else (b : Int) + 8) = ((min x.Texts.length (b + 8) : Nat) : Int) := by split <;> omega
    rw [hmin]
    by_cases hlt : i < x.Texts.length ∧ i < b + 8
    · have ih := code_sends kk fuel (i + 1) (by omega) (by omega) (by omega) (by omega)
      have hhl : i < x.Had.length := by omega
      have hg : x.Had.getD i true = x.Had[i] := by rw [List.getD_eq_getElem?_getD, List.getElem?_eq_getElem hhl]; rfl
      have ht : x.Texts.getD i [] = x.Texts[i] := by rw [List.getD_eq_getElem?_getD, List.getElem?_eq_getElem hlt.1]; rfl
      have al := acc_len x b i
      rw [cond_tt (dlt (by omega)), lt_of, at_lt hhl, opt_of, wsucc (by omega)]
      have e : acc x b (i + 1) = acc x b i ++ (if sel x b i = true then [mk x i] else []) := rfl
      cases hv : x.Had[i] with
      | true =>
        rw [e, if_neg (by unfold sel; rw [hg, hv]; simp), List.append_nil] at ih
        exact ih
      | false =>
        rw [e, if_pos (by unfold sel; rw [hg, hv]; simp; omega)] at ih
        unfold mk at ih
        rw [ht] at ih
        rw [cond_tt (by rfl), at_lt hlt.1, opt_of, req_pos (by simp only [List.length_singleton]; omega)]
        exact ih
    · rw [cond_ff (dge (by omega))]
      by_cases h5 : i = x.Texts.length
      · rw [h5]
      · rw [acc_high x b x.Texts.length i (by omega) (by omega)]
omit hbl in
theorem ref_sends (kk : List S_api_Packet → Option (List S_api_Packet)) : ∀ (fuel i : Nat), i ≤ x.Texts.length → x.Texts.length - i < fuel → f_lumref_Sends_L6 x kk fuel (acc x b i) (i : Int) = kk (acc x b x.Texts.length)
  | 0, i, _, h => absurd h (Nat.not_lt_zero _)
  | fuel + 1, i, h2, h4 => by
    rw [f_lumref_Sends_L6, hb]
    by_cases hlt : i < x.Texts.length
    · have ih := ref_sends kk fuel (i + 1) (by omega) (by omega)
      have hhl : i < x.Had.length := by omega
      have hg : x.Had.getD i true = x.Had[i] := by rw [List.getD_eq_getElem?_getD, List.getElem?_eq_getElem hhl]; rfl
      have ht : x.Texts.getD i [] = x.Texts[i] := by rw [List.getD_eq_getElem?_getD, List.getElem?_eq_getElem hlt]; rfl
      have al := acc_len x b i
      rw [cond_tt (dlt (by omega)), lt_of, at_lt hlt, opt_of, lt_of, wsucc (by omega)]
      have e : acc x b (i + 1) = acc x b i ++ (if sel x b i = true then [mk x i] else []) := rfl
      by_cases h5 : b ≤ i
      · rw [cond_tt (decide_eq_true (by omega)), w64 (by omega) (by omega)]
        by_cases h6 : i - b < 8
        · rw [cond_tt (decide_eq_true (by omega)), at_lt hhl, opt_of]
          cases hv : x.Had[i] with
          | true =>
            rw [e, if_neg (by unfold sel; rw [hg, hv]; simp), List.append_nil] at ih
            exact ih
          | false =>
            rw [e, if_pos (by unfold sel; rw [hg, hv]; simp; omega)] at ih
            unfold mk at ih
            rw [ht] at ih
            simp only [Bool.not_false, cond_true]
            rw [req_pos (by simp only [List.length_singleton]; omega)]
            exact ih
        · rw [cond_ff (decide_eq_false (by omega))]
          rw [e, if_neg (by unfold sel; simp; omega), List.append_nil] at ih
          exact ih
      · rw [cond_ff (decide_eq_false (by omega))]
        rw [e, if_neg (by unfold sel; simp; omega), List.append_nil] at ih
        exact ih
    · obtain rfl : i = x.Texts.length := by omega
      rw [cond_ff (dge (by omega))]
omit hb hbl hl hh in
theorem hear_loops (l : List Bool) (hl : l.length ≤ 2000) (k1 : Int → Option (S_api_Sender × Int)) (k2 : Int → Option S_api_Sender) : ∀ (fuel i : Nat), i ≤ l.length → l.length - i < fuel → ∃ j : Nat, f_line_Hears_L20 l k1 fuel (i : Int) = k1 j ∧ f_lumref_Hears_L11 l k2 fuel (i : Int) = k2 j
  | 0, i, _, h => absurd h (Nat.not_lt_zero _)
  | fuel + 1, i, hi, hf => by
    rw [f_line_Hears_L20, f_lumref_Hears_L11, lt_of]
    by_cases hlt : i < l.length
    · rw [cond_tt (dlt (by omega)), cond_tt (dlt (by omega)), at_lt hlt, opt_of, opt_of, wsucc (by omega)]
      cases l[i] with
      | true => exact hear_loops l hl k1 k2 fuel (i + 1) (by omega) (by omega)
      | false => exact ⟨i, rfl, rfl⟩
    · rw [cond_ff (dge (by omega)), cond_ff (dge (by omega))]; exact ⟨i, rfl, rfl⟩
end
def rh (x : S_api_Sender) (p : S_api_Packet) : Nat → List Bool
  | 0 => []
  | k + 1 => rh x p k ++ [x.Had.getD k false || (p.Kind == 2 && p.Seq == (k : Int))]
theorem rh_len (x : S_api_Sender) (p : S_api_Packet) : ∀ k, (rh x p k).length = k
  | 0 => rfl
  | k + 1 => by unfold rh; rw [List.length_append, rh_len x p k]; rfl
theorem rh_get (x : S_api_Sender) (p : S_api_Packet) : ∀ k j, j < k → (rh x p k)[j]? = some (x.Had.getD j false || (p.Kind == 2 && p.Seq == (j : Int)))
  | 0, j, h => absurd h (Nat.not_lt_zero _)
  | k + 1, j, h => by
    unfold rh
    by_cases e : j = k
    · subst e; rw [List.getElem?_append_right (by rw [rh_len]; exact Nat.le_refl _), rh_len, Nat.sub_self]; rfl
    · rw [List.getElem?_append_left (by rw [rh_len]; omega)]; exact rh_get x p k j (by omega)
theorem ref_hears (x : S_api_Sender) (p : S_api_Packet) (hl : x.Had.length ≤ 2000) (kk : List Bool → Option S_api_Sender) : ∀ (fuel i : Nat), i ≤ x.Had.length → x.Had.length - i < fuel → f_lumref_Hears_L20 x p kk fuel (rh x p i) (i : Int) = kk (rh x p x.Had.length)
  | 0, i, _, h => absurd h (Nat.not_lt_zero _)
  | fuel + 1, i, hi, hf => by
    rw [f_lumref_Hears_L20]
    by_cases hlt : i < x.Had.length
    · have ih := ref_hears x p hl kk fuel (i + 1) (by omega) (by omega)
      have e : rh x p (i + 1) = rh x p i ++ [x.Had.getD i false || (p.Kind == 2 && p.Seq == (i : Int))] := rfl
      have hg : x.Had.getD i false = x.Had[i] := by rw [List.getD_eq_getElem?_getD, List.getElem?_eq_getElem hlt]; rfl
      have hrl := rh_len x p i
      rw [e, hg] at ih
      rw [cond_tt (dlt (by omega)), lt_of, at_lt hlt, opt_of, wsucc (by omega)]
      cases hv : x.Had[i] with
      | true =>
        rw [hv] at ih
        simp only [cond_true]
        rw [req_pos (by simp only [List.length_singleton]; omega)]
        exact ih
      | false =>
        rw [hv, Bool.false_or] at ih
        simp only [cond_false]
        cases hk : (p.Kind == 2) with
        | true =>
          rw [hk, Bool.true_and] at ih
          simp only [cond_true]
          rw [req_pos (by simp only [List.length_singleton]; omega)]
          exact ih
        | false =>
          rw [hk, Bool.false_and] at ih
          simp only [cond_false]
          rw [req_pos (by simp only [List.length_singleton]; omega)]
          exact ih
    · obtain rfl : i = x.Had.length := by omega
      rw [cond_ff (dge (by omega))]
theorem hears (x : S_api_Sender) (p : S_api_Packet) (b : Nat) (hb : x.Base = b) (hbl : b ≤ x.Texts.length) (hl : x.Texts.length ≤ 2000) (hh : x.Had.length = x.Texts.length) (fu : Nat) (hf : 3000 ≤ fu) (hc : f_line_checkSender fu x = some 0) :
    ∃ r, f_line_Hears fu x p = some (r, 0) ∧ f_lumref_Hears fu x p = some r ∧ r.Texts = x.Texts ∧ r.Had.length = x.Had.length := by
  obtain ⟨T, hT⟩ : ∃ T, T = rh x p x.Had.length := ⟨_, rfl⟩
  have hTl : T.length = x.Had.length := by rw [hT, rh_len]
  have hset : ∀ q : Nat, p.Kind = 2 → p.Seq = q → q < x.Had.length → x.Had.set q true = T := fun q h1 h2 h3 => by
    apply List.ext_getElem?
    intro j
    by_cases hj : j < x.Had.length
    · rw [hT, rh_get x p _ j hj]
      by_cases e : j = q
      · subst e; rw [List.getElem?_set_self hj, h1, h2]; simp
      · rw [List.getElem?_set_ne (fun h => e h.symm), List.getElem?_eq_getElem hj, List.getD_eq_getElem?_getD, List.getElem?_eq_getElem hj, h2]
        have : ((q : Int) == (j : Int)) = false := by simp; omega
        rw [this]; simp
    · rw [List.getElem?_eq_none (by rw [List.length_set]; omega), List.getElem?_eq_none (by omega)]
  have hsame : ¬ (p.Kind = 2 ∧ 0 ≤ p.Seq ∧ p.Seq < (x.Had.length : Int)) → x.Had = T := fun h => by
    apply List.ext_getElem?
    intro j
    by_cases hj : j < x.Had.length
    · rw [hT, rh_get x p _ j hj, List.getElem?_eq_getElem hj, List.getD_eq_getElem?_getD, List.getElem?_eq_getElem hj]
      have : (p.Kind == 2 && p.Seq == (j : Int)) = false := by
        cases hk : (p.Kind == 2) with
        | false => rfl
        | true =>
          rw [Bool.true_and]
          have h1 : p.Kind = 2 := by simpa using hk
          have : p.Seq ≠ (j : Int) := fun e => h ⟨h1, by omega, by omega⟩
          simpa using this
      rw [this]; simp
    · rw [List.getElem?_eq_none (by omega), List.getElem?_eq_none (by omega)]
  obtain ⟨j, hj1, hj2⟩ := hear_loops T (by omega) (fun j16i7_2 => some ((S_api_Sender.mk x.Texts T j16i7_2), (0 : Int))) (fun j7i5_2 => some (S_api_Sender.mk x.Texts T j7i5_2)) fu b (by omega) (by omega)
  refine ⟨⟨x.Texts, T, j⟩, ?_, ?_, rfl, hTl⟩
  · unfold f_line_Hears
    rw [hc, opt_of, cond_ff (by rfl), clS (by omega), opt_of, clB (by omega), opt_of]
    simp only [lt_of, hb]
    by_cases h1 : p.Kind = 2
    · have h1' : (p.Kind == 2) = true := by simpa using h1
      simp only [h1', cond_true]
      by_cases h2 : p.Seq ≥ 0
      · simp only [decide_eq_true h2, cond_true]
        obtain ⟨q, hq⟩ : ∃ q : Nat, p.Seq = q := ⟨p.Seq.toNat, by omega⟩
        by_cases h3 : q < x.Had.length
        · have h3' : decide (p.Seq < (x.Had.length : Int)) = true := decide_eq_true (by omega)
          simp only [h3', cond_true]
          rw [hq, at_lt h3, opt_of, Int.toNat_natCast, hset q h1 hq h3]
          exact hj1
        · have h3' : decide (p.Seq < (x.Had.length : Int)) = false := decide_eq_false (by omega)
          simp only [h3', cond_false]
          rw [hsame (by omega)]
          exact hj1
      · simp only [decide_eq_false h2, cond_false]
        rw [hsame (by omega)]
        exact hj1
    · have h1' : (p.Kind == 2) = false := by simpa using h1
      simp only [h1', cond_false]
      rw [hsame (by omega)]
      exact hj1
  · unfold f_lumref_Hears
    rw [lt_of]
    refine Eq.trans (ref_hears x p (by omega) _ fu 0 (Nat.zero_le _) (by omega)) ?_
    try dsimp only
    rw [lt_of, hb, ← hT]
    exact hj2
def Up (n : Int) : List S_api_Packet → Prop
  | [] => True
  | q :: l => n < q.Seq ∧ Up q.Seq l
theorem up_mem {n : Int} : ∀ {l : List S_api_Packet} {m : Int}, n ≤ m → Up m l → ∀ q ∈ l, n < q.Seq
  | [], _, _, _, q, h => by simp at h
  | a :: l, m, hnm, hu, q, h => by
    rcases List.mem_cons.1 h with rfl | h
    · have := hu.1; omega
    · exact up_mem (m := a.Seq) (by have := hu.1; omega) hu.2 q h
theorem up_lt : ∀ {l : List S_api_Packet} {n : Int}, Up n l → ∀ i j (hi : i < l.length) (hj : j < l.length), i < j → l[i].Seq < l[j].Seq
  | [], _, _, i, j, hi, _, _ => by simp at hi
  | a :: l, n, hu, 0, j + 1, hi, hj, _ => up_mem (Int.le_refl _) hu.2 _ (List.getElem_mem (by simpa using hj))
  | a :: l, n, hu, i + 1, j + 1, hi, hj, h => up_lt hu.2 i j (by simpa using hi) (by simpa using hj) (by omega)
theorem rcv_loops (r : S_api_Receiver) (hl : r.Held.length ≤ 8) : ∀ (fuel i : Nat) (last : Int), i ≤ r.Held.length → r.Held.length - i < fuel →
    (∀ (k1 : Unit → Option Int) (k2 : Unit → Option (S_api_Receiver × (List S_api_Packet) × Int)), f_line_checkReceiver_L9 r k1 fuel last (i : Int) = some 4 ∧ f_lumref_Takes_L74 r k2 fuel last (i : Int) = some (⟨[], []⟩, [], 4)) ∨ (Up last (r.Held.drop i) ∧ ∀ (k1 : Unit → Option Int) (k2 : Unit → Option (S_api_Receiver × (List S_api_Packet) × Int)), f_line_checkReceiver_L9 r k1 fuel last (i : Int) = k1 () ∧ f_lumref_Takes_L74 r k2 fuel last (i : Int) = k2 ())
  | 0, i, _, _, h => absurd h (Nat.not_lt_zero _)
  | fuel + 1, i, last, hi, hf => by
    by_cases hlt : i < r.Held.length
    · by_cases h : r.Held[i].Seq ≤ last
      · refine .inl fun k1 k2 => ?_
        rw [f_line_checkReceiver_L9, f_lumref_Takes_L74, cond_tt (dlt (by omega)), cond_tt (dlt (by omega)), at_lt hlt, opt_of, opt_of]
        simp only [decide_eq_true h, cond_true, and_self]
      · rcases rcv_loops r hl fuel (i + 1) r.Held[i].Seq (by omega) (by omega) with h1 | ⟨h1, h2⟩
        · refine .inl fun k1 k2 => ?_
          rw [f_line_checkReceiver_L9, f_lumref_Takes_L74, cond_tt (dlt (by omega)), cond_tt (dlt (by omega)), at_lt hlt, opt_of, opt_of, wsucc (by omega)]
          simp only [decide_eq_false h, cond_false]; exact h1 k1 k2
        · refine .inr ⟨by rw [List.drop_eq_getElem_cons hlt]; exact ⟨by omega, h1⟩, fun k1 k2 => ?_⟩
          rw [f_line_checkReceiver_L9, f_lumref_Takes_L74, cond_tt (dlt (by omega)), cond_tt (dlt (by omega)), at_lt hlt, opt_of, opt_of, wsucc (by omega)]
          simp only [decide_eq_false h, cond_false]; exact h2 k1 k2
    · obtain rfl : i = r.Held.length := by omega
      refine .inr ⟨by rw [List.drop_length]; exact trivial, fun k1 k2 => ?_⟩
      rw [f_line_checkReceiver_L9, f_lumref_Takes_L74, cond_ff (dge (by omega)), cond_ff (dge (by omega))]; exact ⟨rfl, rfl⟩
def At (l : List S_api_Packet) (t : Int) (k : Nat) : Prop := k ≤ l.length ∧ (∀ q (hq : q < l.length), q < k → l[q].Seq < t) ∧ ∀ q (hq : q < l.length), k ≤ q → t ≤ l[q].Seq
theorem cmp_ok (fu : Nat) (p : S_api_Packet) (t : Int) : f_line_Takes_1 fu p t = some (if p.Seq < t then -1 else if p.Seq > t then 1 else 0) := by
  unfold f_line_Takes_1 f_cmp_Compare_int_ f_cmp_isNaN_int_
  rw [opt_of, opt_of]
  have e1 : (p.Seq != p.Seq) = false := by simp
  have e2 : (t != t) = false := by simp
  rw [e1, e2]
  simp only [cond_false]
  by_cases h1 : p.Seq < t
  · rw [decide_eq_true h1, if_pos h1]; rfl
  · rw [decide_eq_false h1, if_neg h1]
    by_cases h2 : p.Seq > t
    · rw [decide_eq_true h2, if_pos h2]; rfl
    · rw [decide_eq_false h2, if_neg h2]; rfl
theorem mid {i j : Nat} (h : i + j ≤ 100) : IntKind.i64.wrap (((IntKind.u64.wrap (IntKind.i64.wrap ((i : Int) + (j : Int))))).fdiv (2 ^ min ((1 : Int)).toNat (IntKind.bits .u64))) = (((i + j) / 2 : Nat) : Int) := by
  have e : IntKind.u64.wrap (((i + j : Nat)) : Int) = ((i + j : Nat) : Int) := by
    unfold IntKind.wrap
    simp [IntKind.signed, IntKind.bits]
    omega
  rw [w64 (x := (i : Int) + (j : Int)) (by omega) (by omega), show (i : Int) + (j : Int) = ((i + j : Nat) : Int) by omega, e, shr_nat (m := 1) (j := 1) rfl (by decide), w64 (by omega) (by omega)]
theorem search (l : List S_api_Packet) (hl : l.length ≤ 8) (n : Int) (hu : Up n l) (t : Int) (kk : Int → Option (Int × Bool)) (fu : Nat) : ∀ (fuel i j : Nat), i ≤ j → j ≤ l.length → j - i < fuel → (∀ q (hq : q < l.length), q < i → l[q].Seq < t) → (∀ q (hq : q < l.length), j ≤ q → t ≤ l[q].Seq) →
    ∃ k, At l t k ∧ f_slices_BinarySearchFunc___api_Packet_api_Packet_int__F72_L13 l t kk fu fuel (i : Int) (j : Int) = kk (k : Int)
  | 0, i, j, _, _, h, _, _ => absurd h (Nat.not_lt_zero _)
  | fuel + 1, i, j, hij, hj, hf, h1, h2 => by
    rw [f_slices_BinarySearchFunc___api_Packet_api_Packet_int__F72_L13]
    by_cases hlt : i < j
    · have hm : (i + j) / 2 < l.length := by omega
      rw [cond_tt (dlt (by omega)), mid (by omega), at_lt hm, opt_of, cmp_ok, opt_of]
      by_cases h3 : l[(i + j) / 2].Seq < t
      · rw [if_pos h3, cond_tt (by rfl), wsucc (by omega)]
        refine search l hl n hu t kk fu fuel ((i + j) / 2 + 1) j (by omega) hj (by omega) (fun q hq hqi => ?_) h2
        by_cases e : q = (i + j) / 2
        · subst e; exact h3
        · have := up_lt hu q ((i + j) / 2) hq hm (by omega); omega
      · rw [if_neg h3]
        have hc : decide ((if l[(i + j) / 2].Seq > t then (1 : Int) else 0) < 0) = false := by split <;> rfl
        rw [cond_ff hc]
        refine search l hl n hu t kk fu fuel i ((i + j) / 2) (by omega) (by omega) (by omega) h1 (fun q hq hqi => ?_)
        by_cases e : q = (i + j) / 2
        · subst e; omega
        · have := up_lt hu ((i + j) / 2) q hm hq (by omega); omega
    · obtain rfl : i = j := by omega
      rw [cond_ff (dge (by omega))]
      exact ⟨i, ⟨hj, h1, h2⟩, rfl⟩
def isAt (l : List S_api_Packet) (t : Int) (k : Nat) : Bool := match l[k]? with | some q => q.Seq == t | none => false
theorem bsearch (l : List S_api_Packet) (hl : l.length ≤ 8) (n : Int) (hu : Up n l) (t : Int) (fu : Nat) (hf : 100 ≤ fu) : ∃ k, At l t k ∧ f_slices_BinarySearchFunc___api_Packet_api_Packet_int__F72 fu l t = some ((k : Int), isAt l t k) := by
  unfold f_slices_BinarySearchFunc___api_Packet_api_Packet_int__F72
  rw [lt_of]
  obtain ⟨k, h1, h2⟩ := search l hl n hu t (fun (j1i9 : Int) => (lt (fun (j3b7 : Bool) => (some (j1i9, j3b7))) fun (kk4 : Bool → Option (Int × Bool)) => (bif (decide (j1i9 < (l.length : Int))) then (opt (at? l j1i9) fun (u6 : S_api_Packet) => (opt (f_line_Takes_1 fu u6 t) fun (r10 : Int) => (kk4 (r10 == (0 : Int))))) else (kk4 false)))) fu fu 0 l.length (Nat.zero_le _) (Nat.le_refl _) (by omega) (fun q _ h => absurd h (Nat.not_lt_zero _)) (fun q h1 h2 => by omega)
  refine ⟨k, h1, Eq.trans h2 ?_⟩
  try dsimp only
  rw [lt_of]
  unfold isAt
  by_cases hlt : k < l.length
  · have h3 := h1.2.2 k hlt (Nat.le_refl _)
    rw [cond_tt (dlt (by omega)), at_lt hlt, opt_of, cmp_ok, opt_of, List.getElem?_eq_getElem hlt, if_neg (by omega)]
    dsimp only
    by_cases h4 : l[k].Seq > t
    · rw [if_pos h4]
      have : (l[k].Seq == t) = false := by simp; omega
      rw [this]; rfl
    · rw [if_neg h4]
      have : (l[k].Seq == t) = true := by simp; omega
      rw [this]; rfl
  · rw [cond_ff (dge (by omega)), List.getElem?_eq_none (by omega)]
theorem insert_ok (l : List S_api_Packet) (hl : l.length ≤ 8) (k : Nat) (hk : k ≤ l.length) (y : S_api_Packet) (fu : Nat) : f_slices_Insert___api_Packet_api_Packet__own_own fu l (k : Int) [y] = some (l.take k ++ y :: l.drop k) := by
  unfold f_slices_Insert___api_Packet_api_Packet__own_own
  have e1 : (([y] : List S_api_Packet).length : Int) = 1 := rfl
  have e1n : ([y] : List S_api_Packet).length = 1 := rfl
  rw [req_pos (by omega), cond_ff (by rfl)]
  by_cases he : k = l.length
  · rw [cond_tt (by rw [he]; simp), req_pos (by rw [e1n]; omega), he]; simp
  have hkl : k < l.length := by omega
  rw [cond_ff (by simp; omega)]
  obtain ⟨z, hz⟩ : ∃ z : S_api_Packet, z = S_api_Packet.mk 0 0 [] := ⟨_, rfl⟩
  rw [← hz]
  have w1 : IntKind.i64.wrap ((l.length : Int) + (([y] : List S_api_Packet).length : Int)) = ((l.length + 1 : Nat) : Int) := by rw [e1, w64 (by omega) (by omega)]; omega
  have w2 : IntKind.i64.wrap (((l.length + 1 : Nat) : Int) - (k : Int)) = ((l.length + 1 - k : Nat) : Int) := by rw [w64 (by omega) (by omega)]; omega
  have w3 : IntKind.i64.wrap ((k : Int) + (([y] : List S_api_Packet).length : Int)) = ((k + 1 : Nat) : Int) := by rw [e1, w64 (by omega) (by omega)]; omega
  rw [w1, w2, w3]
  simp only [Int.toNat_natCast, e1n]
  have lt0 : (l.take k).length = k := by rw [List.length_take]; omega
  have ld0 : (l.drop k).length = l.length - k := by rw [List.length_drop]
  -- the first row
  obtain ⟨L1, hL1⟩ : ∃ L1, L1 = l.take k ++ List.replicate (l.length + 1 - k) z := ⟨_, rfl⟩
  rw [← hL1]
  have l1 : L1.length = l.length + 1 := by rw [hL1, List.length_append, lt0, List.length_replicate]; omega
  have t1 : L1.take k = l.take k := by rw [hL1, List.take_append_of_le_length (by omega), List.take_take, Nat.min_self]
  obtain ⟨L2, hL2⟩ : ∃ L2, L2 = L1.take k ++ (([y] : List S_api_Packet).take (L1.length - k) ++ L1.drop (k + 1)) := ⟨_, rfl⟩
  rw [← hL2]
  have ty : ([y] : List S_api_Packet).take (L1.length - k) = [y] := List.take_of_length_le (by rw [l1, e1n]; omega)
  have l2 : L2.length = l.length + 1 := by rw [hL2, ty, List.length_append, List.length_append, List.length_take, List.length_drop, l1, e1n]; omega
  have t2 : L2.take (k + 1) = l.take k ++ [y] := by
    rw [hL2, ty, t1, ← List.append_assoc, List.take_append_of_le_length (by rw [List.length_append, lt0, e1n]; exact Nat.le_refl _), List.take_of_length_le (by rw [List.length_append, lt0, e1n]; exact Nat.le_refl _)]
  -- the row in place
  obtain ⟨M1, hM1⟩ : ∃ M1, M1 = l.take (k + 1) ++ l.drop k := ⟨_, rfl⟩
  rw [← hM1]
  have m1 : M1.length = l.length + 1 := by rw [hM1, List.length_append, List.length_take, ld0]; omega
  have mt : M1.take k = l.take k := by rw [hM1, List.take_append_of_le_length (by rw [List.length_take]; omega), List.take_take, Nat.min_eq_left (by omega)]
  have md : M1.drop (k + 1) = l.drop k := by
    rw [hM1, List.drop_append, List.drop_of_length_le (by rw [List.length_take]; omega), List.length_take, Nat.min_eq_left (by omega), Nat.sub_self]; rfl
  refine both_of ?_ ?_
  · rw [req_pos (by omega), req_pos (by omega), req_pos (by rw [l1]; omega), req_pos (by rw [l1]; omega), req_pos (by rw [l2]; omega), req_pos (by omega), req_pos (by rw [l2, ld0]; omega), t2,
      List.take_of_length_le (l := l.drop k) (by rw [l2, ld0]; omega), List.drop_of_length_le (l := L2) (by rw [l2, ld0]; omega), List.append_nil, List.append_assoc]; rfl
  · rw [req_pos (by omega), req_pos (by omega), req_pos (by omega), req_pos (by omega), req_pos (by omega), req_pos (by omega), req_pos (by rw [m1]; omega), req_pos (by rw [m1]; omega), mt, md,
      List.take_of_length_le (l := ([y] : List S_api_Packet)) (by rw [m1, e1n]; omega)]; rfl
theorem take_loops (k1 : List (List UInt8) → List S_api_Packet → Option (S_api_Receiver × (List S_api_Packet) × Int)) (k2 : List S_api_Packet → List (List UInt8) → Option (S_api_Receiver × (List S_api_Packet) × Int)) : ∀ (fuel : Nat) (got : List (List UInt8)) (held : List S_api_Packet), held.length < fuel → got.length + held.length ≤ 2010 →
    ∃ g h, (∃ d, held = d ++ h) ∧ g.length ≤ 2010 ∧ f_line_Takes_L29 k1 fuel got held = k1 g h ∧ f_lumref_Takes_L24 k2 fuel held got = k2 h g
  | 0, _, _, h, _ => absurd h (Nat.not_lt_zero _)
  | fuel + 1, got, held, hf, hl => by
    rw [f_line_Takes_L29, f_lumref_Takes_L24, lt_of, lt_of]
    cases held with
    | nil => exact ⟨got, [], ⟨[], rfl⟩, by simpa using hl, rfl, rfl⟩
    | cons p t =>
      have hp : decide ((((p :: t) : List S_api_Packet).length : Int) > 0) = true := decide_eq_true (by simp)
      have h0 : at? (p :: t) (0 : Int) = some p := rfl
      rw [hp]
      simp only [cond_true, h0, opt_of]
      rw [List.length_cons] at hf hl
      by_cases e : p.Seq = (got.length : Int)
      · have e' : (p.Seq == (got.length : Int)) = true := by simpa using e
        simp only [e', cond_true]
        have hd : (p :: t).drop ((1 : Int)).toNat = t := rfl
        rw [req_pos (by simp only [List.length_singleton]; omega), req_pos (by rw [List.length_cons]; omega), req_pos (by rw [List.length_cons]; omega), req_pos (by simp only [List.length_singleton]; omega), hd]
        obtain ⟨g, h, ⟨d, hd1⟩, h2, h3, h4⟩ := take_loops k1 k2 fuel (got ++ [p.Text]) t (by omega) (by simp; omega)
        exact ⟨g, h, ⟨p :: d, by rw [hd1]; rfl⟩, h2, h3, h4⟩
      · have e' : (p.Seq == (got.length : Int)) = false := by simpa using e
        simp only [e', cond_false]
        exact ⟨got, p :: t, ⟨[], rfl⟩, by omega, rfl, rfl⟩
theorem ref_known (r : S_api_Receiver) (p : S_api_Packet) (hl : r.Held.length ≤ 8) (kk : List S_api_Packet → Bool → Option (S_api_Receiver × (List S_api_Packet) × Int)) : ∀ (fuel i : Nat) (X : List S_api_Packet), i ≤ r.Held.length → r.Held.length - i < fuel → X.length ≤ i + 1 →
    f_lumref_Takes_L48 r p kk fuel X true (i : Int) = kk (X ++ r.Held.drop i) true
  | 0, i, _, _, h, _ => absurd h (Nat.not_lt_zero _)
  | fuel + 1, i, X, hi, hf, hX => by
    rw [f_lumref_Takes_L48]
    by_cases hlt : i < r.Held.length
    · rw [cond_tt (dlt (by omega)), at_lt hlt, opt_of]
      simp only [lt_of, Bool.not_true, cond_false, cond_true]
      rw [req_pos (by simp only [List.length_singleton]; omega), wsucc (by omega), ref_known r p hl kk fuel (i + 1) _ (by omega) (by omega) (by simp; omega), List.append_assoc, List.drop_eq_getElem_cons hlt]; rfl
    · obtain rfl : i = r.Held.length := by omega
      rw [cond_ff (dge (by omega)), List.drop_length, List.append_nil]
theorem ref_find (r : S_api_Receiver) (p : S_api_Packet) (hl : r.Held.length ≤ 8) (k : Nat) (hk : At r.Held p.Seq k) (kk : List S_api_Packet → Bool → Option (S_api_Receiver × (List S_api_Packet) × Int)) : ∀ (fuel i : Nat), i ≤ k → r.Held.length - i < fuel →
    f_lumref_Takes_L48 r p kk fuel (r.Held.take i) false (i : Int) = if k < r.Held.length then kk (if isAt r.Held p.Seq k = true then r.Held else r.Held.take k ++ p :: r.Held.drop k) true else kk r.Held false
  | 0, i, _, h => absurd h (Nat.not_lt_zero _)
  | fuel + 1, i, hi, hf => by
    obtain ⟨k1, k2, k3⟩ := hk
    rw [f_lumref_Takes_L48]
    by_cases hlt : i < r.Held.length
    · rw [cond_tt (dlt (by omega)), at_lt hlt, opt_of]
      simp only [lt_of, Bool.not_false, cond_false, cond_true]
      have htk : r.Held.take i ++ [r.Held[i]] = r.Held.take (i + 1) := by rw [List.take_add_one, List.getElem?_eq_getElem hlt]; rfl
      have hti : (r.Held.take i).length = i := by rw [List.length_take]; omega
      by_cases h : i = k
      · subst h
        rw [if_pos hlt]
        have h3 := k3 i hlt (Nat.le_refl _)
        by_cases h4 : r.Held[i].Seq > p.Seq
        · have ha : isAt r.Held p.Seq i = false := by unfold isAt; rw [List.getElem?_eq_getElem hlt]; simp; omega
          rw [ha, if_neg (by simp)]
          simp only [decide_eq_true h4, cond_true]
          rw [req_pos (by simp only [List.length_singleton]; omega), req_pos (by simp only [List.length_append, List.length_singleton]; omega), wsucc (by omega), ref_known r p hl kk fuel (i + 1) _ (by omega) (by omega) (by simp; omega)]
          rw [List.append_assoc, List.append_assoc, List.drop_eq_getElem_cons hlt]; rfl
        · have h5 : r.Held[i].Seq = p.Seq := by omega
          have ha : isAt r.Held p.Seq i = true := by unfold isAt; rw [List.getElem?_eq_getElem hlt]; simpa using h5
          have hb : (r.Held[i].Seq == p.Seq) = true := by simpa using h5
          rw [ha, if_pos rfl]
          simp only [decide_eq_false h4, cond_false, hb]
          rw [req_pos (by simp only [List.length_singleton]; omega), wsucc (by omega), ref_known r p hl kk fuel (i + 1) _ (by omega) (by omega) (by simp; omega), htk, List.take_append_drop]
      · have h2 := k2 i hlt (by omega)
        have h4 : ¬ r.Held[i].Seq > p.Seq := by omega
        have hb : (r.Held[i].Seq == p.Seq) = false := by simp; omega
        simp only [decide_eq_false h4, cond_false, hb]
        rw [req_pos (by simp only [List.length_singleton]; omega), wsucc (by omega), htk]
        exact ref_find r p hl k ⟨k1, k2, k3⟩ kk fuel (i + 1) (by omega) (by omega)
    · rw [cond_ff (dge (by omega)), if_neg (by omega), List.take_of_length_le (by omega)]
theorem takes (r : S_api_Receiver) (p : S_api_Packet) (hr : okS_api_Receiver r) (hp : okS_api_Packet p) (fu : Nat) (hf : 3000 ≤ fu) :
    ∃ y l e, f_line_Takes fu r p = some (y, l, e) ∧ f_lumref_Takes fu r p = some (y, l, e) ∧ y.Got.length ≤ 2010 ∧ y.Held.length ≤ 2010 ∧ (∀ x ∈ y.Held, okS_api_Packet x) ∧ l.length ≤ 1 ∧ ∀ x ∈ l, okS_api_Packet x := by
  unfold f_line_Takes f_lumref_Takes f_line_checkReceiver
  simp only [lt_of]
  by_cases h1 : (r.Got.length : Int) > 2000
  · simp only [decide_eq_true h1, cond_true, opt_of]
    exact ⟨⟨[], []⟩, [], 2, rfl, rfl, by simp, by simp, by simp, by simp, by simp⟩
  simp only [decide_eq_false h1, cond_false]
  by_cases h2 : (r.Held.length : Int) > 8
  · simp only [decide_eq_true h2, cond_true, opt_of]
    exact ⟨⟨[], []⟩, [], 2, rfl, rfl, by simp, by simp, by simp, by simp, by simp⟩
  simp only [decide_eq_false h2, cond_false]
  rcases rcv_loops r (by omega) fu 0 (r.Got.length : Int) (Nat.zero_le _) (by omega) with g | ⟨g1, g⟩
  · have c1 : ∀ k1, f_line_checkReceiver_L9 r k1 fu (r.Got.length : Int) 0 = some 4 := fun k1 => (g k1 (fun _ => none)).1
    have c2 : ∀ k2, f_lumref_Takes_L74 r k2 fu (r.Got.length : Int) 0 = some (⟨[], []⟩, [], 4) := fun k2 => (g (fun _ => none) k2).2
    rw [c1, c2, opt_of]
    exact ⟨⟨[], []⟩, [], 4, rfl, rfl, by simp, by simp, by simp, by simp, by simp⟩
  rw [List.drop_zero] at g1
  have c1 : ∀ k1, f_line_checkReceiver_L9 r k1 fu (r.Got.length : Int) 0 = k1 () := fun k1 => (g k1 (fun _ => none)).1
  have c2 : ∀ k2, f_lumref_Takes_L74 r k2 fu (r.Got.length : Int) 0 = k2 () := fun k2 => (g (fun _ => none) k2).2
  rw [c1, c2, opt_of]
  have hok : ∀ x ∈ r.Held, okS_api_Packet x := fun x hx => hr.2.2 x hx
  have hn : r.Got.length ≤ 2000 := by omega
  have hh8 : r.Held.length ≤ 8 := by omega
  have hwf := wfi64 hp.2.1
  have e0 : ((0 : Int) != 0) = false := rfl
  simp only [e0, cond_false]
  rw [clS (by omega), opt_of, clP (by omega), opt_of]
  -- what is turned away
  have away : ∃ y l e, some ((S_api_Receiver.mk r.Got r.Held), ([] : List S_api_Packet), (0 : Int)) = some (y, l, e) ∧ some (r, ([] : List S_api_Packet), (0 : Int)) = some (y, l, e) ∧ y.Got.length ≤ 2010 ∧ y.Held.length ≤ 2010 ∧ (∀ x ∈ y.Held, okS_api_Packet x) ∧ l.length ≤ 1 ∧ ∀ x ∈ l, okS_api_Packet x :=
    ⟨r, [], 0, rfl, rfl, by omega, by omega, hok, by simp, by simp⟩
  by_cases a1 : p.Kind = 1
  · have a1' : (p.Kind != 1) = false := by simp [a1]
    simp only [a1', cond_false]
    by_cases a2 : p.Seq < 0
    · simp only [decide_eq_true a2, cond_true]; exact away
    simp only [decide_eq_false a2, cond_false]
    rw [w64 (x := (r.Got.length : Int) + 8) (by omega) (by omega), w64 (x := p.Seq - (r.Got.length : Int)) (by omega) (by omega)]
    by_cases a3 : p.Seq - (r.Got.length : Int) > 7
    · have b3 : decide (p.Seq ≥ (if (2000 : Int) < (r.Got.length : Int) + 8 then 2000 else (r.Got.length : Int) + 8)) = true := decide_eq_true (by split <;> omega)
      simp only [decide_eq_true a3, b3, cond_true]; exact away
    by_cases a4 : p.Seq > 1999
    · have b3 : decide (p.Seq ≥ (if (2000 : Int) < (r.Got.length : Int) + 8 then 2000 else (r.Got.length : Int) + 8)) = true := decide_eq_true (by split <;> omega)
      simp only [decide_eq_false a3, decide_eq_true a4, b3, cond_true, cond_false]; exact away
    have b3 : decide (p.Seq ≥ (if (2000 : Int) < (r.Got.length : Int) + 8 then 2000 else (r.Got.length : Int) + 8)) = false := decide_eq_false (by split <;> omega)
    simp only [decide_eq_false a3, decide_eq_false a4, b3, cond_false]
    obtain ⟨k, hk, hbs⟩ := bsearch r.Held hh8 _ g1 p.Seq fu (by omega)
    rw [hbs, opt_of]
    dsimp only
    obtain ⟨X, hX⟩ : ∃ X, X = if p.Seq < (r.Got.length : Int) ∨ isAt r.Held p.Seq k = true then r.Held else r.Held.take k ++ p :: r.Held.drop k := ⟨_, rfl⟩
    have hXl : X.length ≤ 9 := by
      rw [hX]; split
      · omega
      · simp; omega
    have hXok : ∀ x ∈ X, okS_api_Packet x := fun x hx => by
      rw [hX] at hx
      split at hx
      · exact hok x hx
      · rcases List.mem_append.1 hx with hx | hx
        · exact hok x (List.mem_of_mem_take hx)
        · rcases List.mem_cons.1 hx with rfl | hx
          · exact hp
          · exact hok x (List.mem_of_mem_drop hx)
    obtain ⟨g', h', ⟨d, hd⟩, q1, q2, q3⟩ := take_loops
      (fun j21x8_0 j21x8_1 => (opt (f_slices_Clone___api_Packet_api_Packet_ fu j21x8_1) fun (r24 : (List S_api_Packet)) => (some ((S_api_Receiver.mk j21x8_0 r24), [(S_api_Packet.mk (2 : Int) p.Seq ([] : List UInt8))], (0 : Int)))))
      (fun j20x12 j20x16 => (some ((S_api_Receiver.mk j20x16 j20x12), [(S_api_Packet.mk (2 : Int) p.Seq ([] : List UInt8))], (0 : Int)))) fu r.Got X (by omega) (by omega)
    have hh'l : h'.length ≤ 9 := by rw [hd, List.length_append] at hXl; omega
    refine ⟨⟨g', h'⟩, [⟨2, p.Seq, []⟩], 0, ?_, ?_, q1, by show h'.length ≤ _; omega, fun x hx => hXok x (by rw [hd]; exact List.mem_append_right _ hx), by simp, fun x hx => by
      rw [List.mem_singleton.1 hx]; exact ⟨rfl, hp.2.1, by simp⟩⟩
    · have fin : f_line_Takes_L29 (fun j21x8_0 j21x8_1 => (opt (f_slices_Clone___api_Packet_api_Packet_ fu j21x8_1) fun (r24 : (List S_api_Packet)) => (some ((S_api_Receiver.mk j21x8_0 r24), [(S_api_Packet.mk (2 : Int) p.Seq ([] : List UInt8))], (0 : Int))))) fu r.Got X = some (⟨g', h'⟩, [⟨2, p.Seq, []⟩], 0) := by
        rw [q2, clP (by omega), opt_of]
      by_cases b1 : p.Seq ≥ (r.Got.length : Int)
      · simp only [decide_eq_true b1, cond_true]
        cases hia : isAt r.Held p.Seq k with
        | true =>
          simp only [Bool.not_true, cond_false]
          rw [hX, if_pos (.inr hia)] at fin; exact fin
        | false =>
          simp only [Bool.not_false, cond_true]
          rw [insert_ok r.Held hh8 k hk.1 p fu, opt_of]
          rw [hX, if_neg (by rw [hia]; simp; omega)] at fin; exact fin
      · simp only [decide_eq_false b1, cond_false]
        rw [hX, if_pos (.inl (by omega))] at fin; exact fin
    · by_cases b1 : p.Seq < (r.Got.length : Int)
      · rw [decide_eq_true b1]
        refine Eq.trans (ref_known r p hh8 _ fu 0 [] (Nat.zero_le _) (by omega) (by simp)) ?_
        simp only [lt_of, Bool.not_true, cond_false, List.nil_append, List.drop_zero]
        rw [opt_of]
        rw [hX, if_pos (.inl b1)] at q3; exact q3
      · rw [decide_eq_false b1]
        refine Eq.trans (ref_find r p hh8 k hk _ fu 0 (Nat.zero_le _) (by omega)) ?_
        by_cases hkl : k < r.Held.length
        · rw [if_pos hkl]
          simp only [lt_of, Bool.not_true, cond_false]
          rw [opt_of]
          cases hia : isAt r.Held p.Seq k with
          | true => rw [hX, if_pos (.inr hia)] at q3; rw [if_pos rfl]; exact q3
          | false => rw [hX, if_neg (by rw [hia]; simp; omega)] at q3; rw [if_neg (by simp)]; exact q3
        · have hia : isAt r.Held p.Seq k = false := by unfold isAt; rw [List.getElem?_eq_none (by omega)]
          rw [if_neg hkl]
          simp only [lt_of, Bool.not_false, cond_true]
          rw [req_pos (by simp only [List.length_singleton]; omega), opt_of]
          rw [hX, if_neg (by rw [hia]; simp; omega), List.take_of_length_le (by omega), List.drop_of_length_le (by omega)] at q3
          exact q3
  · have a1' : (p.Kind != 1) = true := by simpa using a1
    simp only [a1', cond_true]; exact away
def fuel (x0 : S_api_Sender) (x1 : S_api_Receiver) (x2 : S_api_Packet) : Nat := 5000
theorem says (x0 : S_api_Sender) (x1 : S_api_Receiver) (x2 : S_api_Packet) (h0 : okS_api_Sender x0) (h1 : okS_api_Receiver x1) (h2 : okS_api_Packet x2) : f_lumlaw_LineSays (fuel x0 x1 x2) x0 x1 x2 = some true := by
  unfold f_lumlaw_LineSays fuel
  obtain ⟨e, a1, a2, a3⟩ := snd_ok x0 5000 (by omega)
  obtain ⟨y, l, f, t1, t2, t3, t4, t5, t6, t7⟩ := takes x1 x2 h1 h2 5000 (by omega)
  have same : f_lumref_SameReceiver 5000 (S_api_Receiver.mk y.Got y.Held) (S_api_Receiver.mk y.Got y.Held) = some true := by
    unfold f_lumref_SameReceiver
    simp only [lt_of]
    rw [eqS t3 5000 (by omega), opt_of, cond_tt (by rfl), eqP t4 t5 5000 (by omega), opt_of]
  rw [a1, opt_of]
  by_cases he : e = 0
  · subst he
    obtain ⟨b1, b2, b, b3, b4⟩ := a3 rfl
    obtain ⟨r, c1, c2, c3, c4⟩ := hears x0 x2 b b3 b4 b1 b2 5000 (by omega) a2
    have s1 : f_line_Sends 5000 x0 = some (acc x0 b x0.Texts.length, 0) := by
      unfold f_line_Sends
      rw [a2, opt_of, cond_ff (by rfl), lt_of, b3]
      have := code_sends x0 b b3 b4 b1 b2 (fun j5x5 => some (j5x5, (0 : Int))) 5000 b (Nat.le_refl _) b4 (by omega) (by omega)
      rw [acc_low x0 b b (Nat.le_refl _)] at this
      exact this
    have s2 : f_lumref_Sends 5000 x0 = some (acc x0 b x0.Texts.length) := by
      unfold f_lumref_Sends
      rw [lt_of]
      exact ref_sends x0 b b3 b1 b2 (fun j2x3 => some j2x3) 5000 0 (Nat.zero_le _) (by omega)
    have al := acc_len x0 b x0.Texts.length
    have aw : ∀ k, k ≤ x0.Texts.length → ∀ q ∈ acc x0 b k, okS_api_Packet q := by
      intro k
      induction k with
      | zero => intro _ q hq; simp [acc] at hq
      | succ k ih =>
        intro hk q hq
        unfold acc at hq
        rcases List.mem_append.1 hq with hq | hq
        · exact ih (by omega) q hq
        · split at hq
          · rw [List.mem_singleton.1 hq]
            refine ⟨rfl, ?_, ?_⟩
            · show (Lit.int .i64 (k : Int)).wf = true
              simp [Lit.wf, IntKind.min, IntKind.max, IntKind.signed, IntKind.bits]; omega
            · show (x0.Texts.getD k []).length ≤ _
              rw [List.getD_eq_getElem?_getD, List.getElem?_eq_getElem (show k < x0.Texts.length by omega)]
              exact h0.1.2 _ (List.getElem_mem _)
          · simp at hq
    rw [s1, opt_of, c1, opt_of, t1, opt_of, t2, opt_of]
    simp only [lt_of]
    have z1 : (f != f) = false := by simp
    simp only [z1, cond_false, same, opt_of, Bool.not_true]
    rw [eqP (by omega) t7 5000 (by omega), opt_of]
    have z2 : ((0 : Int) != 0) = false := rfl
    have z3 : ((0 : Int) == 0) = true := rfl
    simp only [Bool.not_true, cond_false, z2, z3, cond_true]
    rw [s2, opt_of, eqP (by omega) (aw _ (Nat.le_refl _)) 5000 (by omega), opt_of]
    simp only [cond_true]
    rw [c2, opt_of]
    unfold f_lumref_SameSender
    simp only [lt_of]
    rw [eqS (by rw [c3]; omega) 5000 (by omega), opt_of, cond_tt (by rfl), eqB (by rw [c4]; omega) 5000 (by omega), opt_of, cond_tt (by rfl)]
    simp
  · have hb : (e != 0) = true := by simpa using he
    have s1 : f_line_Sends 5000 x0 = some ([], e) := by
      unfold f_line_Sends
      rw [a2, opt_of, cond_tt hb]
    have c1 : f_line_Hears 5000 x0 x2 = some (⟨[], [], 0⟩, e) := by
      unfold f_line_Hears
      rw [a2, opt_of, cond_tt hb]
    rw [s1, opt_of, c1, opt_of, t1, opt_of, t2, opt_of]
    simp only [lt_of]
    have z1 : (f != f) = false := by simp
    simp only [z1, cond_false, same, opt_of, Bool.not_true]
    rw [eqP (by omega) t7 5000 (by omega), opt_of]
    have z3 : (e == e) = true := by simp
    have z4 : (((([] : List S_api_Packet).length : Nat) : Int) == 0) = true := rfl
    simp only [Bool.not_true, cond_false, hb, z3, z4, cond_true]
    unfold f_lumref_SameSender
    simp only [lt_of]
    rw [eqS (by simp) 5000 (by omega), opt_of, cond_tt (by rfl), eqB (by simp) 5000 (by omega), opt_of, cond_tt (by rfl)]
    rfl
end Go.Proofs.Ytpakblkldklbmaa.PLineSays
