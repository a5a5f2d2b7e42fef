/- What DeltaApplies leans on, part 4. No condition. -/
import Derived.Test.YtfhifdmbdkkgaaaDoorQDeltaAppliesc
import Derived.Test.YtfhifdmbdkkgaaaDoorChecked
import Derived.WalkKit
import Derived.Lib.Hide
import Derived.IntWalk
import Derived.Lib.MapLaws
import Derived.Lib.ValidU
import Derived.Lib.Bytealg
import Derived.Lib.CountLaws
import Derived.Lib.IndexLaws
import Derived.Lib.IndexMore
import Derived.Lib.Join
namespace Go.Proofs.YtfhifdmbdkkgaaaDoor
open Go.RowKit YtfhifdmbdkkgaaaDoor.En
set_option linter.unusedVariables false
set_option linter.unusedSimpArgs false
open Go.Value (int bool)
set_option maxHeartbeats 2000000 in
set_option maxRecDepth 100000 in
theorem f_slices_Equal___api_Item_api_Item__ok (fu : Nat) (v0_0 : Value) (a0 : (List S_api_Item)) (v1_0 : Value) (a1 : (List S_api_Item)) {r : Bool} (h : f_slices_Equal___api_Item_api_Item_ fu a0 a1 = some r) : FnOk Tryd.prog 25 [v0_0, v1_0] [(fDat (tyList tyS_api_Item) [v0_0] a0), (fDat (tyList tyS_api_Item) [v1_0] a1)] [] (fun (i : Unit) => { val := (bool r) }) := by
 unfold f_slices_Equal___api_Item_api_Item_ at h
 refine fn_enter Tryd.func25 rfl Tryd.ntmps25 rfl (fun w0 Z0 => ?_)
 refine aw_sr ?_
 refine al_as rfl rfl ?_
 refine al_nt ?_
 refine aw_seq ?_
 refine aw_sr ?_
 refine al_mv rfl rfl ?_
 refine al_val (ov_lenD 0 rfl rfl Tryd.underlying35 rfl) ?_
 refine al_mv rfl rfl ?_
 refine al_val (ov_lenD 1 rfl rfl Tryd.underlying35 rfl) ?_
 refine al_in rfl rfl rfl rfl ?_
 refine al_nt ?_
 refine aw_cond rfl (fun hb1 => ?_) (fun hb1 => ?_)
 ·replace h := bif_t hb1 h
  refine aw_sr ?_
  refine al_as rfl rfl ?_
  refine al_nt ?_
  refine aw_ret ?_
  refine aq_then_ret ?_
  obtain rfl := Option.some.inj h
  exact fn_ret () [] [] rfl rfl rfl rfl (res1 rfl rfl) rfl rfl rfl (by decide)
 ·replace h := bif_f hb1 h
  refine aw_skip ?_
  refine aq_then ?_
  obtain ⟨kk3, hkk3, h⟩ := lt_some h
  refine aw_seq_join (ι := Unit) (fun i => (memOf w0 Z0 [] [] [(fDat (tyList tyS_api_Item) [v0_0] a0), (fDat (tyList tyS_api_Item) [v1_0] a1)])) (fun i => (tab [])) (fun i => kk3 () = some r) ?_ ?_
  ·rintro _ h
   have h : kk3 () = some r := h
   rw [hkk3] at h
   dsimp only at h
   clear hkk3
   refine aw_show (m := (memOf w0 Z0 [] [] [(fDat (tyList tyS_api_Item) [v0_0] a0), (fDat (tyList tyS_api_Item) [v1_0] a1)])) (S := (tab [])) ?_
   refine aw_sr ?_
   refine al_as rfl rfl ?_
   refine al_nt ?_
   refine aw_ret ?_
   obtain rfl := Option.some.inj h
   exact fn_ret () [] [] rfl rfl rfl rfl (res1 rfl rfl) rfl rfl rfl (by decide)
  ·clear hkk3
   refine aw_sr ?_
   refine al_mv rfl rfl ?_
   refine al_val (ov_lenD 0 rfl rfl Tryd.underlying35 rfl) ?_
   refine al_mv rfl rfl ?_
   refine al_nt ?_
   refine aw_block ?_
   refine aw_state (aw_loop (ι := Int) (fun i => (memOf w0 Z0 [] [] [(fDat (tyList tyS_api_Item) [v0_0] a0), (fDat (tyList tyS_api_Item) [v1_0] a1)])) (fun i => (tab [(0, v0_0), (1, v1_0), (12, (iq (a0.length : Int))), (13, (iq i))])) (fun q i => f_slices_Equal___api_Item_api_Item__L6 a0 a1 kk3 q i = some r) ?_ fu (0 : Int) h) (fun w a hm hs => norm hm hs [] [0, 1] [(0, v0_0), (1, v1_0), (12, (iq (a0.length : Int))), (13, (iq (0 : Int)))] (by decide) ⟨rfl, rfl, rfl, rfl, trivial⟩)
   clear h
   rintro k5 l4i13 h
   have h : f_slices_Equal___api_Item_api_Item__L6 a0 a1 kk3 k5 l4i13 = some r := h
   obtain _ | k5 := k5
   · rw [f_slices_Equal___api_Item_api_Item__L6] at h; cases h
   rw [f_slices_Equal___api_Item_api_Item__L6] at h
   refine aw_show (m := (memOf w0 Z0 [] [] [(fDat (tyList tyS_api_Item) [v0_0] a0), (fDat (tyList tyS_api_Item) [v1_0] a1)])) (S := (tab [(0, v0_0), (1, v1_0), (12, (iq (a0.length : Int))), (13, (iq l4i13))])) ?_
   refine aw_sr ?_
   refine al_in rfl rfl rfl rfl ?_
   refine al_nt ?_
   refine aw_seq ?_
   refine aw_cond rfl (fun hb7 => ?_) (fun hb7 => ?_)
   ·replace h := bif_t hb7 h
    refine aw_skip ?_
    refine aq_then ?_
    refine aw_seq ?_
    refine aw_block ?_
    refine aw_sr ?_
    refine al_mv rfl rfl ?_
    refine al_as rfl rfl ?_
    refine al_nt ?_
    refine aw_seq ?_
    obtain ⟨u8, hu9, h⟩ := opt_some h
    obtain ⟨u11, hu12, h⟩ := opt_some h
    refine aw_region_draw 8 [(16, (fun u => fEq u v0_0)), (17, (fun u => fEq u (iq l4i13))), (18, (fun p10 => (fPtr tyS_api_Item p10 u8))), (19, (fun u => fEq u (ag [(str u8.Path), (iq u8.Kind), (iq u8.Mode), (iq u8.Time), (str u8.Bytes)]))), (20, (fun u => fEq u v1_0)), (21, (fun u => fEq u (iq l4i13))), (22, (fun p13 => (fPtr tyS_api_Item p13 u11))), (23, (fun u => fEq u (ag [(str u11.Path), (iq u11.Kind), (iq u11.Mode), (iq u11.Time), (str u11.Bytes)])))] (tab [(0, v0_0), (1, v1_0), (5, (iq l4i13)), (12, (iq (a0.length : Int))), (13, (iq l4i13))]) mixed (by kernel_rfl) rfl rfl rfl (fun a hs => hs.tab _ (allT_mem ⟨rfl, rfl, rfl, rfl, rfl, trivial⟩)) ⟨⟨rfl, ld_val (ov_move rfl rfl)⟩, ⟨rfl, ld_val (ov_move rfl rfl)⟩, ⟨rfl, ld_eq (j := 0) rfl rfl (ld_eq (j := 1) rfl rfl (ld_of (of_idxD 0 hu9 rfl rfl rfl Tryd.underlying35 sz41 rfl)))⟩, ⟨rfl, ld_fact (j := 2) rfl rfl (fun p10 => ld_val (ov_loadP (ds := [(str u8.Path), (iq u8.Kind), (iq u8.Mode), (iq u8.Time), (str u8.Bytes)]) 0 rfl encS_api_Item rfl Tryd.underlying41 sz41 rfl rfl rfl))⟩, ⟨rfl, ld_val (ov_move rfl rfl)⟩, ⟨rfl, ld_val (ov_move rfl rfl)⟩, ⟨rfl, ld_eq (j := 4) rfl rfl (ld_eq (j := 5) rfl rfl (ld_of (of_idxD 1 hu12 rfl rfl rfl Tryd.underlying35 sz41 rfl)))⟩, ⟨rfl, ld_fact (j := 6) rfl rfl (fun p13 => ld_val (ov_loadP (ds := [(str u11.Path), (iq u11.Kind), (iq u11.Mode), (iq u11.Time), (str u11.Bytes)]) 0 rfl encS_api_Item rfl Tryd.underlying41 sz41 rfl rfl rfl))⟩, trivial⟩ ?_
    refine tl_eq 3 rfl ?_
    refine tl_eq 7 rfl ?_
    refine tl_done ?_
    obtain ⟨hc14, h⟩ := req_some h
    obtain ⟨hc15, h⟩ := req_some h
    obtain ⟨hc16, h⟩ := req_some h
    obtain ⟨hc17, h⟩ := req_some h
    obtain ⟨hc18, h⟩ := req_some h
    obtain ⟨hc19, h⟩ := req_some h
    obtain ⟨hc20, h⟩ := req_some h
    obtain ⟨hc21, h⟩ := req_some h
    obtain ⟨hc22, h⟩ := req_some h
    obtain ⟨hc23, h⟩ := req_some h
    refine al_val (ov_neqA (cs := [(str u8.Path), (iq u8.Kind), (iq u8.Mode), (iq u8.Time), (str u8.Bytes)]) (ds := [(str u11.Path), (iq u11.Kind), (iq u11.Mode), (iq u11.Time), (str u11.Bytes)]) (ls := [9, 3, 3, 3, 9]) (p := (u8 == u11)) eg41 kt41 lv41 rfl rfl (by kernel_rfl) (by kernel_rfl) (fit_cons (fit_str Tryd.underlying9 hc14) (fit_cons (fit_int Tryd.underlying3 hc15) (fit_cons (fit_int Tryd.underlying3 hc16) (fit_cons (fit_int Tryd.underlying3 hc17) (fit_cons (fit_str Tryd.underlying9 hc18) fit_nil))))) (fit_cons (fit_str Tryd.underlying9 hc19) (fit_cons (fit_int Tryd.underlying3 hc20) (fit_cons (fit_int Tryd.underlying3 hc21) (fit_cons (fit_int Tryd.underlying3 hc22) (fit_cons (fit_str Tryd.underlying9 hc23) fit_nil))))) (injS_api_Item (x := u8) (y := u11)) rfl) ?_
    refine al_nt ?_
    refine aw_cond rfl (fun hb24 => ?_) (fun hb24 => ?_)
    ·replace h := bif_t hb24 h
     refine aw_sr ?_
     refine al_as rfl rfl ?_
     refine al_nt ?_
     refine aw_ret ?_
     refine aq_block_ret ?_
     refine aq_then_ret ?_
     refine aq_then_ret ?_
     refine aq_block_ret ?_
     refine aq_then_ret ?_
     obtain rfl := Option.some.inj h
     exact fn_ret () [] [] rfl rfl rfl rfl (res1 rfl rfl) rfl rfl rfl (by decide)
    ·replace h := bif_f hb24 h
     refine aw_skip ?_
     refine aq_block ?_
     refine aq_then ?_
     refine aw_region ?_
     refine al_in rfl rfl rfl rfl ?_
     refine al_mv rfl rfl ?_
     refine al_nil ?_
     exact aq_again k5 (wq (l4i13 + (1 : Int))) (Nat.lt_succ_self _) h (fun w a hm hs => norm hm hs [] [0, 1] [(0, v0_0), (1, v1_0), (12, (iq (a0.length : Int))), (13, (iq (wq (l4i13 + (1 : Int)))))] (by decide) ⟨rfl, rfl, rfl, rfl, trivial⟩)
   ·replace h := bif_f hb7 h
    refine aw_exit ?_
    refine aq_then_exit ?_
    refine aq_then_exit ?_
    refine aq_block_exit ?_
    exact aq_join () h (fun w a hm hs => norm hm hs [] [0, 1] [] (by decide) trivial)
def f_slices_Equal___api_Edit_api_Edit__L6 (a0 : (List S_api_Edit)) (a1 : (List S_api_Edit)) (kk3 : (Unit → Option Bool)) : Nat → Int → Option Bool
  | 0, _ => none
  | k5 + 1, l4i13 => (bif (decide (l4i13 < (a0.length : Int))) then (opt (at? a0 l4i13) fun (u8 : S_api_Edit) => (opt (at? a1 l4i13) fun (u11 : S_api_Edit) => (req (u8.Path.length ≤ 9223372036854775807) (req (u8.Item.Path.length ≤ 9223372036854775807) (req ((Lit.int .i64 u8.Item.Kind).wf = true) (req ((Lit.int .i64 u8.Item.Mode).wf = true) (req ((Lit.int .i64 u8.Item.Time).wf = true) (req (u8.Item.Bytes.length ≤ 9223372036854775807) (req (u11.Path.length ≤ 9223372036854775807) (req (u11.Item.Path.length ≤ 9223372036854775807) (req ((Lit.int .i64 u11.Item.Kind).wf = true) (req ((Lit.int .i64 u11.Item.Mode).wf = true) (req ((Lit.int .i64 u11.Item.Time).wf = true) (req (u11.Item.Bytes.length ≤ 9223372036854775807) (bif (!(u8 == u11)) then (some false) else (f_slices_Equal___api_Edit_api_Edit__L6 a0 a1 kk3 k5 (IntKind.i64.wrap (l4i13 + (1 : Int))))))))))))))))))) else (kk3 ()))
def f_slices_Equal___api_Edit_api_Edit_ (fu : Nat) (a0 : (List S_api_Edit)) (a1 : (List S_api_Edit)) : Option Bool := (bif ((a0.length : Int) != (a1.length : Int)) then (some false) else (lt (fun (_ : Unit) => (some true)) fun (kk3 : Unit → Option Bool) => (f_slices_Equal___api_Edit_api_Edit__L6 a0 a1 kk3 fu (0 : Int))))
set_option maxHeartbeats 2000000 in
set_option maxRecDepth 100000 in
theorem f_slices_Equal___api_Edit_api_Edit__ok (fu : Nat) (v0_0 : Value) (a0 : (List S_api_Edit)) (v1_0 : Value) (a1 : (List S_api_Edit)) {r : Bool} (h : f_slices_Equal___api_Edit_api_Edit_ fu a0 a1 = some r) : FnOk Tryd.prog 18 [v0_0, v1_0] [(fDat (tyList tyS_api_Edit) [v0_0] a0), (fDat (tyList tyS_api_Edit) [v1_0] a1)] [] (fun (i : Unit) => { val := (bool r) }) := by
 unfold f_slices_Equal___api_Edit_api_Edit_ at h
 refine fn_enter Tryd.func18 rfl Tryd.ntmps18 rfl (fun w0 Z0 => ?_)
 refine aw_sr ?_
 refine al_as rfl rfl ?_
 refine al_nt ?_
 refine aw_seq ?_
 refine aw_sr ?_
 refine al_mv rfl rfl ?_
 refine al_val (ov_lenD 0 rfl rfl Tryd.underlying36 rfl) ?_
 refine al_mv rfl rfl ?_
 refine al_val (ov_lenD 1 rfl rfl Tryd.underlying36 rfl) ?_
 refine al_in rfl rfl rfl rfl ?_
 refine al_nt ?_
 refine aw_cond rfl (fun hb1 => ?_) (fun hb1 => ?_)
 ·replace h := bif_t hb1 h
  refine aw_sr ?_
  refine al_as rfl rfl ?_
  refine al_nt ?_
  refine aw_ret ?_
  refine aq_then_ret ?_
  obtain rfl := Option.some.inj h
  exact fn_ret () [] [] rfl rfl rfl rfl (res1 rfl rfl) rfl rfl rfl (by decide)
 ·replace h := bif_f hb1 h
  refine aw_skip ?_
  refine aq_then ?_
  obtain ⟨kk3, hkk3, h⟩ := lt_some h
  refine aw_seq_join (ι := Unit) (fun i => (memOf w0 Z0 [] [] [(fDat (tyList tyS_api_Edit) [v0_0] a0), (fDat (tyList tyS_api_Edit) [v1_0] a1)])) (fun i => (tab [])) (fun i => kk3 () = some r) ?_ ?_
  ·rintro _ h
   have h : kk3 () = some r := h
   rw [hkk3] at h
   dsimp only at h
   clear hkk3
   refine aw_show (m := (memOf w0 Z0 [] [] [(fDat (tyList tyS_api_Edit) [v0_0] a0), (fDat (tyList tyS_api_Edit) [v1_0] a1)])) (S := (tab [])) ?_
   refine aw_sr ?_
   refine al_as rfl rfl ?_
   refine al_nt ?_
   refine aw_ret ?_
   obtain rfl := Option.some.inj h
   exact fn_ret () [] [] rfl rfl rfl rfl (res1 rfl rfl) rfl rfl rfl (by decide)
  ·clear hkk3
   refine aw_sr ?_
   refine al_mv rfl rfl ?_
   refine al_val (ov_lenD 0 rfl rfl Tryd.underlying36 rfl) ?_
   refine al_mv rfl rfl ?_
   refine al_nt ?_
   refine aw_block ?_
   refine aw_state (aw_loop (ι := Int) (fun i => (memOf w0 Z0 [] [] [(fDat (tyList tyS_api_Edit) [v0_0] a0), (fDat (tyList tyS_api_Edit) [v1_0] a1)])) (fun i => (tab [(0, v0_0), (1, v1_0), (12, (iq (a0.length : Int))), (13, (iq i))])) (fun q i => f_slices_Equal___api_Edit_api_Edit__L6 a0 a1 kk3 q i = some r) ?_ fu (0 : Int) h) (fun w a hm hs => norm hm hs [] [0, 1] [(0, v0_0), (1, v1_0), (12, (iq (a0.length : Int))), (13, (iq (0 : Int)))] (by decide) ⟨rfl, rfl, rfl, rfl, trivial⟩)
   clear h
   rintro k5 l4i13 h
   have h : f_slices_Equal___api_Edit_api_Edit__L6 a0 a1 kk3 k5 l4i13 = some r := h
   obtain _ | k5 := k5
   · rw [f_slices_Equal___api_Edit_api_Edit__L6] at h; cases h
   rw [f_slices_Equal___api_Edit_api_Edit__L6] at h
   refine aw_show (m := (memOf w0 Z0 [] [] [(fDat (tyList tyS_api_Edit) [v0_0] a0), (fDat (tyList tyS_api_Edit) [v1_0] a1)])) (S := (tab [(0, v0_0), (1, v1_0), (12, (iq (a0.length : Int))), (13, (iq l4i13))])) ?_
   refine aw_sr ?_
   refine al_in rfl rfl rfl rfl ?_
   refine al_nt ?_
   refine aw_seq ?_
   refine aw_cond rfl (fun hb7 => ?_) (fun hb7 => ?_)
   ·replace h := bif_t hb7 h
    refine aw_skip ?_
    refine aq_then ?_
    refine aw_seq ?_
    refine aw_block ?_
    refine aw_sr ?_
    refine al_mv rfl rfl ?_
    refine al_as rfl rfl ?_
    refine al_nt ?_
    refine aw_seq ?_
    obtain ⟨u8, hu9, h⟩ := opt_some h
    obtain ⟨u11, hu12, h⟩ := opt_some h
    refine aw_region_draw 8 [(16, (fun u => fEq u v0_0)), (17, (fun u => fEq u (iq l4i13))), (18, (fun p10 => (fPtr tyS_api_Edit p10 u8))), (19, (fun u => fEq u (ag [(str u8.Path), (bool u8.Gone), (str u8.Item.Path), (iq u8.Item.Kind), (iq u8.Item.Mode), (iq u8.Item.Time), (str u8.Item.Bytes)]))), (20, (fun u => fEq u v1_0)), (21, (fun u => fEq u (iq l4i13))), (22, (fun p13 => (fPtr tyS_api_Edit p13 u11))), (23, (fun u => fEq u (ag [(str u11.Path), (bool u11.Gone), (str u11.Item.Path), (iq u11.Item.Kind), (iq u11.Item.Mode), (iq u11.Item.Time), (str u11.Item.Bytes)])))] (tab [(0, v0_0), (1, v1_0), (5, (iq l4i13)), (12, (iq (a0.length : Int))), (13, (iq l4i13))]) mixed (by kernel_rfl) rfl rfl rfl (fun a hs => hs.tab _ (allT_mem ⟨rfl, rfl, rfl, rfl, rfl, trivial⟩)) ⟨⟨rfl, ld_val (ov_move rfl rfl)⟩, ⟨rfl, ld_val (ov_move rfl rfl)⟩, ⟨rfl, ld_eq (j := 0) rfl rfl (ld_eq (j := 1) rfl rfl (ld_of (of_idxD 0 hu9 rfl rfl rfl Tryd.underlying36 sz43 rfl)))⟩, ⟨rfl, ld_fact (j := 2) rfl rfl (fun p10 => ld_val (ov_loadP (ds := [(str u8.Path), (bool u8.Gone), (str u8.Item.Path), (iq u8.Item.Kind), (iq u8.Item.Mode), (iq u8.Item.Time), (str u8.Item.Bytes)]) 0 rfl encS_api_Edit rfl Tryd.underlying43 sz43 rfl rfl rfl))⟩, ⟨rfl, ld_val (ov_move rfl rfl)⟩, ⟨rfl, ld_val (ov_move rfl rfl)⟩, ⟨rfl, ld_eq (j := 4) rfl rfl (ld_eq (j := 5) rfl rfl (ld_of (of_idxD 1 hu12 rfl rfl rfl Tryd.underlying36 sz43 rfl)))⟩, ⟨rfl, ld_fact (j := 6) rfl rfl (fun p13 => ld_val (ov_loadP (ds := [(str u11.Path), (bool u11.Gone), (str u11.Item.Path), (iq u11.Item.Kind), (iq u11.Item.Mode), (iq u11.Item.Time), (str u11.Item.Bytes)]) 0 rfl encS_api_Edit rfl Tryd.underlying43 sz43 rfl rfl rfl))⟩, trivial⟩ ?_
    refine tl_eq 3 rfl ?_
    refine tl_eq 7 rfl ?_
    refine tl_done ?_
    obtain ⟨hc14, h⟩ := req_some h
    obtain ⟨hc15, h⟩ := req_some h
    obtain ⟨hc16, h⟩ := req_some h
    obtain ⟨hc17, h⟩ := req_some h
    obtain ⟨hc18, h⟩ := req_some h
    obtain ⟨hc19, h⟩ := req_some h
    obtain ⟨hc20, h⟩ := req_some h
    obtain ⟨hc21, h⟩ := req_some h
    obtain ⟨hc22, h⟩ := req_some h
    obtain ⟨hc23, h⟩ := req_some h
    obtain ⟨hc24, h⟩ := req_some h
    obtain ⟨hc25, h⟩ := req_some h
    refine al_val (ov_neqA (cs := [(str u8.Path), (bool u8.Gone), (str u8.Item.Path), (iq u8.Item.Kind), (iq u8.Item.Mode), (iq u8.Item.Time), (str u8.Item.Bytes)]) (ds := [(str u11.Path), (bool u11.Gone), (str u11.Item.Path), (iq u11.Item.Kind), (iq u11.Item.Mode), (iq u11.Item.Time), (str u11.Item.Bytes)]) (ls := [9, 4, 9, 3, 3, 3, 9]) (p := (u8 == u11)) eg43 kt43 lv43 rfl rfl (by kernel_rfl) (by kernel_rfl) (fit_cons (fit_str Tryd.underlying9 hc14) (fit_cons (fit_bool Tryd.underlying4) (fit_cons (fit_str Tryd.underlying9 hc15) (fit_cons (fit_int Tryd.underlying3 hc16) (fit_cons (fit_int Tryd.underlying3 hc17) (fit_cons (fit_int Tryd.underlying3 hc18) (fit_cons (fit_str Tryd.underlying9 hc19) fit_nil))))))) (fit_cons (fit_str Tryd.underlying9 hc20) (fit_cons (fit_bool Tryd.underlying4) (fit_cons (fit_str Tryd.underlying9 hc21) (fit_cons (fit_int Tryd.underlying3 hc22) (fit_cons (fit_int Tryd.underlying3 hc23) (fit_cons (fit_int Tryd.underlying3 hc24) (fit_cons (fit_str Tryd.underlying9 hc25) fit_nil))))))) (injS_api_Edit (x := u8) (y := u11)) rfl) ?_
    refine al_nt ?_
    refine aw_cond rfl (fun hb26 => ?_) (fun hb26 => ?_)
    ·replace h := bif_t hb26 h
     refine aw_sr ?_
     refine al_as rfl rfl ?_
     refine al_nt ?_
     refine aw_ret ?_
     refine aq_block_ret ?_
     refine aq_then_ret ?_
     refine aq_then_ret ?_
     refine aq_block_ret ?_
     refine aq_then_ret ?_
     obtain rfl := Option.some.inj h
     exact fn_ret () [] [] rfl rfl rfl rfl (res1 rfl rfl) rfl rfl rfl (by decide)
    ·replace h := bif_f hb26 h
     refine aw_skip ?_
     refine aq_block ?_
     refine aq_then ?_
     refine aw_region ?_
     refine al_in rfl rfl rfl rfl ?_
     refine al_mv rfl rfl ?_
     refine al_nil ?_
     exact aq_again k5 (wq (l4i13 + (1 : Int))) (Nat.lt_succ_self _) h (fun w a hm hs => norm hm hs [] [0, 1] [(0, v0_0), (1, v1_0), (12, (iq (a0.length : Int))), (13, (iq (wq (l4i13 + (1 : Int)))))] (by decide) ⟨rfl, rfl, rfl, rfl, trivial⟩)
   ·replace h := bif_f hb7 h
    refine aw_exit ?_
    refine aq_then_exit ?_
    refine aq_then_exit ?_
    refine aq_block_exit ?_
    exact aq_join () h (fun w a hm hs => norm hm hs [] [0, 1] [] (by decide) trivial)
def f_lumlaw_DeltaApplies (fu : Nat) (a0 : (List S_api_Item)) (a1 : (List S_api_Edit)) (a2 : (List S_api_Edit)) : Option Bool := (opt (f_delta_Apply fu a0 a1) fun (r2 : ((List S_api_Item) × Int)) => (opt (f_lumref_Apply fu a0 a1) fun (r5 : ((List S_api_Item) × Int)) => (opt (f_delta_Join fu a1 a2) fun (r8 : ((List S_api_Edit) × Int)) => (opt (f_lumref_JoinEdits fu a1 a2) fun (r11 : ((List S_api_Edit) × Int)) => (lt (fun (j13b6 : Bool) => (some j13b6)) fun (kk14 : Bool → Option Bool) => (opt (f_delta_Check fu a1) fun (r16 : Int) => (opt (f_lumref_Edits fu a1) fun (r18 : Int) => (bif (r16 == r18) then (opt (f_slices_Equal___api_Item_api_Item_ fu r2.1 r5.1) fun (r21 : Bool) => (bif r21 then (bif (r2.2 == r5.2) then (opt (f_slices_Equal___api_Edit_api_Edit_ fu r8.1 r11.1) fun (r25 : Bool) => (bif r25 then (kk14 (r8.2 == r11.2)) else (kk14 false))) else (kk14 false)) else (kk14 false))) else (kk14 false)))))))))
set_option maxHeartbeats 2000000 in
set_option maxRecDepth 100000 in
theorem f_lumlaw_DeltaApplies_ok (fu : Nat) (v0_0 : Value) (a0 : (List S_api_Item)) (v1_0 : Value) (a1 : (List S_api_Edit)) (v2_0 : Value) (a2 : (List S_api_Edit)) {r : Bool} (h : f_lumlaw_DeltaApplies fu a0 a1 a2 = some r) : FnOk Tryd.prog 6 [v0_0, v1_0, v2_0] [(fDat (tyList tyS_api_Item) [v0_0] a0), (fDat (tyList tyS_api_Edit) [v1_0] a1), (fDat (tyList tyS_api_Edit) [v2_0] a2), uMax, uTabs] [] (fun (i : Unit) => { val := (bool r) }) := by
 unfold f_lumlaw_DeltaApplies at h
 refine fn_enter Tryd.func6 rfl Tryd.ntmps6 rfl (fun w0 Z0 => ?_)
 refine aw_sr ?_
 refine al_as rfl rfl ?_
 refine al_nt ?_
 refine aw_sr ?_
 refine al_mv rfl rfl ?_
 refine al_mv rfl rfl ?_
 obtain ⟨r2, hc1, h⟩ := opt_some h
 refine al_call (vs := [v0_0, v1_0]) (f_delta_Apply_ok fu v0_0 a0 v1_0 a1 hc1) [] [] [] (pre_fz 0 rfl (pre_fz 1 rfl (pre_fz 3 rfl (pre_fz 4 rfl pre_nil)))) rfl (by simp) (by decide) (.inl rfl) rfl Tryd.func19 rfl rfl rfl (fun v3 => ?_)
 refine al_mv rfl rfl ?_
 refine al_ex rfl rfl rfl ?_
 refine al_ex rfl rfl rfl ?_
 refine al_as rfl rfl ?_
 refine al_as rfl rfl ?_
 refine al_nt ?_
 refine aw_sr ?_
 refine al_mv rfl rfl ?_
 refine al_mv rfl rfl ?_
 obtain ⟨r5, hc4, h⟩ := opt_some h
 refine al_call (vs := [v0_0, v1_0]) (f_lumref_Apply_ok fu v0_0 a0 v1_0 a1 hc4) [] [] [0] (pre_fz 0 rfl (pre_fz 1 rfl pre_nil)) rfl (by simp) (by decide) (.inl rfl) rfl Tryd.func20 rfl rfl rfl (fun v6 => ?_)
 refine al_mv rfl rfl ?_
 refine al_ex rfl rfl rfl ?_
 refine al_ex rfl rfl rfl ?_
 refine al_as rfl rfl ?_
 refine al_as rfl rfl ?_
 refine al_nt ?_
 refine aw_sr ?_
 refine al_mv rfl rfl ?_
 refine al_mv rfl rfl ?_
 obtain ⟨r8, hc7, h⟩ := opt_some h
 refine al_call (vs := [v1_0, v2_0]) (f_delta_Join_ok fu v1_0 a1 v2_0 a2 hc7) [] [] [0, 1] (pre_fz 1 rfl (pre_fz 2 rfl (pre_fz 3 rfl (pre_fz 4 rfl pre_nil)))) rfl (by simp) (by decide) (.inl rfl) rfl Tryd.func21 rfl rfl rfl (fun v9 => ?_)
 refine al_mv rfl rfl ?_
 refine al_ex rfl rfl rfl ?_
 refine al_ex rfl rfl rfl ?_
 refine al_as rfl rfl ?_
 refine al_as rfl rfl ?_
 refine al_nt ?_
 refine aw_sr ?_
 refine al_mv rfl rfl ?_
 refine al_mv rfl rfl ?_
 obtain ⟨r11, hc10, h⟩ := opt_some h
 refine al_call (vs := [v1_0, v2_0]) (f_lumref_JoinEdits_ok fu v1_0 a1 v2_0 a2 hc10) [] [] [0, 1, 2] (pre_fz 1 rfl (pre_fz 2 rfl pre_nil)) rfl (by simp) (by decide) (.inl rfl) rfl Tryd.func22 rfl rfl rfl (fun v12 => ?_)
 refine al_mv rfl rfl ?_
 refine al_ex rfl rfl rfl ?_
 refine al_ex rfl rfl rfl ?_
 refine al_as rfl rfl ?_
 refine al_as rfl rfl ?_
 refine al_nt ?_
 obtain ⟨kk14, hkk14, h⟩ := lt_some h
 refine aw_seq_join (ι := Bool) (fun i => (memOf w0 Z0 [] [] [(fDat (tyList tyS_api_Item) [v0_0] a0), (fDat (tyList tyS_api_Edit) [v1_0] a1), (fDat (tyList tyS_api_Edit) [v2_0] a2), uMax, uTabs])) (fun i => (tab [(6, (bool i))])) (fun i => kk14 i = some r) ?_ ?_
 ·rintro j13b6 h
  have h : kk14 j13b6 = some r := h
  rw [hkk14] at h
  dsimp only at h
  clear hkk14
  refine aw_show (m := (memOf w0 Z0 [] [] [(fDat (tyList tyS_api_Item) [v0_0] a0), (fDat (tyList tyS_api_Edit) [v1_0] a1), (fDat (tyList tyS_api_Edit) [v2_0] a2), uMax, uTabs])) (S := (tab [(6, (bool j13b6))])) ?_
  refine aw_ret ?_
  obtain rfl := Option.some.inj h
  exact fn_ret () [] [] rfl rfl rfl rfl (res1 rfl rfl) rfl rfl rfl (by decide)
 ·clear hkk14
  refine aw_region ?_
  refine al_mv rfl rfl ?_
  obtain ⟨r16, hc15, h⟩ := opt_some h
  refine al_call (vs := [v1_0]) (f_delta_Check_ok fu v1_0 a1 hc15) [] [] [0, 1, 2, 3] (pre_fz 1 rfl (pre_fz 3 rfl (pre_fz 4 rfl pre_nil))) rfl (by simp) (by decide) (.inl rfl) rfl Tryd.func23 rfl rfl rfl (fun _ => ?_)
  refine al_mv rfl rfl ?_
  obtain ⟨r18, hc17, h⟩ := opt_some h
  refine al_call (vs := [v1_0]) (f_lumref_Edits_ok fu v1_0 a1 hc17) [] [] [0, 1, 2, 3] (pre_fz 1 rfl pre_nil) rfl (by simp) (by decide) (.inl rfl) rfl Tryd.func24 rfl rfl rfl (fun _ => ?_)
  refine al_in rfl rfl rfl rfl ?_
  refine al_mv rfl rfl ?_
  refine al_caseB 44 rfl (fun hb19 => ?_) (fun hb19 => ?_)
  ·replace h := bif_t hb19 h
   refine al_mv rfl rfl ?_
   refine al_mv rfl rfl ?_
   obtain ⟨r21, hc20, h⟩ := opt_some h
   refine al_call (vs := [v3, v6]) (f_slices_Equal___api_Item_api_Item__ok fu v3 r2.1 v6 r5.1 hc20) [2, 3] [] [0, 1, 2, 3] (pre_own 3 rfl rfl (pre_own 2 rfl rfl pre_nil)) rfl (by simp) (by decide) (.inr flat_res0) rfl Tryd.func25 rfl rfl rfl (fun _ => ?_)
   refine al_val (ov_pick_t rfl rfl rfl) ?_
   refine al_mv rfl rfl ?_
   refine al_caseB 49 rfl (fun hb22 => ?_) (fun hb22 => ?_)
   ·replace h := bif_t hb22 h
    refine al_mv rfl rfl ?_
    refine al_mv rfl rfl ?_
    refine al_in rfl rfl rfl rfl ?_
    refine al_val (ov_pick_t rfl rfl rfl) ?_
    refine al_mv rfl rfl ?_
    refine al_caseB 54 rfl (fun hb23 => ?_) (fun hb23 => ?_)
    ·replace h := bif_t hb23 h
     refine al_mv rfl rfl ?_
     refine al_mv rfl rfl ?_
     obtain ⟨r25, hc24, h⟩ := opt_some h
     refine al_call (vs := [v9, v12]) (f_slices_Equal___api_Edit_api_Edit__ok fu v9 r8.1 v12 r11.1 hc24) [0, 1] [] [0, 1, 2, 3] (pre_own 1 rfl rfl (pre_own 0 rfl rfl pre_nil)) rfl (by simp) (by decide) (.inr flat_res0) rfl Tryd.func18 rfl rfl rfl (fun _ => ?_)
     refine al_val (ov_pick_t rfl rfl rfl) ?_
     refine al_mv rfl rfl ?_
     refine al_caseB 59 rfl (fun hb26 => ?_) (fun hb26 => ?_)
     ·replace h := bif_t hb26 h
      refine al_mv rfl rfl ?_
      refine al_mv rfl rfl ?_
      refine al_in rfl rfl rfl rfl ?_
      refine al_val (ov_pick_t rfl rfl rfl) ?_
      refine al_as rfl rfl ?_
      refine al_nil ?_
      exact aq_join (r8.2 == r11.2) h (fun w a hm hs => norm hm hs [] [0, 1, 2, 3, 4] [(6, (bool (r8.2 == r11.2)))] (by decide) ⟨rfl, trivial⟩)
     ·replace h := bif_f hb26 h
      refine al_skip ?_
      refine al_skip ?_
      refine al_skip ?_
      refine al_val (ov_pick_f rfl rfl rfl) ?_
      refine al_as rfl rfl ?_
      refine al_nil ?_
      exact aq_join false h (fun w a hm hs => norm hm hs [] [0, 1, 2, 3, 4] [(6, (bool false))] (by decide) ⟨rfl, trivial⟩)
    ·replace h := bif_f hb23 h
     refine al_skip ?_
     refine al_skip ?_
     refine al_skip ?_
     refine al_val (ov_pick_f rfl rfl rfl) ?_
     refine al_mv rfl rfl ?_
     refine al_skip ?_
     refine al_skip ?_
     refine al_skip ?_
     refine al_val (ov_pick_f rfl rfl rfl) ?_
     refine al_as rfl rfl ?_
     refine al_nil ?_
     exact aq_join false h (fun w a hm hs => norm hm hs [] [0, 1, 2, 3, 4] [(6, (bool false))] (by decide) ⟨rfl, trivial⟩)
   ·replace h := bif_f hb22 h
    refine al_skip ?_
    refine al_skip ?_
    refine al_skip ?_
    refine al_val (ov_pick_f rfl rfl rfl) ?_
    refine al_mv rfl rfl ?_
    refine al_skip ?_
    refine al_skip ?_
    refine al_skip ?_
    refine al_val (ov_pick_f rfl rfl rfl) ?_
    refine al_mv rfl rfl ?_
    refine al_skip ?_
    refine al_skip ?_
    refine al_skip ?_
    refine al_val (ov_pick_f rfl rfl rfl) ?_
    refine al_as rfl rfl ?_
    refine al_nil ?_
    exact aq_join false h (fun w a hm hs => norm hm hs [] [0, 1, 2, 3, 4] [(6, (bool false))] (by decide) ⟨rfl, trivial⟩)
  ·replace h := bif_f hb19 h
   refine al_skip ?_
   refine al_skip ?_
   refine al_skip ?_
   refine al_val (ov_pick_f rfl rfl rfl) ?_
   refine al_mv rfl rfl ?_
   refine al_skip ?_
   refine al_skip ?_
   refine al_skip ?_
   refine al_val (ov_pick_f rfl rfl rfl) ?_
   refine al_mv rfl rfl ?_
   refine al_skip ?_
   refine al_skip ?_
   refine al_skip ?_
   refine al_val (ov_pick_f rfl rfl rfl) ?_
   refine al_mv rfl rfl ?_
   refine al_skip ?_
   refine al_skip ?_
   refine al_skip ?_
   refine al_val (ov_pick_f rfl rfl rfl) ?_
   refine al_as rfl rfl ?_
   refine al_nil ?_
   exact aq_join false h (fun w a hm hs => norm hm hs [] [0, 1, 2, 3, 4] [(6, (bool false))] (by decide) ⟨rfl, trivial⟩)
end Go.Proofs.YtfhifdmbdkkgaaaDoor
namespace Go.Proofs.YtfhifdmbdkkgaaaDoor
open Go.RowKit YtfhifdmbdkkgaaaDoor.En
theorem at_nat {α : Type} (xs : List α) (k : Nat) : at? xs (k : Int) = xs[k]? := by unfold at?; rw [if_pos (Int.natCast_nonneg k)]; simp
theorem at_lt {α : Type} {xs : List α} {k : Nat} (h : k < xs.length) : at? xs (k : Int) = some xs[k] := by rw [at_nat, List.getElem?_eq_getElem h]
theorem at_of {α : Type} {xs : List α} {k : Nat} {x : α} (h : xs[k]? = some x) : at? xs (k : Int) = some x := by rw [at_nat, h]
theorem w64 {x : Int} (h0 : -9223372036854775808 ≤ x) (h1 : x ≤ 9223372036854775807) : IntKind.i64.wrap x = x := IntWalk.i64_in x (by omega)
theorem wsucc {k : Nat} (h : k < 9223372036854775807) : IntKind.i64.wrap ((k : Int) + 1) = ((k + 1 : Nat) : Int) := by rw [w64 (by omega) (by omega)]; omega
theorem dlt {a b : Int} (h : a < b) : decide (a < b) = true := decide_eq_true h
theorem dge {a b : Int} (h : b ≤ a) : decide (a < b) = false := decide_eq_false (by omega)
theorem cond_tt {α : Type} {b : Bool} {x y : α} (h : b = true) : (bif b then x else y) = x := by rw [h]; rfl
theorem cond_ff {α : Type} {b : Bool} {x y : α} (h : b = false) : (bif b then x else y) = y := by rw [h]; rfl
theorem cond_dec {α : Type} {p : Prop} [Decidable p] {x y : α} : (bif decide p then x else y) = if p then x else y := by by_cases h : p <;> simp [h]
end Go.Proofs.YtfhifdmbdkkgaaaDoor
namespace Go.Proofs.YtfhifdmbdkkgaaaDoor.U8
open Go.Lib YtfhifdmbdkkgaaaDoor.En
def C (x : Nat) : Prop := 128 ≤ x ∧ x ≤ 191
instance (x : Nat) : Decidable (C x) := by unfold C; infer_instance
def fin (low n c : Nat) : Nat × Nat := if c < low ∨ 1114111 < c ∨ (55296 ≤ c ∧ c < 57344) then (0, 0) else (c, n)
def refN (n b0 b1 b2 b3 : Nat) : Nat × Nat :=
  if b0 < 128 then (b0, 1)
  else if 194 ≤ b0 ∧ b0 < 224 then (if n < 2 then (0, 0) else if C b1 then fin 128 2 (64 * (b0 - 192) + b1 - 128) else (0, 0))
  else if 224 ≤ b0 ∧ b0 < 240 then (if n < 3 then (0, 0) else if C b1 then (if C b2 then fin 2048 3 (64 * (64 * (b0 - 224) + b1 - 128) + b2 - 128) else (0, 0)) else (0, 0))
  else if 240 ≤ b0 ∧ b0 < 245 then (if n < 4 then (0, 0) else if C b1 then (if C b2 then (if C b3 then fin 65536 4 (64 * (64 * (64 * (b0 - 240) + b1 - 128) + b2 - 128) + b3 - 128) else (0, 0)) else (0, 0)) else (0, 0))
  else (0, 0)
def Fits (d r : Nat × Nat) : Prop := (d = (65533, 1) ∧ r = (0, 0)) ∨ (d = r ∧ 1 ≤ r.2 ∧ ¬ (r.1 = 65533 ∧ r.2 = 1))
theorem fits_bad : Fits (65533, 1) (0, 0) := .inl ⟨rfl, rfl⟩
theorem fits_good {c c' n : Nat} (h : c = c') (hn : 2 ≤ n) : Fits (c, n) (c', n) := .inr ⟨by rw [h], by show 1 ≤ n; omega, fun h' => by have : n = 1 := h'.2; omega⟩
theorem refN_fits (n b0 b1 b2 b3 : Nat) (h0 : b0 < 256) (h1 : b1 < 256) (h2 : b2 < 256) (h3 : b3 < 256) : Fits (decodeN n b0 b1 b2 b3) (refN n b0 b1 b2 b3) := by
  unfold decodeN refN
  by_cases a0 : b0 < 128
  · rw [if_pos a0, if_pos a0]
    exact .inr ⟨rfl, Nat.le_refl _, fun h => by have : b0 = 65533 := h.1; omega⟩
  rw [if_neg a0, if_neg a0]
  by_cases a1 : b0 < 194
  · have e1 : ∀ r : Nat × Nat, (if b0 / 32 = 6 ∧ (1 < n ∧ b1 / 64 = 2) then (if b0 % 32 * 64 + b1 % 64 ≥ 128 then (b0 % 32 * 64 + b1 % 64, 2) else (65533, 1)) else r) = (if b0 / 32 = 6 ∧ (1 < n ∧ b1 / 64 = 2) then ((65533, 1) : Nat × Nat) else r) := fun r => by
      split
      · rw [if_neg (by omega)]
      · rfl
    rw [e1]
    rw [if_neg (c := 194 ≤ b0 ∧ b0 < 224) (by omega), if_neg (c := 224 ≤ b0 ∧ b0 < 240) (by omega), if_neg (c := 240 ≤ b0 ∧ b0 < 245) (by omega), if_neg (c := b0 / 16 = 14 ∧ _) (by omega), if_neg (c := b0 / 8 = 30 ∧ _) (by omega)]
    split <;> exact fits_bad
  by_cases a2 : b0 < 224
  · rw [if_pos (c := 194 ≤ b0 ∧ b0 < 224) (by omega), if_neg (c := b0 / 16 = 14 ∧ _) (by omega), if_neg (c := b0 / 8 = 30 ∧ _) (by omega)]
    by_cases c1 : n < 2
    · rw [if_pos c1, if_neg (by omega)]; exact fits_bad
    rw [if_neg c1]
    by_cases c2 : C b1
    · rw [if_pos c2]
      unfold C at c2
      rw [if_pos (by omega), if_pos (by omega)]
      unfold fin
      rw [if_neg (by omega)]
      exact fits_good (by omega) (by omega)
    · rw [if_neg c2]
      unfold C at c2
      rw [if_neg (by omega)]; exact fits_bad
  rw [if_neg (c := 194 ≤ b0 ∧ b0 < 224) (by omega), if_neg (c := b0 / 32 = 6 ∧ _) (by omega)]
  by_cases a3 : b0 < 240
  · rw [if_pos (c := 224 ≤ b0 ∧ b0 < 240) (by omega), if_neg (c := b0 / 8 = 30 ∧ _) (by omega)]
    by_cases c1 : n < 3
    · rw [if_pos c1, if_neg (by omega)]; exact fits_bad
    rw [if_neg c1]
    by_cases c2 : C b1
    · by_cases c3 : C b2
      · rw [if_pos c2, if_pos c3]
        unfold C at c2 c3
        rw [if_pos (by omega)]
        unfold fin
        by_cases c4 : b0 % 16 * 4096 + b1 % 64 * 64 + b2 % 64 ≥ 2048 ∧ (b0 % 16 * 4096 + b1 % 64 * 64 + b2 % 64 < 55296 ∨ (57344 ≤ b0 % 16 * 4096 + b1 % 64 * 64 + b2 % 64 ∧ b0 % 16 * 4096 + b1 % 64 * 64 + b2 % 64 ≤ 1114111))
        · rw [if_pos c4, if_neg (by omega)]
          exact fits_good (by omega) (by omega)
        · rw [if_neg c4, if_pos (by omega)]; exact fits_bad
      · rw [if_pos c2, if_neg c3]
        unfold C at c3
        rw [if_neg (by omega)]; exact fits_bad
    · rw [if_neg c2]
      unfold C at c2
      rw [if_neg (by omega)]; exact fits_bad
  rw [if_neg (c := 224 ≤ b0 ∧ b0 < 240) (by omega), if_neg (c := b0 / 16 = 14 ∧ _) (by omega)]
  by_cases a4 : b0 < 248
  · by_cases a5 : b0 < 245
    · rw [if_pos (c := 240 ≤ b0 ∧ b0 < 245) (by omega)]
      by_cases c1 : n < 4
      · rw [if_pos c1, if_neg (by omega)]; exact fits_bad
      rw [if_neg c1]
      by_cases c2 : C b1
      · by_cases c3 : C b2
        · by_cases c4 : C b3
          · rw [if_pos c2, if_pos c3, if_pos c4]
            unfold C at c2 c3 c4
            rw [if_pos (by omega)]
            unfold fin
            by_cases c5 : b0 % 8 * 262144 + b1 % 64 * 4096 + b2 % 64 * 64 + b3 % 64 ≥ 65536 ∧ (b0 % 8 * 262144 + b1 % 64 * 4096 + b2 % 64 * 64 + b3 % 64 < 55296 ∨ (57344 ≤ b0 % 8 * 262144 + b1 % 64 * 4096 + b2 % 64 * 64 + b3 % 64 ∧ b0 % 8 * 262144 + b1 % 64 * 4096 + b2 % 64 * 64 + b3 % 64 ≤ 1114111))
            · rw [if_pos c5, if_neg (by omega)]
              exact fits_good (by omega) (by omega)
            · rw [if_neg c5, if_pos (by omega)]; exact fits_bad
          · rw [if_pos c2, if_pos c3, if_neg c4]
            unfold C at c4
            rw [if_neg (by omega)]; exact fits_bad
        · rw [if_pos c2, if_neg c3]
          unfold C at c3
          rw [if_neg (by omega)]; exact fits_bad
      · rw [if_neg c2]
        unfold C at c2
        rw [if_neg (by omega)]; exact fits_bad
    · rw [if_neg (c := 240 ≤ b0 ∧ b0 < 245) (by omega)]
      split
      · split
        · omega
        · exact fits_bad
      · exact fits_bad
  · rw [if_neg (c := 240 ≤ b0 ∧ b0 < 245) (by omega), if_neg (c := b0 / 8 = 30 ∧ _) (by omega)]; exact fits_bad
def by_ (l : List UInt8) (k : Nat) : Nat := (l.getD k 0).toNat
theorem by_lt (l : List UInt8) (k : Nat) : by_ l k < 256 := (l.getD k 0).toNat_lt
def refC (l : List UInt8) : Nat × Nat := refN l.length (by_ l 0) (by_ l 1) (by_ l 2) (by_ l 3)
theorem refC_fits (l : List UInt8) : Fits (decodeL l) (refC l) := by
  rw [decodeL_N]; exact refN_fits _ _ _ _ _ (by_lt l 0) (by_lt l 1) (by_lt l 2) (by_lt l 3)
def R : Nat → List UInt8 → List Int
  | 0, _ => []
  | f + 1, l => if l = [] then [] else ((decodeL l).1 : Int) :: R f (l.drop (decodeL l).2)
theorem drop_lt {l : List UInt8} (h : l ≠ []) : (l.drop (decodeL l).2).length < l.length := by
  have h1 := decodeL_width l
  have h2 : 0 < l.length := List.length_pos_iff.2 h
  rw [List.length_drop]; omega
theorem R_fuel : ∀ (f g : Nat) (l : List UInt8), l.length ≤ f → l.length ≤ g → R f l = R g l
  | 0, 0, _, _, _ => rfl
  | 0, g + 1, l, hf, _ => by rw [List.eq_nil_of_length_eq_zero (show l.length = 0 by omega)]; simp [R]
  | f + 1, 0, l, _, hg => by rw [List.eq_nil_of_length_eq_zero (show l.length = 0 by omega)]; simp [R]
  | f + 1, g + 1, l, hf, hg => by
    rw [R, R]
    split
    · rfl
    · rename_i h
      have := drop_lt h
      rw [R_fuel f g _ (by omega) (by omega)]
theorem V_fuel : ∀ (f g : Nat) (l : List UInt8), l.length ≤ f → l.length ≤ g → validGoD f l = validGoD g l
  | 0, 0, _, _, _ => rfl
  | 0, g + 1, l, hf, _ => by rw [List.eq_nil_of_length_eq_zero (show l.length = 0 by omega)]; simp [validGoD]
  | f + 1, 0, l, _, hg => by rw [List.eq_nil_of_length_eq_zero (show l.length = 0 by omega)]; simp [validGoD]
  | f + 1, g + 1, l, hf, hg => by
    rw [validGoD, validGoD]
    split
    · rfl
    · rename_i h
      have := drop_lt h
      rw [V_fuel f g _ (by omega) (by omega)]
def rns (l : List UInt8) : List Int := R l.length l
theorem rns_nil : rns [] = [] := rfl
theorem rns_step {l : List UInt8} (h : l ≠ []) : rns l = ((decodeL l).1 : Int) :: rns (l.drop (decodeL l).2) := by
  have h1 := drop_lt h
  unfold rns
  obtain ⟨n, hn⟩ : ∃ n, l.length = n + 1 := ⟨l.length - 1, by have := List.length_pos_iff.2 h; omega⟩
  rw [hn, R, if_neg h, R_fuel n _ _ (by omega) (Nat.le_refl _)]
theorem V_nil : validD [] = true := rfl
theorem V_step {l : List UInt8} (h : l ≠ []) : validD l = if (decodeL l).1 = 65533 ∧ (decodeL l).2 = 1 then false else validD (l.drop (decodeL l).2) := by
  have h1 := drop_lt h
  unfold validD
  obtain ⟨n, hn⟩ : ∃ n, l.length = n + 1 := ⟨l.length - 1, by have := List.length_pos_iff.2 h; omega⟩
  rw [hn, validGoD, if_neg h, V_fuel n _ _ (by omega) (Nat.le_refl _)]
theorem rns_len : ∀ (n : Nat) (l : List UInt8), l.length ≤ n → (rns l).length ≤ l.length
  | 0, l, h => by rw [List.eq_nil_of_length_eq_zero (show l.length = 0 by omega)]; simp [rns_nil]
  | n + 1, l, h => by
    by_cases hl : l = []
    · rw [hl]; simp [rns_nil]
    · have h1 := drop_lt hl
      have := rns_len n (l.drop (decodeL l).2) (by omega)
      rw [rns_step hl, List.length_cons]; omega
theorem rns_pos {l : List UInt8} (h : l ≠ []) : rns l ≠ [] := by rw [rns_step h]; simp
theorem dec_drop (s : List UInt8) (p : Nat) : dec s p = decodeL (s.drop p) := (decodeL_drop ⟨s.toArray⟩ p).symm
def bad (c : Int) : Bool := decide (c = 47) || (decide (c < 32) || decide (c = 127))
def nameV (s : List UInt8) : Int := if s = [] ∨ s = [46] ∨ s = [46, 46] ∨ validD s = false then 8 else if (rns s).any bad then 8 else if 24 < (rns s).length then 2 else 0
end Go.Proofs.YtfhifdmbdkkgaaaDoor.U8
namespace Go.Proofs.YtfhifdmbdkkgaaaDoor.PTreeName
open Go.RowKit YtfhifdmbdkkgaaaDoor.En YtfhifdmbdkkgaaaDoor U8
open Go.Lib hiding cut
set_option linter.unusedVariables false
set_option linter.unusedSimpArgs false
theorem iw {n : Nat} (h : n ≤ 9223372036854775807) : IntKind.i64.wrap (n : Int) = (n : Int) := w64 (by omega) (by omega)
theorem ch_step (a : List UInt8) (n : Int) (kk : Int → Option (Int × Int)) (fuel i c : Nat) (b : UInt8) (hi : (cut a 1 n)[i]? = some b) (hc : c < 1000000000) (hi2 : i < 10) :
    f_lumref_char_L20 a n kk (fuel + 1) (c : Int) (i : Int) = if C b.toNat then f_lumref_char_L20 a n kk fuel ((64 * c + b.toNat - 128 : Nat) : Int) ((i + 1 : Nat) : Int) else some (0, 0) := by
  have hlt := (List.getElem?_eq_some_iff.1 hi).1
  have hb := b.toNat_lt
  rw [f_lumref_char_L20, cond_tt (dlt (by omega)), at_of hi, opt_of, lt_of, wsucc (by omega)]
  by_cases h1 : b.toNat < 128
  · rw [cond_tt (dlt (by omega)), if_neg (by unfold C; omega)]; rfl
  · rw [cond_ff (dge (by omega))]
    by_cases h2 : b.toNat > 191
    · rw [decide_eq_true (by omega), if_neg (by unfold C; omega)]; rfl
    · rw [decide_eq_false (by omega), if_pos (by unfold C; omega)]
      dsimp only
      rw [cond_ff rfl]
      have e : IntKind.i64.wrap ((IntKind.i64.wrap ((IntKind.i64.wrap ((64 : Int) * (c : Int))) + (IntKind.i64.wrap (b.toNat : Int)))) - (128 : Int)) = ((64 * c + b.toNat - 128 : Nat) : Int) := by
        rw [w64 (x := 64 * (c : Int)) (by omega) (by omega), iw (n := b.toNat) (by omega), w64 (x := 64 * (c : Int) + (b.toNat : Int)) (by omega) (by omega), w64 (by omega) (by omega)]; omega
      rw [e]
theorem ch_end (a : List UInt8) (n : Int) (kk : Int → Option (Int × Int)) (fuel i c : Nat) (hi : (cut a 1 n).length = i) : f_lumref_char_L20 a n kk (fuel + 1) (c : Int) (i : Int) = kk (c : Int) := by
  rw [f_lumref_char_L20, cond_ff (dge (by omega))]
theorem cut_at (a : List UInt8) (n j : Nat) (h : j + 1 < n) (hn : n ≤ a.length) : (cut a 1 (n : Int))[j]? = some (a.getD (j + 1) 0) := by
  unfold cut
  rw [show ((1 : Int)).toNat = 1 from rfl, Int.toNat_natCast, List.getElem?_drop, List.getElem?_take, if_pos (by omega), Nat.add_comm, List.getD_eq_getElem?_getD, List.getElem?_eq_getElem (by omega)]; rfl
theorem cut_len (a : List UInt8) (n : Nat) (h : 1 ≤ n) (hn : n ≤ a.length) : (cut a 1 (n : Int)).length = n - 1 := by
  unfold cut
  rw [show ((1 : Int)).toNat = 1 from rfl, Int.toNat_natCast, List.length_drop, List.length_take]; omega
def fin_k (low n : Nat) (c : Int) : Option (Int × Int) := (lt (fun (j9b84 : Bool) => (bif j9b84 then (some ((0 : Int), (0 : Int))) else (some (c, (n : Int))))) fun (kk10 : Bool → Option (Int × Int)) => (bif (decide (c < (low : Int))) then (kk10 true) else (bif (decide (c > (1114111 : Int))) then (kk10 true) else (bif (decide (c ≥ (55296 : Int))) then (kk10 (decide (c < (57344 : Int)))) else (kk10 false)))))
theorem fin_k_ok (low n c : Nat) : fin_k low n (c : Int) = some (((fin low n c).1 : Int), ((fin low n c).2 : Int)) := by
  unfold fin_k fin
  rw [lt_of]
  by_cases h1 : c < low
  · rw [cond_tt (dlt (by omega)), if_pos (.inl h1)]; rfl
  · rw [cond_ff (dge (by omega))]
    by_cases h2 : c > 1114111
    · rw [cond_tt (decide_eq_true (by omega)), if_pos (.inr (.inl h2))]; rfl
    · rw [cond_ff (decide_eq_false (by omega))]
      by_cases h3 : c ≥ 55296
      · rw [cond_tt (decide_eq_true (by omega))]
        by_cases h4 : c < 57344
        · rw [decide_eq_true (by omega), if_pos (by omega)]; rfl
        · rw [decide_eq_false (by omega), if_neg (by omega)]; rfl
      · rw [cond_ff (decide_eq_false (by omega)), if_neg (by omega)]; rfl
def kk5 (a : List UInt8) (fu : Nat) (c : Int) (n : Int) (low : Int) : Option (Int × Int) := (bif (decide ((a.length : Int) < n)) then (some ((0 : Int), (0 : Int))) else (lt (fun (j7i4 : Int) => (lt (fun (j9b84 : Bool) => (bif j9b84 then (some ((0 : Int), (0 : Int))) else (some (j7i4, n)))) fun (kk10 : Bool → Option (Int × Int)) => (bif (decide (j7i4 < low)) then (kk10 true) else (bif (decide (j7i4 > (1114111 : Int))) then (kk10 true) else (bif (decide (j7i4 ≥ (55296 : Int))) then (kk10 (decide (j7i4 < (57344 : Int)))) else (kk10 false)))))) fun (kk8 : Int → Option (Int × Int)) => (req (0 ≤ (1 : Int) ∧ (1 : Int) ≤ n ∧ n ≤ (a.length : Int)) (req ((cut a (1 : Int) n).length ≤ 9223372036854775807) (f_lumref_char_L20 a n kk8 fu c (0 : Int))))))
def out (r : Nat × Nat) : Int × Int := ((r.1 : Int), (r.2 : Int))
theorem out_if {p : Prop} [Decidable p] (x y : Nat × Nat) : some (out (if p then x else y)) = if p then some (out x) else some (out y) := by split <;> rfl
theorem kk5_2 (a : List UInt8) (hl : a.length ≤ 2000000) (fu c low : Nat) (hf : 10 ≤ fu) (hc : c < 1000) : kk5 a fu (c : Int) 2 (low : Int) = some (out (if a.length < 2 then (0, 0) else if C (by_ a 1) then fin low 2 (64 * c + by_ a 1 - 128) else (0, 0))) := by
  unfold kk5
  by_cases h : a.length < 2
  · rw [cond_tt (dlt (by omega)), if_pos h]; rfl
  · rw [cond_ff (dge (by omega)), if_neg h, lt_of, req_pos (by omega), req_pos (by rw [show (2 : Int) = ((2 : Nat) : Int) from rfl, cut_len a 2 (by omega) (by omega)]; omega)]
    obtain ⟨f, rfl⟩ : ∃ f, fu = f + 2 := ⟨fu - 2, by omega⟩
    refine (ch_step a 2 _ (f + 1) 0 c _ (cut_at a 2 0 (by omega) (by omega)) (by omega) (by omega)).trans ?_
    rw [out_if]
    show (if C (by_ a 1) then _ else _) = _
    by_cases h1 : C (by_ a 1)
    · rw [if_pos h1, if_pos h1]
      refine (ch_end a 2 _ f 1 _ (cut_len a 2 (by omega) (by omega))).trans ?_
      exact fin_k_ok low 2 _
    · rw [if_neg h1, if_neg h1]; rfl
theorem kk5_3 (a : List UInt8) (hl : a.length ≤ 2000000) (fu c low : Nat) (hf : 10 ≤ fu) (hc : c < 1000) : kk5 a fu (c : Int) 3 (low : Int) = some (out (if a.length < 3 then (0, 0) else if C (by_ a 1) then (if C (by_ a 2) then fin low 3 (64 * (64 * c + by_ a 1 - 128) + by_ a 2 - 128) else (0, 0)) else (0, 0))) := by
  have l1 := by_lt a 1
  have l2 := by_lt a 2
  unfold kk5
  by_cases h : a.length < 3
  · rw [cond_tt (dlt (by omega)), if_pos h]; rfl
  · rw [cond_ff (dge (by omega)), if_neg h, lt_of, req_pos (by omega), req_pos (by rw [show (3 : Int) = ((3 : Nat) : Int) from rfl, cut_len a 3 (by omega) (by omega)]; omega)]
    obtain ⟨f, rfl⟩ : ∃ f, fu = f + 3 := ⟨fu - 3, by omega⟩
    refine (ch_step a 3 _ (f + 2) 0 c _ (cut_at a 3 0 (by omega) (by omega)) (by omega) (by omega)).trans ?_
    rw [out_if]
    show (if C (by_ a 1) then _ else _) = _
    by_cases h1 : C (by_ a 1)
    · rw [if_pos h1, if_pos h1, out_if]
      refine (ch_step a 3 _ (f + 1) 1 (64 * c + by_ a 1 - 128) _ (cut_at a 3 1 (by omega) (by omega)) (by omega) (by omega)).trans ?_
      show (if C (by_ a 2) then _ else _) = _
      by_cases h2 : C (by_ a 2)
      · rw [if_pos h2, if_pos h2]
        refine (ch_end a 3 _ f 2 _ (cut_len a 3 (by omega) (by omega))).trans ?_
        exact fin_k_ok low 3 _
      · rw [if_neg h2, if_neg h2]; rfl
    · rw [if_neg h1, if_neg h1]; rfl
theorem kk5_4 (a : List UInt8) (hl : a.length ≤ 2000000) (fu c low : Nat) (hf : 10 ≤ fu) (hc : c < 1000) : kk5 a fu (c : Int) 4 (low : Int) = some (out (if a.length < 4 then (0, 0) else if C (by_ a 1) then (if C (by_ a 2) then (if C (by_ a 3) then fin low 4 (64 * (64 * (64 * c + by_ a 1 - 128) + by_ a 2 - 128) + by_ a 3 - 128) else (0, 0)) else (0, 0)) else (0, 0))) := by
  have l1 := by_lt a 1
  have l2 := by_lt a 2
  have l3 := by_lt a 3
  unfold kk5
  by_cases h : a.length < 4
  · rw [cond_tt (dlt (by omega)), if_pos h]; rfl
  · rw [cond_ff (dge (by omega)), if_neg h, lt_of, req_pos (by omega), req_pos (by rw [show (4 : Int) = ((4 : Nat) : Int) from rfl, cut_len a 4 (by omega) (by omega)]; omega)]
    obtain ⟨f, rfl⟩ : ∃ f, fu = f + 4 := ⟨fu - 4, by omega⟩
    refine (ch_step a 4 _ (f + 3) 0 c _ (cut_at a 4 0 (by omega) (by omega)) (by omega) (by omega)).trans ?_
    rw [out_if]
    show (if C (by_ a 1) then _ else _) = _
    by_cases h1 : C (by_ a 1)
    · rw [if_pos h1, if_pos h1, out_if]
      refine (ch_step a 4 _ (f + 2) 1 (64 * c + by_ a 1 - 128) _ (cut_at a 4 1 (by omega) (by omega)) (by omega) (by omega)).trans ?_
      show (if C (by_ a 2) then _ else _) = _
      by_cases h2 : C (by_ a 2)
      · rw [if_pos h2, if_pos h2, out_if]
        refine (ch_step a 4 _ (f + 1) 2 (64 * (64 * c + by_ a 1 - 128) + by_ a 2 - 128) _ (cut_at a 4 2 (by omega) (by omega)) (by omega) (by omega)).trans ?_
        show (if C (by_ a 3) then _ else _) = _
        by_cases h3 : C (by_ a 3)
        · rw [if_pos h3, if_pos h3]
          refine (ch_end a 4 _ f 3 _ (cut_len a 4 (by omega) (by omega))).trans ?_
          exact fin_k_ok low 4 _
        · rw [if_neg h3, if_neg h3]; rfl
      · rw [if_neg h2, if_neg h2]; rfl
    · rw [if_neg h1, if_neg h1]; rfl
theorem char_ok (a : List UInt8) (ha : a ≠ []) (hl : a.length ≤ 2000000) (fu : Nat) (hf : 10 ≤ fu) : f_lumref_char fu a = some (out (refC a)) := by
  have hpos := List.length_pos_iff.2 ha
  have l0 := by_lt a 0
  have e0 : IntKind.i64.wrap (En.bAt a 0) = ((by_ a 0 : Nat) : Int) := by
    rw [show En.bAt a 0 = ((by_ a 0 : Nat) : Int) from rfl, iw (by omega)]
  unfold f_lumref_char refC refN
  rw [cond_ff (by simpa using ha), req_pos (by omega), e0]
  by_cases h1 : by_ a 0 < 128
  · rw [cond_tt (dlt (by omega)), if_pos h1]; rfl
  · rw [cond_ff (dge (by omega)), if_neg h1, lt_of, lt_of]
    have e1 : by_ a 0 < 224 → 194 ≤ by_ a 0 → IntKind.i64.wrap (((by_ a 0 : Nat) : Int) - 192) = ((by_ a 0 - 192 : Nat) : Int) := fun _ _ => by rw [w64 (by omega) (by omega)]; omega
    have e2 : 224 ≤ by_ a 0 → IntKind.i64.wrap (((by_ a 0 : Nat) : Int) - 224) = ((by_ a 0 - 224 : Nat) : Int) := fun _ => by rw [w64 (by omega) (by omega)]; omega
    have e3 : 240 ≤ by_ a 0 → IntKind.i64.wrap (((by_ a 0 : Nat) : Int) - 240) = ((by_ a 0 - 240 : Nat) : Int) := fun _ => by rw [w64 (by omega) (by omega)]; omega
    have ff : ∀ m : Nat, ¬ by_ a 0 < m → decide (((by_ a 0 : Nat) : Int) < (m : Int)) = false := fun m h => decide_eq_false (by omega)
    have ft : ∀ m : Nat, by_ a 0 < m → decide (((by_ a 0 : Nat) : Int) < (m : Int)) = true := fun m h => decide_eq_true (by omega)
    by_cases h2 : 194 ≤ by_ a 0 ∧ by_ a 0 < 224
    · rw [cond_tt (decide_eq_true (show ((by_ a 0 : Nat) : Int) ≥ 194 by omega)), show decide (((by_ a 0 : Nat) : Int) < 224) = true from ft 224 h2.2, if_pos h2]
      dsimp only
      rw [cond_tt rfl, e1 h2.2 h2.1]
      exact kk5_2 a hl fu _ 128 hf (by omega)
    · rw [if_neg h2]
      by_cases h3 : 224 ≤ by_ a 0
      · rw [cond_tt (decide_eq_true (show ((by_ a 0 : Nat) : Int) ≥ 194 by omega)), show decide (((by_ a 0 : Nat) : Int) < 224) = false from ff 224 (by omega)]
        dsimp only
        rw [cond_ff rfl, lt_of]
        by_cases h4 : by_ a 0 < 240
        · rw [cond_tt (decide_eq_true (show ((by_ a 0 : Nat) : Int) ≥ 224 by omega)), show decide (((by_ a 0 : Nat) : Int) < 240) = true from ft 240 h4, if_pos ⟨h3, h4⟩]
          dsimp only
          rw [cond_tt rfl, e2 h3]
          exact kk5_3 a hl fu _ 2048 hf (by omega)
        · rw [cond_tt (decide_eq_true (show ((by_ a 0 : Nat) : Int) ≥ 224 by omega)), show decide (((by_ a 0 : Nat) : Int) < 240) = false from ff 240 h4, if_neg (c := 224 ≤ by_ a 0 ∧ by_ a 0 < 240) (by omega)]
          dsimp only
          rw [cond_ff rfl, lt_of, cond_tt (decide_eq_true (show ((by_ a 0 : Nat) : Int) ≥ 240 by omega))]
          by_cases h5 : by_ a 0 < 245
          · rw [show decide (((by_ a 0 : Nat) : Int) < 245) = true from ft 245 h5, if_pos ⟨by omega, h5⟩]
            dsimp only
            rw [cond_tt rfl, e3 (by omega)]
            exact kk5_4 a hl fu _ 65536 hf (by omega)
          · rw [show decide (((by_ a 0 : Nat) : Int) < 245) = false from ff 245 h5, if_neg (by omega)]
            dsimp only
            rw [cond_ff rfl]; rfl
      · rw [cond_ff (decide_eq_false (show ¬ ((by_ a 0 : Nat) : Int) ≥ 194 by omega)), if_neg (c := 224 ≤ by_ a 0 ∧ by_ a 0 < 240) (by omega), if_neg (c := 240 ≤ by_ a 0 ∧ by_ a 0 < 245) (by omega)]
        dsimp only
        rw [cond_ff rfl, lt_of, cond_ff (decide_eq_false (show ¬ ((by_ a 0 : Nat) : Int) ≥ 224 by omega))]
        dsimp only
        rw [cond_ff rfl, lt_of, cond_ff (decide_eq_false (show ¬ ((by_ a 0 : Nat) : Int) ≥ 240 by omega))]
        dsimp only
        rw [cond_ff rfl]; rfl
theorem chars_loop (fu : Nat) (hf : 10 ≤ fu) : ∀ (fuel : Nat) (s : List UInt8) (o : List Int), s.length < fuel → s.length ≤ 2000000 → o.length + s.length ≤ 2000000 →
    f_lumref_Chars_L5 (fun j => some (j, true)) fu fuel s o = some (if validD s then (o ++ rns s, true) else ([], false))
  | 0, s, _, h, _, _ => absurd h (Nat.not_lt_zero _)
  | fuel + 1, s, o, h, hl, ho => by
    rw [f_lumref_Chars_L5]
    by_cases h0 : s = []
    · subst h0
      rw [cond_ff (by rfl), V_nil, rns_nil, List.append_nil]; rfl
    · have hd := drop_lt h0
      have hle := decodeL_le s h0
      rw [cond_tt (by simpa using h0), char_ok s h0 hl fu hf, opt_of]
      rcases refC_fits s with ⟨h1, h2⟩ | ⟨h1, h2, h3⟩
      · have hv : validD s = false := by rw [V_step h0, h1]; exact if_pos ⟨rfl, rfl⟩
        rw [h2, hv]; rfl
      · rw [V_step h0, rns_step h0]
        rw [h1] at hd hle ⊢
        rw [if_neg h3]
        show (bif (((refC s).2 : Int) == 0) then _ else _) = _
        rw [cond_ff (by rw [beq_eq_false_iff_ne]; omega)]
        show req (((o.length + 1) * 8 : Nat) ≤ 140737488355328 ∧ o.length + 1 ≤ 9223372036854775807) (req (0 ≤ ((refC s).2 : Int) ∧ ((refC s).2 : Int) ≤ (s.length : Int)) (f_lumref_Chars_L5 _ fu fuel (s.drop ((refC s).2 : Int).toNat) (o ++ [((refC s).1 : Int)]))) = _
        have hsl := List.length_pos_iff.2 h0
        rw [req_pos (by omega), req_pos (by omega), Int.toNat_natCast, chars_loop fu hf fuel _ _ (by omega) (by omega) (by simp; omega), List.append_assoc]; rfl
theorem chars_ok (s : List UInt8) (hl : s.length ≤ 1048576) (fu : Nat) (hf : 1048600 ≤ fu) : f_lumref_Chars fu s = some (if validD s then (rns s, true) else ([], false)) := by
  unfold f_lumref_Chars
  rw [lt_of]
  exact chars_loop fu (by omega) fu s [] (by omega) (by omega) (by simp; omega)
theorem name_loop (r : List Int × Bool) (hl : r.1.length ≤ 2000000) (kk : Unit → Option Int) : ∀ (fuel k : Nat), k ≤ r.1.length → r.1.length - k < fuel → f_lumref_Name_L12 r kk fuel (k : Int) = if (r.1.drop k).any bad then some 8 else kk ()
  | 0, k, _, h => absurd h (Nat.not_lt_zero _)
  | fuel + 1, k, hk, hf => by
    rw [f_lumref_Name_L12]
    by_cases hlt : k < r.1.length
    · have key : ∀ b : Bool, b = bad r.1[k] → (bif b then (some (8 : Int)) else f_lumref_Name_L12 r kk fuel (IntKind.i64.wrap ((k : Int) + 1))) = if (r.1.drop k).any bad then some 8 else kk () := fun b hb => by
        rw [List.drop_eq_getElem_cons hlt, List.any_cons, ← hb]
        cases b with
        | true => rfl
        | false => rw [cond_ff rfl, wsucc (by omega), name_loop r hl kk fuel (k + 1) hlt (by omega), Bool.false_or]
      rw [cond_tt (dlt (by omega)), at_lt hlt, opt_of, lt_of]
      unfold bad at key
      generalize r.1[k] = c at key
      by_cases h1 : c = 47
      · rw [cond_tt (by rw [h1]; rfl)]; exact key true (by rw [decide_eq_true h1]; rfl)
      · rw [cond_ff (by rw [beq_eq_false_iff_ne]; exact h1)]
        by_cases h2 : c < 32
        · rw [cond_tt (decide_eq_true h2)]; exact key true (by rw [decide_eq_false h1, decide_eq_true h2]; rfl)
        · rw [cond_ff (decide_eq_false h2)]
          refine key _ ?_
          rw [decide_eq_false h1, decide_eq_false h2]
          by_cases h3 : c = 127
          · rw [h3]; rfl
          · rw [decide_eq_false h3, beq_eq_false_iff_ne.2 h3]; rfl
    · rw [cond_ff (dge (by omega)), List.drop_of_length_le (by omega)]; rfl
theorem name_ok (s : List UInt8) (hl : s.length ≤ 1048576) (fu : Nat) (hf : 1048600 ≤ fu) : f_lumref_Name fu s = some (nameV s) := by
  have hrl := rns_len s.length s (Nat.le_refl _)
  unfold f_lumref_Name nameV
  rw [chars_ok s hl fu hf, opt_of, lt_of]
  cases hv : validD s with
  | false => rw [if_neg (by simp), if_pos (by simp)]; rfl
  | true =>
    rw [if_pos rfl]
    dsimp only
    rw [cond_ff (show (!true) = false from rfl)]
    by_cases h0 : s = []
    · subst h0; rw [if_pos (.inl rfl)]; rfl
    · have := List.length_pos_iff.2 (rns_pos h0)
      rw [cond_ff (by rw [beq_eq_false_iff_ne]; omega)]
      by_cases h1 : s = [46]
      · subst h1; rw [if_pos (.inr (.inl rfl))]; rfl
      · rw [cond_ff (by rw [beq_eq_false_iff_ne]; exact h1)]
        by_cases h2 : s = [46, 46]
        · subst h2; rw [if_pos (.inr (.inr (.inl rfl)))]; rfl
        · rw [beq_eq_false_iff_ne.2 h2, if_neg (by simp [h0, h1, h2])]
          try dsimp only
          rw [cond_ff rfl, lt_of]
          have := name_loop (rns s, true) (by show (rns s).length ≤ _; omega) (fun _ => (bif (decide (((rns s).length : Int) > (24 : Int))) then (some (2 : Int)) else (some (0 : Int)))) fu 0 (by omega) (by show (rns s).length - 0 < fu; omega)
          refine Eq.trans this ?_
          rw [List.drop_zero]
          show (if (rns s).any bad = true then some 8 else _) = _
          split
          · rfl
          · by_cases h4 : 24 < (rns s).length
            · rw [cond_tt (decide_eq_true (by omega)), if_pos h4]
            · rw [cond_ff (decide_eq_false (by omega)), if_neg h4]
theorem check_loop (s : List UInt8) (hl : s.length ≤ 2000000) (kk : Int → Option Int) : ∀ (fuel p n : Nat), s.length - p < fuel → n ≤ p → p ≤ 4000000 → f_names_Check_L10 s kk fuel (n : Int) (p : Int) = if (rns (s.drop p)).any bad then some 8 else kk ((n + (rns (s.drop p)).length : Nat) : Int)
  | 0, p, n, h, _, _ => absurd h (Nat.not_lt_zero _)
  | fuel + 1, p, n, hf, hn, hp => by
    rw [f_names_Check_L10, Int.toNat_natCast]
    by_cases hlt : p < s.length
    · have hne : s.drop p ≠ [] := fun h => by have := congrArg List.length h; rw [List.length_drop] at this; simp at this; omega
      have hw := decodeL_width (s.drop p)
      have hle := decodeL_le (s.drop p) hne
      rw [List.length_drop] at hle
      have key : ∀ b : Bool, b = bad ((decodeL (s.drop p)).1 : Int) → (bif b then (some (8 : Int)) else f_names_Check_L10 s kk fuel (IntKind.i64.wrap ((n : Int) + 1)) ((p + (decodeL (s.drop p)).2 : Nat) : Int)) = if (rns (s.drop p)).any bad then some 8 else kk ((n + (rns (s.drop p)).length : Nat) : Int) := fun b hb => by
        rw [rns_step hne, List.any_cons, ← hb]
        cases b with
        | true => rfl
        | false =>
          rw [cond_ff rfl, wsucc (by omega), check_loop s hl kk fuel _ (n + 1) (by omega) (by omega) (by omega), Bool.false_or, List.drop_drop, List.length_cons]
          rw [show n + 1 + (rns (s.drop (p + (decodeL (s.drop p)).2))).length = n + ((rns (s.drop (p + (decodeL (s.drop p)).2))).length + 1) by omega]
      rw [cond_tt (decide_eq_true hlt), lt_of, dec_drop]
      unfold bad at key
      generalize (((decodeL (s.drop p)).1 : Nat) : Int) = c at key
      by_cases h1 : c = 47
      · rw [cond_tt (by rw [h1]; rfl)]; exact key true (by rw [decide_eq_true h1]; rfl)
      · rw [cond_ff (by rw [beq_eq_false_iff_ne]; exact h1)]
        by_cases h2 : c < 32
        · rw [cond_tt (decide_eq_true h2)]; exact key true (by rw [decide_eq_false h1, decide_eq_true h2]; rfl)
        · rw [cond_ff (decide_eq_false h2)]
          refine key _ ?_
          rw [decide_eq_false h1, decide_eq_false h2]
          by_cases h3 : c = 127
          · rw [h3]; rfl
          · rw [decide_eq_false h3, beq_eq_false_iff_ne.2 h3]; rfl
    · rw [cond_ff (decide_eq_false hlt), List.drop_of_length_le (by omega), rns_nil]; rfl
theorem check_ok (s : List UInt8) (hl : s.length ≤ 1048576) (fu : Nat) (hf : 1048600 ≤ fu) : f_names_Check fu s = some (nameV s) := by
  unfold f_names_Check nameV f_utf8_ValidString
  rw [lt_of]
  by_cases h0 : s = []
  · subst h0; rw [if_pos (.inl rfl)]; rfl
  · rw [cond_ff (by simpa using h0)]
    by_cases h1 : s = [46]
    · subst h1; rw [if_pos (.inr (.inl rfl))]; rfl
    · rw [cond_ff (by rw [beq_eq_false_iff_ne]; exact h1)]
      by_cases h2 : s = [46, 46]
      · subst h2; rw [if_pos (.inr (.inr (.inl rfl)))]; rfl
      · rw [cond_ff (by rw [beq_eq_false_iff_ne]; exact h2), req_pos (by omega), opt_of]
        cases hv : validD s with
        | false => rw [if_pos (by simp)]; rfl
        | true =>
          rw [if_neg (by simp [h0, h1, h2])]
          dsimp only
          rw [cond_ff (show (!true) = false from rfl), lt_of]
          have := check_loop s (by omega) (fun j4i3 => (bif (decide (j4i3 > (24 : Int))) then (some (2 : Int)) else (some (0 : Int)))) fu 0 0 (by omega) (by omega) (by omega)
          refine Eq.trans this ?_
          rw [List.drop_zero, Nat.zero_add]
          split
          · rfl
          · by_cases h4 : 24 < (rns s).length
            · rw [cond_tt (decide_eq_true (by omega)), if_pos h4]
            · rw [cond_ff (decide_eq_false (by omega)), if_neg h4]
end Go.Proofs.YtfhifdmbdkkgaaaDoor.PTreeName
namespace Go.Proofs.YtfhifdmbdkkgaaaDoor.StrOrd
open Go.RowKit YtfhifdmbdkkgaaaDoor.En YtfhifdmbdkkgaaaDoor
theorem u8_tri (a b : UInt8) : a < b ∨ a = b ∨ b < a := by
  rcases Nat.lt_trichotomy a.toNat b.toNat with h | h | h
  · exact .inl (UInt8.lt_iff_toNat_lt.2 h)
  · exact .inr (.inl (UInt8.toNat_inj.1 h))
  · exact .inr (.inr (UInt8.lt_iff_toNat_lt.2 h))
theorem u8_irr (a : UInt8) : ¬ a < a := fun h => Nat.lt_irrefl _ (UInt8.lt_iff_toNat_lt.1 h)
theorem u8_trans {a b c : UInt8} (h : a < b) (h' : b < c) : a < c := UInt8.lt_iff_toNat_lt.2 (Nat.lt_trans (UInt8.lt_iff_toNat_lt.1 h) (UInt8.lt_iff_toNat_lt.1 h'))
abbrev L (a b : List UInt8) : Prop := Op.bytesLess a b = true
theorem less_nil (a : List UInt8) : ¬ L a [] := by cases a <;> simp [L, Op.bytesLess]
theorem less_cons {x y : UInt8} {a b : List UInt8} : L (x :: a) (y :: b) ↔ x < y ∨ (x = y ∧ L a b) := by simp [L, Op.bytesLess]
theorem irr : ∀ a : List UInt8, ¬ L a a
  | [] => less_nil []
  | x :: a => fun h => by
    rcases less_cons.1 h with h | h
    · exact u8_irr x h
    · exact irr a h.2
theorem trans : ∀ {a b c : List UInt8}, L a b → L b c → L a c
  | a, [], c, h, _ => absurd h (less_nil a)
  | a, _ :: _, [], _, h => absurd h (less_nil _)
  | [], _ :: _, _ :: _, _, _ => rfl
  | x :: a, y :: b, z :: c, h, h' => by
    rcases less_cons.1 h with k | ⟨e, k⟩
    · rcases less_cons.1 h' with k' | ⟨e', _⟩
      · exact less_cons.2 (.inl (u8_trans k k'))
      · subst e'; exact less_cons.2 (.inl k)
    · subst e
      rcases less_cons.1 h' with k' | ⟨e', k'⟩
      · exact less_cons.2 (.inl k')
      · exact less_cons.2 (.inr ⟨e', trans k k'⟩)
theorem tri : ∀ a b : List UInt8, L a b ∨ a = b ∨ L b a
  | [], [] => .inr (.inl rfl)
  | [], _ :: _ => .inl rfl
  | _ :: _, [] => .inr (.inr rfl)
  | x :: a, y :: b => by
    rcases u8_tri x y with h | rfl | h
    · exact .inl (less_cons.2 (.inl h))
    · rcases tri a b with h | rfl | h
      · exact .inl (less_cons.2 (.inr ⟨rfl, h⟩))
      · exact .inr (.inl rfl)
      · exact .inr (.inr (less_cons.2 (.inr ⟨rfl, h⟩)))
    · exact .inr (.inr (less_cons.2 (.inl h)))
theorem asymm {a b : List UInt8} (h : L a b) : ¬ L b a := fun h' => irr a (trans h h')
end Go.Proofs.YtfhifdmbdkkgaaaDoor.StrOrd
namespace Go.Proofs.YtfhifdmbdkkgaaaDoor.PNamesSays
open Go.RowKit YtfhifdmbdkkgaaaDoor.En YtfhifdmbdkkgaaaDoor U8
open Go.Lib hiding cut
set_option linter.unusedVariables false
set_option linter.unusedSimpArgs false
abbrev L2 := List (List UInt8)
theorem iw {n : Nat} (h : n ≤ 9223372036854775807) : IntKind.i64.wrap (n : Int) = (n : Int) := w64 (by omega) (by omega)
def Sm (l : L2) : Prop := l.length ≤ 1048577 ∧ ∀ s ∈ l, s.length ≤ 1048576
theorem split_miss {s : List UInt8} (h : indexByte s 47 = -1) : splitV s [47] = [s] := by
  have h2 : index s [47] = -1 := by rw [index_one]; exact h
  unfold splitV
  rw [count_miss h2]; rfl
theorem split_hit {s : List UInt8} {i : Nat} (h : indexByte s 47 = i) : splitV s [47] = s.take i :: splitV (s.drop (i + 1)) [47] := by
  have h2 : index s [47] = i := by rw [index_one]; exact h
  have hn : ¬ (index s [47] == -1) = true := fun e => by have := beq_iff_eq.1 e; omega
  unfold splitV
  rw [count_hit (by simp) h2, Nat.add_comm]
  show (if (index s [47] == -1) = true then [s] else s.take ((index s [47]).toNat + 0) :: splitK [47] 0 (count (s.drop (i + [47].length)) [47]) (s.drop ((index s [47]).toNat + [47].length))) = _
  rw [if_neg hn, h2, Int.toNat_natCast]; rfl
theorem hit_lt {s : List UInt8} {i : Nat} (h : indexByte s 47 = i) : i < s.length := (List.getElem?_eq_some_iff.1 (indexByte_some h).1).1
theorem split_sm : ∀ (n : Nat) (s : List UInt8), s.length ≤ n → (splitV s [47]).length ≤ s.length + 1 ∧ ∀ x ∈ splitV s [47], x.length ≤ s.length
  | n, s, hn => by
    rcases Int.lt_or_le (indexByte s 47) 0 with h | h
    · have hm : indexByte s 47 = -1 := by have := indexByte_ge s 47; omega
      rw [split_miss hm]
      exact ⟨by simp, by simp⟩
    · obtain ⟨i, hi⟩ : ∃ i : Nat, indexByte s 47 = i := ⟨(indexByte s 47).toNat, by omega⟩
      have hlt := hit_lt hi
      rw [split_hit hi]
      match n with
      | 0 => omega
      | n + 1 =>
        obtain ⟨h1, h2⟩ := split_sm n (s.drop (i + 1)) (by rw [List.length_drop]; omega)
        rw [List.length_drop] at h1 h2
        refine ⟨by rw [List.length_cons]; omega, fun x hx => ?_⟩
        rcases List.mem_cons.1 hx with rfl | hx
        · rw [List.length_take]; omega
        · have := h2 x hx; omega
theorem cut_ok : ∀ (fu : Nat) (s : List UInt8), s.length < fu → s.length ≤ 1048576 → f_lumref_cutAt fu s = some (splitV s [47])
  | 0, s, h, _ => absurd h (Nat.not_lt_zero _)
  | fu + 1, s, h, hs => by
    rw [f_lumref_cutAt]
    unfold f_strings_IndexByte
    rw [opt_of, show ((47 : Int)).toNat.toUInt8 = 47 from rfl]
    rcases Int.lt_or_le (indexByte s 47) 0 with h1 | h1
    · have hm : indexByte s 47 = -1 := by have := indexByte_ge s 47; omega
      rw [split_miss hm, hm, cond_tt (decide_eq_true (by decide))]
    · obtain ⟨i, hi⟩ : ∃ i : Nat, indexByte s 47 = i := ⟨(indexByte s 47).toNat, by omega⟩
      have hlt := hit_lt hi
      have hsm := (split_sm _ (s.drop (i + 1)) (Nat.le_refl _)).1
      rw [List.length_drop] at hsm
      rw [split_hit hi, hi, cond_ff (decide_eq_false (by omega)), wsucc (by omega), req_pos (by omega), req_pos (by omega), Int.toNat_natCast, Int.toNat_natCast, cut_ok fu (s.drop (i + 1)) (by rw [List.length_drop]; omega) (by rw [List.length_drop]; omega), opt_of, req_pos (by rw [List.length_singleton]; omega)]; rfl
theorem fsplit_ok (fu : Nat) (s : List UInt8) (hs : s.length ≤ 1048576) : f_strings_Split fu s [47] = some (splitV s [47]) := by
  unfold f_strings_Split
  rw [req_pos ⟨by omega, by simp⟩]
theorem sm_split (s : List UInt8) (hs : s.length ≤ 1048576) : Sm (splitV s [47]) := by
  obtain ⟨h1, h2⟩ := split_sm _ s (Nat.le_refl _)
  exact ⟨by omega, fun x hx => by have := h2 x hx; omega⟩
def chk : Nat → L2 → Int
  | _, [] => 0
  | i, s :: t => if 8 ≤ i then 14 else if nameV s ≠ 0 then nameV s else chk (i + 1) t
theorem chk_cons (i : Nat) (s : List UInt8) (t : L2) : chk i (s :: t) = if 8 ≤ i then 14 else if nameV s ≠ 0 then nameV s else chk (i + 1) t := rfl
theorem chk_len : ∀ (l : L2) (i : Nat), chk i l = 0 → i ≤ 8 → i + l.length ≤ 8
  | [], i, _, hi => by simp; exact hi
  | s :: t, i, h, hi => by
    rw [chk_cons] at h
    by_cases h1 : 8 ≤ i
    · rw [if_pos h1] at h; exact absurd h (by decide)
    rw [if_neg h1] at h
    by_cases h2 : nameV s ≠ 0
    · rw [if_pos h2] at h; exact absurd h h2
    rw [if_neg h2] at h
    have := chk_len t (i + 1) h (by omega)
    rw [List.length_cons]; omega
theorem all_loop (l : L2) (hl : Sm l) (kk : Unit → Option Int) (g : Nat) (hg : 1048600 ≤ g) : ∀ (d i fu : Nat), l.length - i = d → i ≤ l.length → d < fu →
    f_names_checkAll_L5 l kk g fu (i : Int) = if chk i (l.drop i) = 0 then kk () else some (chk i (l.drop i))
  | _, _, 0, _, _, hf => absurd hf (Nat.not_lt_zero _)
  | 0, i, fu + 1, hd, hi, _ => by
    rw [f_names_checkAll_L5, cond_ff (dge (by omega)), List.drop_of_length_le (by omega)]; rfl
  | d + 1, i, fu + 1, hd, hi, hf => by
    have hlt : i < l.length := by omega
    have hb := hl.1
    rw [f_names_checkAll_L5, cond_tt (dlt (by omega)), at_lt hlt, opt_of, List.drop_eq_getElem_cons hlt, chk_cons]
    by_cases h8 : 8 ≤ i
    · rw [cond_tt (decide_eq_true (by omega)), if_pos h8, if_neg (by decide)]
    · rw [cond_ff (decide_eq_false (by omega)), if_neg h8, PTreeName.check_ok _ (hl.2 _ (List.getElem_mem hlt)) g hg, opt_of]
      by_cases hn : nameV l[i] = 0
      · rw [cond_ff (show (nameV l[i] != 0) = false from by simpa using hn), if_neg (c := nameV l[i] ≠ 0) (by simpa using hn), wsucc (by omega)]
        exact all_loop l hl kk g hg d (i + 1) fu (by omega) (by omega) (by omega)
      · rw [cond_tt (show (nameV l[i] != 0) = true from by simpa using hn), if_pos hn, if_neg hn]
theorem rall_loop (l : L2) (hl : Sm l) (kk : Unit → Option Int) (g : Nat) (hg : 1048600 ≤ g) : ∀ (d i fu : Nat), l.length - i = d → i ≤ l.length → d < fu →
    f_lumref_nameErr_L5 l kk g fu (i : Int) = if chk i (l.drop i) = 0 then kk () else some (chk i (l.drop i))
  | _, _, 0, _, _, hf => absurd hf (Nat.not_lt_zero _)
  | 0, i, fu + 1, hd, hi, _ => by
    rw [f_lumref_nameErr_L5, cond_ff (dge (by omega)), List.drop_of_length_le (by omega)]; rfl
  | d + 1, i, fu + 1, hd, hi, hf => by
    have hlt : i < l.length := by omega
    have hb := hl.1
    rw [f_lumref_nameErr_L5, cond_tt (dlt (by omega)), at_lt hlt, opt_of, List.drop_eq_getElem_cons hlt, chk_cons]
    by_cases h8 : 8 ≤ i
    · rw [cond_tt (decide_eq_true (by omega)), if_pos h8, if_neg (by decide)]
    · rw [cond_ff (decide_eq_false (by omega)), if_neg h8, PTreeName.name_ok _ (hl.2 _ (List.getElem_mem hlt)) g hg, opt_of]
      by_cases hn : nameV l[i] = 0
      · rw [cond_ff (show (nameV l[i] != 0) = false from by simpa using hn), if_neg (c := nameV l[i] ≠ 0) (by simpa using hn), wsucc (by omega)]
        exact rall_loop l hl kk g hg d (i + 1) fu (by omega) (by omega) (by omega)
      · rw [cond_tt (show (nameV l[i] != 0) = true from by simpa using hn), if_pos hn, if_neg hn]
theorem all_ok (l : L2) (hl : Sm l) (fu : Nat) (hf : 2000000 ≤ fu) : f_names_checkAll fu l = some (chk 0 l) ∧ f_lumref_nameErr fu l = some (chk 0 l) := by
  have hb := hl.1
  unfold f_names_checkAll f_lumref_nameErr
  rw [lt_of, lt_of]
  have e1 := all_loop l hl (fun _ => some (0 : Int)) fu (by omega) _ 0 fu rfl (Nat.zero_le _) (by omega)
  have e2 := rall_loop l hl (fun _ => some (0 : Int)) fu (by omega) _ 0 fu rfl (Nat.zero_le _) (by omega)
  rw [List.drop_zero] at e1 e2
  have key : (if chk 0 l = 0 then some (0 : Int) else some (chk 0 l)) = some (chk 0 l) := by
    by_cases h : chk 0 l = 0
    · rw [if_pos h, h]
    · rw [if_neg h]
  exact ⟨e1.trans key, e2.trans key⟩
def sp (p : List UInt8) : L2 × Int := if p.take 1 ≠ [47] then ([], 8) else if p = [47] then ([], 0) else if chk 0 (splitV (p.drop 1) [47]) ≠ 0 then ([], chk 0 (splitV (p.drop 1) [47])) else (splitV (p.drop 1) [47], 0)
theorem sp_tail (r : L2) (e : Int) : (bif (e != (0 : Int)) then (some (([] : List (List UInt8)), e)) else (some (r, (0 : Int)))) = some (if e ≠ 0 then ([], e) else (r, 0)) := by
  by_cases h : e = 0
  · rw [if_neg (by simpa using h), cond_ff (show (e != 0) = false from by simpa using h)]
  · rw [if_pos h, cond_tt (show (e != 0) = true from by simpa using h)]
theorem split1 (p : List UInt8) (hp : p.length ≤ 1048576) (fu : Nat) (hf : 2000000 ≤ fu) : f_names_Split fu p = some (sp p) := by
  unfold f_names_Split f_strings_CutPrefix f_stringslite_CutPrefix f_stringslite_HasPrefix sp
  rw [lt_of]
  cases p with
  | nil => rfl
  | cons b t =>
    rw [cond_tt (decide_eq_true (by rw [List.length_cons]; show ((t.length + 1 : Nat) : Int) ≥ (([47] : List UInt8).length : Int); simp; omega)), req_pos (by simp; omega)]
    rw [show (((([47] : List UInt8).length : Nat) : Int)).toNat = 1 from rfl, opt_of]
    by_cases h1 : (b :: t).take 1 = [47]
    · rw [beq_iff_eq.2 h1, if_neg (by simpa using h1), cond_ff (show (!true) = false from rfl), req_pos (by simp; omega), opt_of, opt_of]
      dsimp only
      rw [cond_ff (show (!true) = false from rfl)]
      have hb : b = 47 := by simpa using h1
      have hd : (b :: t).drop 1 = t := rfl
      have htl : t.length ≤ 1048576 := by rw [List.length_cons] at hp; omega
      rw [hd]
      by_cases h2 : t = []
      · subst h2; subst hb; rw [if_pos rfl]; rfl
      · rw [beq_eq_false_iff_ne.2 h2, if_neg (by rw [hb]; simpa using h2), cond_ff rfl, fsplit_ok fu t htl, opt_of, (all_ok _ (sm_split t htl) fu hf).1, opt_of]
        exact sp_tail _ _
    · rw [beq_eq_false_iff_ne.2 h1, if_pos h1]; rfl
theorem split2 (p : List UInt8) (hp : p.length ≤ 1048576) (fu : Nat) (hf : 2000000 ≤ fu) : f_lumref_Split fu p = some (sp p) := by
  unfold f_lumref_Split sp
  rw [lt_of]
  cases p with
  | nil => rfl
  | cons b t =>
    have hbt := b.toNat_lt
    rw [cond_ff (show ((b :: t) == ([] : List UInt8)) = false from rfl), req_pos (by rw [List.length_cons]; omega)]
    rw [show En.bAt (b :: t) (0 : Int) = ((b.toNat : Nat) : Int) from rfl]
    by_cases h1 : b = 47
    · rw [if_neg (by rw [h1]; simp), show ((((b.toNat : Nat) : Int)) != (47 : Int)) = false from by rw [h1]; rfl]
      dsimp only
      rw [cond_ff rfl]
      have htl : t.length ≤ 1048576 := by rw [List.length_cons] at hp; omega
      by_cases h2 : t = []
      · subst h2; subst h1; rw [if_pos rfl]; rfl
      · rw [beq_eq_false_iff_ne.2 (show b :: t ≠ [47] from by simp [h2]), if_neg (by simp [h2]), cond_ff rfl, req_pos (by rw [List.length_cons]; omega)]
        show (opt (f_lumref_cutAt fu t) _) = _
        rw [cut_ok fu t (by omega) htl, opt_of, (all_ok _ (sm_split t htl) fu hf).2, opt_of]
        exact sp_tail _ _
    · have hne : b.toNat ≠ 47 := fun e => h1 (UInt8.toNat_inj.1 (by rw [e]; rfl))
      rw [if_pos (by simpa using h1), show ((((b.toNat : Nat) : Int)) != (47 : Int)) = true from by rw [bne_iff_ne]; omega]; rfl
theorem sp_sm (p : List UInt8) (hp : p.length ≤ 1048576) : Sm (sp p).1 := by
  have hnil : Sm ([] : L2) := ⟨by simp, by simp⟩
  unfold sp
  split
  · exact hnil
  split
  · exact hnil
  split
  · exact hnil
  · exact sm_split _ (by rw [List.length_drop]; omega)
def jn (l : L2) : List UInt8 := if l = [] then [47] else l.flatMap (fun s => [47] ++ s)
def jr (l : L2) : List UInt8 × Int := if chk 0 l ≠ 0 then ([], chk 0 l) else (jn l, 0)
theorem jloop (l : L2) (hl : Sm l) (h8 : l.length ≤ 8) (kk : List UInt8 → Option (List UInt8 × Int)) : ∀ (d i fu : Nat) (acc : List UInt8), l.length - i = d → i ≤ l.length → d < fu → acc.length ≤ 1048577 * i →
    f_lumref_Join_L9 l kk fu acc (i : Int) = kk (acc ++ (l.drop i).flatMap (fun s => [47] ++ s))
  | _, _, 0, _, _, _, hf, _ => absurd hf (Nat.not_lt_zero _)
  | 0, i, fu + 1, acc, hd, hi, _, _ => by
    rw [f_lumref_Join_L9, cond_ff (dge (by omega)), List.drop_of_length_le (by omega), List.flatMap_nil, List.append_nil]
  | d + 1, i, fu + 1, acc, hd, hi, hf, ha => by
    have hlt : i < l.length := by omega
    have hs := hl.2 _ (List.getElem_mem hlt)
    rw [f_lumref_Join_L9, cond_tt (dlt (by omega)), at_lt hlt, opt_of, req_pos (by rw [List.length_singleton]; omega), req_pos (by rw [List.length_append, List.length_singleton]; omega), wsucc (by omega), jloop l hl h8 kk d (i + 1) fu _ (by omega) (by omega) (by omega) (by rw [List.length_append, List.length_append, List.length_singleton]; omega), List.drop_eq_getElem_cons hlt, List.flatMap_cons, List.append_assoc acc]
theorem join2 (l : L2) (hl : Sm l) (fu : Nat) (hf : 2000000 ≤ fu) : f_lumref_Join fu l = some (jr l) := by
  unfold f_lumref_Join jr
  rw [(all_ok l hl fu hf).2, opt_of]
  by_cases h : chk 0 l = 0
  · have hlen := chk_len l 0 h (by omega)
    rw [if_neg (by simpa using h), cond_ff (show (chk 0 l != 0) = false from by simpa using h)]
    cases l with
    | nil => rfl
    | cons x r =>
      rw [cond_ff (show (((x :: r).length : Int) == 0) = false from by rw [beq_eq_false_iff_ne, List.length_cons]; omega), lt_of]
      refine (jloop (x :: r) hl (by omega) _ _ 0 fu [] rfl (Nat.zero_le _) (by omega) (by simp)).trans ?_
      unfold jn
      rw [if_neg (by simp), List.drop_zero, List.nil_append]
  · rw [if_pos h, cond_tt (show (chk 0 l != 0) = true from by simpa using h)]
def ah : L2 → L2 → Bool
  | _, [] => false
  | [], _ :: _ => true
  | x :: l, y :: m => if x ≠ y then Op.bytesLess x y else ah l m
theorem ah_cons (x y : List UInt8) (l m : L2) : ah (x :: l) (y :: m) = if x ≠ y then Op.bytesLess x y else ah l m := rfl
theorem ah_nil (l : L2) : ah l [] = false := by cases l <;> rfl
theorem less_self : ∀ a : List UInt8, Op.bytesLess a a = false
  | [] => rfl
  | b :: t => by
    show (decide (b < b) || (b == b && Op.bytesLess t t)) = false
    rw [less_self t]; simp
theorem cmp_ok (x y : List UInt8) (fu : Nat) : f_cmp_Compare_string_ fu x y = some (if Op.bytesLess x y = true then -1 else if x = y then 0 else 1) := by
  unfold f_cmp_Compare_string_ f_cmp_isNaN_string_
  rw [beq_self_eq_true, beq_self_eq_true, show (!true) = false from rfl, opt_of, opt_of, cond_ff rfl, cond_ff rfl]
  cases hb : Op.bytesLess x y with
  | true => rw [cond_tt rfl, if_pos rfl]
  | false =>
    rw [cond_ff rfl, if_neg (by simp), Bool.false_or]
    by_cases h : x = y
    · rw [beq_iff_eq.2 h, if_pos h]; rfl
    · rw [beq_eq_false_iff_ne.2 h, if_neg h]; rfl
theorem cmp_loop (a b : L2) (ha : a.length ≤ 1048577) (hb : b.length ≤ 1048577) (g : Nat) : ∀ (d i fu : Nat), a.length - i = d → i ≤ a.length → i ≤ b.length → d < fu →
    ∃ c : Int, f_slices_Compare___string_string__L6 a b (fun _ => (bif (decide ((a.length : Int) < (b.length : Int))) then (some (-1 : Int)) else (some (0 : Int)))) g fu (i : Int) = some c ∧ decide (c < 0) = ah (a.drop i) (b.drop i)
  | _, _, 0, _, _, _, hf => absurd hf (Nat.not_lt_zero _)
  | 0, i, fu + 1, hd, hi, hib, _ => by
    have hia : i = a.length := by omega
    rw [f_slices_Compare___string_string__L6, cond_ff (dge (by omega)), List.drop_of_length_le (l := a) (by omega)]
    by_cases h : a.length < b.length
    · rw [cond_tt (decide_eq_true (by omega)), List.drop_eq_getElem_cons (by omega : i < b.length)]
      exact ⟨-1, rfl, rfl⟩
    · rw [cond_ff (decide_eq_false (by omega)), List.drop_of_length_le (l := b) (by omega)]
      exact ⟨0, rfl, rfl⟩
  | d + 1, i, fu + 1, hd, hi, hib, hf => by
    have hlt : i < a.length := by omega
    rw [f_slices_Compare___string_string__L6, cond_tt (dlt (by omega)), at_lt hlt, opt_of]
    by_cases h : i < b.length
    · rw [cond_ff (decide_eq_false (by omega)), at_lt h, opt_of, cmp_ok, opt_of, List.drop_eq_getElem_cons hlt, List.drop_eq_getElem_cons h, ah_cons]
      by_cases he : a[i] = b[i]
      · rw [he, less_self, if_neg (by simp), if_pos rfl, if_neg (by simp), cond_ff (show ((0 : Int) != 0) = false from rfl), wsucc (by omega)]
        exact cmp_loop a b ha hb g d (i + 1) fu (by omega) (by omega) (by omega) (by omega)
      · rw [if_pos he, if_neg he]
        cases hq : Op.bytesLess a[i] b[i] with
        | true => rw [if_pos rfl]; exact ⟨-1, rfl, rfl⟩
        | false => rw [if_neg (by simp)]; exact ⟨1, rfl, rfl⟩
    · rw [cond_tt (decide_eq_true (by omega)), List.drop_of_length_le (l := b) (by omega), ah_nil]
      exact ⟨1, rfl, rfl⟩
theorem ahead_ok : ∀ (fu : Nat) (a b : L2), a.length < fu → a.length ≤ 1048577 → f_lumref_ahead fu a b = some (ah a b)
  | 0, a, b, h, _ => absurd h (Nat.not_lt_zero _)
  | fu + 1, a, b, h, hl => by
    rw [f_lumref_ahead]
    cases b with
    | nil => rw [ah_nil]; rfl
    | cons y m =>
      rw [cond_ff (show (((y :: m).length : Int) == 0) = false from by rw [beq_eq_false_iff_ne, List.length_cons]; omega)]
      cases a with
      | nil => rfl
      | cons x l =>
        rw [List.length_cons] at h hl
        rw [cond_ff (show (((x :: l).length : Int) == 0) = false from by rw [beq_eq_false_iff_ne, List.length_cons]; omega), show at? (x :: l) (0 : Int) = some x from rfl, show at? (y :: m) (0 : Int) = some y from rfl, opt_of, opt_of, ah_cons]
        by_cases he : x = y
        · rw [beq_iff_eq.2 he, cond_ff (show (!true) = false from rfl), req_pos (by rw [List.length_cons]; omega), req_pos (by rw [List.length_cons]; omega), if_neg (by simpa using he)]
          show (opt (f_lumref_ahead fu l m) _) = _
          rw [ahead_ok fu l m (by omega) (by omega), opt_of]
        · rw [beq_eq_false_iff_ne.2 he, cond_tt (show (!false) = true from rfl), if_pos he, opt_of, opt_of]
def ls (p q : List UInt8) : Bool × Int := if (sp p).2 ≠ 0 then (false, (sp p).2) else if (sp q).2 ≠ 0 then (false, (sp q).2) else (ah (sp p).1 (sp q).1, 0)
theorem less2 (p q : List UInt8) (hp : p.length ≤ 1048576) (hq : q.length ≤ 1048576) (fu : Nat) (hf : 2000000 ≤ fu) : f_lumref_Less fu p q = some (ls p q) := by
  have h1 := sp_sm p hp
  have h2 := sp_sm q hq
  have hl1 := h1.1
  have hl2 := h2.1
  unfold f_lumref_Less ls
  rw [split2 p hp fu hf, opt_of]
  by_cases e1 : (sp p).2 = 0
  · rw [if_neg (by simpa using e1), cond_ff (show ((sp p).2 != 0) = false from by simpa using e1), split2 q hq fu hf, opt_of]
    by_cases e2 : (sp q).2 = 0
    · rw [if_neg (by simpa using e2), cond_ff (show ((sp q).2 != 0) = false from by simpa using e2), ahead_ok fu _ _ (by omega) (by omega), opt_of]
    · rw [if_pos e2, cond_tt (show ((sp q).2 != 0) = true from by simpa using e2)]
  · rw [if_pos e1, cond_tt (show ((sp p).2 != 0) = true from by simpa using e1)]
theorem compare1 (p q : List UInt8) (hp : p.length ≤ 1048576) (hq : q.length ≤ 1048576) (fu : Nat) (hf : 2000000 ≤ fu) : ∃ c : Int, f_names_Compare fu p q = some c ∧ decide (c < 0) = ah (sp p).1 (sp q).1 := by
  have h1 := sp_sm p hp
  have h2 := sp_sm q hq
  have hl1 := h1.1
  have hl2 := h2.1
  unfold f_names_Compare
  rw [split1 p hp fu hf, split1 q hq fu hf, opt_of, opt_of]
  obtain ⟨c, c1, c2⟩ := cmp_loop (sp p).1 (sp q).1 hl1 hl2 fu _ 0 fu rfl (Nat.zero_le _) (Nat.zero_le _) (by omega)
  unfold f_slices_Compare___string_string_
  rw [lt_of]
  rw [show (0 : Int) = ((0 : Nat) : Int) from rfl] at *
  rw [c1, opt_of]
  exact ⟨c, rfl, by rw [c2, List.drop_zero, List.drop_zero]⟩
end Go.Proofs.YtfhifdmbdkkgaaaDoor.PNamesSays
namespace Go.Proofs.YtfhifdmbdkkgaaaDoor.PWorld
open Go.RowKit YtfhifdmbdkkgaaaDoor.En YtfhifdmbdkkgaaaDoor U8 PNamesSays
open Go.Lib hiding cut
set_option linter.unusedVariables false
set_option linter.unusedSimpArgs false
abbrev It := S_api_Item
theorem split_parts : ∀ (n : Nat) (s : List UInt8), s.length ≤ n → [47] ++ s = (splitV s [47]).flatMap (fun x => [47] ++ x) ∧ ∀ x ∈ splitV s [47], (47 : UInt8) ∉ x
  | n, s, hn => by
    rcases Int.lt_or_le (indexByte s 47) 0 with h | h
    · have hm : indexByte s 47 = -1 := by have := indexByte_ge s 47; omega
      rw [split_miss hm]
      refine ⟨by simp, fun x hx hc => ?_⟩
      rw [List.mem_singleton.1 hx] at hc
      obtain ⟨k, hk⟩ := List.mem_iff_getElem?.1 hc
      exact indexByte_none hm k hk
    · obtain ⟨i, hi⟩ : ∃ i : Nat, indexByte s 47 = i := ⟨(indexByte s 47).toNat, by omega⟩
      have hlt := hit_lt hi
      rw [split_hit hi]
      match n with
      | 0 => omega
      | n + 1 =>
        obtain ⟨h1, h2⟩ := split_parts n (s.drop (i + 1)) (by rw [List.length_drop]; omega)
        obtain ⟨hat, hbe⟩ := indexByte_some hi
        have e47 : s[i] = 47 := by rw [List.getElem?_eq_getElem hlt] at hat; exact Option.some.inj hat
        refine ⟨?_, fun x hx => ?_⟩
        · rw [List.flatMap_cons, ← h1]
          conv => lhs; rw [← List.take_append_drop i s, List.drop_eq_getElem_cons hlt, e47]
          simp
        · rcases List.mem_cons.1 hx with rfl | hx
          · intro hc
            obtain ⟨k, hk⟩ := List.mem_iff_getElem?.1 hc
            rw [List.getElem?_take] at hk
            split at hk
            · rename_i hlk; exact hbe k hlk hk
            · cases hk
          · exact h2 x hx
theorem sp_good {p : List UInt8} (h : (sp p).2 = 0) (hne : (sp p).1 ≠ []) : p = (sp p).1.flatMap (fun x => [47] ++ x) ∧ (∀ x ∈ (sp p).1, (47 : UInt8) ∉ x) ∧ chk 0 (sp p).1 = 0 ∧ (sp p).1 = splitV (p.drop 1) [47] := by
  unfold sp at h hne ⊢
  by_cases h1 : p.take 1 ≠ [47]
  · rw [if_pos h1] at hne; exact absurd rfl hne
  rw [if_neg h1] at h hne ⊢
  by_cases h2 : p = [47]
  · rw [if_pos h2] at hne; exact absurd rfl hne
  rw [if_neg h2] at h hne ⊢
  by_cases h3 : chk 0 (splitV (p.drop 1) [47]) ≠ 0
  · rw [if_pos h3] at hne; exact absurd rfl hne
  rw [if_neg h3] at h hne ⊢
  obtain ⟨e1, e2⟩ := split_parts _ (p.drop 1) (Nat.le_refl _)
  refine ⟨?_, e2, by simpa using h3, rfl⟩
  show p = (splitV (p.drop 1) [47]).flatMap _
  rw [← e1]
  have := List.take_append_drop 1 p
  rw [show p.take 1 = [47] from by simpa using h1] at this
  exact this.symm
theorem sp_zero_take {p : List UInt8} (h : (sp p).2 = 0) : p.take 1 = [47] := by
  unfold sp at h
  by_cases h1 : p.take 1 ≠ [47]
  · rw [if_pos h1] at h; exact absurd h (by decide)
  · simpa using h1
theorem bat {s : List UInt8} {i : Nat} : En.bAt s (i : Int) = ((s.getD i 0).toNat : Int) := rfl
theorem last_go (a b : List UInt8) (hb : (47 : UInt8) ∉ b) (hl : a.length + b.length + 1 ≤ 1048577) (kk : Unit → Option Int) : ∀ (d i fu : Nat), i = a.length + d → d ≤ b.length → d < fu → f_bytealg_LastIndexByteString_L5 (a ++ 47 :: b) 47 kk fu (i : Int) = some (a.length : Int)
  | _, _, 0, _, _, h => absurd h (Nat.not_lt_zero _)
  | 0, i, fu + 1, hi, _, _ => by
    subst hi
    rw [f_bytealg_LastIndexByteString_L5, cond_tt (decide_eq_true (by omega)), req_pos ⟨by omega, by rw [List.length_append, List.length_cons]; omega⟩, bat, show (a ++ 47 :: b).getD (a.length + 0) 0 = 47 from by simp [List.getD], cond_tt (by decide)]; rfl
  | d + 1, i, fu + 1, hi, hd, hf => by
    have hlt : d < b.length := by omega
    have hne : b[d] ≠ 47 := fun e => hb (e ▸ List.getElem_mem hlt)
    have hg : (a ++ 47 :: b).getD i 0 = b[d] := by
      rw [List.getD_eq_getElem?_getD, List.getElem?_append_right (by omega), show i - a.length = d + 1 from by omega, List.getElem?_cons_succ, List.getElem?_eq_getElem hlt]; rfl
    rw [f_bytealg_LastIndexByteString_L5, cond_tt (decide_eq_true (by omega)), req_pos ⟨by omega, by rw [List.length_append, List.length_cons]; omega⟩, bat, hg, cond_ff (by
      rw [beq_eq_false_iff_ne]; intro e
      exact hne (UInt8.toNat_inj.1 (by rw [show (b[d].toNat : Nat) = 47 from by omega]; rfl))), show IntKind.i64.wrap ((i : Int) - 1) = ((i - 1 : Nat) : Int) from by rw [w64 (by omega) (by omega)]; omega]
    exact last_go a b hb hl kk d (i - 1) fu (by omega) (by omega) (by omega)
theorem last_ok (a b : List UInt8) (hb : (47 : UInt8) ∉ b) (hl : a.length + b.length + 1 ≤ 1048577) (fu : Nat) (hf : 2000000 ≤ fu) : f_bytealg_LastIndexByteString fu (a ++ 47 :: b) 47 = some (a.length : Int) := by
  unfold f_bytealg_LastIndexByteString
  rw [lt_of, show IntKind.i64.wrap (((a ++ 47 :: b).length : Int) - 1) = ((a.length + b.length : Nat) : Int) from by rw [List.length_append, List.length_cons, w64 (by omega) (by omega)]; omega]
  exact last_go a b hb hl _ b.length _ fu rfl (Nat.le_refl _) (by omega)
def par (p : List UInt8) : List UInt8 := ((sp p).1.take ((sp p).1.length - 1)).flatMap (fun x => [47] ++ x)
theorem par_last {l : L2} (h : l ≠ []) : l.flatMap (fun x => [47] ++ x) = (l.take (l.length - 1)).flatMap (fun x => [47] ++ x) ++ 47 :: l.getLast h := by
  have e := List.dropLast_concat_getLast h
  have e2 : (l.dropLast ++ [l.getLast h]).flatMap (fun x => [47] ++ x) = l.dropLast.flatMap (fun x => [47] ++ x) ++ [l.getLast h].flatMap (fun x => [47] ++ x) := List.flatMap_append
  rw [e] at e2
  rw [e2, List.dropLast_eq_take, List.flatMap_singleton]; rfl
theorem par_split {p : List UInt8} (h : (sp p).2 = 0) (hne : (sp p).1 ≠ []) : p = par p ++ 47 :: (sp p).1.getLast hne ∧ (47 : UInt8) ∉ (sp p).1.getLast hne := by
  obtain ⟨h1, h2, h3, _⟩ := sp_good h hne
  refine ⟨?_, h2 _ (List.getLast_mem hne)⟩
  conv => lhs; rw [h1]
  exact par_last hne
theorem parent_ok {p : List UInt8} (h : (sp p).2 = 0) (hne : (sp p).1 ≠ []) (hp : p.length ≤ 1048576) (fu : Nat) (hf : 2000000 ≤ fu) : f_walk_Parent fu p = some (par p) := by
  obtain ⟨h1, h2⟩ := par_split h hne
  unfold f_walk_Parent f_strings_LastIndexByte
  generalize hb : (sp p).1.getLast hne = b at h1 h2
  generalize ha : par p = a at h1
  subst h1
  rw [List.length_append, List.length_cons] at hp
  rw [last_ok a b h2 (by omega) fu hf, opt_of, opt_of, req_pos ⟨by omega, by rw [List.length_append]; omega⟩, Int.toNat_natCast, List.take_left]
def itemV (x : It) : Int := if (sp x.Path).2 ≠ 0 then (sp x.Path).2 else if (sp x.Path).1 = [] then 8 else if ¬ (x.Kind = 1 ∨ x.Kind = 2 ∨ x.Kind = 3) then 5 else if x.Mode < 0 ∨ x.Mode > 511 then 1
  else if (x.Kind = 1 ∧ x.Bytes.length > 4096) ∨ (x.Kind = 2 ∧ x.Bytes ≠ []) ∨ (x.Kind = 3 ∧ x.Bytes.length > 1024) then 2 else if x.Kind = 3 ∧ x.Bytes = [] then 4 else 0
theorem len0 {α : Type} (l : List α) : ((l.length : Int) == 0) = decide (l = []) := by
  cases l with
  | nil => rfl
  | cons a t => rw [beq_eq_false_iff_ne.2 (by rw [List.length_cons]; omega)]; rfl
theorem ne0 (e : Int) : (e != 0) = decide (e ≠ 0) := by by_cases h : e = 0 <;> simp [h]
theorem nlt (a b : Nat) : (a > b) = ((b : Int) < (a : Int)) := by rw [eq_iff_iff]; omega
theorem item1 (x : It) (hp : x.Path.length ≤ 1048576) (fu : Nat) (hf : 2000000 ≤ fu) : f_walk_item fu x = some (itemV x) := by
  unfold f_walk_item itemV f_tree_Known
  rw [split1 _ hp fu hf, opt_of, ne0, cond_dec, len0, cond_dec]
  split
  · rfl
  split
  · rfl
  by_cases k1 : x.Kind = 1
  · rw [k1]
    simp only [lt_of]
    by_cases m0 : x.Mode < 0
    · simp [m0]
    by_cases m1 : 511 < x.Mode
    · simp [m0, m1]
    by_cases b1 : (4096 : Int) < (x.Bytes.length : Int)
    · simp [m0, m1, b1, nlt]
    · simp [m0, m1, b1, nlt]
  by_cases k2 : x.Kind = 2
  · rw [k2]
    simp only [lt_of]
    by_cases m0 : x.Mode < 0
    · simp [m0]
    by_cases m1 : 511 < x.Mode
    · simp [m0, m1]
    by_cases b1 : x.Bytes = []
    · simp [m0, m1, b1, nlt]
    · have b2 : (x.Bytes == []) = false := by simpa using b1
      simp [m0, m1, b1, b2, nlt]
  by_cases k3 : x.Kind = 3
  · rw [k3]
    simp only [lt_of]
    by_cases m0 : x.Mode < 0
    · simp [m0]
    by_cases m1 : 511 < x.Mode
    · simp [m0, m1]
    by_cases b1 : (1024 : Int) < (x.Bytes.length : Int)
    · simp [m0, m1, b1, nlt]
    by_cases b2 : x.Bytes = []
    · simp [m0, m1, b1, b2, nlt]
    · have b3 : (x.Bytes == []) = false := by simpa using b2
      simp [m0, m1, b1, b2, b3, nlt]
  · have hk : ¬ (1 ≤ x.Kind ∧ x.Kind ≤ 3) := by omega
    rw [if_pos (by simp [k1, k2, k3])]
    by_cases h1 : 1 ≤ x.Kind
    · have h3 : ¬ x.Kind ≤ 3 := fun h => hk ⟨h1, h⟩
      simp [h1, h3]
    · simp [h1]
theorem item2 (x : It) (hp : x.Path.length ≤ 1048576) (fu : Nat) (hf : 2000000 ≤ fu) : f_lumref_itemErr fu x = some (itemV x) := by
  unfold f_lumref_itemErr itemV
  rw [split2 _ hp fu hf, opt_of, ne0, cond_dec, len0, cond_dec]
  split
  · rfl
  split
  · rfl
  by_cases k1 : x.Kind = 1
  · rw [k1]
    simp only [lt_of]
    by_cases m0 : x.Mode < 0
    · simp [m0]
    by_cases m1 : 511 < x.Mode
    · simp [m0, m1]
    by_cases b1 : (4096 : Int) < (x.Bytes.length : Int)
    · simp [m0, m1, b1, nlt]
    · simp [m0, m1, b1, nlt]
  by_cases k2 : x.Kind = 2
  · rw [k2]
    simp only [lt_of]
    by_cases m0 : x.Mode < 0
    · simp [m0]
    by_cases m1 : 511 < x.Mode
    · simp [m0, m1]
    by_cases b1 : x.Bytes = []
    · simp [m0, m1, b1, nlt]
    · have b2 : (x.Bytes == []) = false := by simpa using b1
      simp [m0, m1, b1, b2, nlt]
  by_cases k3 : x.Kind = 3
  · rw [k3]
    simp only [lt_of]
    by_cases m0 : x.Mode < 0
    · simp [m0]
    by_cases m1 : 511 < x.Mode
    · simp [m0, m1]
    by_cases b1 : (1024 : Int) < (x.Bytes.length : Int)
    · simp [m0, m1, b1, nlt]
    by_cases b2 : x.Bytes = []
    · simp [m0, m1, b1, b2, nlt]
    · have b3 : (x.Bytes == []) = false := by simpa using b2
      simp [m0, m1, b1, b2, b3, nlt]
  · rw [if_pos (by simp [k1, k2, k3]), show (x.Kind != 1) = true from by rw [bne_iff_ne]; exact k1, show (x.Kind != 2) = true from by rw [bne_iff_ne]; exact k2, show (x.Kind != 3) = true from by rw [bne_iff_ne]; exact k3]; rfl
theorem itemV_zero {x : It} (h : itemV x = 0) : (sp x.Path).2 = 0 ∧ (sp x.Path).1 ≠ [] := by
  unfold itemV at h
  by_cases h1 : (sp x.Path).2 ≠ 0
  · rw [if_pos h1] at h; exact absurd h h1
  rw [if_neg h1] at h
  by_cases h2 : (sp x.Path).1 = []
  · rw [if_pos h2] at h; exact absurd h (by decide)
  · exact ⟨by simpa using h1, h2⟩
theorem ah_irr : ∀ l : L2, ah l l = false
  | [] => rfl
  | x :: l => by rw [ah_cons, if_neg (by simp), ah_irr l]
theorem ah_trans : ∀ {a b c : L2}, ah a b = true → ah b c = true → ah a c = true
  | a, [], c, h, _ => by rw [ah_nil] at h; cases h
  | a, _ :: _, [], _, h => by rw [ah_nil] at h; cases h
  | [], _ :: _, _ :: _, _, _ => rfl
  | x :: a, y :: b, z :: c, h, h' => by
    rw [ah_cons] at h h' ⊢
    by_cases e1 : x = y
    · subst e1
      rw [if_neg (by simp)] at h
      by_cases e2 : x = z
      · subst e2
        rw [if_neg (by simp)] at h' ⊢
        exact ah_trans h h'
      · rw [if_pos e2] at h' ⊢; exact h'
    · rw [if_pos e1] at h
      by_cases e2 : y = z
      · subst e2; rw [if_pos e1]; exact h
      · rw [if_pos e2] at h'
        have h3 := StrOrd.trans h h'
        rw [if_pos (fun e => by subst e; exact StrOrd.irr _ h3)]; exact h3
def pth (x : It) : L2 := (sp x.Path).1
def bel (x y : It) : Bool := ah (pth x) (pth y)
def parOK (w : List It) (x : It) : Bool := decide ((pth x).length = 1) || w.any (fun y => y.Path == par x.Path && y.Kind == 2)
def wGo : List It → List It → Int
  | _, [] => 0
  | w, x :: t => if itemV x ≠ 0 then itemV x else if (w.getLast?.any fun y => !bel y x) = true then 4 else if parOK w x = false then 9 else wGo (w ++ [x]) t
theorem wGo_cons (w : List It) (x : It) (t : List It) : wGo w (x :: t) = if itemV x ≠ 0 then itemV x else if (w.getLast?.any fun y => !bel y x) = true then 4 else if parOK w x = false then 9 else wGo (w ++ [x]) t := rfl
def worldV (w : List It) : Int := if w.length > 100 then 2 else wGo [] w
def Good (w : List It) : Prop := (∀ x ∈ w, itemV x = 0) ∧ w.Pairwise (fun x y => bel x y = true)
theorem good_snoc {w : List It} {x : It} (h : Good w) (hx : itemV x = 0) (hl : (w.getLast?.any fun y => !bel y x) = false) : Good (w ++ [x]) := by
  refine ⟨fun y hy => ?_, ?_⟩
  · rcases List.mem_append.1 hy with hy | hy
    · exact h.1 y hy
    · rw [List.mem_singleton.1 hy]; exact hx
  · rw [List.pairwise_append]
    refine ⟨h.2, List.pairwise_singleton _ _, fun y hy z hz => ?_⟩
    rw [List.mem_singleton.1 hz]
    have hne : w ≠ [] := fun e => by rw [e] at hy; cases hy
    rw [List.getLast?_eq_some_getLast hne] at hl
    have h1 : bel (w.getLast hne) x = true := by simpa using hl
    obtain ⟨l1, l2, e⟩ := List.append_of_mem hy
    by_cases h2 : l2 = []
    · have : y = w.getLast hne := by subst e; subst h2; simp
      rw [this]; exact h1
    · have hp := h.2
      rw [e, List.pairwise_append] at hp
      have h3 := (List.pairwise_cons.1 hp.2.1).1 (l2.getLast h2) (List.getLast_mem h2)
      have h4 : w.getLast hne = l2.getLast h2 := by subst e; simp [List.getLast_append, List.getLast_cons h2]
      rw [h4] at h1
      exact ah_trans h3 h1
theorem good_ne {w : List It} {x : It} (h : Good (w ++ [x])) {y : It} (hy : y ∈ w) : y.Path ≠ x.Path := fun e => by
  have := (List.pairwise_append.1 h.2).2.2 y hy x (by simp)
  unfold bel pth at this
  rw [e, ah_irr] at this; cases this
def Tab (D : List (List UInt8 × Bool)) (w : List It) : Prop := ∀ q, (gget D q).getD false = (decide (q = []) || w.any (fun y => y.Path == q && y.Kind == 2))
theorem path_ne {x : It} (h : itemV x = 0) : x.Path ≠ [] := fun e => by
  have := sp_zero_take (itemV_zero h).1
  rw [e] at this; cases this
theorem tab_snoc {D : List (List UInt8 × Bool)} {w : List It} {x : It} (h : Tab D w) (hg : Good (w ++ [x])) : Tab (gset D x.Path (x.Kind == 2)) (w ++ [x]) := fun q => by
  rw [gget_gset, List.any_append, List.any_cons, List.any_nil, Bool.or_false]
  by_cases e : x.Path = q
  · subst e
    rw [if_pos rfl]
    have h1 : (w.any fun y => y.Path == x.Path && y.Kind == 2) = false := by
      rw [List.any_eq_false]; intro y hy
      simp [good_ne hg hy]
    have h2 : x.Path ≠ [] := path_ne (hg.1 x (by simp))
    rw [h1, decide_eq_false h2]; simp
  · rw [if_neg e, h q, beq_eq_false_iff_ne.2 e]; simp
theorem par_nil {x : It} (h : itemV x = 0) : par x.Path = [] ↔ (pth x).length = 1 := by
  obtain ⟨h1, h2⟩ := itemV_zero h
  have hl := List.length_pos_iff.2 h2
  unfold par pth
  constructor
  · intro e
    have e' : ((sp x.Path).1.take ((sp x.Path).1.length - 1)) = [] := by
      cases hq : (sp x.Path).1.take ((sp x.Path).1.length - 1) with
      | nil => rfl
      | cons a b => rw [hq] at e; simp at e
    have := congrArg List.length e'
    rw [List.length_take, List.length_nil] at this
    omega
  · intro e; rw [e]; rfl
theorem tab_par {D : List (List UInt8 × Bool)} {w : List It} (h : Tab D w) {x : It} (hx : itemV x = 0) : (gget D (par x.Path)).getD false = parOK w x := by
  rw [h]; unfold parOK
  rw [decide_eq_decide.2 (par_nil hx)]
def Sz (w : List It) : Prop := ∀ x ∈ w, x.Path.length ≤ 1048576
theorem par_len {p : List UInt8} (h : (sp p).2 = 0) (hne : (sp p).1 ≠ []) : (par p).length ≤ p.length := by
  obtain ⟨h1, _⟩ := par_split h hne
  have := congrArg List.length h1
  rw [List.length_append] at this; omega
theorem check_go (w : List It) (hs : Sz w) (hl : w.length ≤ 100) (g : Nat) (hg : 2000000 ≤ g) : ∀ (d i fu : Nat) (D : List (List UInt8 × Bool)), w.length - i = d → i ≤ w.length → d < fu → Good (w.take i) → Tab D (w.take i) →
    f_walk_Check_L8 w (fun _ => some (0 : Int)) g fu D (i : Int) = some (wGo (w.take i) (w.drop i))
  | _, _, 0, _, _, _, h, _, _ => absurd h (Nat.not_lt_zero _)
  | 0, i, fu + 1, D, hd, hi, _, _, _ => by
    rw [f_walk_Check_L8, cond_ff (dge (by omega)), List.drop_of_length_le (by omega)]; rfl
  | d + 1, i, fu + 1, D, hd, hi, hf, hG, hT => by
    have hlt : i < w.length := by omega
    have hx := hs _ (List.getElem_mem hlt)
    have htk : w.take (i + 1) = w.take i ++ [w[i]] := by rw [List.take_add_one, List.getElem?_eq_getElem hlt]; rfl
    rw [f_walk_Check_L8, cond_tt (dlt (by omega)), at_lt hlt, opt_of, List.drop_eq_getElem_cons hlt, wGo_cons, item1 _ hx g hg, opt_of]
    by_cases h0 : itemV w[i] = 0
    · rw [cond_ff (show (itemV w[i] != 0) = false from by simpa using h0), if_neg (by simpa using h0), lt_of]
      obtain ⟨s1, s2⟩ := itemV_zero h0
      have tail : ∀ b : Bool, b = ((w.take i).getLast?.any fun y => !bel y w[i]) →
          (bif b then (some (4 : Int)) else (opt (f_walk_Parent g w[i].Path) fun (r21 : (List UInt8)) => (req (r21.length ≤ 9223372036854775807) (bif (!((gget D r21).getD false)) then (some (9 : Int)) else (req (w[i].Path.length ≤ 9223372036854775807) (f_walk_Check_L8 w (fun _ => some (0 : Int)) g fu (gset D w[i].Path (w[i].Kind == (2 : Int))) (IntKind.i64.wrap ((i : Int) + (1 : Int)))))))))
            = some (if ((w.take i).getLast?.any fun y => !bel y w[i]) = true then 4 else if parOK (w.take i) w[i] = false then 9 else wGo (w.take i ++ [w[i]]) (w.drop (i + 1))) := by
        intro b hb
        rw [← hb]
        cases b with
        | true => rfl
        | false =>
          have hG2 := good_snoc hG h0 hb.symm
          have hpl := par_len s1 s2
          rw [cond_ff rfl, if_neg (by simp), parent_ok s1 s2 hx g hg, opt_of, req_pos (by omega), tab_par hT h0]
          cases hpo : parOK (w.take i) w[i] with
          | false => rfl
          | true =>
            rw [cond_ff (show (!true) = false from rfl), if_neg (by simp), req_pos (by omega), wsucc (by omega), ← htk]
            exact check_go w hs hl g hg d (i + 1) fu _ (by omega) (by omega) (by omega) (by rw [htk]; exact hG2) (by rw [htk]; exact tab_snoc hT hG2)
      by_cases hi0 : 0 < i
      · have hlt1 : i - 1 < w.length := by omega
        have hlast : (w.take i).getLast? = some w[i - 1] := by
          rw [List.getLast?_eq_getElem?, List.length_take, Nat.min_eq_left hi, List.getElem?_take_of_lt (by omega), List.getElem?_eq_getElem hlt1]
        obtain ⟨c, c1, c2⟩ := compare1 w[i - 1].Path w[i].Path (hs _ (List.getElem_mem hlt1)) hx g hg
        rw [cond_tt (decide_eq_true (by omega)), show IntKind.i64.wrap ((i : Int) - 1) = ((i - 1 : Nat) : Int) from by rw [w64 (by omega) (by omega)]; omega, at_lt hlt1, opt_of, c1, opt_of]
        refine tail (decide (c ≥ 0)) ?_
        rw [hlast]
        show decide (c ≥ 0) = !bel w[i - 1] w[i]
        unfold bel pth
        rw [← c2]
        by_cases hc : c < 0
        · rw [decide_eq_true hc, decide_eq_false (by omega)]; rfl
        · rw [decide_eq_false hc, decide_eq_true (by omega)]; rfl
      · have : i = 0 := by omega
        subst this
        rw [cond_ff (by decide)]
        exact tail false rfl
    · rw [cond_tt (show (itemV w[i] != 0) = true from by simpa using h0), if_pos h0]
theorem check_ok (w : List It) (hs : Sz w) (fu : Nat) (hf : 2000000 ≤ fu) : f_walk_Check fu w = some (worldV w) := by
  unfold f_walk_Check worldV
  by_cases h : w.length > 100
  · rw [cond_tt (decide_eq_true (by omega)), if_pos h]
  · rw [cond_ff (decide_eq_false (by omega)), if_neg h, req_pos (by simp), lt_of]
    have := check_go w hs (by omega) fu hf _ 0 fu (gset [] [] true) rfl (Nat.zero_le _) (by omega) ⟨by simp, by simp⟩ (fun q => by
      show ((if ([] : List UInt8) = q then some true else gget [] q).getD false) = _
      by_cases e : q = []
      · rw [if_pos e.symm, e]; rfl
      · rw [if_neg (fun h => e h.symm), decide_eq_false e]; rfl)
    exact this
theorem found_go (w : List It) (i : Nat) (hi : i ≤ w.length) (hl : w.length ≤ 100) (r : List UInt8 × Int) (kk : Bool → Option Int) : ∀ (d j fu : Nat) (b : Bool), i - j = d → j ≤ i → d < fu →
    f_lumref_World_L34 w (i : Int) r kk fu b (j : Int) = kk (b || ((w.take i).drop j).any fun y => y.Path == r.1 && y.Kind == 2)
  | _, _, 0, _, _, _, h => absurd h (Nat.not_lt_zero _)
  | 0, j, fu + 1, b, hd, hj, _ => by
    rw [f_lumref_World_L34, Int.toNat_natCast, cond_ff (dge (by rw [List.length_take]; omega)), List.drop_of_length_le (by rw [List.length_take]; omega), List.any_nil, Bool.or_false]
  | d + 1, j, fu + 1, b, hd, hj, hf => by
    have hlen : (w.take i).length = i := by rw [List.length_take]; omega
    have hlt : j < (w.take i).length := by omega
    rw [f_lumref_World_L34, Int.toNat_natCast, cond_tt (dlt (by omega)), lt_of, at_lt hlt, opt_of, List.drop_eq_getElem_cons hlt, List.any_cons, wsucc (by omega)]
    have ih := fun b' => found_go w i hi hl r kk d (j + 1) fu b' (by omega) (by omega) (by omega)
    cases b with
    | true => rw [cond_tt rfl]; exact (ih true).trans (by simp)
    | false =>
      rw [cond_ff rfl, Bool.false_or]
      by_cases h1 : (w.take i)[j].Path = r.1
      · rw [cond_tt (beq_iff_eq.2 h1), beq_iff_eq.2 h1, Bool.true_and]; exact ih _
      · rw [cond_ff (beq_eq_false_iff_ne.2 h1), beq_eq_false_iff_ne.2 h1, Bool.false_and, Bool.false_or]; exact (ih false).trans (by rw [Bool.false_or])
theorem up_ok {x : It} (h : itemV x = 0) (hx : x.Path.length ≤ 1048576) : jr ((pth x).take ((pth x).length - 1)) = (if par x.Path = [] then [47] else par x.Path, 0) := by
  obtain ⟨s1, s2⟩ := itemV_zero h
  obtain ⟨_, _, h3, _⟩ := sp_good s1 s2
  have hck : ∀ (l : L2) (i k : Nat), chk i l = 0 → chk i (l.take k) = 0 := by
    intro l
    induction l with
    | nil => intro i k h; rw [List.take_nil]; exact h
    | cons a t ih =>
      intro i k h
      cases k with
      | zero => rfl
      | succ k =>
        rw [List.take_succ_cons, chk_cons]
        rw [chk_cons] at h
        by_cases h1 : 8 ≤ i
        · rw [if_pos h1] at h; exact absurd h (by decide)
        rw [if_neg h1] at h ⊢
        by_cases h2 : nameV a ≠ 0
        · rw [if_pos h2] at h; exact absurd h h2
        rw [if_neg h2] at h ⊢
        exact ih _ _ h
  unfold jr jn par pth
  rw [hck _ 0 _ h3, if_neg (by simp)]
  cases hq : (sp x.Path).1.take ((sp x.Path).1.length - 1) with
  | nil => rfl
  | cons a b => rw [if_neg (by simp), if_neg (by simp)]
theorem up_eq {x : It} (h : itemV x = 0) (w : List It) (hG : Good w) : ((if par x.Path = [] then [47] else par x.Path) == [47] || w.any fun y => y.Path == (if par x.Path = [] then [47] else par x.Path) && y.Kind == 2) = parOK w x := by
  unfold parOK
  by_cases e : par x.Path = []
  · rw [if_pos e, decide_eq_true ((par_nil h).1 e)]; rfl
  · rw [if_neg e, decide_eq_false (fun h' => e ((par_nil h).2 h')), Bool.false_or]
    have : (par x.Path == [47]) = false := by
      rw [beq_eq_false_iff_ne]; intro e2
      obtain ⟨s1, s2⟩ := itemV_zero h
      obtain ⟨_, _, h3, _⟩ := sp_good s1 s2
      unfold par at e2
      cases hq : (sp x.Path).1 with
      | nil => exact s2 hq
      | cons a t =>
        rw [hq] at e2 h3
        cases t with
        | nil => exact absurd e2 (by simp)
        | cons b t =>
          rw [chk_cons] at h3
          by_cases h2 : nameV a ≠ 0
          · rw [if_neg (by decide), if_pos h2] at h3; exact h2 h3
          · simp at e2
            have ha := e2.1
            subst ha
            exact h2 (by decide)
    rw [this, Bool.false_or]
theorem world_go (w : List It) (hs : Sz w) (hl : w.length ≤ 100) (g : Nat) (hg : 2000000 ≤ g) : ∀ (d i fu : Nat), w.length - i = d → i ≤ w.length → d < fu → Good (w.take i) →
    f_lumref_World_L6 w (fun _ => some (0 : Int)) g fu (i : Int) = some (wGo (w.take i) (w.drop i))
  | _, _, 0, _, _, h, _ => absurd h (Nat.not_lt_zero _)
  | 0, i, fu + 1, hd, hi, _, _ => by
    rw [f_lumref_World_L6, lt_of, cond_ff (dge (by omega)), List.drop_of_length_le (by omega)]; rfl
  | d + 1, i, fu + 1, hd, hi, hf, hG => by
    have hlt : i < w.length := by omega
    have hx := hs _ (List.getElem_mem hlt)
    have htk : w.take (i + 1) = w.take i ++ [w[i]] := by rw [List.take_add_one, List.getElem?_eq_getElem hlt]; rfl
    rw [f_lumref_World_L6, lt_of, cond_tt (dlt (by omega)), lt_of, at_lt hlt, opt_of, List.drop_eq_getElem_cons hlt, wGo_cons, item2 _ hx g hg, opt_of]
    by_cases h0 : itemV w[i] = 0
    · rw [cond_ff (show (itemV w[i] != 0) = false from by simpa using h0), if_neg (by simpa using h0), lt_of]
      obtain ⟨s1, s2⟩ := itemV_zero h0
      have hsm := sp_sm w[i].Path hx
      have hsl := hsm.1
      have hpos := List.length_pos_iff.2 s2
      have ew : IntKind.i64.wrap (((sp w[i].Path).1.length : Int) - 1) = (((sp w[i].Path).1.length - 1 : Nat) : Int) := by rw [w64 (by omega) (by omega)]; omega
      have tail : ((w.take i).getLast?.any fun y => !bel y w[i]) = false →
          (opt (f_lumref_Split g w[i].Path) fun (r21 : ((List (List UInt8)) × Int)) => (req (0 ≤ (IntKind.i64.wrap ((r21.1.length : Int) - (1 : Int))) ∧ (IntKind.i64.wrap ((r21.1.length : Int) - (1 : Int))) ≤ (r21.1.length : Int)) (opt (f_lumref_Join g (r21.1.take ((IntKind.i64.wrap ((r21.1.length : Int) - (1 : Int)))).toNat)) fun (r26 : ((List UInt8) × Int)) => (lt (fun (j27b12 : Bool) => (bif (!j27b12) then (some (9 : Int)) else (f_lumref_World_L6 w (fun _ => some (0 : Int)) g fu (IntKind.i64.wrap ((i : Int) + (1 : Int)))))) fun (kk28 : Bool → Option Int) => (req (0 ≤ (i : Int) ∧ (i : Int) ≤ (w.length : Int)) (f_lumref_World_L34 w (i : Int) r26 kk28 g (r26.1 == ([47] : List UInt8)) (0 : Int)))))))
            = some (if ((w.take i).getLast?.any fun y => !bel y w[i]) = true then 4 else if parOK (w.take i) w[i] = false then 9 else wGo (w.take i ++ [w[i]]) (w.drop (i + 1))) := by
        intro hb
        have hG2 := good_snoc hG h0 hb
        rw [hb, if_neg (by simp), split2 _ hx g hg, opt_of, ew, req_pos ⟨by omega, by omega⟩, Int.toNat_natCast, join2 _ ⟨by rw [List.length_take]; omega, fun s hs' => hsm.2 s (List.mem_of_mem_take hs')⟩ g hg, opt_of, lt_of, req_pos ⟨by omega, by omega⟩]
        have hu := up_ok h0 hx
        unfold pth at hu
        rw [hu]
        refine (found_go w i hi hl _ _ i 0 g _ (by omega) (by omega) (by omega)).trans ?_
        rw [List.drop_zero]
        dsimp only
        rw [up_eq h0 _ hG]
        cases hpo : parOK (w.take i) w[i] with
        | false => rfl
        | true =>
          rw [cond_ff (show (!true) = false from rfl), if_neg (by simp), wsucc (by omega), ← htk]
          exact world_go w hs hl g hg d (i + 1) fu (by omega) (by omega) (by omega) (by rw [htk]; exact hG2)
      by_cases hi0 : 0 < i
      · have hlt1 : i - 1 < w.length := by omega
        have hx1 := hs _ (List.getElem_mem hlt1)
        have hlast : (w.take i).getLast? = some w[i - 1] := by
          rw [List.getLast?_eq_getElem?, List.length_take, Nat.min_eq_left hi, List.getElem?_take_of_lt (by omega), List.getElem?_eq_getElem hlt1]
        have hprev : (sp w[i - 1].Path).2 = 0 := (itemV_zero (hG.1 w[i - 1] (List.mem_of_getLast? hlast))).1
        rw [cond_tt (decide_eq_true (by omega)), show IntKind.i64.wrap ((i : Int) - 1) = ((i - 1 : Nat) : Int) from by rw [w64 (by omega) (by omega)]; omega, at_lt hlt1, opt_of, less2 _ _ hx1 hx g hg, opt_of]
        have hls : ls w[i - 1].Path w[i].Path = (bel w[i - 1] w[i], 0) := by
          unfold ls bel pth
          rw [hprev, if_neg (by simp), s1, if_neg (by simp)]
        rw [hls]
        dsimp only
        cases hb : bel w[i - 1] w[i] with
        | true => rw [cond_ff (show (!true) = false from rfl)]; exact tail (by rw [hlast]; show (!bel w[i - 1] w[i]) = false; rw [hb]; rfl)
        | false => rw [cond_tt (show (!false) = true from rfl), hlast, if_pos (show (some w[i - 1]).any (fun y => !bel y w[i]) = true from by show (!bel w[i - 1] w[i]) = true; rw [hb]; rfl)]
      · have : i = 0 := by omega
        subst this
        rw [cond_ff (by decide)]
        exact tail rfl
    · rw [cond_tt (show (itemV w[i] != 0) = true from by simpa using h0), if_pos h0]
theorem world_ok (w : List It) (hs : Sz w) (fu : Nat) (hf : 2000000 ≤ fu) : f_lumref_World fu w = some (worldV w) := by
  unfold f_lumref_World worldV
  by_cases h : w.length > 100
  · rw [cond_tt (decide_eq_true (by omega)), if_pos h]
  · rw [cond_ff (decide_eq_false (by omega)), if_neg h, lt_of]
    exact world_go w hs (by omega) fu hf _ 0 fu rfl (Nat.zero_le _) (by omega) ⟨by simp, by simp⟩
theorem wGo_good : ∀ (t w : List It), Good w → wGo w t = 0 → Good (w ++ t)
  | [], w, h, _ => by rw [List.append_nil]; exact h
  | x :: t, w, h, h0 => by
    rw [wGo_cons] at h0
    by_cases h1 : itemV x ≠ 0
    · rw [if_pos h1] at h0; exact absurd h0 h1
    rw [if_neg h1] at h0
    by_cases h2 : (w.getLast?.any fun y => !bel y x) = true
    · rw [if_pos h2] at h0; exact absurd h0 (by decide)
    rw [if_neg h2] at h0
    by_cases h3 : parOK w x = false
    · rw [if_pos h3] at h0; exact absurd h0 (by decide)
    rw [if_neg h3] at h0
    have := wGo_good t (w ++ [x]) (good_snoc h (by simpa using h1) (by simpa using h2)) h0
    rw [List.append_assoc] at this; exact this
theorem world_good {w : List It} (h : worldV w = 0) : Good w ∧ w.length ≤ 100 := by
  unfold worldV at h
  by_cases h1 : w.length > 100
  · rw [if_pos h1] at h; exact absurd h (by decide)
  · rw [if_neg h1] at h
    exact ⟨by have := wGo_good w [] ⟨by simp, by simp⟩ h; rwa [List.nil_append] at this, by omega⟩
end Go.Proofs.YtfhifdmbdkkgaaaDoor.PWorld
namespace Go.Proofs.YtfhifdmbdkkgaaaDoor.Mrg
set_option linter.unusedVariables false
set_option linter.unusedSimpArgs false
variable {P α β : Type} [DecidableEq P]
structure Ord (lt : P → P → Bool) (V : P → Prop) : Prop where
  irr : ∀ p, lt p p = false
  trans : ∀ {p q r}, lt p q = true → lt q r = true → lt p r = true
  tri : ∀ p q, V p → V q → lt p q = true ∨ p = q ∨ lt q p = true
def Srt (lt : P → P → Bool) (l : List P) : Prop := l.Pairwise (fun p q => lt p q = true)
def ins (lt : P → P → Bool) (p : P) : List P → List P
  | [] => [p]
  | q :: l => if lt q p = true then q :: ins lt p l else if q = p then q :: l else p :: q :: l
def all (lt : P → P → Bool) (l : List P) : List P := l.foldl (fun out p => ins lt p out) []
variable {lt : P → P → Bool} {V : P → Prop}
theorem Ord.asymm {P : Type} {lt : P → P → Bool} {V : P → Prop} (o : Ord lt V) {p q : P} (h : lt p q = true) : lt q p = false := by
  cases h' : lt q p with
  | false => rfl
  | true => have := o.trans h h'; rw [o.irr] at this; cases this
theorem ins_mem (p x : P) : ∀ l : List P, x ∈ ins lt p l ↔ x = p ∨ x ∈ l
  | [] => by simp [ins]
  | q :: l => by
    unfold ins
    by_cases h : lt q p = true
    · rw [if_pos h, List.mem_cons, ins_mem p x l, List.mem_cons]
      constructor
      · rintro (h | h | h)
        · exact .inr (.inl h)
        · exact .inl h
        · exact .inr (.inr h)
      · rintro (h | h | h)
        · exact .inr (.inl h)
        · exact .inl h
        · exact .inr (.inr h)
    · rw [if_neg h]
      by_cases h2 : q = p
      · rw [if_pos h2, List.mem_cons]
        constructor
        · rintro (h | h)
          · exact .inl (h.trans h2)
          · exact .inr (.inr h)
        · rintro (h | h | h)
          · exact .inl (h.trans h2.symm)
          · exact .inl h
          · exact .inr h
      · rw [if_neg h2, List.mem_cons]
theorem ins_srt (o : Ord lt V) (p : P) (hp : V p) : ∀ l : List P, (∀ x ∈ l, V x) → Srt lt l → Srt lt (ins lt p l)
  | [], _, _ => List.pairwise_singleton _ _
  | q :: l, hv, hs => by
    obtain ⟨h1, h2⟩ := List.pairwise_cons.1 hs
    unfold ins
    by_cases h : lt q p = true
    · rw [if_pos h]
      refine List.pairwise_cons.2 ⟨fun x hx => ?_, ins_srt o p hp l (fun x hx => hv x (by simp [hx])) h2⟩
      rcases (ins_mem p x l).1 hx with rfl | hx
      · exact h
      · exact h1 x hx
    · rw [if_neg h]
      by_cases h3 : q = p
      · rw [if_pos h3]; exact hs
      · rw [if_neg h3]
        have hpq : lt p q = true := by
          rcases o.tri q p (hv q (by simp)) hp with h' | h' | h'
          · exact absurd h' h
          · exact absurd h' h3
          · exact h'
        refine List.pairwise_cons.2 ⟨fun x hx => ?_, hs⟩
        rcases List.mem_cons.1 hx with rfl | hx
        · exact hpq
        · exact o.trans hpq (h1 x hx)
theorem all_snoc (l : List P) (p : P) : all lt (l ++ [p]) = ins lt p (all lt l) := by unfold all; rw [List.foldl_append]; rfl
theorem foldl_mem (x : P) : ∀ (l : List P) (out : List P), x ∈ l.foldl (fun out p => ins lt p out) out ↔ x ∈ out ∨ x ∈ l
  | [], out => by simp
  | p :: l, out => by
    rw [List.foldl_cons, foldl_mem x l, ins_mem, List.mem_cons]
    constructor
    · rintro ((h | h) | h)
      · exact .inr (.inl h)
      · exact .inl h
      · exact .inr (.inr h)
    · rintro (h | h | h)
      · exact .inl (.inr h)
      · exact .inl (.inl h)
      · exact .inr h
theorem all_mem (x : P) (l : List P) : x ∈ all lt l ↔ x ∈ l := by unfold all; rw [foldl_mem]; simp
theorem foldl_srt (o : Ord lt V) : ∀ (l : List P) (out : List P), (∀ x ∈ l, V x) → (∀ x ∈ out, V x) → Srt lt out → Srt lt (l.foldl (fun out p => ins lt p out) out)
  | [], out, _, _, h => h
  | p :: l, out, hv, hw, h => by
    rw [List.foldl_cons]
    refine foldl_srt o l _ (fun x hx => hv x (by simp [hx])) (fun x hx => ?_) (ins_srt o p (hv p (by simp)) out hw h)
    rcases (ins_mem p x out).1 hx with rfl | hx
    · exact hv _ (by simp)
    · exact hw x hx
theorem all_srt (o : Ord lt V) (l : List P) (hv : ∀ x ∈ l, V x) : Srt lt (all lt l) := foldl_srt o l [] hv (by simp) List.Pairwise.nil
theorem ins_len (p : P) : ∀ l : List P, (ins lt p l).length ≤ l.length + 1
  | [] => by simp [ins]
  | q :: l => by
    have := ins_len p l
    unfold ins
    split
    · rw [List.length_cons, List.length_cons]; omega
    · split
      · omega
      · simp
theorem foldl_len : ∀ (l out : List P), (l.foldl (fun out p => ins lt p out) out).length ≤ out.length + l.length
  | [], out => by simp
  | p :: l, out => by
    have h1 := foldl_len l (ins lt p out)
    have h2 := ins_len (lt := lt) p out
    rw [List.foldl_cons, List.length_cons]; omega
theorem all_len (l : List P) : (all lt l).length ≤ l.length := by have := foldl_len (lt := lt) l []; unfold all; simpa using this
theorem uniq {P : Type} {lt : P → P → Bool} {V : P → Prop} (o : Ord lt V) : ∀ (l m : List P), Srt lt l → Srt lt m → (∀ x, x ∈ l ↔ x ∈ m) → l = m
  | [], [], _, _, _ => rfl
  | [], y :: m, _, _, h => by have := (h y).2 (by simp); cases this
  | x :: l, [], _, _, h => by have := (h x).1 (by simp); cases this
  | x :: l, y :: m, hl, hm, h => by
    obtain ⟨a1, a2⟩ := List.pairwise_cons.1 hl
    obtain ⟨b1, b2⟩ := List.pairwise_cons.1 hm
    have e : x = y := by
      rcases List.mem_cons.1 ((h x).1 (by simp)) with e | e
      · exact e
      · rcases List.mem_cons.1 ((h y).2 (by simp)) with e' | e'
        · exact e'.symm
        · have := o.asymm (b1 x e); rw [a1 y e'] at this; cases this
    subst e
    rw [uniq o l m a2 b2 (fun z => ?_)]
    constructor
    · intro hz
      rcases List.mem_cons.1 ((h z).1 (by simp [hz])) with e | e
      · subst e; have := a1 z hz; rw [o.irr] at this; cases this
      · exact e
    · intro hz
      rcases List.mem_cons.1 ((h z).2 (by simp [hz])) with e | e
      · subst e; have := b1 z hz; rw [o.irr] at this; cases this
      · exact e
def mg (lt : P → P → Bool) (pa : α → P) (pb : β → P) : Nat → List α → List β → List (P × Option α × Option β)
  | 0, _, _ => []
  | n + 1, [], [] => []
  | n + 1, x :: a, [] => (pa x, some x, none) :: mg lt pa pb n a []
  | n + 1, [], y :: b => (pb y, none, some y) :: mg lt pa pb n [] b
  | n + 1, x :: a, y :: b => if lt (pa x) (pb y) = true then (pa x, some x, none) :: mg lt pa pb n a (y :: b) else if lt (pb y) (pa x) = true then (pb y, none, some y) :: mg lt pa pb n (x :: a) b else (pa x, some x, some y) :: mg lt pa pb n a b
def at_ (pa : α → P) (a : List α) (p : P) : Option α := a.find? (fun x => pa x = p)
theorem at_cons_ne (pa : α → P) (x : α) (a : List α) (p : P) (h : pa x ≠ p) : at_ pa (x :: a) p = at_ pa a p := by unfold at_; rw [List.find?_cons]; simp [h]
theorem at_cons_eq (pa : α → P) (x : α) (a : List α) (p : P) (h : pa x = p) : at_ pa (x :: a) p = some x := by unfold at_; rw [List.find?_cons]; simp [h]
theorem at_none (pa : α → P) (a : List α) (p : P) (h : ∀ x ∈ a, pa x ≠ p) : at_ pa a p = none := by unfold at_; rw [List.find?_eq_none]; intro x hx; simpa using h x hx
theorem mg_ok (o : Ord lt V) (pa : α → P) (pb : β → P) : ∀ (n : Nat) (a : List α) (b : List β), a.length + b.length ≤ n → (∀ x ∈ a, V (pa x)) → (∀ y ∈ b, V (pb y)) → Srt lt (a.map pa) → Srt lt (b.map pb) →
    Srt lt ((mg lt pa pb n a b).map (fun t => t.1)) ∧ (∀ p, p ∈ (mg lt pa pb n a b).map (fun t => t.1) ↔ p ∈ a.map pa ∨ p ∈ b.map pb) ∧ ∀ t ∈ mg lt pa pb n a b, t = (t.1, at_ pa a t.1, at_ pb b t.1)
  | 0, a, b, h, _, _, _, _ => by
    have ha : a = [] := List.eq_nil_of_length_eq_zero (by omega)
    have hb : b = [] := List.eq_nil_of_length_eq_zero (by omega)
    subst ha; subst hb
    exact ⟨List.Pairwise.nil, by simp [mg], by simp [mg]⟩
  | n + 1, [], [], _, _, _, _, _ => ⟨List.Pairwise.nil, by simp [mg], by simp [mg]⟩
  | n + 1, x :: a, [], h, va, vb, sa, sb => by
    rw [List.length_cons] at h
    obtain ⟨h1, h2⟩ := List.pairwise_cons.1 sa
    obtain ⟨i1, i2, i3⟩ := mg_ok o pa pb n a [] (by simp at h ⊢; omega) (fun y hy => va y (by simp [hy])) vb h2 sb
    have key : ∀ p ∈ (mg lt pa pb n a []).map (fun t => t.1), lt (pa x) p = true := fun p hp => by
      rcases (i2 p).1 hp with h | h
      · exact h1 p h
      · cases h
    refine ⟨List.pairwise_cons.2 ⟨key, i1⟩, fun p => ?_, fun t ht => ?_⟩
    · show p ∈ pa x :: (mg lt pa pb n a []).map (fun t => t.1) ↔ _
      rw [List.mem_cons, i2 p, List.map_cons, List.mem_cons]; simp [or_assoc]
    · rcases List.mem_cons.1 ht with rfl | ht
      · rw [show (pa x, some x, (none : Option β)).1 = pa x from rfl, at_cons_eq pa x a _ rfl]; rfl
      · have hk := key t.1 (List.mem_map.2 ⟨t, ht, rfl⟩)
        rw [at_cons_ne pa x a t.1 (fun e => by rw [e, o.irr] at hk; cases hk)]
        exact i3 t ht
  | n + 1, [], y :: b, h, va, vb, sa, sb => by
    rw [List.length_cons] at h
    obtain ⟨h1, h2⟩ := List.pairwise_cons.1 sb
    obtain ⟨i1, i2, i3⟩ := mg_ok o pa pb n [] b (by simp at h ⊢; omega) va (fun z hz => vb z (by simp [hz])) sa h2
    have key : ∀ p ∈ (mg lt pa pb n ([] : List α) b).map (fun t => t.1), lt (pb y) p = true := fun p hp => by
      rcases (i2 p).1 hp with h | h
      · cases h
      · exact h1 p h
    refine ⟨List.pairwise_cons.2 ⟨key, i1⟩, fun p => ?_, fun t ht => ?_⟩
    · show p ∈ pb y :: (mg lt pa pb n [] b).map (fun t => t.1) ↔ _
      rw [List.mem_cons, i2 p, List.map_cons, List.mem_cons]; simp
    · rcases List.mem_cons.1 ht with rfl | ht
      · rw [show (pb y, (none : Option α), some y).1 = pb y from rfl, at_cons_eq pb y b _ rfl]; rfl
      · have hk := key t.1 (List.mem_map.2 ⟨t, ht, rfl⟩)
        rw [at_cons_ne pb y b t.1 (fun e => by rw [e, o.irr] at hk; cases hk)]
        exact i3 t ht
  | n + 1, x :: a, y :: b, h, va, vb, sa, sb => by
    rw [List.length_cons, List.length_cons] at h
    obtain ⟨h1, h2⟩ := List.pairwise_cons.1 sa
    obtain ⟨h3, h4⟩ := List.pairwise_cons.1 sb
    have va' : ∀ z ∈ a, V (pa z) := fun z hz => va z (by simp [hz])
    have vb' : ∀ z ∈ b, V (pb z) := fun z hz => vb z (by simp [hz])
    rw [mg]
    by_cases c1 : lt (pa x) (pb y) = true
    · rw [if_pos c1]
      obtain ⟨i1, i2, i3⟩ := mg_ok o pa pb n a (y :: b) (by rw [List.length_cons]; omega) va' vb h2 sb
      have key : ∀ p ∈ (mg lt pa pb n a (y :: b)).map (fun t => t.1), lt (pa x) p = true := fun p hp => by
        rcases (i2 p).1 hp with h | h
        · exact h1 p h
        · rcases List.mem_cons.1 h with rfl | h
          · exact c1
          · exact o.trans c1 (h3 p h)
      have hyb : ∀ z ∈ y :: b, pb z ≠ pa x := fun z hz e => by
        have : lt (pa x) (pb z) = true := by
          rcases List.mem_cons.1 hz with rfl | hz
          · exact c1
          · exact o.trans c1 (h3 _ (List.mem_map.2 ⟨z, hz, rfl⟩))
        rw [e, o.irr] at this; cases this
      refine ⟨List.pairwise_cons.2 ⟨key, i1⟩, fun p => ?_, fun t ht => ?_⟩
      · show p ∈ pa x :: (mg lt pa pb n a (y :: b)).map (fun t => t.1) ↔ _
        rw [List.mem_cons, i2 p, List.map_cons (l := a), List.mem_cons (b := pa x), or_assoc]
      · rcases List.mem_cons.1 ht with rfl | ht
        · rw [show (pa x, some x, (none : Option β)).1 = pa x from rfl, at_cons_eq pa x a _ rfl, at_none pb (y :: b) _ hyb]
        · have hk := key t.1 (List.mem_map.2 ⟨t, ht, rfl⟩)
          rw [at_cons_ne pa x a t.1 (fun e => by rw [e, o.irr] at hk; cases hk)]
          exact i3 t ht
    · rw [if_neg c1]
      by_cases c2 : lt (pb y) (pa x) = true
      · rw [if_pos c2]
        obtain ⟨i1, i2, i3⟩ := mg_ok o pa pb n (x :: a) b (by rw [List.length_cons]; omega) va vb' sa h4
        have key : ∀ p ∈ (mg lt pa pb n (x :: a) b).map (fun t => t.1), lt (pb y) p = true := fun p hp => by
          rcases (i2 p).1 hp with h | h
          · rcases List.mem_cons.1 h with rfl | h
            · exact c2
            · exact o.trans c2 (h1 p h)
          · exact h3 p h
        have hxa : ∀ z ∈ x :: a, pa z ≠ pb y := fun z hz e => by
          have : lt (pb y) (pa z) = true := by
            rcases List.mem_cons.1 hz with rfl | hz
            · exact c2
            · exact o.trans c2 (h1 _ (List.mem_map.2 ⟨z, hz, rfl⟩))
          rw [e, o.irr] at this; cases this
        refine ⟨List.pairwise_cons.2 ⟨key, i1⟩, fun p => ?_, fun t ht => ?_⟩
        · show p ∈ pb y :: (mg lt pa pb n (x :: a) b).map (fun t => t.1) ↔ _
          rw [List.mem_cons, i2 p, List.map_cons (l := b), List.mem_cons (b := pb y)]
          constructor
          · rintro (h | h | h)
            · exact .inr (.inl h)
            · exact .inl h
            · exact .inr (.inr h)
          · rintro (h | h | h)
            · exact .inr (.inl h)
            · exact .inl h
            · exact .inr (.inr h)
        · rcases List.mem_cons.1 ht with rfl | ht
          · rw [show (pb y, (none : Option α), some y).1 = pb y from rfl, at_cons_eq pb y b _ rfl, at_none pa (x :: a) _ hxa]
          · have hk := key t.1 (List.mem_map.2 ⟨t, ht, rfl⟩)
            rw [at_cons_ne pb y b t.1 (fun e => by rw [e, o.irr] at hk; cases hk)]
            exact i3 t ht
      · rw [if_neg c2]
        have e : pa x = pb y := by
          rcases o.tri (pa x) (pb y) (va x (by simp)) (vb y (by simp)) with h | h | h
          · exact absurd h c1
          · exact h
          · exact absurd h c2
        obtain ⟨i1, i2, i3⟩ := mg_ok o pa pb n a b (by omega) va' vb' h2 h4
        have key : ∀ p ∈ (mg lt pa pb n a b).map (fun t => t.1), lt (pa x) p = true := fun p hp => by
          rcases (i2 p).1 hp with h | h
          · exact h1 p h
          · rw [e]; exact h3 p h
        refine ⟨List.pairwise_cons.2 ⟨key, i1⟩, fun p => ?_, fun t ht => ?_⟩
        · show p ∈ pa x :: (mg lt pa pb n a b).map (fun t => t.1) ↔ _
          rw [List.mem_cons, i2 p, List.map_cons, List.map_cons, List.mem_cons, List.mem_cons, ← e]
          constructor
          · rintro (h | h | h)
            · exact .inl (.inl h)
            · exact .inl (.inr h)
            · exact .inr (.inr h)
          · rintro ((h | h) | (h | h))
            · exact .inl h
            · exact .inr (.inl h)
            · exact .inl h
            · exact .inr (.inr h)
        · rcases List.mem_cons.1 ht with rfl | ht
          · rw [show (pa x, some x, some y).1 = pa x from rfl, at_cons_eq pa x a _ rfl, at_cons_eq pb y b _ e.symm]
          · have hk := key t.1 (List.mem_map.2 ⟨t, ht, rfl⟩)
            rw [at_cons_ne pa x a t.1 (fun e => by rw [e, o.irr] at hk; cases hk), at_cons_ne pb y b t.1 (fun e' => by rw [← e', ← e, o.irr] at hk; cases hk)]
            exact i3 t ht
theorem mg_all (o : Ord lt V) (pa : α → P) (pb : β → P) (a : List α) (b : List β) (va : ∀ x ∈ a, V (pa x)) (vb : ∀ y ∈ b, V (pb y)) (sa : Srt lt (a.map pa)) (sb : Srt lt (b.map pb)) :
    mg lt pa pb (a.length + b.length) a b = (all lt (a.map pa ++ b.map pb)).map (fun p => (p, at_ pa a p, at_ pb b p)) := by
  obtain ⟨h1, h2, h3⟩ := mg_ok o pa pb _ a b (Nat.le_refl _) va vb sa sb
  have hv : ∀ x ∈ a.map pa ++ b.map pb, V x := fun x hx => by
    rcases List.mem_append.1 hx with hx | hx
    · obtain ⟨z, hz, rfl⟩ := List.mem_map.1 hx; exact va z hz
    · obtain ⟨z, hz, rfl⟩ := List.mem_map.1 hx; exact vb z hz
  have e : (mg lt pa pb (a.length + b.length) a b).map (fun t => t.1) = all lt (a.map pa ++ b.map pb) := uniq o _ _ h1 (all_srt o _ hv) (fun x => by rw [h2, all_mem, List.mem_append])
  rw [← e, List.map_map]
  conv => lhs; rw [← List.map_id (mg lt pa pb (a.length + b.length) a b)]
  exact List.map_congr_left (fun t ht => h3 t ht)
end Go.Proofs.YtfhifdmbdkkgaaaDoor.Mrg
namespace Go.Proofs.YtfhifdmbdkkgaaaDoor.PPaths
open Go.RowKit YtfhifdmbdkkgaaaDoor.En YtfhifdmbdkkgaaaDoor U8 PNamesSays PWorld Mrg
open Go.Lib hiding cut
set_option linter.unusedVariables false
set_option linter.unusedSimpArgs false
abbrev Pt := List UInt8
def plt (p q : Pt) : Bool := ah (sp p).1 (sp q).1
def PV (p : Pt) : Prop := (sp p).2 = 0 ∧ p.length ≤ 1048576
theorem ah_tri : ∀ a b : L2, ah a b = true ∨ a = b ∨ ah b a = true
  | [], [] => .inr (.inl rfl)
  | [], _ :: _ => .inl rfl
  | _ :: _, [] => .inr (.inr rfl)
  | x :: a, y :: b => by
    rw [ah_cons, ah_cons]
    by_cases e : x = y
    · subst e
      rw [if_neg (by simp), if_neg (by simp)]
      rcases ah_tri a b with h | h | h
      · exact .inl h
      · exact .inr (.inl (by rw [h]))
      · exact .inr (.inr h)
    · rw [if_pos e, if_pos (fun h => e h.symm)]
      rcases StrOrd.tri x y with h | h | h
      · exact .inl h
      · exact absurd h e
      · exact .inr (.inr h)
theorem sp_nil {p : Pt} (h : (sp p).2 = 0) (hn : (sp p).1 = []) : p = [47] := by
  unfold sp at h hn
  by_cases h1 : p.take 1 ≠ [47]
  · rw [if_pos h1] at h; exact absurd h (by decide)
  rw [if_neg h1] at h hn
  by_cases h2 : p = [47]
  · exact h2
  rw [if_neg h2] at h hn
  by_cases h3 : chk 0 (splitV (p.drop 1) [47]) ≠ 0
  · rw [if_pos h3] at h; exact absurd h h3
  rw [if_neg h3] at hn
  have := (split_parts _ (p.drop 1) (Nat.le_refl _)).1
  rw [show splitV (p.drop 1) [47] = [] from hn] at this
  cases this
theorem sp_inj {p q : Pt} (hp : (sp p).2 = 0) (hq : (sp q).2 = 0) (h : (sp p).1 = (sp q).1) : p = q := by
  by_cases hn : (sp p).1 = []
  · rw [sp_nil hp hn, sp_nil hq (h ▸ hn)]
  · rw [(sp_good hp hn).1, (sp_good hq (h ▸ hn)).1, h]
theorem pord : Ord plt PV := ⟨fun p => ah_irr _, fun h h' => ah_trans h h', fun p q hp hq => by
  rcases ah_tri (sp p).1 (sp q).1 with h | h | h
  · exact .inl h
  · exact .inr (.inl (sp_inj hp.1 hq.1 h))
  · exact .inr (.inr h)⟩
theorem less_plt {p q : Pt} (hp : PV p) (hq : PV q) (fu : Nat) (hf : 2000000 ≤ fu) : f_lumref_Less fu p q = some (plt p q, 0) := by
  rw [less2 p q hp.2 hq.2 fu hf]
  unfold ls plt
  rw [hp.1, if_neg (by simp), hq.1, if_neg (by simp)]
def fi (p : Pt) : L2 → Nat
  | [] => 0
  | q :: l => if plt q p = true then fi p l + 1 else 0
theorem fi_le (p : Pt) : ∀ l : L2, fi p l ≤ l.length
  | [] => Nat.le_refl _
  | q :: l => by
    have := fi_le p l
    unfold fi
    split
    · rw [List.length_cons]; omega
    · omega
theorem ins_fi (p : Pt) : ∀ l : L2, ins plt p l = if l[fi p l]? = some p then l else insS l (fi p l) p
  | [] => by unfold ins insS; rfl
  | q :: l => by
    unfold ins fi
    by_cases h : plt q p = true
    · rw [if_pos h, if_pos h, List.getElem?_cons_succ, ins_fi p l]
      by_cases h2 : l[fi p l]? = some p
      · rw [if_pos h2, if_pos h2]
      · rw [if_neg h2, if_neg h2]; unfold insS; rfl
    · rw [if_neg h, if_neg h, List.getElem?_cons_zero]
      by_cases h2 : q = p
      · rw [if_pos h2, if_pos (by rw [h2])]
      · rw [if_neg h2, if_neg (fun e => h2 (Option.some.inj e))]; unfold insS; rfl
theorem find_go (out : L2) (p : Pt) (hp : PV p) (hv : ∀ x ∈ out, PV x) (hl : out.length ≤ 100000) (kk : Int → Option L2) (g : Nat) (hg : 2000000 ≤ g) : ∀ (d i fu : Nat), out.length - i = d → i ≤ out.length → d < fu →
    f_lumref_allPaths_L29 out p kk g fu (i : Int) = kk ((i + fi p (out.drop i) : Nat) : Int)
  | _, _, 0, _, _, h => absurd h (Nat.not_lt_zero _)
  | 0, i, fu + 1, hd, hi, _ => by
    rw [f_lumref_allPaths_L29, cond_ff (dge (by omega)), List.drop_of_length_le (by omega)]; rfl
  | d + 1, i, fu + 1, hd, hi, hf => by
    have hlt : i < out.length := by omega
    rw [f_lumref_allPaths_L29, cond_tt (dlt (by omega)), at_lt hlt, opt_of, less_plt (hv _ (List.getElem_mem hlt)) hp g hg, opt_of, List.drop_eq_getElem_cons hlt]
    unfold fi
    cases h : plt out[i] p with
    | true =>
      dsimp only
      rw [cond_ff (show (!true) = false from rfl), if_pos rfl, wsucc (by omega), find_go out p hp hv hl kk g hg d (i + 1) fu (by omega) (by omega) (by omega), show i + 1 + fi p (out.drop (i + 1)) = i + (fi p (out.drop (i + 1)) + 1) from by omega]
    | false => rw [if_neg (by simp)]; rfl
theorem paths_go (l : L2) (hv : ∀ x ∈ l, PV x) (hl : l.length ≤ 100000) (kk : L2 → Option L2) (g : Nat) (hg : 2000000 ≤ g) : ∀ (d i fu : Nat), l.length - i = d → i ≤ l.length → d < fu →
    f_lumref_allPaths_L5 l kk g fu (all plt (l.take i)) (i : Int) = kk (all plt l)
  | _, _, 0, _, _, h => absurd h (Nat.not_lt_zero _)
  | 0, i, fu + 1, hd, hi, _ => by
    rw [f_lumref_allPaths_L5, lt_of, cond_ff (dge (by omega)), List.take_of_length_le (by omega)]
  | d + 1, i, fu + 1, hd, hi, hf => by
    have hlt : i < l.length := by omega
    have hvo : ∀ x ∈ all plt (l.take i), PV x := fun x hx => hv x (List.mem_of_mem_take ((all_mem x _).1 hx))
    have hlo : (all plt (l.take i)).length ≤ 100000 := by
      have := all_len (lt := plt) (l.take i)
      rw [List.length_take] at this; omega
    have hp := hv _ (List.getElem_mem hlt)
    have ih := paths_go l hv hl kk g hg d (i + 1) fu (by omega) (by omega) (by omega)
    have htk : l.take (i + 1) = l.take i ++ [l[i]] := by rw [List.take_add_one, List.getElem?_eq_getElem hlt]; rfl
    rw [htk, all_snoc, ins_fi] at ih
    rw [f_lumref_allPaths_L5, lt_of, cond_tt (dlt (by omega)), lt_of, at_lt hlt, opt_of, lt_of]
    generalize all plt (l.take i) = out at hvo hlo ih ⊢
    generalize l[i] = p at hp ih ⊢
    have hfl := fi_le p out
    refine (find_go out p hp hvo hlo _ g hg out.length 0 g rfl (Nat.zero_le _) (by omega)).trans ?_
    rw [List.drop_zero, Nat.zero_add, lt_of]
    have ins_ok : f_slices_Insert_S g out ((fi p out : Nat) : Int) [p] = some (insS out (fi p out) p) := by
      show req (0 ≤ ((fi p out : Nat) : Int) ∧ ((fi p out : Nat) : Int) ≤ (out.length : Int) ∧ (out.length + 1) * 16 ≤ 140737488355328) _ = _
      rw [req_pos ⟨by omega, by omega, by omega⟩, Int.toNat_natCast]
    by_cases he : fi p out = out.length
    · rw [beq_iff_eq.2 (show ((fi p out : Nat) : Int) = (out.length : Int) from by omega), cond_tt rfl]
      dsimp only
      rw [cond_tt rfl, ins_ok, opt_of, wsucc (by omega)]
      rw [if_neg (by rw [he, List.getElem?_eq_none (Nat.le_refl _)]; simp)] at ih
      exact ih
    · have hlt2 : fi p out < out.length := by omega
      rw [beq_eq_false_iff_ne.2 (show ((fi p out : Nat) : Int) ≠ (out.length : Int) from by omega), cond_ff rfl, at_lt hlt2, opt_of]
      by_cases h2 : out[fi p out] = p
      · rw [beq_iff_eq.2 h2, show (!true) = false from rfl]
        dsimp only
        rw [cond_ff rfl, wsucc (by omega)]
        rw [if_pos (by rw [List.getElem?_eq_getElem hlt2, h2])] at ih
        exact ih
      · rw [beq_eq_false_iff_ne.2 h2, show (!false) = true from rfl]
        dsimp only
        rw [cond_tt rfl, ins_ok, opt_of, wsucc (by omega)]
        rw [if_neg (by rw [List.getElem?_eq_getElem hlt2]; intro e; exact h2 (Option.some.inj e))] at ih
        exact ih
theorem paths_ok (l : L2) (hv : ∀ x ∈ l, PV x) (hl : l.length ≤ 100000) (fu : Nat) (hf : 2000000 ≤ fu) : f_lumref_allPaths fu l = some (all plt l) := by
  unfold f_lumref_allPaths
  rw [lt_of]
  exact paths_go l hv hl (fun x => some x) fu hf l.length 0 fu rfl (Nat.zero_le _) (by omega)
theorem cmp3_loop (a b : L2) (ha : a.length ≤ 1048577) (hb : b.length ≤ 1048577) (g : Nat) : ∀ (d i fu : Nat), a.length - i = d → i ≤ a.length → i ≤ b.length → d < fu →
    ∃ c : Int, f_slices_Compare___string_string__L6 a b (fun _ => (bif (decide ((a.length : Int) < (b.length : Int))) then (some (-1 : Int)) else (some (0 : Int)))) g fu (i : Int) = some c ∧ decide (c < 0) = ah (a.drop i) (b.drop i) ∧ decide (0 < c) = ah (b.drop i) (a.drop i)
  | _, _, 0, _, _, _, hf => absurd hf (Nat.not_lt_zero _)
  | 0, i, fu + 1, hd, hi, hib, _ => by
    have hia : i = a.length := by omega
    rw [f_slices_Compare___string_string__L6, cond_ff (dge (by omega)), List.drop_of_length_le (l := a) (by omega), ah_nil]
    by_cases h : a.length < b.length
    · rw [cond_tt (decide_eq_true (by omega)), List.drop_eq_getElem_cons (by omega : i < b.length)]
      exact ⟨-1, rfl, rfl, rfl⟩
    · rw [cond_ff (decide_eq_false (by omega)), List.drop_of_length_le (l := b) (by omega)]
      exact ⟨0, rfl, rfl, rfl⟩
  | d + 1, i, fu + 1, hd, hi, hib, hf => by
    have hlt : i < a.length := by omega
    rw [f_slices_Compare___string_string__L6, cond_tt (dlt (by omega)), at_lt hlt, opt_of]
    by_cases h : i < b.length
    · rw [cond_ff (decide_eq_false (by omega)), at_lt h, opt_of, cmp_ok, opt_of, List.drop_eq_getElem_cons hlt, List.drop_eq_getElem_cons h, ah_cons, ah_cons]
      by_cases he : a[i] = b[i]
      · rw [he, less_self, if_neg (by simp), if_pos rfl, if_neg (by simp), cond_ff (show ((0 : Int) != 0) = false from rfl), wsucc (by omega), if_neg (by simp)]
        exact cmp3_loop a b ha hb g d (i + 1) fu (by omega) (by omega) (by omega) (by omega)
      · rw [if_pos he, if_neg he, if_pos (fun e => he e.symm)]
        cases hq : Op.bytesLess a[i] b[i] with
        | true =>
          have h2 : Op.bytesLess b[i] a[i] = false := by
            cases hq2 : Op.bytesLess b[i] a[i] with
            | false => rfl
            | true => exact absurd hq2 (StrOrd.asymm hq)
          rw [if_pos rfl, h2]; exact ⟨-1, rfl, rfl, rfl⟩
        | false =>
          have h2 : Op.bytesLess b[i] a[i] = true := by
            rcases StrOrd.tri a[i] b[i] with h' | h' | h'
            · rw [show Op.bytesLess a[i] b[i] = true from h'] at hq; cases hq
            · exact absurd h' he
            · exact h'
          rw [if_neg (by simp), h2]; exact ⟨1, rfl, rfl, rfl⟩
    · rw [cond_tt (decide_eq_true (by omega)), List.drop_of_length_le (l := b) (by omega), ah_nil, List.drop_eq_getElem_cons hlt]
      exact ⟨1, rfl, rfl, rfl⟩
theorem compare3 (p q : Pt) (hp : PV p) (hq : PV q) (fu : Nat) (hf : 2000000 ≤ fu) : ∃ c : Int, f_names_Compare fu p q = some c ∧ decide (c < 0) = plt p q ∧ decide (0 < c) = plt q p := by
  have h1 := sp_sm p hp.2
  have h2 := sp_sm q hq.2
  have hl1 := h1.1
  have hl2 := h2.1
  unfold f_names_Compare
  rw [split1 p hp.2 fu hf, split1 q hq.2 fu hf, opt_of, opt_of]
  obtain ⟨c, c1, c2, c3⟩ := cmp3_loop (sp p).1 (sp q).1 hl1 hl2 fu _ 0 fu rfl (Nat.zero_le _) (Nat.zero_le _) (by omega)
  unfold f_slices_Compare___string_string_
  rw [lt_of]
  rw [show (0 : Int) = ((0 : Nat) : Int) from rfl] at *
  rw [c1, opt_of]
  exact ⟨c, rfl, by rw [c2, List.drop_zero, List.drop_zero]; rfl, by rw [c3, List.drop_zero, List.drop_zero]; rfl⟩
def zIt : It := S_api_Item.mk [] 0 0 0 []
def answ {α : Type} (z : α) (o : Option α) : α × Bool := match o with | some x => (x, true) | none => (z, false)
theorem itemAt_go (w : List It) (p : Pt) (hl : w.length ≤ 100000) : ∀ (d i fu : Nat), w.length - i = d → i ≤ w.length → d < fu →
    f_lumref_itemAt_L6 w p (fun _ => some (zIt, false)) fu (i : Int) = some (answ zIt (at_ S_api_Item.Path (w.drop i) p))
  | _, _, 0, _, _, h => absurd h (Nat.not_lt_zero _)
  | 0, i, fu + 1, hd, hi, _ => by
    rw [f_lumref_itemAt_L6, cond_ff (dge (by omega)), List.drop_of_length_le (by omega)]; rfl
  | d + 1, i, fu + 1, hd, hi, hf => by
    have hlt : i < w.length := by omega
    rw [f_lumref_itemAt_L6, cond_tt (dlt (by omega)), at_lt hlt, opt_of, List.drop_eq_getElem_cons hlt]
    by_cases h : w[i].Path = p
    · rw [beq_iff_eq.2 h, cond_tt rfl, at_cons_eq _ _ _ _ h]; rfl
    · rw [beq_eq_false_iff_ne.2 h, cond_ff rfl, at_cons_ne _ _ _ _ h, wsucc (by omega)]
      exact itemAt_go w p hl d (i + 1) fu (by omega) (by omega) (by omega)
theorem itemAt_ok (w : List It) (p : Pt) (hl : w.length ≤ 100000) (fu : Nat) (hf : 2000000 ≤ fu) : f_lumref_itemAt fu w p = some (answ zIt (at_ S_api_Item.Path w p)) := by
  unfold f_lumref_itemAt
  rw [lt_of]
  exact itemAt_go w p hl w.length 0 fu rfl (Nat.zero_le _) (by omega)
theorem at_mem {α : Type} {pa : α → Pt} {w : List α} {p : Pt} {x : α} (h : at_ pa w p = some x) : x ∈ w ∧ pa x = p := ⟨List.mem_of_find?_eq_some h, by simpa using List.find?_some h⟩
theorem take_snoc {α : Type} {w : List α} {i : Nat} (h : i < w.length) : w.take (i + 1) = w.take i ++ [w[i]] := by rw [List.take_add_one, List.getElem?_eq_getElem h]; rfl
structure IOk (x : It) : Prop where
  p : x.Path.length ≤ 1048576
  k : (Lit.int .i64 x.Kind).wf = true
  m : (Lit.int .i64 x.Mode).wf = true
  t : (Lit.int .i64 x.Time).wf = true
  b : x.Bytes.length ≤ 9223372036854775807
theorem good_srt {w : List It} (h : PWorld.Good w) : Srt plt (w.map S_api_Item.Path) := by
  unfold Srt
  rw [List.pairwise_map]
  exact h.2
theorem good_pv {w : List It} (h : PWorld.Good w) (hs : Sz w) : ∀ x ∈ w, PV x.Path := fun x hx => ⟨(itemV_zero (h.1 x hx)).1, hs x hx⟩
end Go.Proofs.YtfhifdmbdkkgaaaDoor.PPaths
namespace Go.Proofs.YtfhifdmbdkkgaaaDoor.PDeltaApplies
open Go.RowKit YtfhifdmbdkkgaaaDoor.En YtfhifdmbdkkgaaaDoor U8 PNamesSays PWorld Mrg PPaths
open Go.Lib hiding cut
set_option linter.unusedVariables false
set_option linter.unusedSimpArgs false
abbrev Ed := S_api_Edit
def zEd : Ed := S_api_Edit.mk [] false zIt
def aE (t : Pt × Option It × Option Ed) : List It := match t.2.2 with
  | some e => if e.Gone = true then [] else [e.Item]
  | none => t.2.1.toList
def jE (t : Pt × Option Ed × Option Ed) : List Ed := match t.2.2 with
  | some e => [e]
  | none => t.2.1.toList
theorem aE_len (t : Pt × Option It × Option Ed) : (aE t).length ≤ 1 := by
  obtain ⟨p, x, y⟩ := t
  cases y with
  | none => cases x <;> simp [aE]
  | some e =>
    show (if e.Gone = true then ([] : List It) else [e.Item]).length ≤ 1
    split
    · exact Nat.zero_le _
    · exact Nat.le_refl _
theorem jE_len (t : Pt × Option Ed × Option Ed) : (jE t).length ≤ 1 := by
  obtain ⟨p, x, y⟩ := t
  cases y with
  | none => cases x <;> simp [jE]
  | some e => exact Nat.le_refl _
theorem len_pos {α : Type} (x : α) (l : List α) : decide (((x :: l).length : Int) > 0) = true := decide_eq_true (by rw [List.length_cons]; omega)
theorem len_ne {α : Type} (x : α) (l : List α) : ((((x :: l).length : Nat) : Int) == 0) = false := beq_eq_false_iff_ne.2 (by rw [List.length_cons]; omega)
theorem one_le {α : Type} (x : α) (l : List α) : (0 : Int) ≤ 1 ∧ (1 : Int) ≤ (((x :: l).length : Nat) : Int) := ⟨by decide, by rw [List.length_cons]; omega⟩
theorem ap_e (e : Ed) (out : List It) (ho : out.length ≤ 1000) (t : Option It) (p : Pt) : (bif (!e.Gone) then (req (((out.length + ([e.Item]).length) * 56 : Nat) ≤ 140737488355328 ∧ out.length + ([e.Item]).length ≤ 9223372036854775807) (some (out ++ ([e.Item])))) else (some out)) = some (out ++ aE (p, t, some e)) := by
  show _ = some (out ++ if e.Gone = true then [] else [e.Item])
  cases h : e.Gone with
  | true => rw [cond_ff (show (!true) = false from rfl), if_pos rfl, List.append_nil]
  | false => rw [cond_tt (show (!false) = true from rfl), if_neg (by simp), req_pos (by rw [List.length_singleton]; omega)]
theorem ap_pp (x : It) (e : Ed) (out : List It) (ho : out.length ≤ 1000) {fu : Nat} : f_delta_Apply_1_ptrD_ptrD fu x e out = some (out ++ aE (x.Path, some x, some e)) := ap_e e out ho _ _
theorem ap_np (e : Ed) (out : List It) (ho : out.length ≤ 1000) {fu : Nat} : f_delta_Apply_1_nilp_ptrD fu e out = some (out ++ aE (e.Path, none, some e)) := ap_e e out ho _ _
theorem ap_pn (x : It) (out : List It) (ho : out.length ≤ 1000) {fu : Nat} : f_delta_Apply_1_ptrD_nilp fu x out = some (out ++ aE (x.Path, some x, none)) := by
  unfold f_delta_Apply_1_ptrD_nilp
  rw [req_pos (by rw [List.length_singleton]; omega)]; rfl
theorem jo_pp (x e : Ed) (out : List Ed) (ho : out.length ≤ 1000) {fu : Nat} : f_delta_Join_1_ptrD_ptrD fu x e out = some (out ++ jE (x.Path, some x, some e)) := by
  unfold f_delta_Join_1_ptrD_ptrD
  rw [req_pos (by rw [List.length_singleton]; omega)]; rfl
theorem jo_np (e : Ed) (out : List Ed) (ho : out.length ≤ 1000) {fu : Nat} : f_delta_Join_1_nilp_ptrD fu e out = some (out ++ jE (e.Path, none, some e)) := by
  unfold f_delta_Join_1_nilp_ptrD
  rw [req_pos (by rw [List.length_singleton]; omega)]; rfl
theorem jo_pn (x : Ed) (out : List Ed) (ho : out.length ≤ 1000) {fu : Nat} : f_delta_Join_1_ptrD_nilp fu x out = some (out ++ jE (x.Path, some x, none)) := by
  unfold f_delta_Join_1_ptrD_nilp
  rw [req_pos (by rw [List.length_singleton]; omega)]; rfl
theorem ap_go (fu : Nat) (hf : 2000000 ≤ fu) : ∀ (n : Nat) (a : List It) (b : List Ed) (out : List It) (k : Nat), a.length + b.length ≤ n → n < k → (∀ x ∈ a, PV x.Path) → (∀ x ∈ b, PV x.Path) → out.length + n ≤ 1000 →
    f_delta_sideBySide_api_Item_api_Edit__F52_F59_F60_L3 fu k a b out = some (out ++ (mg plt S_api_Item.Path S_api_Edit.Path n a b).flatMap aE)
  | _, _, _, _, 0, _, h, _, _, _ => absurd h (Nat.not_lt_zero _)
  | 0, a, b, out, k + 1, h, _, _, _, _ => by
    have ha : a = [] := List.eq_nil_of_length_eq_zero (by omega)
    have hb : b = [] := List.eq_nil_of_length_eq_zero (by omega)
    subst ha; subst hb
    show some out = some (out ++ [])
    rw [List.append_nil]
  | n + 1, [], [], out, k + 1, _, _, _, _, _ => by
    show some out = some (out ++ [])
    rw [List.append_nil]
  | n + 1, x :: a, [], out, k + 1, h, hk, ha, hb, ho => by
    rw [List.length_cons] at h
    have dl := aE_len (x.Path, some x, none)
    have ih := ap_go fu hf n a [] (out ++ aE (x.Path, some x, none)) k (by simp at h ⊢; omega) (by omega) (fun z hz => ha z (by simp [hz])) hb (by rw [List.length_append]; omega)
    rw [f_delta_sideBySide_api_Item_api_Edit__F52_F59_F60_L3, lt_of, len_pos, cond_tt rfl]
    dsimp only
    rw [cond_tt rfl, lt_of, show ((([] : List Ed).length : Int) == 0) = true from rfl, cond_tt rfl]
    dsimp only
    rw [cond_tt (by decide), show at? (x :: a) (0 : Int) = some x from rfl, opt_of, req_pos (one_le x a), cond_ff (by decide), ap_pn x out (by omega), opt_of]
    refine Eq.trans ih ?_
    show _ = some (out ++ (aE (x.Path, some x, none) ++ (mg plt S_api_Item.Path S_api_Edit.Path n a []).flatMap aE))
    rw [List.append_assoc]
  | n + 1, [], y :: b, out, k + 1, h, hk, ha, hb, ho => by
    rw [List.length_cons] at h
    have dl := aE_len (y.Path, none, some y)
    have ih := ap_go fu hf n [] b (out ++ aE (y.Path, none, some y)) k (by simp at h ⊢; omega) (by omega) ha (fun z hz => hb z (by simp [hz])) (by rw [List.length_append]; omega)
    rw [f_delta_sideBySide_api_Item_api_Edit__F52_F59_F60_L3, lt_of, show decide (((([] : List It).length : Nat) : Int) > 0) = false from rfl, cond_ff rfl, len_pos]
    dsimp only
    rw [cond_tt rfl, lt_of, len_ne, cond_ff rfl, show ((([] : List It).length : Int) == 0) = true from rfl, cond_tt rfl]
    dsimp only
    rw [cond_ff (by decide), cond_tt (by decide), show at? (y :: b) (0 : Int) = some y from rfl, opt_of, req_pos (one_le y b), ap_np y out (by omega), opt_of]
    refine Eq.trans ih ?_
    show _ = some (out ++ (aE (y.Path, none, some y) ++ (mg plt S_api_Item.Path S_api_Edit.Path n [] b).flatMap aE))
    rw [List.append_assoc]
  | n + 1, x :: a, y :: b, out, k + 1, h, hk, ha, hb, ho => by
    rw [List.length_cons, List.length_cons] at h
    have x2 := ha x (by simp)
    have y2 := hb y (by simp)
    obtain ⟨c, c1, c2, c3⟩ := compare3 x.Path y.Path x2 y2 fu hf
    rw [f_delta_sideBySide_api_Item_api_Edit__F52_F59_F60_L3, lt_of, len_pos, cond_tt rfl]
    dsimp only
    rw [cond_tt rfl, lt_of, len_ne, cond_ff rfl, len_ne, cond_ff rfl, show at? (x :: a) (0 : Int) = some x from rfl, show at? (y :: b) (0 : Int) = some y from rfl, opt_of]
    unfold f_delta_itemPath f_delta_editPath
    rw [opt_of, opt_of, opt_of, c1, opt_of]
    rw [mg]
    dsimp only
    by_cases h1 : plt x.Path y.Path = true
    · have hc : c < 0 := of_decide_eq_true (c2.trans h1)
      have dl := aE_len (x.Path, some x, none)
      have ih := ap_go fu hf n a (y :: b) (out ++ aE (x.Path, some x, none)) k (by rw [List.length_cons]; omega) (by omega) (fun z hz => ha z (by simp [hz])) hb (by rw [List.length_append]; omega)
      rw [cond_tt (decide_eq_true (by omega)), opt_of, req_pos (one_le x a), cond_ff (decide_eq_false (by omega)), ap_pn x out (by omega), opt_of, if_pos h1]
      refine Eq.trans ih ?_
      rw [List.flatMap_cons, List.append_assoc]
    · rw [if_neg h1]
      have hc0 : ¬ c < 0 := fun hc => h1 (c2.symm.trans (decide_eq_true hc))
      by_cases h2 : plt y.Path x.Path = true
      · have hc : 0 < c := of_decide_eq_true (c3.trans h2)
        have dl := aE_len (y.Path, none, some y)
        have ih := ap_go fu hf n (x :: a) b (out ++ aE (y.Path, none, some y)) k (by rw [List.length_cons]; omega) (by omega) ha (fun z hz => hb z (by simp [hz])) (by rw [List.length_append]; omega)
        rw [cond_ff (decide_eq_false (by omega)), cond_tt (decide_eq_true (by omega)), opt_of, req_pos (one_le y b), ap_np y out (by omega), opt_of, if_pos h2]
        refine Eq.trans ih ?_
        rw [List.flatMap_cons, List.append_assoc]
      · have hc : ¬ 0 < c := fun hc => h2 (c3.symm.trans (decide_eq_true hc))
        have he : x.Path = y.Path := by
          rcases pord.tri x.Path y.Path x2 y2 with e | e | e
          · exact absurd e h1
          · exact e
          · exact absurd e h2
        have dl := aE_len (x.Path, some x, some y)
        have ih := ap_go fu hf n a b (out ++ aE (x.Path, some x, some y)) k (by omega) (by omega) (fun z hz => ha z (by simp [hz])) (fun z hz => hb z (by simp [hz])) (by rw [List.length_append]; omega)
        rw [cond_tt (decide_eq_true (by omega)), opt_of, req_pos (one_le x a), cond_tt (decide_eq_true (by omega)), opt_of, req_pos (one_le y b), ap_pp x y out (by omega), opt_of, if_neg h2]
        refine Eq.trans ih ?_
        rw [List.flatMap_cons, List.append_assoc]
theorem jo_go (fu : Nat) (hf : 2000000 ≤ fu) : ∀ (n : Nat) (a : List Ed) (b : List Ed) (out : List Ed) (k : Nat), a.length + b.length ≤ n → n < k → (∀ x ∈ a, PV x.Path) → (∀ x ∈ b, PV x.Path) → out.length + n ≤ 1000 →
    f_delta_sideBySide_api_Edit_api_Edit__F59_F59_F63_L3 fu k a b out = some (out ++ (mg plt S_api_Edit.Path S_api_Edit.Path n a b).flatMap jE)
  | _, _, _, _, 0, _, h, _, _, _ => absurd h (Nat.not_lt_zero _)
  | 0, a, b, out, k + 1, h, _, _, _, _ => by
    have ha : a = [] := List.eq_nil_of_length_eq_zero (by omega)
    have hb : b = [] := List.eq_nil_of_length_eq_zero (by omega)
    subst ha; subst hb
    show some out = some (out ++ [])
    rw [List.append_nil]
  | n + 1, [], [], out, k + 1, _, _, _, _, _ => by
    show some out = some (out ++ [])
    rw [List.append_nil]
  | n + 1, x :: a, [], out, k + 1, h, hk, ha, hb, ho => by
    rw [List.length_cons] at h
    have dl := jE_len (x.Path, some x, none)
    have ih := jo_go fu hf n a [] (out ++ jE (x.Path, some x, none)) k (by simp at h ⊢; omega) (by omega) (fun z hz => ha z (by simp [hz])) hb (by rw [List.length_append]; omega)
    rw [f_delta_sideBySide_api_Edit_api_Edit__F59_F59_F63_L3, lt_of, len_pos, cond_tt rfl]
    dsimp only
    rw [cond_tt rfl, lt_of, show ((([] : List Ed).length : Int) == 0) = true from rfl, cond_tt rfl]
    dsimp only
    rw [cond_tt (by decide), show at? (x :: a) (0 : Int) = some x from rfl, opt_of, req_pos (one_le x a), cond_ff (by decide), jo_pn x out (by omega), opt_of]
    refine Eq.trans ih ?_
    show _ = some (out ++ (jE (x.Path, some x, none) ++ (mg plt S_api_Edit.Path S_api_Edit.Path n a []).flatMap jE))
    rw [List.append_assoc]
  | n + 1, [], y :: b, out, k + 1, h, hk, ha, hb, ho => by
    rw [List.length_cons] at h
    have dl := jE_len (y.Path, none, some y)
    have ih := jo_go fu hf n [] b (out ++ jE (y.Path, none, some y)) k (by simp at h ⊢; omega) (by omega) ha (fun z hz => hb z (by simp [hz])) (by rw [List.length_append]; omega)
    rw [f_delta_sideBySide_api_Edit_api_Edit__F59_F59_F63_L3, lt_of, show decide (((([] : List Ed).length : Nat) : Int) > 0) = false from rfl, cond_ff rfl, len_pos]
    dsimp only
    rw [cond_tt rfl, lt_of, len_ne, cond_ff rfl, show ((([] : List Ed).length : Int) == 0) = true from rfl, cond_tt rfl]
    dsimp only
    rw [cond_ff (by decide), cond_tt (by decide), show at? (y :: b) (0 : Int) = some y from rfl, opt_of, req_pos (one_le y b), jo_np y out (by omega), opt_of]
    refine Eq.trans ih ?_
    show _ = some (out ++ (jE (y.Path, none, some y) ++ (mg plt S_api_Edit.Path S_api_Edit.Path n [] b).flatMap jE))
    rw [List.append_assoc]
  | n + 1, x :: a, y :: b, out, k + 1, h, hk, ha, hb, ho => by
    rw [List.length_cons, List.length_cons] at h
    have x2 := ha x (by simp)
    have y2 := hb y (by simp)
    obtain ⟨c, c1, c2, c3⟩ := compare3 x.Path y.Path x2 y2 fu hf
    rw [f_delta_sideBySide_api_Edit_api_Edit__F59_F59_F63_L3, lt_of, len_pos, cond_tt rfl]
    dsimp only
    rw [cond_tt rfl, lt_of, len_ne, cond_ff rfl, len_ne, cond_ff rfl, show at? (x :: a) (0 : Int) = some x from rfl, show at? (y :: b) (0 : Int) = some y from rfl, opt_of]
    unfold f_delta_editPath
    rw [opt_of, opt_of, opt_of, c1, opt_of]
    rw [mg]
    dsimp only
    by_cases h1 : plt x.Path y.Path = true
    · have hc : c < 0 := of_decide_eq_true (c2.trans h1)
      have dl := jE_len (x.Path, some x, none)
      have ih := jo_go fu hf n a (y :: b) (out ++ jE (x.Path, some x, none)) k (by rw [List.length_cons]; omega) (by omega) (fun z hz => ha z (by simp [hz])) hb (by rw [List.length_append]; omega)
      rw [cond_tt (decide_eq_true (by omega)), opt_of, req_pos (one_le x a), cond_ff (decide_eq_false (by omega)), jo_pn x out (by omega), opt_of, if_pos h1]
      refine Eq.trans ih ?_
      rw [List.flatMap_cons, List.append_assoc]
    · rw [if_neg h1]
      have hc0 : ¬ c < 0 := fun hc => h1 (c2.symm.trans (decide_eq_true hc))
      by_cases h2 : plt y.Path x.Path = true
      · have hc : 0 < c := of_decide_eq_true (c3.trans h2)
        have dl := jE_len (y.Path, none, some y)
        have ih := jo_go fu hf n (x :: a) b (out ++ jE (y.Path, none, some y)) k (by rw [List.length_cons]; omega) (by omega) ha (fun z hz => hb z (by simp [hz])) (by rw [List.length_append]; omega)
        rw [cond_ff (decide_eq_false (by omega)), cond_tt (decide_eq_true (by omega)), opt_of, req_pos (one_le y b), jo_np y out (by omega), opt_of, if_pos h2]
        refine Eq.trans ih ?_
        rw [List.flatMap_cons, List.append_assoc]
      · have hc : ¬ 0 < c := fun hc => h2 (c3.symm.trans (decide_eq_true hc))
        have he : x.Path = y.Path := by
          rcases pord.tri x.Path y.Path x2 y2 with e | e | e
          · exact absurd e h1
          · exact e
          · exact absurd e h2
        have dl := jE_len (x.Path, some x, some y)
        have ih := jo_go fu hf n a b (out ++ jE (x.Path, some x, some y)) k (by omega) (by omega) (fun z hz => ha z (by simp [hz])) (fun z hz => hb z (by simp [hz])) (by rw [List.length_append]; omega)
        rw [cond_tt (decide_eq_true (by omega)), opt_of, req_pos (one_le x a), cond_tt (decide_eq_true (by omega)), opt_of, req_pos (one_le y b), jo_pp x y out (by omega), opt_of, if_neg h2]
        refine Eq.trans ih ?_
        rw [List.flatMap_cons, List.append_assoc]
structure EOk (e : Ed) : Prop where
  p : e.Path.length ≤ 1048576
  i : IOk e.Item
def bad (x : Ed) : Bool := if x.Gone = true then decide (x.Item ≠ zIt) else decide (x.Item.Path ≠ x.Path)
def edGo : List Ed → List Ed → Int
  | _, [] => 0
  | w, x :: t => if (sp x.Path).2 ≠ 0 then (sp x.Path).2 else if bad x = true then 4 else if (w.getLast?.any fun y => !plt y.Path x.Path) = true then 4 else edGo (w ++ [x]) t
theorem edGo_cons (w : List Ed) (x : Ed) (t : List Ed) : edGo w (x :: t) = if (sp x.Path).2 ≠ 0 then (sp x.Path).2 else if bad x = true then 4 else if (w.getLast?.any fun y => !plt y.Path x.Path) = true then 4 else edGo (w ++ [x]) t := rfl
def edV (l : List Ed) : Int := if l.length > 200 then 2 else edGo [] l
def EG (w : List Ed) : Prop := (∀ x ∈ w, (sp x.Path).2 = 0) ∧ Srt plt (w.map S_api_Edit.Path)
theorem eg_snoc {w : List Ed} {x : Ed} (h : EG w) (hx : (sp x.Path).2 = 0) (hl : (w.getLast?.any fun y => !plt y.Path x.Path) = false) : EG (w ++ [x]) := by
  refine ⟨fun y hy => ?_, ?_⟩
  · rcases List.mem_append.1 hy with hy | hy
    · exact h.1 y hy
    · rw [List.mem_singleton.1 hy]; exact hx
  · unfold Srt
    rw [List.map_append, List.pairwise_append]
    refine ⟨h.2, List.pairwise_singleton _ _, fun p hp q hq => ?_⟩
    obtain ⟨y, hy, rfl⟩ := List.mem_map.1 hp
    obtain rfl : q = x.Path := by simpa using hq
    have hne : w ≠ [] := fun e => by rw [e] at hy; cases hy
    rw [List.getLast?_eq_some_getLast hne] at hl
    have h1 : plt (w.getLast hne).Path x.Path = true := by simpa using hl
    obtain ⟨l1, l2, e⟩ := List.append_of_mem hy
    by_cases h2 : l2 = []
    · have : y = w.getLast hne := by subst e; subst h2; simp
      rw [this]; exact h1
    · have hp := h.2
      unfold Srt at hp
      rw [e, List.map_append, List.map_cons, List.pairwise_append] at hp
      have h3 := (List.pairwise_cons.1 hp.2.1).1 (l2.getLast h2).Path (List.mem_map.2 ⟨_, List.getLast_mem h2, rfl⟩)
      have h4 : w.getLast hne = l2.getLast h2 := by subst e; simp [List.getLast_append, List.getLast_cons h2]
      rw [h4] at h1
      exact ah_trans h3 h1
theorem edGo_good : ∀ (t w : List Ed), EG w → edGo w t = 0 → EG (w ++ t)
  | [], w, h, _ => by rw [List.append_nil]; exact h
  | x :: t, w, h, h0 => by
    rw [edGo_cons] at h0
    by_cases h1 : (sp x.Path).2 ≠ 0
    · rw [if_pos h1] at h0; exact absurd h0 h1
    rw [if_neg h1] at h0
    by_cases h2 : bad x = true
    · rw [if_pos h2] at h0; exact absurd h0 (by decide)
    rw [if_neg h2] at h0
    by_cases h3 : (w.getLast?.any fun y => !plt y.Path x.Path) = true
    · rw [if_pos h3] at h0; exact absurd h0 (by decide)
    rw [if_neg h3] at h0
    have := edGo_good t (w ++ [x]) (eg_snoc h (by simpa using h1) (by simpa using h3)) h0
    rw [List.append_assoc] at this; exact this
theorem ed_good {l : List Ed} (h : edV l = 0) : EG l ∧ l.length ≤ 200 := by
  unfold edV at h
  by_cases h1 : l.length > 200
  · rw [if_pos h1] at h; exact absurd h (by decide)
  · rw [if_neg h1] at h
    exact ⟨by have := edGo_good l [] ⟨by simp, List.Pairwise.nil⟩ h; rwa [List.nil_append] at this, by omega⟩
theorem w0 : (Lit.int .i64 (0 : Int)).wf = true := by decide
theorem zp {k : Option Int} : req (([] : List UInt8).length ≤ 9223372036854775807) k = k := req_pos (by decide)
theorem last_some {w : List Ed} {i : Nat} (hi : i ≤ w.length) (h0 : 0 < i) (hlt1 : i - 1 < w.length) : (w.take i).getLast? = some w[i - 1] := by
  rw [List.getLast?_eq_getElem?, List.length_take, Nat.min_eq_left hi, List.getElem?_take_of_lt (by omega), List.getElem?_eq_getElem hlt1]
theorem cmp_tail (w : List Ed) (hs : ∀ e ∈ w, EOk e) (hl : w.length ≤ 200) (i : Nat) (hlt : i < w.length) (hG : ∀ x ∈ w.take i, (sp x.Path).2 = 0) (hx : (sp w[i].Path).2 = 0) (g : Nat) (hg : 2000000 ≤ g) (kk : Bool → Option Int) :
    (bif (decide ((i : Int) > (0 : Int))) then (opt (at? w (IntKind.i64.wrap ((i : Int) - (1 : Int)))) fun (u34 : S_api_Edit) => (opt (f_names_Compare g u34.Path w[i].Path) fun (r39 : Int) => (kk (decide (r39 ≥ (0 : Int)))))) else (kk false)) = kk ((w.take i).getLast?.any fun y => !plt y.Path w[i].Path) := by
  by_cases hi0 : 0 < i
  · have hlt1 : i - 1 < w.length := by omega
    have hlast := last_some (w := w) (by omega) hi0 hlt1
    have hp : PV w[i - 1].Path := ⟨hG _ (List.mem_of_getLast? hlast), (hs _ (List.getElem_mem hlt1)).p⟩
    have hq : PV w[i].Path := ⟨hx, (hs _ (List.getElem_mem hlt)).p⟩
    obtain ⟨c, c1, c2, c3⟩ := compare3 w[i - 1].Path w[i].Path hp hq g hg
    rw [cond_tt (decide_eq_true (by omega)), show IntKind.i64.wrap ((i : Int) - 1) = ((i - 1 : Nat) : Int) from by rw [w64 (by omega) (by omega)]; omega, at_lt hlt1, opt_of, c1, opt_of, hlast]
    show kk (decide (c ≥ 0)) = kk (!plt w[i - 1].Path w[i].Path)
    rw [← c2]
    by_cases hc : c < 0
    · rw [decide_eq_true hc, decide_eq_false (by omega)]; rfl
    · rw [decide_eq_false hc, decide_eq_true (by omega)]; rfl
  · have : i = 0 := by omega
    subst this
    rw [cond_ff (by decide)]; rfl
theorem check_go (w : List Ed) (hs : ∀ e ∈ w, EOk e) (hl : w.length ≤ 200) (g : Nat) (hg : 2000000 ≤ g) : ∀ (d i fu : Nat), w.length - i = d → i ≤ w.length → d < fu → EG (w.take i) →
    f_delta_Check_L6 w (fun _ => some (0 : Int)) g fu (i : Int) = some (edGo (w.take i) (w.drop i))
  | _, _, 0, _, _, h, _ => absurd h (Nat.not_lt_zero _)
  | 0, i, fu + 1, hd, hi, _, _ => by
    rw [f_delta_Check_L6, cond_ff (dge (by omega)), List.drop_of_length_le (by omega)]; rfl
  | d + 1, i, fu + 1, hd, hi, hf, hG => by
    have hlt : i < w.length := by omega
    have hx := hs _ (List.getElem_mem hlt)
    have h1 := hx.i.p
    rw [f_delta_Check_L6, cond_tt (dlt (by omega)), at_lt hlt, opt_of, split1 _ hx.p g hg, opt_of, List.drop_eq_getElem_cons hlt, edGo_cons]
    by_cases h0 : (sp w[i].Path).2 = 0
    · rw [cond_ff (show ((sp w[i].Path).2 != 0) = false from by simpa using h0), if_neg (by simpa using h0), req_pos (c := w[i].Item.Path.length ≤ 9223372036854775807) (by omega), req_pos hx.i.k, req_pos hx.i.m, req_pos hx.i.t, req_pos hx.i.b, zp, req_pos w0, req_pos w0, req_pos w0, zp, lt_of]
      have ct := cmp_tail w hs hl i hlt hG.1 h0 g hg (fun (j26b65 : Bool) => (bif j26b65 then (some (4 : Int)) else (f_delta_Check_L6 w (fun _ => some (0 : Int)) g fu (IntKind.i64.wrap ((i : Int) + (1 : Int))))))
      dsimp only at ct ⊢
      rw [ct]
      have ih := fun (hl' : ((w.take i).getLast?.any fun y => !plt y.Path w[i].Path) = false) => check_go w hs hl g hg d (i + 1) fu (by omega) (by omega) (by omega) (by rw [take_snoc hlt]; exact eg_snoc hG h0 hl')
      rw [take_snoc hlt] at ih
      rw [wsucc (by omega)]
      unfold bad
      have key : ∀ b c : Bool, ((c = false) → f_delta_Check_L6 w (fun _ => some (0 : Int)) g fu ((i + 1 : Nat) : Int) = some (edGo (w.take i ++ [w[i]]) (w.drop (i + 1)))) → (bif b then some (4 : Int) else bif c then some (4 : Int) else f_delta_Check_L6 w (fun _ => some (0 : Int)) g fu ((i + 1 : Nat) : Int)) = some (if b = true then 4 else if c = true then 4 else edGo (w.take i ++ [w[i]]) (w.drop (i + 1))) := by
        intro b c h
        cases b with
        | true => rfl
        | false =>
          cases c with
          | true => rfl
          | false => exact h rfl
      cases hgn : w[i].Gone with
      | true =>
        rw [cond_tt rfl, if_pos rfl]
        by_cases hz : w[i].Item = zIt
        · rw [show (w[i].Item == (S_api_Item.mk ([] : List UInt8) (0 : Int) (0 : Int) (0 : Int) ([] : List UInt8))) = true from beq_iff_eq.2 hz, cond_ff (show (!true) = false from rfl), cond_ff (show (!true) = false from rfl), decide_eq_false (by simpa using hz)]
          exact key false _ ih
        · rw [show (w[i].Item == (S_api_Item.mk ([] : List UInt8) (0 : Int) (0 : Int) (0 : Int) ([] : List UInt8))) = false from beq_eq_false_iff_ne.2 hz, cond_tt (show (!false) = true from rfl), decide_eq_true hz]
          rfl
      | false =>
        rw [cond_ff rfl, cond_tt (show (!false) = true from rfl), if_neg (show ¬ (false = true) from by simp)]
        by_cases hz : w[i].Item.Path = w[i].Path
        · rw [beq_iff_eq.2 hz, cond_ff (show (!true) = false from rfl), decide_eq_false (by simpa using hz)]
          exact key false _ ih
        · rw [beq_eq_false_iff_ne.2 hz, cond_tt (show (!false) = true from rfl), decide_eq_true hz]
          rfl
    · rw [cond_tt (show ((sp w[i].Path).2 != 0) = true from by simpa using h0), if_pos h0]
theorem check_ok (w : List Ed) (hs : ∀ e ∈ w, EOk e) (fu : Nat) (hf : 2000000 ≤ fu) : f_delta_Check fu w = some (edV w) := by
  unfold f_delta_Check edV
  by_cases h : w.length > 200
  · rw [cond_tt (decide_eq_true (by omega)), if_pos h]
  · rw [cond_ff (decide_eq_false (by omega)), if_neg h, lt_of]
    exact check_go w hs (by omega) fu hf _ 0 fu rfl (Nat.zero_le _) (by omega) ⟨by simp, List.Pairwise.nil⟩
theorem less_tail (w : List Ed) (hs : ∀ e ∈ w, EOk e) (hl : w.length ≤ 200) (i : Nat) (hlt : i < w.length) (hG : ∀ x ∈ w.take i, (sp x.Path).2 = 0) (hx : (sp w[i].Path).2 = 0) (g : Nat) (hg : 2000000 ≤ g) (R : Option Int) :
    (bif (decide ((i : Int) > (0 : Int))) then (opt (at? w (IntKind.i64.wrap ((i : Int) - (1 : Int)))) fun (u22 : S_api_Edit) => (opt (f_lumref_Less g u22.Path w[i].Path) fun (r27 : (Bool × Int)) => (bif (!r27.1) then (some (4 : Int)) else R))) else R) = bif ((w.take i).getLast?.any fun y => !plt y.Path w[i].Path) then some 4 else R := by
  by_cases hi0 : 0 < i
  · have hlt1 : i - 1 < w.length := by omega
    have hlast := last_some (w := w) (by omega) hi0 hlt1
    have hp : PV w[i - 1].Path := ⟨hG _ (List.mem_of_getLast? hlast), (hs _ (List.getElem_mem hlt1)).p⟩
    have hq : PV w[i].Path := ⟨hx, (hs _ (List.getElem_mem hlt)).p⟩
    rw [cond_tt (decide_eq_true (by omega)), show IntKind.i64.wrap ((i : Int) - 1) = ((i - 1 : Nat) : Int) from by rw [w64 (by omega) (by omega)]; omega, at_lt hlt1, opt_of, less_plt hp hq g hg, opt_of, hlast]
    rfl
  · have : i = 0 := by omega
    subst this
    rw [cond_ff (by decide)]; rfl
theorem edits_go (w : List Ed) (hs : ∀ e ∈ w, EOk e) (hl : w.length ≤ 200) (g : Nat) (hg : 2000000 ≤ g) : ∀ (d i fu : Nat), w.length - i = d → i ≤ w.length → d < fu → EG (w.take i) →
    f_lumref_Edits_L6 w (fun _ => some (0 : Int)) g fu (i : Int) = some (edGo (w.take i) (w.drop i))
  | _, _, 0, _, _, h, _ => absurd h (Nat.not_lt_zero _)
  | 0, i, fu + 1, hd, hi, _, _ => by
    rw [f_lumref_Edits_L6, cond_ff (dge (by omega)), List.drop_of_length_le (by omega)]; rfl
  | d + 1, i, fu + 1, hd, hi, hf, hG => by
    have hlt : i < w.length := by omega
    have hx := hs _ (List.getElem_mem hlt)
    have h1 := hx.i.p
    rw [f_lumref_Edits_L6, cond_tt (dlt (by omega)), lt_of, at_lt hlt, opt_of, split2 _ hx.p g hg, opt_of, List.drop_eq_getElem_cons hlt, edGo_cons]
    by_cases h0 : (sp w[i].Path).2 = 0
    · rw [cond_ff (show ((sp w[i].Path).2 != 0) = false from by simpa using h0), if_neg (by simpa using h0), lt_of]
      have ih := fun (hl' : ((w.take i).getLast?.any fun y => !plt y.Path w[i].Path) = false) => edits_go w hs hl g hg d (i + 1) fu (by omega) (by omega) (by omega) (by rw [take_snoc hlt]; exact eg_snoc hG h0 hl')
      rw [take_snoc hlt] at ih
      dsimp only
      rw [less_tail w hs hl i hlt hG.1 h0 g hg, wsucc (by omega)]
      unfold bad
      have key : ∀ b c : Bool, ((c = false) → f_lumref_Edits_L6 w (fun _ => some (0 : Int)) g fu ((i + 1 : Nat) : Int) = some (edGo (w.take i ++ [w[i]]) (w.drop (i + 1)))) → (bif b then some (4 : Int) else bif c then some (4 : Int) else f_lumref_Edits_L6 w (fun _ => some (0 : Int)) g fu ((i + 1 : Nat) : Int)) = some (if b = true then 4 else if c = true then 4 else edGo (w.take i ++ [w[i]]) (w.drop (i + 1))) := by
        intro b c h
        cases b with
        | true => rfl
        | false =>
          cases c with
          | true => rfl
          | false => exact h rfl
      cases hgn : w[i].Gone with
      | true =>
        rw [cond_tt rfl, if_pos rfl, req_pos (c := w[i].Item.Path.length ≤ 9223372036854775807) (by omega), req_pos hx.i.k, req_pos hx.i.m, req_pos hx.i.t, req_pos hx.i.b, zp, req_pos w0, req_pos w0, req_pos w0, zp]
        by_cases hz : w[i].Item = zIt
        · rw [show (w[i].Item == (S_api_Item.mk ([] : List UInt8) (0 : Int) (0 : Int) (0 : Int) ([] : List UInt8))) = true from beq_iff_eq.2 hz, cond_ff (show (!true) = false from rfl), cond_ff (show (!true) = false from rfl), decide_eq_false (by simpa using hz)]
          exact key false _ ih
        · rw [show (w[i].Item == (S_api_Item.mk ([] : List UInt8) (0 : Int) (0 : Int) (0 : Int) ([] : List UInt8))) = false from beq_eq_false_iff_ne.2 hz, cond_tt (show (!false) = true from rfl), decide_eq_true hz]
          rfl
      | false =>
        rw [cond_ff rfl, cond_tt (show (!false) = true from rfl), if_neg (show ¬ (false = true) from by simp)]
        by_cases hz : w[i].Item.Path = w[i].Path
        · rw [beq_iff_eq.2 hz, decide_eq_false (by simpa using hz)]
          exact key false _ ih
        · rw [beq_eq_false_iff_ne.2 hz, decide_eq_true hz]
          rfl
    · rw [cond_tt (show ((sp w[i].Path).2 != 0) = true from by simpa using h0), if_pos h0]
theorem edits_ok (w : List Ed) (hs : ∀ e ∈ w, EOk e) (fu : Nat) (hf : 2000000 ≤ fu) : f_lumref_Edits fu w = some (edV w) := by
  unfold f_lumref_Edits edV
  by_cases h : w.length > 200
  · rw [cond_tt (decide_eq_true (by omega)), if_pos h]
  · rw [cond_ff (decide_eq_false (by omega)), if_neg h, lt_of]
    exact edits_go w hs (by omega) fu hf _ 0 fu rfl (Nat.zero_le _) (by omega) ⟨by simp, List.Pairwise.nil⟩
theorem editAt_go (w : List Ed) (p : Pt) (hl : w.length ≤ 100000) : ∀ (d i fu : Nat), w.length - i = d → i ≤ w.length → d < fu →
    f_lumref_editAt_L6 w p (fun _ => some (zEd, false)) fu (i : Int) = some (answ zEd (at_ S_api_Edit.Path (w.drop i) p))
  | _, _, 0, _, _, h => absurd h (Nat.not_lt_zero _)
  | 0, i, fu + 1, hd, hi, _ => by
    rw [f_lumref_editAt_L6, cond_ff (dge (by omega)), List.drop_of_length_le (by omega)]; rfl
  | d + 1, i, fu + 1, hd, hi, hf => by
    have hlt : i < w.length := by omega
    rw [f_lumref_editAt_L6, cond_tt (dlt (by omega)), at_lt hlt, opt_of, List.drop_eq_getElem_cons hlt]
    by_cases h : w[i].Path = p
    · rw [beq_iff_eq.2 h, cond_tt rfl, at_cons_eq _ _ _ _ h]; rfl
    · rw [beq_eq_false_iff_ne.2 h, cond_ff rfl, at_cons_ne _ _ _ _ h, wsucc (by omega)]
      exact editAt_go w p hl d (i + 1) fu (by omega) (by omega) (by omega)
theorem editAt_ok (w : List Ed) (p : Pt) (hl : w.length ≤ 100000) (fu : Nat) (hf : 2000000 ≤ fu) : f_lumref_editAt fu w p = some (answ zEd (at_ S_api_Edit.Path w p)) := by
  unfold f_lumref_editAt
  rw [lt_of]
  exact editAt_go w p hl w.length 0 fu rfl (Nat.zero_le _) (by omega)
def aK (a : List It) (l : List Ed) (p : Pt) : List It := aE (p, at_ S_api_Item.Path a p, at_ S_api_Edit.Path l p)
def jK (l m : List Ed) (p : Pt) : List Ed := jE (p, at_ S_api_Edit.Path l p, at_ S_api_Edit.Path m p)
theorem apply_go (a : List It) (l : List Ed) (hla : a.length ≤ 100) (hlb : l.length ≤ 200) (K : L2) (hK : K.length ≤ 300) (kk : List It → Option (List It × Int)) (g : Nat) (hg : 2000000 ≤ g) : ∀ (d i fu : Nat) (out : List It), K.length - i = d → i ≤ K.length → d < fu → out.length ≤ i →
    f_lumref_Apply_L21 a l kk K g fu out (i : Int) = kk (out ++ (K.drop i).flatMap (aK a l))
  | _, _, 0, _, _, _, h, _ => absurd h (Nat.not_lt_zero _)
  | 0, i, fu + 1, out, hd, hi, _, _ => by
    rw [f_lumref_Apply_L21, cond_ff (dge (by omega)), List.drop_of_length_le (by omega), List.flatMap_nil, List.append_nil]
  | d + 1, i, fu + 1, out, hd, hi, hf, ho => by
    have hlt : i < K.length := by omega
    rw [f_lumref_Apply_L21, cond_tt (dlt (by omega)), lt_of, at_lt hlt, opt_of, itemAt_ok a _ (by omega) g hg, opt_of, lt_of, editAt_ok l _ (by omega) g hg, opt_of, List.drop_eq_getElem_cons hlt, List.flatMap_cons, ← List.append_assoc, wsucc (by omega)]
    have ih := fun (o' : List It) (h' : o'.length ≤ i + 1) => apply_go a l hla hlb K hK kk g hg d (i + 1) fu o' (by omega) (by omega) (by omega) h'
    have hlen : (out ++ aK a l K[i]).length ≤ i + 1 := by
      have := aE_len (K[i], at_ S_api_Item.Path a K[i], at_ S_api_Edit.Path l K[i])
      rw [List.length_append]; show out.length + (aE _).length ≤ _; omega
    refine Eq.trans ?_ (ih _ hlen)
    unfold aK aE
    cases hy : at_ S_api_Edit.Path l K[i] with
    | none =>
      rw [show answ zEd (none : Option Ed) = (zEd, false) from rfl]
      dsimp only
      rw [cond_ff rfl]
      cases hx : at_ S_api_Item.Path a K[i] with
      | none =>
        rw [show answ zIt (none : Option It) = (zIt, false) from rfl]
        dsimp only
        rw [cond_ff rfl]
        simp
      | some x =>
        rw [show answ zIt (some x) = (x, true) from rfl]
        dsimp only
        rw [cond_tt rfl, req_pos (by rw [List.length_singleton]; omega)]; rfl
    | some e =>
      rw [show answ zEd (some e) = (e, true) from rfl]
      dsimp only
      rw [cond_tt rfl]
      cases hgn : e.Gone with
      | true =>
        rw [cond_ff (show (!true) = false from rfl), if_pos rfl, List.append_nil]
      | false =>
        rw [cond_tt (show (!false) = true from rfl), if_neg (by simp), req_pos (by rw [List.length_singleton]; omega)]
theorem k55_go (a : List It) (hl : a.length ≤ 100) (kk : L2 → Option (List It × Int)) : ∀ (d i fu : Nat), a.length - i = d → i ≤ a.length → d < fu →
    f_lumref_Apply_L55 a kk fu ((a.take i).map S_api_Item.Path) (i : Int) = kk (a.map S_api_Item.Path)
  | _, _, 0, _, _, h => absurd h (Nat.not_lt_zero _)
  | 0, i, fu + 1, hd, hi, _ => by
    rw [f_lumref_Apply_L55, cond_ff (dge (by omega)), List.take_of_length_le (by omega)]
  | d + 1, i, fu + 1, hd, hi, hf => by
    have hlt : i < a.length := by omega
    rw [f_lumref_Apply_L55, cond_tt (dlt (by omega)), at_lt hlt, opt_of, req_pos (by rw [List.length_singleton, List.length_map, List.length_take]; omega), wsucc (by omega)]
    have ih := k55_go a hl kk d (i + 1) fu (by omega) (by omega) (by omega)
    rw [take_snoc hlt, List.map_append] at ih
    exact ih
theorem k44_go (l : List Ed) (hl : l.length ≤ 200) (pre : L2) (hp : pre.length ≤ 100) (kk : L2 → Option (List It × Int)) : ∀ (d i fu : Nat), l.length - i = d → i ≤ l.length → d < fu →
    f_lumref_Apply_L44 l kk fu (pre ++ (l.take i).map S_api_Edit.Path) (i : Int) = kk (pre ++ l.map S_api_Edit.Path)
  | _, _, 0, _, _, h => absurd h (Nat.not_lt_zero _)
  | 0, i, fu + 1, hd, hi, _ => by
    rw [f_lumref_Apply_L44, cond_ff (dge (by omega)), List.take_of_length_le (by omega)]
  | d + 1, i, fu + 1, hd, hi, hf => by
    have hlt : i < l.length := by omega
    rw [f_lumref_Apply_L44, cond_tt (dlt (by omega)), at_lt hlt, opt_of, req_pos (by rw [List.length_singleton, List.length_append, List.length_map, List.length_take]; omega), wsucc (by omega)]
    have ih := k44_go l hl pre hp kk d (i + 1) fu (by omega) (by omega) (by omega)
    rw [take_snoc hlt, List.map_append, ← List.append_assoc] at ih
    exact ih
def applyR (a : List It) (l : List Ed) : List It := (all plt (a.map S_api_Item.Path ++ l.map S_api_Edit.Path)).flatMap (aK a l)
def applyV (a : List It) (l : List Ed) : List It × Int := if worldV a ≠ 0 then ([], worldV a) else if edV l ≠ 0 then ([], edV l) else if worldV (applyR a l) ≠ 0 then ([], worldV (applyR a l)) else (applyR a l, 0)
theorem flat_one {α β : Type} (f : α → List β) (h : ∀ x, (f x).length ≤ 1) : ∀ l : List α, (l.flatMap f).length ≤ l.length
  | [] => Nat.le_refl _
  | x :: t => by
    have h1 := flat_one f h t
    have h2 := h x
    rw [List.flatMap_cons, List.length_append, List.length_cons]; omega
theorem iok_sz {a : List It} (h : ∀ x ∈ a, IOk x) : Sz a := fun x hx => (h x hx).p
theorem applyR_ok (a : List It) (l : List Ed) (ha : ∀ x ∈ a, IOk x) (hl : ∀ e ∈ l, EOk e) : (∀ x ∈ applyR a l, IOk x) ∧ (applyR a l).length ≤ a.length + l.length := by
  have hK := all_len (lt := plt) (a.map S_api_Item.Path ++ l.map S_api_Edit.Path)
  rw [List.length_append, List.length_map, List.length_map] at hK
  refine ⟨fun x hx => ?_, Nat.le_trans (flat_one (aK a l) (fun p => aE_len _) _) hK⟩
  obtain ⟨p, hp, hx⟩ := List.mem_flatMap.1 hx
  unfold aK aE at hx
  cases hy : at_ S_api_Edit.Path l p with
  | none =>
    rw [hy] at hx
    cases hq : at_ S_api_Item.Path a p with
    | none => rw [hq] at hx; cases hx
    | some y =>
      rw [hq] at hx
      obtain rfl : x = y := by simpa using hx
      exact ha x (at_mem hq).1
  | some e =>
    rw [hy] at hx
    dsimp only at hx
    split at hx
    · cases hx
    · obtain rfl := List.mem_singleton.1 hx
      exact (hl e (at_mem hy).1).i
theorem eg_pv {l : List Ed} (h : EG l) (hl : ∀ e ∈ l, EOk e) : ∀ e ∈ l, PV e.Path := fun e he => ⟨h.1 e he, (hl e he).p⟩
theorem apply1 (a : List It) (l : List Ed) (ha : ∀ x ∈ a, IOk x) (hl : ∀ e ∈ l, EOk e) (fu : Nat) (hf : 2000000 ≤ fu) : f_delta_Apply fu a l = some (applyV a l) := by
  unfold f_delta_Apply applyV
  rw [PWorld.check_ok a (iok_sz ha) fu hf, opt_of]
  by_cases h1 : worldV a = 0
  · rw [cond_ff (show (worldV a != 0) = false from by simpa using h1), if_neg (by simpa using h1), check_ok l hl fu hf, opt_of]
    by_cases h2 : edV l = 0
    · obtain ⟨g1, l1⟩ := world_good h1
      obtain ⟨g2, l2⟩ := ed_good h2
      have p1 := good_pv g1 (iok_sz ha)
      have p2 := eg_pv g2 hl
      rw [cond_ff (show (edV l != 0) = false from by simpa using h2), if_neg (by simpa using h2)]
      unfold f_delta_sideBySide_api_Item_api_Edit__F52_F59_F60
      rw [ap_go fu hf (a.length + l.length) a l [] fu (Nat.le_refl _) (by omega) p1 p2 (by simp; omega), opt_of, mg_all pord S_api_Item.Path S_api_Edit.Path a l p1 p2 (good_srt g1) g2.2, List.nil_append, List.flatMap_map]
      show (opt (f_walk_Check fu (applyR a l)) fun r12 => bif r12 != 0 then some ([], r12) else some (applyR a l, 0)) = _
      rw [PWorld.check_ok _ (iok_sz (applyR_ok a l ha hl).1) fu hf, opt_of]
      by_cases h3 : worldV (applyR a l) = 0
      · rw [cond_ff (show (worldV (applyR a l) != 0) = false from by simpa using h3), if_neg (by simpa using h3)]
      · rw [cond_tt (show (worldV (applyR a l) != 0) = true from by simpa using h3), if_pos h3]
    · rw [cond_tt (show (edV l != 0) = true from by simpa using h2), if_pos h2]
  · rw [cond_tt (show (worldV a != 0) = true from by simpa using h1), if_pos h1]
theorem apply2 (a : List It) (l : List Ed) (ha : ∀ x ∈ a, IOk x) (hl : ∀ e ∈ l, EOk e) (fu : Nat) (hf : 2000000 ≤ fu) : f_lumref_Apply fu a l = some (applyV a l) := by
  unfold f_lumref_Apply applyV
  rw [world_ok a (iok_sz ha) fu hf, opt_of]
  by_cases h1 : worldV a = 0
  · rw [cond_ff (show (worldV a != 0) = false from by simpa using h1), if_neg (by simpa using h1), edits_ok l hl fu hf, opt_of]
    by_cases h2 : edV l = 0
    · obtain ⟨g1, l1⟩ := world_good h1
      obtain ⟨g2, l2⟩ := ed_good h2
      have p1 := good_pv g1 (iok_sz ha)
      have p2 := eg_pv g2 hl
      have hv : ∀ x ∈ a.map S_api_Item.Path ++ l.map S_api_Edit.Path, PV x := fun x hx => by
        rcases List.mem_append.1 hx with hx | hx
        · obtain ⟨z, hz, rfl⟩ := List.mem_map.1 hx; exact p1 z hz
        · obtain ⟨z, hz, rfl⟩ := List.mem_map.1 hx; exact p2 z hz
      have hlen : (a.map S_api_Item.Path ++ l.map S_api_Edit.Path).length ≤ 300 := by rw [List.length_append, List.length_map, List.length_map]; omega
      have hK := all_len (lt := plt) (a.map S_api_Item.Path ++ l.map S_api_Edit.Path)
      rw [cond_ff (show (edV l != 0) = false from by simpa using h2), if_neg (by simpa using h2), lt_of]
      refine (k55_go a l1 _ a.length 0 fu rfl (Nat.zero_le _) (by omega)).trans ?_
      rw [lt_of]
      have h44 := k44_go l l2 (a.map S_api_Item.Path) (by rw [List.length_map]; omega) (fun j9x8 => (lt (fun (j11x13 : (List S_api_Item)) => (opt (f_lumref_World fu j11x13) fun (r14 : Int) => (bif (r14 != (0 : Int)) then (some (([] : List S_api_Item), r14)) else (some (j11x13, (0 : Int)))))) fun (kk12 : (List S_api_Item) → Option ((List S_api_Item) × Int)) => (opt (f_lumref_allPaths fu j9x8) fun (r17 : (List (List UInt8))) => (f_lumref_Apply_L21 a l kk12 r17 fu fu ([] : List S_api_Item) (0 : Int))))) l.length 0 fu rfl (Nat.zero_le _) (by omega)
      rw [List.take_zero, List.map_nil, List.append_nil] at h44
      refine Eq.trans h44 ?_
      rw [lt_of, paths_ok _ hv (by omega) fu hf, opt_of]
      refine (apply_go a l l1 l2 _ (by omega) _ fu hf _ 0 fu [] rfl (Nat.zero_le _) (by omega) (Nat.zero_le _)).trans ?_
      rw [List.drop_zero, List.nil_append]
      show (opt (f_lumref_World fu (applyR a l)) fun r12 => bif r12 != 0 then some ([], r12) else some (applyR a l, 0)) = _
      rw [world_ok _ (iok_sz (applyR_ok a l ha hl).1) fu hf, opt_of]
      by_cases h3 : worldV (applyR a l) = 0
      · rw [cond_ff (show (worldV (applyR a l) != 0) = false from by simpa using h3), if_neg (by simpa using h3)]
      · rw [cond_tt (show (worldV (applyR a l) != 0) = true from by simpa using h3), if_pos h3]
    · rw [cond_tt (show (edV l != 0) = true from by simpa using h2), if_pos h2]
  · rw [cond_tt (show (worldV a != 0) = true from by simpa using h1), if_pos h1]
theorem jref_go (l m : List Ed) (hla : l.length ≤ 200) (hlb : m.length ≤ 200) (K : L2) (hK : K.length ≤ 400) (hin : ∀ p ∈ K, p ∈ l.map S_api_Edit.Path ++ m.map S_api_Edit.Path) (kk : List Ed → Option (List Ed × Int)) (g : Nat) (hg : 2000000 ≤ g) : ∀ (d i fu : Nat) (out : List Ed), K.length - i = d → i ≤ K.length → d < fu → out.length ≤ i →
    f_lumref_JoinEdits_L17 l m kk K g fu out (i : Int) = kk (out ++ (K.drop i).flatMap (jK l m))
  | _, _, 0, _, _, _, h, _ => absurd h (Nat.not_lt_zero _)
  | 0, i, fu + 1, out, hd, hi, _, _ => by
    rw [f_lumref_JoinEdits_L17, cond_ff (dge (by omega)), List.drop_of_length_le (by omega), List.flatMap_nil, List.append_nil]
  | d + 1, i, fu + 1, out, hd, hi, hf, ho => by
    have hlt : i < K.length := by omega
    have hm := hin _ (List.getElem_mem hlt)
    rw [f_lumref_JoinEdits_L17, cond_tt (dlt (by omega)), at_lt hlt, opt_of, editAt_ok m _ (by omega) g hg, opt_of, lt_of, List.drop_eq_getElem_cons hlt, List.flatMap_cons, ← List.append_assoc, wsucc (by omega)]
    have ih := fun (o' : List Ed) (h' : o'.length ≤ i + 1) => jref_go l m hla hlb K hK hin kk g hg d (i + 1) fu o' (by omega) (by omega) (by omega) h'
    have hlen : (out ++ jK l m K[i]).length ≤ i + 1 := by
      have := jE_len (K[i], at_ S_api_Edit.Path l K[i], at_ S_api_Edit.Path m K[i])
      rw [List.length_append]; show out.length + (jE _).length ≤ _; omega
    refine Eq.trans ?_ (ih _ hlen)
    unfold jK jE
    cases hy : at_ S_api_Edit.Path m K[i] with
    | some e =>
      rw [show answ zEd (some e) = (e, true) from rfl]
      dsimp only
      rw [cond_ff (show (!true) = false from rfl), req_pos (by rw [List.length_singleton]; omega)]
    | none =>
      rw [show answ zEd (none : Option Ed) = (zEd, false) from rfl]
      dsimp only
      rw [cond_tt (show (!false) = true from rfl), editAt_ok l _ (by omega) g hg, opt_of]
      cases hx : at_ S_api_Edit.Path l K[i] with
      | some e =>
        rw [show answ zEd (some e) = (e, true) from rfl]
        dsimp only
        rw [req_pos (by rw [List.length_singleton]; omega)]; rfl
      | none =>
        exfalso
        rcases List.mem_append.1 hm with h | h
        · obtain ⟨z, hz, he⟩ := List.mem_map.1 h
          unfold at_ at hx
          rw [List.find?_eq_none] at hx
          exact hx z hz (by simpa using he)
        · obtain ⟨z, hz, he⟩ := List.mem_map.1 h
          unfold at_ at hy
          rw [List.find?_eq_none] at hy
          exact hy z hz (by simpa using he)
theorem k41_go (c b : List Ed) (hl : c.length + b.length ≤ 400) (kk : L2 → Option (List Ed × Int)) : ∀ (d i fu : Nat), (c ++ b).length - i = d → i ≤ (c ++ b).length → d < fu →
    f_lumref_JoinEdits_L41 b kk c fu (((c ++ b).take i).map S_api_Edit.Path) (i : Int) = kk ((c ++ b).map S_api_Edit.Path)
  | _, _, 0, _, _, h => absurd h (Nat.not_lt_zero _)
  | 0, i, fu + 1, hd, hi, _ => by
    rw [f_lumref_JoinEdits_L41, cond_ff (dge (by omega)), List.take_of_length_le (by omega)]
  | d + 1, i, fu + 1, hd, hi, hf => by
    have hlt : i < (c ++ b).length := by omega
    have h200 : (c ++ b).length ≤ 400 := by rw [List.length_append]; omega
    rw [f_lumref_JoinEdits_L41, cond_tt (dlt (by omega)), at_lt hlt, opt_of, req_pos (by rw [List.length_singleton, List.length_map, List.length_take]; omega), wsucc (by omega)]
    have ih := k41_go c b hl kk d (i + 1) fu (by omega) (by omega) (by omega)
    rw [take_snoc hlt, List.map_append] at ih
    exact ih
theorem clone_ok (l : List Ed) (hl : l.length ≤ 1000) (fu : Nat) : f_slices_Clone___api_Edit_api_Edit_ fu l = some l := by
  unfold f_slices_Clone___api_Edit_api_Edit_
  rw [req_pos (by rw [List.length_nil]; omega), List.nil_append]
  cases l with
  | nil => exact amb_same
  | cons x t => exact amb_ff rfl
def joinR (l m : List Ed) : List Ed := (all plt (l.map S_api_Edit.Path ++ m.map S_api_Edit.Path)).flatMap (jK l m)
def joinV (l m : List Ed) : List Ed × Int := if edV l ≠ 0 then ([], edV l) else if edV m ≠ 0 then ([], edV m) else if (joinR l m).length > 200 then ([], 2) else (joinR l m, 0)
theorem joinR_len (l m : List Ed) : (joinR l m).length ≤ l.length + m.length := by
  have hK := all_len (lt := plt) (l.map S_api_Edit.Path ++ m.map S_api_Edit.Path)
  rw [List.length_append, List.length_map, List.length_map] at hK
  exact Nat.le_trans (flat_one (jK l m) (fun p => jE_len _) _) hK
theorem join1 (l m : List Ed) (hl : ∀ e ∈ l, EOk e) (hm : ∀ e ∈ m, EOk e) (fu : Nat) (hf : 2000000 ≤ fu) : f_delta_Join fu l m = some (joinV l m) := by
  obtain ⟨g, rfl⟩ : ∃ g, fu = g + 3 := ⟨fu - 3, by omega⟩
  unfold f_delta_Join joinV
  rw [lt_of]
  rw [f_delta_Join_L14, show decide ((0 : Int) < (([l, m] : List (List Ed)).length : Int)) = true from rfl, cond_tt rfl, show at? ([l, m] : List (List Ed)) (0 : Int) = some l from rfl, opt_of, check_ok l hl (g + 3) hf, opt_of]
  by_cases h1 : edV l = 0
  · rw [cond_ff (show (edV l != 0) = false from by simpa using h1), if_neg (by simpa using h1)]
    rw [show IntKind.i64.wrap ((0 : Int) + 1) = 1 from by decide, f_delta_Join_L14, show decide ((1 : Int) < (([l, m] : List (List Ed)).length : Int)) = true from rfl, cond_tt rfl, show at? ([l, m] : List (List Ed)) (1 : Int) = some m from rfl, opt_of, check_ok m hm (g + 3) hf, opt_of]
    by_cases h2 : edV m = 0
    · obtain ⟨g1, l1⟩ := ed_good h1
      obtain ⟨g2, l2⟩ := ed_good h2
      rw [cond_ff (show (edV m != 0) = false from by simpa using h2), if_neg (by simpa using h2)]
      rw [show IntKind.i64.wrap ((1 : Int) + 1) = 2 from by decide, f_delta_Join_L14, show decide ((2 : Int) < (([l, m] : List (List Ed)).length : Int)) = false from rfl, cond_ff rfl]
      unfold f_delta_sideBySide_api_Edit_api_Edit__F59_F59_F63
      have p1 := eg_pv g1 hl
      have p2 := eg_pv g2 hm
      rw [jo_go (g + 3) hf (l.length + m.length) l m [] (g + 3) (Nat.le_refl _) (by omega) p1 p2 (by simp; omega), opt_of, mg_all pord S_api_Edit.Path S_api_Edit.Path l m p1 p2 g1.2 g2.2, List.nil_append, List.flatMap_map]
      show (bif decide (((joinR l m).length : Int) > 200) then some ([], 2) else opt (f_slices_Clone___api_Edit_api_Edit_ (g + 3) (joinR l m)) fun r9 => some (r9, 0)) = _
      have hjl := joinR_len l m
      by_cases h3 : (joinR l m).length > 200
      · rw [cond_tt (decide_eq_true (by omega)), if_pos h3]
      · rw [cond_ff (decide_eq_false (by omega)), if_neg h3, clone_ok _ (by omega), opt_of]
    · rw [cond_tt (show (edV m != 0) = true from by simpa using h2), if_pos h2]
  · rw [cond_tt (show (edV l != 0) = true from by simpa using h1), if_pos h1]
theorem join2 (l m : List Ed) (hl : ∀ e ∈ l, EOk e) (hm : ∀ e ∈ m, EOk e) (fu : Nat) (hf : 2000000 ≤ fu) : f_lumref_JoinEdits fu l m = some (joinV l m) := by
  unfold f_lumref_JoinEdits joinV
  rw [edits_ok l hl fu hf, opt_of]
  by_cases h1 : edV l = 0
  · rw [cond_ff (show (edV l != 0) = false from by simpa using h1), if_neg (by simpa using h1), edits_ok m hm fu hf, opt_of]
    by_cases h2 : edV m = 0
    · obtain ⟨g1, l1⟩ := ed_good h1
      obtain ⟨g2, l2⟩ := ed_good h2
      have p1 := eg_pv g1 hl
      have p2 := eg_pv g2 hm
      have hv : ∀ x ∈ (l ++ m).map S_api_Edit.Path, PV x := fun x hx => by
        obtain ⟨z, hz, rfl⟩ := List.mem_map.1 hx
        rcases List.mem_append.1 hz with hz | hz
        · exact p1 z hz
        · exact p2 z hz
      have hlen : ((l ++ m).map S_api_Edit.Path).length ≤ 400 := by rw [List.length_map, List.length_append]; omega
      have hK := all_len (lt := plt) ((l ++ m).map S_api_Edit.Path)
      rw [cond_ff (show (edV m != 0) = false from by simpa using h2), if_neg (by simpa using h2), lt_of, clone_ok l (by omega), opt_of, req_pos ⟨by omega, by omega⟩]
      refine (k41_go l m (by omega) _ (l ++ m).length 0 fu rfl (Nat.zero_le _) (by rw [List.length_append]; omega)).trans ?_
      rw [lt_of, paths_ok _ hv (by omega) fu hf, opt_of]
      refine (jref_go l m l1 l2 _ (by omega) (fun p hp => by rw [← List.map_append]; exact (all_mem p _).1 hp) _ fu hf _ 0 fu [] rfl (Nat.zero_le _) (by omega) (Nat.zero_le _)).trans ?_
      rw [List.drop_zero, List.nil_append, List.map_append]
      show (bif decide (((joinR l m).length : Int) > 200) then some ([], 2) else some (joinR l m, 0)) = _
      by_cases h3 : (joinR l m).length > 200
      · rw [cond_tt (decide_eq_true (by omega)), if_pos h3]
      · rw [cond_ff (decide_eq_false (by omega)), if_neg h3]
    · rw [cond_tt (show (edV m != 0) = true from by simpa using h2), if_pos h2]
  · rw [cond_tt (show (edV l != 0) = true from by simpa using h1), if_pos h1]
theorem eq_go (l : List Ed) (h : ∀ e ∈ l, EOk e) (hl : l.length ≤ 200) (kk : Unit → Option Bool) : ∀ (d i fu : Nat), l.length - i = d → i ≤ l.length → d < fu → f_slices_Equal___api_Edit_api_Edit__L6 l l kk fu (i : Int) = kk ()
  | _, _, 0, _, _, h => absurd h (Nat.not_lt_zero _)
  | 0, i, fu + 1, hd, hi, _ => by rw [f_slices_Equal___api_Edit_api_Edit__L6, cond_ff (dge (by omega))]
  | d + 1, i, fu + 1, hd, hi, hf => by
    have hlt : i < l.length := by omega
    have he := h _ (List.getElem_mem hlt)
    have h1 := he.p
    have h2 := he.i.p
    have h3 := he.i.b
    rw [f_slices_Equal___api_Edit_api_Edit__L6, cond_tt (dlt (by omega)), at_lt hlt, opt_of, opt_of, req_pos (by omega), req_pos (by omega), req_pos he.i.k, req_pos he.i.m, req_pos he.i.t, req_pos (by omega), req_pos (by omega), req_pos (by omega), req_pos he.i.k, req_pos he.i.m, req_pos he.i.t, req_pos (by omega), beq_self_eq_true, cond_ff (show (!true) = false from rfl), wsucc (by omega)]
    exact eq_go l h hl kk d (i + 1) fu (by omega) (by omega) (by omega)
theorem eqI_go (l : List It) (h : ∀ e ∈ l, IOk e) (hl : l.length ≤ 300) (kk : Unit → Option Bool) : ∀ (d i fu : Nat), l.length - i = d → i ≤ l.length → d < fu → f_slices_Equal___api_Item_api_Item__L6 l l kk fu (i : Int) = kk ()
  | _, _, 0, _, _, h => absurd h (Nat.not_lt_zero _)
  | 0, i, fu + 1, hd, hi, _ => by rw [f_slices_Equal___api_Item_api_Item__L6, cond_ff (dge (by omega))]
  | d + 1, i, fu + 1, hd, hi, hf => by
    have hlt : i < l.length := by omega
    have he := h _ (List.getElem_mem hlt)
    have h1 := he.p
    have h3 := he.b
    rw [f_slices_Equal___api_Item_api_Item__L6, cond_tt (dlt (by omega)), at_lt hlt, opt_of, opt_of, req_pos (by omega), req_pos he.k, req_pos he.m, req_pos he.t, req_pos (by omega), req_pos (by omega), req_pos he.k, req_pos he.m, req_pos he.t, req_pos (by omega), beq_self_eq_true, cond_ff (show (!true) = false from rfl), wsucc (by omega)]
    exact eqI_go l h hl kk d (i + 1) fu (by omega) (by omega) (by omega)
theorem eqE (l : List Ed) (h : ∀ e ∈ l, EOk e) (hl : l.length ≤ 200) (fu : Nat) (hf : 2000000 ≤ fu) : f_slices_Equal___api_Edit_api_Edit_ fu l l = some true := by
  unfold f_slices_Equal___api_Edit_api_Edit_
  rw [show ((l.length : Int) != (l.length : Int)) = false from by simp, cond_ff rfl, lt_of]
  exact eq_go l h hl (fun _ => some true) _ 0 fu rfl (Nat.zero_le _) (by omega)
theorem eqI (l : List It) (h : ∀ e ∈ l, IOk e) (hl : l.length ≤ 300) (fu : Nat) (hf : 2000000 ≤ fu) : f_slices_Equal___api_Item_api_Item_ fu l l = some true := by
  unfold f_slices_Equal___api_Item_api_Item_
  rw [show ((l.length : Int) != (l.length : Int)) = false from by simp, cond_ff rfl, lt_of]
  exact eqI_go l h hl (fun _ => some true) _ 0 fu rfl (Nat.zero_le _) (by omega)
theorem applyV_ok (a : List It) (l : List Ed) (ha : ∀ x ∈ a, IOk x) (hl : ∀ e ∈ l, EOk e) : (applyV a l).1.length ≤ 300 ∧ ∀ x ∈ (applyV a l).1, IOk x := by
  unfold applyV
  by_cases h1 : worldV a ≠ 0
  · rw [if_pos h1]; exact ⟨Nat.zero_le _, by simp⟩
  rw [if_neg h1]
  by_cases h2 : edV l ≠ 0
  · rw [if_pos h2]; exact ⟨Nat.zero_le _, by simp⟩
  rw [if_neg h2]
  obtain ⟨g1, l1⟩ := world_good (by simpa using h1)
  obtain ⟨g2, l2⟩ := ed_good (by simpa using h2)
  obtain ⟨r1, r2⟩ := applyR_ok a l ha hl
  split
  · exact ⟨Nat.zero_le _, by simp⟩
  · exact ⟨by show (applyR a l).length ≤ 300; omega, r1⟩
theorem joinV_ok (l m : List Ed) (hl : ∀ e ∈ l, EOk e) (hm : ∀ e ∈ m, EOk e) : (joinV l m).1.length ≤ 200 ∧ ∀ x ∈ (joinV l m).1, EOk x := by
  unfold joinV
  by_cases h1 : edV l ≠ 0
  · rw [if_pos h1]; exact ⟨Nat.zero_le _, by simp⟩
  rw [if_neg h1]
  by_cases h2 : edV m ≠ 0
  · rw [if_pos h2]; exact ⟨Nat.zero_le _, by simp⟩
  rw [if_neg h2]
  split
  · exact ⟨Nat.zero_le _, by simp⟩
  · rename_i h3
    refine ⟨by show (joinR l m).length ≤ 200; omega, fun x hx => ?_⟩
    obtain ⟨p, hp, hx⟩ := List.mem_flatMap.1 hx
    unfold jK jE at hx
    cases hy : at_ S_api_Edit.Path m p with
    | some e =>
      rw [hy] at hx
      obtain rfl := List.mem_singleton.1 hx
      exact hm x (at_mem hy).1
    | none =>
      rw [hy] at hx
      cases hq : at_ S_api_Edit.Path l p with
      | none => rw [hq] at hx; cases hx
      | some y =>
        rw [hq] at hx
        obtain rfl : x = y := by simpa using hx
        exact hl x (at_mem hq).1
theorem law_ok (a : List It) (l m : List Ed) (ha : ∀ x ∈ a, IOk x) (hl : ∀ e ∈ l, EOk e) (hm : ∀ e ∈ m, EOk e) (fu : Nat) (hf : 2000000 ≤ fu) : f_lumlaw_DeltaApplies fu a l m = some true := by
  obtain ⟨h1, h2⟩ := applyV_ok a l ha hl
  obtain ⟨h3, h4⟩ := joinV_ok l m hl hm
  unfold f_lumlaw_DeltaApplies
  rw [apply1 a l ha hl fu hf, apply2 a l ha hl fu hf, opt_of, opt_of, join1 l m hl hm fu hf, join2 l m hl hm fu hf, opt_of, opt_of, lt_of, check_ok l hl fu hf, opt_of, edits_ok l hl fu hf, opt_of]
  generalize applyV a l = r at h1 h2
  generalize joinV l m = q at h3 h4
  rw [beq_self_eq_true, cond_tt rfl, eqI r.1 h2 h1 fu hf, opt_of, cond_tt rfl, beq_self_eq_true, cond_tt rfl, eqE q.1 h4 h3 fu hf, opt_of, cond_tt rfl, beq_self_eq_true]
def fuel (_ : List It) (_ _ : List Ed) : Nat := 4000000
theorem iok_of {N : Nat} (hN : N ≤ 1048576) {x : It} (h : okbS_api_Item N x) : IOk x := ⟨by have := h.1.2; omega, h.2.1, h.2.2.1, h.2.2.2.1, h.2.2.2.2.1⟩
theorem says (a : List It) (l m : List Ed) (h : okB (fun N y => okbS_api_Item N y) 1048576 a) (h' : okB (fun N y => okbS_api_Edit N y) 1048576 l) (h'' : okB (fun N y => okbS_api_Edit N y) 1048576 m) : f_lumlaw_DeltaApplies (fuel a l m) a l m = some true :=
  law_ok a l m (fun x hx => iok_of (Nat.le_refl _) (h.2 x hx)) (fun x hx => ⟨(h'.2 x hx).1.2, iok_of (Nat.le_refl _) (h'.2 x hx).2.2⟩) (fun x hx => ⟨(h''.2 x hx).1.2, iok_of (Nat.le_refl _) (h''.2 x hx).2.2⟩) 4000000 (by omega)
end Go.Proofs.YtfhifdmbdkkgaaaDoor.PDeltaApplies
