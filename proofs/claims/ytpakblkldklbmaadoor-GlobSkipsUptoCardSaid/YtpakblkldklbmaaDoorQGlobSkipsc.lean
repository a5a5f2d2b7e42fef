/- What GlobSkips leans on, part 3. No condition. -/
import Derived.Test.YtpakblkldklbmaaDoorQGlobSkipsb
import Derived.Test.YtpakblkldklbmaaDoorChecked
import Derived.WalkKit
import Derived.Lib.Hide
import Derived.IntWalk
import Derived.Lib.MapLaws
import Derived.Lib.ValidU
import Derived.Lib.Bytealg
import Derived.Lib.CountLaws
import Derived.Lib.IndexLaws
import Derived.Lib.IndexMore
import Derived.Lib.Join
namespace Go.Proofs.YtpakblkldklbmaaDoor
open Go.RowKit YtpakblkldklbmaaDoor.En
set_option linter.unusedVariables false
set_option linter.unusedSimpArgs false
open Go.Value (int bool)
set_option maxHeartbeats 2000000 in
set_option maxRecDepth 100000 in
theorem f_lumref_plain_ok (fu : Nat) (v0_0 : Value) (a0 : (List Int)) {r : (Int × (List Int) × Bool)} (h : f_lumref_plain fu a0 = some r) : FnOk Tryd.prog 82 [v0_0] [(fDat (tyList (tyInt .i64)) [v0_0] a0)] [] (fun (i : Value) => { val := (Value.tuple #[(int .i64 r.1), i, (bool r.2.2)]), fz := [(fDat (tyList (tyInt .i64)) [i] r.2.1)] }) := by
 unfold f_lumref_plain at h
 refine fn_enter Tryd.func82 rfl Tryd.ntmps82 rfl (fun w0 Z0 => ?_)
 refine aw_sr ?_
 refine al_as rfl rfl ?_
 refine al_as rfl rfl ?_
 refine al_as rfl rfl ?_
 refine al_nt ?_
 refine aw_seq ?_
 refine aw_block ?_
 obtain ⟨kk2, hkk2, h⟩ := lt_some h
 refine aw_seq_join (ι := Bool) (fun i => (memOf w0 Z0 [] [] [(fDat (tyList tq) [v0_0] a0)])) (fun i => (tab [(0, v0_0), (5, (bool i))])) (fun i => kk2 i = some r) ?_ ?_
 ·rintro j1b5 h
  have h : kk2 j1b5 = some r := h
  rw [hkk2] at h
  dsimp only at h
  clear hkk2
  refine aw_show (m := (memOf w0 Z0 [] [] [(fDat (tyList tq) [v0_0] a0)])) (S := (tab [(0, v0_0), (5, (bool j1b5))])) ?_
  refine aw_cond rfl (fun hb3 => ?_) (fun hb3 => ?_)
  ·replace h := bif_t hb3 h
   refine aw_sr ?_
   refine al_as rfl rfl ?_
   refine al_as rfl rfl ?_
   refine al_as rfl rfl ?_
   refine al_nt ?_
   refine aw_ret ?_
   refine aq_block_ret ?_
   refine aq_then_ret ?_
   refine aq_nilD tq ?_
   obtain rfl := Option.some.inj h
   exact fn_ret nS [] [0] rfl rfl rfl rfl (res3 rfl rfl rfl rfl) rfl rfl rfl (by decide)
  ·replace h := bif_f hb3 h
   refine aw_sr ?_
   refine al_mv rfl rfl ?_
   obtain ⟨u4, hu5, h⟩ := opt_some h
   refine al_idxD 0 hu5 rfl rfl rfl Tryd.underlying52 sz3 rfl (fun p6 => ?_)
   refine al_val (ov_loadP (ds := [(iq u4)]) 0 rfl (fun h => h) rfl Tryd.underlying3 sz3 rfl rfl rfl) ?_
   refine al_in rfl rfl rfl rfl ?_
   refine al_as rfl rfl ?_
   refine al_nt ?_
   refine aw_cond rfl (fun hb7 => ?_) (fun hb7 => ?_)
   ·replace h := bif_t hb7 h
    refine aw_seq ?_
    obtain ⟨u8, hu9, h⟩ := opt_some h
    obtain ⟨hc11, h⟩ := req_some h
    refine aw_region_draw 7 [(20, (fun u => fEq u v0_0)), (21, (fun p10 => (fPtr tq p10 u8))), (22, (fun u => fEq u (iq u8))), (23, (fun u => fEq u v0_0)), (24, (fun s12 => (fDat (tyList tq) [s12] (a0.drop ((1 : Int)).toNat)))), (2, (fun u => fEq u (iq u8))), (3, (fun s12 => (fDat (tyList tq) [s12] (a0.drop ((1 : Int)).toNat))))] (tab [(0, v0_0)]) mixed (by kernel_rfl) rfl rfl rfl (fun a hs => hs.tab _ (allT_mem ⟨rfl, trivial⟩)) ⟨⟨rfl, ld_val (ov_move rfl rfl)⟩, ⟨rfl, ld_eq (j := 0) rfl rfl (ld_of (of_idxD 1 hu9 rfl rfl rfl Tryd.underlying52 sz3 rfl))⟩, ⟨rfl, ld_fact (j := 1) rfl rfl (fun p10 => ld_val (ov_loadP (ds := [(iq u8)]) 0 rfl (fun h => h) rfl Tryd.underlying3 sz3 rfl rfl rfl))⟩, ⟨rfl, ld_val (ov_move rfl rfl)⟩, ⟨rfl, ld_eq (j := 3) rfl rfl (ld_of (of_sliceDF 1 hc11.1 hc11.2 rfl rfl rfl Tryd.underlying52 sz3 rfl))⟩, ⟨rfl, ld_eq (j := 2) rfl rfl (ld_val (ov_assign rfl rfl))⟩, ⟨rfl, ld_fact (j := 4) rfl rfl (fun s12 => ld_of (of_assign 0 rfl rfl rfl))⟩, trivial⟩ ?_
    refine tl_eq 5 rfl ?_
    refine tl_fact 6 rfl (fun s12 => ?_)
    refine tl_done ?_
    refine al_as rfl rfl ?_
    refine al_nt ?_
    refine aw_ret ?_
    refine aq_block_ret ?_
    refine aq_then_ret ?_
    obtain rfl := Option.some.inj h
    exact fn_ret s12 [] [0] rfl rfl rfl rfl (res3 rfl rfl rfl rfl) rfl rfl rfl (by decide)
   ·replace h := bif_f hb7 h
    refine aw_sr ?_
    refine al_mv rfl rfl ?_
    refine al_val (ov_lenD 1 rfl rfl Tryd.underlying52 rfl) ?_
    refine al_in rfl rfl rfl rfl ?_
    refine al_as rfl rfl ?_
    refine al_nt ?_
    refine aw_cond rfl (fun hb13 => ?_) (fun hb13 => ?_)
    ·replace h := bif_t hb13 h
     refine aw_sr ?_
     refine al_as rfl rfl ?_
     refine al_as rfl rfl ?_
     refine al_as rfl rfl ?_
     refine al_nt ?_
     refine aw_ret ?_
     refine aq_block_ret ?_
     refine aq_then_ret ?_
     refine aq_nilD tq ?_
     obtain rfl := Option.some.inj h
     exact fn_ret nS [] [0] rfl rfl rfl rfl (res3 rfl rfl rfl rfl) rfl rfl rfl (by decide)
    ·replace h := bif_f hb13 h
     refine aw_skip ?_
     refine aq_block ?_
     refine aq_then ?_
     refine aw_seq ?_
     obtain ⟨u14, hu15, h⟩ := opt_some h
     obtain ⟨hc17, h⟩ := req_some h
     refine aw_region_draw 7 [(29, (fun u => fEq u v0_0)), (30, (fun p16 => (fPtr tq p16 u14))), (31, (fun u => fEq u (iq u14))), (32, (fun u => fEq u v0_0)), (33, (fun s18 => (fDat (tyList tq) [s18] (a0.drop ((2 : Int)).toNat)))), (2, (fun u => fEq u (iq u14))), (3, (fun s18 => (fDat (tyList tq) [s18] (a0.drop ((2 : Int)).toNat))))] (tab [(0, v0_0)]) mixed (by kernel_rfl) rfl rfl rfl (fun a hs => hs.tab _ (allT_mem ⟨rfl, trivial⟩)) ⟨⟨rfl, ld_val (ov_move rfl rfl)⟩, ⟨rfl, ld_eq (j := 0) rfl rfl (ld_of (of_idxD 1 hu15 rfl rfl rfl Tryd.underlying52 sz3 rfl))⟩, ⟨rfl, ld_fact (j := 1) rfl rfl (fun p16 => ld_val (ov_loadP (ds := [(iq u14)]) 0 rfl (fun h => h) rfl Tryd.underlying3 sz3 rfl rfl rfl))⟩, ⟨rfl, ld_val (ov_move rfl rfl)⟩, ⟨rfl, ld_eq (j := 3) rfl rfl (ld_of (of_sliceDF 1 hc17.1 hc17.2 rfl rfl rfl Tryd.underlying52 sz3 rfl))⟩, ⟨rfl, ld_eq (j := 2) rfl rfl (ld_val (ov_assign rfl rfl))⟩, ⟨rfl, ld_fact (j := 4) rfl rfl (fun s18 => ld_of (of_assign 0 rfl rfl rfl))⟩, trivial⟩ ?_
     refine tl_eq 5 rfl ?_
     refine tl_fact 6 rfl (fun s18 => ?_)
     refine tl_done ?_
     refine al_as rfl rfl ?_
     refine al_nt ?_
     refine aw_ret ?_
     obtain rfl := Option.some.inj h
     exact fn_ret s18 [] [0] rfl rfl rfl rfl (res3 rfl rfl rfl rfl) rfl rfl rfl (by decide)
 ·clear hkk2
  refine aw_region ?_
  refine al_mv rfl rfl ?_
  refine al_val (ov_lenD 0 rfl rfl Tryd.underlying52 rfl) ?_
  refine al_in rfl rfl rfl rfl ?_
  refine al_mv rfl rfl ?_
  refine al_caseB 9 rfl (fun hb19 => ?_) (fun hb19 => ?_)
  ·replace h := bif_t hb19 h
   refine al_skip ?_
   refine al_skip ?_
   refine al_skip ?_
   refine al_skip ?_
   refine al_val (ov_pick_t rfl rfl rfl) ?_
   refine al_as rfl rfl ?_
   refine al_nil ?_
   exact aq_join true h (fun w a hm hs => norm hm hs [] [0] [(0, v0_0), (5, (bool true))] (by decide) ⟨rfl, rfl, trivial⟩)
  ·replace h := bif_f hb19 h
   refine al_mv rfl rfl ?_
   obtain ⟨u20, hu21, h⟩ := opt_some h
   refine al_idxD 0 hu21 rfl rfl rfl Tryd.underlying52 sz3 rfl (fun p22 => ?_)
   refine al_val (ov_loadP (ds := [(iq u20)]) 0 rfl (fun h => h) rfl Tryd.underlying3 sz3 rfl rfl rfl) ?_
   refine al_in rfl rfl rfl rfl ?_
   refine al_val (ov_pick_f rfl rfl rfl) ?_
   refine al_as rfl rfl ?_
   refine al_nil ?_
   exact aq_join (u20 == (93 : Int)) h (fun w a hm hs => norm hm hs [] [1] [(0, v0_0), (5, (bool (u20 == (93 : Int))))] (by decide) ⟨rfl, rfl, trivial⟩)
def f_lumref_class_1_L6 (a0 : Int) (a1 : (List Int)) (a2 : (List Int)) (a3 : Bool) (kk2 : (Unit → Option Bool)) : Nat → Int → Option Bool
  | 0, _ => none
  | k5 + 1, l4i9 => (bif (decide (l4i9 < (a1.length : Int))) then (lt (fun (j8b25 : Bool) => (bif j8b25 then (some (!a3)) else (f_lumref_class_1_L6 a0 a1 a2 a3 kk2 k5 (IntKind.i64.wrap (l4i9 + (1 : Int)))))) fun (kk9 : Bool → Option Bool) => (opt (at? a1 l4i9) fun (u12 : Int) => (bif (decide (u12 ≤ a0)) then (opt (at? a2 l4i9) fun (u17 : Int) => (kk9 (decide (a0 ≤ u17)))) else (kk9 false)))) else (kk2 ()))
def f_lumref_class_1 (fu : Nat) (a0 : Int) (a1 : (List Int)) (a2 : (List Int)) (a3 : Bool) : Option Bool := (lt (fun (_ : Unit) => (some a3)) fun (kk2 : Unit → Option Bool) => (f_lumref_class_1_L6 a0 a1 a2 a3 kk2 fu (0 : Int)))
set_option maxHeartbeats 2000000 in
set_option maxRecDepth 100000 in
theorem f_lumref_class_1_ok (fu : Nat) (a0 : Int) (c1 : Value) (a1 : (List Int)) (c2 : Value) (a2 : (List Int)) (c3 : Value) (a3 : Bool) {r : Bool} (h : f_lumref_class_1 fu a0 a1 a2 a3 = some r) : FnOk Tryd.prog 83 [(int .i64 a0), c1, c2, c3] [(fPtr (tyList (tyInt .i64)) c1 a1), (fPtr (tyList (tyInt .i64)) c2 a2), (fPtr tyBool c3 a3)] [] (fun (i : Unit) => { val := (bool r) }) := by
 unfold f_lumref_class_1 at h
 refine fn_enter Tryd.func83 rfl Tryd.ntmps83 rfl (fun w0 Z0 => ?_)
 refine aw_sr ?_
 refine al_as rfl rfl ?_
 refine al_nt ?_
 obtain ⟨kk2, hkk2, h⟩ := lt_some h
 refine aw_seq_join (ι := Unit) (fun i => (memOf w0 Z0 [] [] [(fPtr tyBool c3 a3), (fPtr (tyList tq) c1 a1), (fPtr (tyList tq) c2 a2)])) (fun i => (tab [(3, c3)])) (fun i => kk2 () = some r) ?_ ?_
 ·rintro _ h
  have h : kk2 () = some r := h
  rw [hkk2] at h
  dsimp only at h
  clear hkk2
  refine aw_show (m := (memOf w0 Z0 [] [] [(fPtr tyBool c3 a3), (fPtr (tyList tq) c1 a1), (fPtr (tyList tq) c2 a2)])) (S := (tab [(3, c3)])) ?_
  refine aw_sr ?_
  refine al_val (ov_loadP (ds := [(bool a3)]) 0 rfl (fun h => h) rfl Tryd.underlying4 sz4 rfl rfl rfl) ?_
  refine al_as rfl rfl ?_
  refine al_nt ?_
  refine aw_ret ?_
  obtain rfl := Option.some.inj h
  exact fn_ret () [] [] rfl rfl rfl rfl (res1 rfl rfl) rfl rfl rfl (by decide)
 ·clear hkk2
  refine aw_sr ?_
  refine al_loadP1 0 rfl rfl Tryd.underlying52 sz52 rfl rfl rfl (fun s3 => ?_)
  refine al_val (ov_lenD 0 rfl rfl Tryd.underlying52 rfl) ?_
  refine al_mv rfl rfl ?_
  refine al_nt ?_
  refine aw_block ?_
  refine aw_state (aw_loop (ι := Int) (fun i => (memOf w0 Z0 [] [] [(fPtr (tyList tq) c1 a1), (fPtr (tyList tq) c2 a2), (fPtr tyBool c3 a3), (fDat (tyList tq) [s3] a1)])) (fun i => (tab [(0, (iq a0)), (1, c1), (2, c2), (3, c3), (8, (iq (a1.length : Int))), (9, (iq i))])) (fun q i => f_lumref_class_1_L6 a0 a1 a2 a3 kk2 q i = some r) ?_ fu (0 : Int) h) (fun w a hm hs => norm hm hs [] [1, 2, 3, 0] [(0, (iq a0)), (1, c1), (2, c2), (3, c3), (8, (iq (a1.length : Int))), (9, (iq (0 : Int)))] (by decide) ⟨rfl, rfl, rfl, rfl, rfl, rfl, trivial⟩)
  clear h
  rintro k5 l4i9 h
  have h : f_lumref_class_1_L6 a0 a1 a2 a3 kk2 k5 l4i9 = some r := h
  obtain _ | k5 := k5
  · rw [f_lumref_class_1_L6] at h; cases h
  rw [f_lumref_class_1_L6] at h
  refine aw_show (m := (memOf w0 Z0 [] [] [(fPtr (tyList tq) c1 a1), (fPtr (tyList tq) c2 a2), (fPtr tyBool c3 a3), (fDat (tyList tq) [s3] a1)])) (S := (tab [(0, (iq a0)), (1, c1), (2, c2), (3, c3), (8, (iq (a1.length : Int))), (9, (iq l4i9))])) ?_
  refine aw_sr ?_
  refine al_in rfl rfl rfl rfl ?_
  refine al_nt ?_
  refine aw_seq ?_
  refine aw_cond rfl (fun hb7 => ?_) (fun hb7 => ?_)
  ·replace h := bif_t hb7 h
   refine aw_skip ?_
   refine aq_then ?_
   refine aw_seq ?_
   refine aw_block ?_
   refine aw_sr ?_
   refine al_mv rfl rfl ?_
   refine al_as rfl rfl ?_
   refine al_nt ?_
   obtain ⟨kk9, hkk9, h⟩ := lt_some h
   refine aw_seq_join (ι := Bool) (fun i => (memOf w0 Z0 [] [] [(fPtr (tyList tq) c1 a1), (fPtr (tyList tq) c2 a2), (fPtr tyBool c3 a3), (fDat (tyList tq) [s3] a1)])) (fun i => (tab [(0, (iq a0)), (1, c1), (2, c2), (3, c3), (8, (iq (a1.length : Int))), (9, (iq l4i9)), (25, (bool i))])) (fun i => kk9 i = some r) ?_ ?_
   ·rintro j8b25 h
    have h : kk9 j8b25 = some r := h
    rw [hkk9] at h
    dsimp only at h
    clear hkk9
    refine aw_show (m := (memOf w0 Z0 [] [] [(fPtr (tyList tq) c1 a1), (fPtr (tyList tq) c2 a2), (fPtr tyBool c3 a3), (fDat (tyList tq) [s3] a1)])) (S := (tab [(0, (iq a0)), (1, c1), (2, c2), (3, c3), (8, (iq (a1.length : Int))), (9, (iq l4i9)), (25, (bool j8b25))])) ?_
    refine aw_cond rfl (fun hb10 => ?_) (fun hb10 => ?_)
    ·replace h := bif_t hb10 h
     refine aw_sr ?_
     refine al_val (ov_loadP (ds := [(bool a3)]) 2 rfl (fun h => h) rfl Tryd.underlying4 sz4 rfl rfl rfl) ?_
     refine al_val (ov_not rfl rfl) ?_
     refine al_as rfl rfl ?_
     refine al_nt ?_
     refine aw_ret ?_
     refine aq_block_ret ?_
     refine aq_then_ret ?_
     refine aq_then_ret ?_
     refine aq_block_ret ?_
     refine aq_then_ret ?_
     obtain rfl := Option.some.inj h
     exact fn_ret () [] [] rfl rfl rfl rfl (res1 rfl rfl) rfl rfl rfl (by decide)
    ·replace h := bif_f hb10 h
     refine aw_skip ?_
     refine aq_block ?_
     refine aq_then ?_
     refine aw_region ?_
     refine al_in rfl rfl rfl rfl ?_
     refine al_mv rfl rfl ?_
     refine al_nil ?_
     exact aq_again k5 (wq (l4i9 + (1 : Int))) (Nat.lt_succ_self _) h (fun w a hm hs => norm hm hs [] [0, 1, 2, 3] [(0, (iq a0)), (1, c1), (2, c2), (3, c3), (8, (iq (a1.length : Int))), (9, (iq (wq (l4i9 + (1 : Int)))))] (by decide) ⟨rfl, rfl, rfl, rfl, rfl, rfl, trivial⟩)
   ·clear hkk9
    refine aw_region ?_
    refine al_loadP1 0 rfl rfl Tryd.underlying52 sz52 rfl rfl rfl (fun s11 => ?_)
    refine al_mv rfl rfl ?_
    obtain ⟨u12, hu13, h⟩ := opt_some h
    refine al_idxD 0 hu13 rfl rfl rfl Tryd.underlying52 sz3 rfl (fun p14 => ?_)
    refine al_val (ov_loadP (ds := [(iq u12)]) 0 rfl (fun h => h) rfl Tryd.underlying3 sz3 rfl rfl rfl) ?_
    refine al_mv rfl rfl ?_
    refine al_in rfl rfl rfl rfl ?_
    refine al_mv rfl rfl ?_
    refine al_caseB 18 rfl (fun hb15 => ?_) (fun hb15 => ?_)
    ·replace h := bif_t hb15 h
     refine al_mv rfl rfl ?_
     refine al_loadP1 3 rfl rfl Tryd.underlying52 sz52 rfl rfl rfl (fun s16 => ?_)
     refine al_mv rfl rfl ?_
     obtain ⟨u17, hu18, h⟩ := opt_some h
     refine al_idxD 0 hu18 rfl rfl rfl Tryd.underlying52 sz3 rfl (fun p19 => ?_)
     refine al_val (ov_loadP (ds := [(iq u17)]) 0 rfl (fun h => h) rfl Tryd.underlying3 sz3 rfl rfl rfl) ?_
     refine al_in rfl rfl rfl rfl ?_
     refine al_val (ov_pick_t rfl rfl rfl) ?_
     refine al_nil ?_
     exact aq_join (decide (a0 ≤ u17)) h (fun w a hm hs => norm hm hs [] [4, 5, 6, 7] [(0, (iq a0)), (1, c1), (2, c2), (3, c3), (8, (iq (a1.length : Int))), (9, (iq l4i9)), (25, (bool (decide (a0 ≤ u17))))] (by decide) ⟨rfl, rfl, rfl, rfl, rfl, rfl, rfl, trivial⟩)
    ·replace h := bif_f hb15 h
     refine al_skip ?_
     refine al_skip ?_
     refine al_skip ?_
     refine al_skip ?_
     refine al_skip ?_
     refine al_skip ?_
     refine al_val (ov_pick_f rfl rfl rfl) ?_
     refine al_nil ?_
     exact aq_join false h (fun w a hm hs => norm hm hs [] [2, 3, 4, 5] [(0, (iq a0)), (1, c1), (2, c2), (3, c3), (8, (iq (a1.length : Int))), (9, (iq l4i9)), (25, (bool false))] (by decide) ⟨rfl, rfl, rfl, rfl, rfl, rfl, rfl, trivial⟩)
  ·replace h := bif_f hb7 h
   refine aw_exit ?_
   refine aq_then_exit ?_
   refine aq_then_exit ?_
   refine aq_block_exit ?_
   exact aq_join () h (fun w a hm hs => norm hm hs [] [2, 0, 1] [(3, c3)] (by decide) ⟨rfl, trivial⟩)
def f_lumref_class_L15 (kk9 : ((List Int) → (List Int) → (List Int) → Option (S_lumref_mark × (List Int) × Bool))) (fu : Nat) : Nat → (List Int) → (List Int) → (List Int) → Option (S_lumref_mark × (List Int) × Bool)
  | 0, _, _, _ => none
  | k14 + 1, l13x0, l13x6_0, l13x7_0 => (lt (fun (j16b37 : Bool) => (bif j16b37 then (opt (f_lumref_plain fu l13x0) fun (r20 : (Int × (List Int) × Bool)) => (bif (!r20.2.2) then (some ((S_lumref_mark.mk false C74.nil), ([] : (List Int)), false)) else (lt (fun (j23x0 : (List Int)) (j23i11 : Int) => (req (((l13x6_0.length + ([r20.1]).length) * 8 : Nat) ≤ 140737488355328 ∧ l13x6_0.length + ([r20.1]).length ≤ 9223372036854775807) (req (((l13x7_0.length + ([j23i11]).length) * 8 : Nat) ≤ 140737488355328 ∧ l13x7_0.length + ([j23i11]).length ≤ 9223372036854775807) (f_lumref_class_L15 kk9 fu k14 j23x0 (l13x6_0 ++ ([r20.1])) (l13x7_0 ++ ([j23i11])))))) fun (kk24 : (List Int) → Int → Option (S_lumref_mark × (List Int) × Bool)) => (lt (fun (j31b57 : Bool) => (bif j31b57 then (req (0 ≤ (1 : Int) ∧ (1 : Int) ≤ (r20.2.1.length : Int)) (opt (f_lumref_plain fu (r20.2.1.drop ((1 : Int)).toNat)) fun (r37 : (Int × (List Int) × Bool)) => (lt (fun (j39b71 : Bool) => (bif j39b71 then (some ((S_lumref_mark.mk false C74.nil), ([] : (List Int)), false)) else (kk24 r37.2.1 r37.1))) fun (kk40 : Bool → Option (S_lumref_mark × (List Int) × Bool)) => (bif (!r37.2.2) then (kk40 true) else (kk40 (decide (r37.1 < r20.1))))))) else (kk24 r20.2.1 r20.1))) fun (kk32 : Bool → Option (S_lumref_mark × (List Int) × Bool)) => (bif (decide ((r20.2.1.length : Int) > (0 : Int))) then (opt (at? r20.2.1 (0 : Int)) fun (u44 : Int) => (kk32 (u44 == (45 : Int)))) else (kk32 false)))))) else (kk9 l13x0 l13x6_0 l13x7_0))) fun (kk17 : Bool → Option (S_lumref_mark × (List Int) × Bool)) => (bif ((l13x6_0.length : Int) == (0 : Int)) then (kk17 true) else (bif (decide ((l13x0.length : Int) > (0 : Int))) then (opt (at? l13x0 (0 : Int)) fun (u49 : Int) => (kk17 (u49 != (93 : Int)))) else (kk17 false))))
def f_lumref_class (fu : Nat) (a0 : (List Int)) : Option (S_lumref_mark × (List Int) × Bool) := (lt (fun (j2b5_0 : Bool) => (lt (fun (j4x0 : (List Int)) => (lt (fun (j8x0 : (List Int)) (j8x6_0 : (List Int)) (j8x7_0 : (List Int)) => (bif ((j8x0.length : Int) == (0 : Int)) then (some ((S_lumref_mark.mk false C74.nil), ([] : (List Int)), false)) else (req (0 ≤ (1 : Int) ∧ (1 : Int) ≤ (j8x0.length : Int)) (some ((S_lumref_mark.mk false (C74.c83 j8x6_0 j8x7_0 j2b5_0)), (j8x0.drop ((1 : Int)).toNat), true))))) fun (kk9 : (List Int) → (List Int) → (List Int) → Option (S_lumref_mark × (List Int) × Bool)) => (f_lumref_class_L15 kk9 fu fu j4x0 ([] : List Int) ([] : List Int)))) fun (kk5 : (List Int) → Option (S_lumref_mark × (List Int) × Bool)) => (bif j2b5_0 then (req (0 ≤ (1 : Int) ∧ (1 : Int) ≤ (a0.length : Int)) (kk5 (a0.drop ((1 : Int)).toNat))) else (kk5 a0)))) fun (kk3 : Bool → Option (S_lumref_mark × (List Int) × Bool)) => (bif (decide ((a0.length : Int) > (0 : Int))) then (opt (at? a0 (0 : Int)) fun (u56 : Int) => (kk3 (u56 == (94 : Int)))) else (kk3 false)))
set_option maxRecDepth 100000 in
set_option maxHeartbeats 2000000 in
set_option maxHeartbeats 2000000 in
theorem f_lumref_class_ok (fu : Nat) (v0_0 : Value) (a0 : (List Int)) {r : (S_lumref_mark × (List Int) × Bool)} (h : f_lumref_class fu a0 = some r) : FnOk Tryd.prog 55 [v0_0] [(fDat (tyList (tyInt .i64)) [v0_0] a0)] [] (fun (i : Value × Value) => { val := (Value.tuple #[(ag [(bool r.1.star), i.1]), i.2, (bool r.2.2)]), fz := [(fDat tyC74 [i.1] r.1.ok), (fDat (tyList (tyInt .i64)) [i.2] r.2.1)] }) := by
 unfold f_lumref_class at h
 refine fn_enter Tryd.func55 rfl Tryd.ntmps55 rfl (fun w0 Z0 => ?_)
 refine aw_sr ?_
 refine al_alloc (zs := [(bool false), Value.nilFunc]) (zeroOf_to to92) rfl rfl (fun g1 => ?_)
 refine al_as rfl rfl ?_
 refine al_as rfl rfl ?_
 refine al_nt ?_
 obtain ⟨kk3, hkk3, h⟩ := lt_some h
 refine aw_seq_join (ι := Nat × Bool) (fun i => (memOf w0 Z0 [] [(oBox g1 92 [(bool false), Value.nilFunc]), (oBox i.1 4 [(bool i.2)])] [(fDat (tyList tq) [v0_0] a0)])) (fun i => (tab [(0, v0_0), (2, (pq g1)), (5, (ptr i.1 0))])) (fun i => kk3 i.2 = some r) ?_ ?_
 ·rintro ⟨j2g5, j2b5_0⟩ h
  have h : kk3 j2b5_0 = some r := h
  rw [hkk3] at h
  dsimp only at h
  clear hkk3
  refine aw_show (m := (memOf w0 Z0 [] [(oBox g1 92 [(bool false), Value.nilFunc]), (oBox j2g5 4 [(bool j2b5_0)])] [(fDat (tyList tq) [v0_0] a0)])) (S := (tab [(0, v0_0), (2, (pq g1)), (5, (pq j2g5))])) ?_
  obtain ⟨kk5, hkk5, h⟩ := lt_some h
  refine aw_seq_join (ι := Value × (List Int)) (fun i => (memOf w0 Z0 [] [(oBox g1 92 [(bool false), Value.nilFunc]), (oBox j2g5 4 [(bool j2b5_0)])] [(fDat (tyList tq) [i.1] i.2), (fDat (tyList tq) [v0_0] a0)])) (fun i => (tab [(0, i.1), (2, (pq g1)), (5, (pq j2g5))])) (fun i => kk5 i.2 = some r) ?_ ?_
  ·rintro ⟨j4v0, j4x0⟩ h
   have h : kk5 j4x0 = some r := h
   rw [hkk5] at h
   dsimp only at h
   clear hkk5
   refine aw_show (m := (memOf w0 Z0 [] [(oBox g1 92 [(bool false), Value.nilFunc]), (oBox j2g5 4 [(bool j2b5_0)])] [(fDat (tyList tq) [j4v0] j4x0), (fDat (tyList tq) [v0_0] a0)])) (S := (tab [(0, j4v0), (2, (pq g1)), (5, (pq j2g5))])) ?_
   refine aw_sr ?_
   refine al_alloc (zs := [nS]) (zeroOf_to to52) rfl rfl (fun g6 => ?_)
   refine al_alloc (zs := [nS]) (zeroOf_to to52) rfl rfl (fun g7 => ?_)
   refine al_nt ?_
   obtain ⟨kk9, hkk9, h⟩ := lt_some h
   refine aw_seq_join (ι := Value × (List Int) × Value × (List Int) × Value × (List Int)) (fun i => (memOf w0 Z0 [] [(oBox g1 92 [(bool false), Value.nilFunc]), (oBox j2g5 4 [(bool j2b5_0)]), (oRow i.2.2.1 3 tq i.2.2.2.1), (oBox g6 52 [i.2.2.1]), (oRow i.2.2.2.2.1 3 tq i.2.2.2.2.2), (oBox g7 52 [i.2.2.2.2.1])] [(fDat (tyList tq) [i.1] i.2.1), (fDat (tyList tq) [j4v0] j4x0), (fDat (tyList tq) [v0_0] a0)])) (fun i => (tab [(0, i.1), (2, (pq g1)), (5, (pq j2g5)), (6, (pq g6)), (7, (pq g7))])) (fun i => kk9 i.2.1 i.2.2.2.1 i.2.2.2.2.2 = some r) ?_ ?_
   ·rintro ⟨j8v0, j8x0, j8v6_0, j8x6_0, j8v7_0, j8x7_0⟩ h
    have h : kk9 j8x0 j8x6_0 j8x7_0 = some r := h
    rw [hkk9] at h
    dsimp only at h
    clear hkk9
    refine aw_show (m := (memOf w0 Z0 [] [(oBox g1 92 [(bool false), Value.nilFunc]), (oBox j2g5 4 [(bool j2b5_0)]), (oRow j8v6_0 3 tq j8x6_0), (oBox g6 52 [j8v6_0]), (oRow j8v7_0 3 tq j8x7_0), (oBox g7 52 [j8v7_0])] [(fDat (tyList tq) [j8v0] j8x0), (fDat (tyList tq) [j4v0] j4x0), (fDat (tyList tq) [v0_0] a0)])) (S := (tab [(0, j8v0), (2, (pq g1)), (5, (pq j2g5)), (6, (pq g6)), (7, (pq g7))])) ?_
    refine aw_seq ?_
    refine aw_sr ?_
    refine al_mv rfl rfl ?_
    refine al_val (ov_lenD 0 rfl rfl Tryd.underlying52 rfl) ?_
    refine al_in rfl rfl rfl rfl ?_
    refine al_nt ?_
    refine aw_cond rfl (fun hb10 => ?_) (fun hb10 => ?_)
    ·replace h := bif_t hb10 h
     refine aw_sr ?_
     refine al_val (ov_build (cells := ([(bool false), Value.nilFunc] : List Value).toArray) (cs := [(bool false), Value.nilFunc]) rfl (fun w a hm hs => by simp only [List.map_toArray, List.map_cons, List.map_nil, List.toList_toArray]; kernel_rfl)) ?_
     refine al_store (i := 0) (vs := [(bool false), Value.nilFunc]) (cs' := [(bool false), Value.nilFunc]) rfl rfl rfl sz92 (cv_rfl rfl) rfl (co_val rfl (co_val rfl co_nil)) (Nat.le_of_ble_eq_true rfl) rfl rfl ?_
     refine al_as rfl rfl ?_
     refine al_as rfl rfl ?_
     refine al_nt ?_
     refine aw_ret ?_
     refine aq_then_ret ?_
     refine aq_addf (f := fDat tyC74 [Value.nilFunc] C74.nil) mkC74_nil ?_
     refine aq_nilD tq ?_
     obtain rfl := Option.some.inj h
     exact fn_ret (Value.nilFunc, nS) [] [1, 0] rfl rfl rfl rfl (resC rfl (resB (i := 0) rfl rfl Tryd.underlying92 sz92 rfl rfl rfl (resT rfl (resT rfl (resN)))) rfl) rfl rfl rfl (by decide)
    ·replace h := bif_f hb10 h
     refine aw_skip ?_
     refine aq_then ?_
     refine aw_seq ?_
     refine aw_freeze 2 rfl rfl ?_
     refine aw_freezeBN (τ := (tyList tq)) 2 (j8x6_0) rfl rfl (fun hm => fz_at (i := 0) hm rfl) ?_
     refine aw_freeze 2 rfl rfl ?_
     refine aw_freezeBN (τ := (tyList tq)) 2 (j8x7_0) rfl rfl (fun hm => fz_at (i := 0) hm rfl) ?_
     refine aw_freezeB (τ := tyBool) 1 (j2b5_0) rfl rfl (fun _ _ => rfl) ?_
     obtain ⟨hc11, h⟩ := req_some h
     refine aw_region_open [⟨0, 85, Unit, fun _ => { val := (Value.func (.func 83) #[] #[(pq g6), (pq g7), (pq j2g5)]) }⟩, ⟨1, 86, Unit, fun _ => { val := (ag [(bool false), (Value.func (.func 83) #[] #[(pq g6), (pq g7), (pq j2g5)])]) }⟩, ⟨2, 87, Unit, fun _ => { val := j8v0 }⟩, ⟨3, 88, Value, fun (i : Value) => { val := i, fz := [(fDat (tyList tq) [i] (j8x0.drop ((1 : Int)).toNat))] }⟩] (tab [(0, j8v0), (2, (pq g1)), (5, (pq j2g5)), (6, (pq g6)), (7, (pq g7))]) mixed (fun a hs => hs.tab _ (allT_mem ⟨rfl, rfl, rfl, rfl, rfl, trivial⟩)) ?_
     refine ta_show (m := (memOf w0 Z0 [] [(oBox g1 92 [(bool false), Value.nilFunc])] [(fPtr tyBool (pq j2g5) j2b5_0), (fPtr (tyList tq) (pq g7) j8x7_0), (fDat (tyList tq) [j8v7_0] j8x7_0), (fPtr (tyList tq) (pq g6) j8x6_0), (fDat (tyList tq) [j8v6_0] j8x6_0), (fDat (tyList tq) [j8v0] j8x0), (fDat (tyList tq) [j4v0] j4x0), (fDat (tyList tq) [v0_0] a0)])) (S := (tab [(0, j8v0), (2, (pq g1)), (5, (pq j2g5)), (6, (pq g6)), (7, (pq g7))])) ?_
     refine ta_step 4 _ [0, 1, 2, 3] [85, 86, 87, 88] [0, 1] [] [⟨0, 85, Unit, fun _ => { val := (Value.func (.func 83) #[] #[(pq g6), (pq g7), (pq j2g5)]) }⟩, ⟨1, 86, Unit, fun _ => { val := (ag [(bool false), (Value.func (.func 83) #[] #[(pq g6), (pq g7), (pq j2g5)])]) }⟩] [⟨2, 87, Unit, fun _ => { val := j8v0 }⟩, ⟨3, 88, Value, fun (i : Value) => { val := i, fz := [(fDat (tyList tq) [i] (j8x0.drop ((1 : Int)).toNat))] }⟩] rfl rfl rfl (by kernel_rfl) rfl rfl rfl ⟨⟨_, rfl, [], rfl, by
 intro X_ Y_ F_ K_ hK_
 refine al_show (m := Mem.plus (memOf w0 Z0 [] [(oBox g1 92 [(bool false), Value.nilFunc])] [(fPtr tyBool (pq j2g5) j2b5_0), (fPtr (tyList tq) (pq g7) j8x7_0), (fDat (tyList tq) [j8v7_0] j8x7_0), (fPtr (tyList tq) (pq g6) j8x6_0), (fDat (tyList tq) [j8v6_0] j8x6_0), (fDat (tyList tq) [j8v0] j8x0), (fDat (tyList tq) [j4v0] j4x0), (fDat (tyList tq) [v0_0] a0)]) X_ Y_) (S := over (tab [(0, j8v0), (2, (pq g1)), (5, (pq j2g5)), (6, (pq g6)), (7, (pq g7))]) F_) ?_
 refine al_val (ov_makeFunc2 (vs := [(pq g6), (pq g7), (pq j2g5)]) rfl rfl) ?_
 refine al_nil ?_
 exact fr_fin hK_ ()⟩, ⟨_, rfl, [0], rfl, by
 intro _
 intro X_ Y_ F_ K_ hK_
 refine al_show (m := Mem.plus (memOf w0 Z0 [] [(oBox g1 92 [(bool false), Value.nilFunc])] [(fPtr tyBool (pq j2g5) j2b5_0), (fPtr (tyList tq) (pq g7) j8x7_0), (fDat (tyList tq) [j8v7_0] j8x7_0), (fPtr (tyList tq) (pq g6) j8x6_0), (fDat (tyList tq) [j8v6_0] j8x6_0), (fDat (tyList tq) [j8v0] j8x0), (fDat (tyList tq) [j4v0] j4x0), (fDat (tyList tq) [v0_0] a0)]) X_ Y_) (S := over (put (tab [(0, j8v0), (2, (pq g1)), (5, (pq j2g5)), (6, (pq g6)), (7, (pq g7))]) 85 (Value.func (.func 83) #[] #[(pq g6), (pq g7), (pq j2g5)])) F_) ?_
 refine al_val (ov_build (cells := ([(bool false), (Value.func (.func 83) #[] #[(pq g6), (pq g7), (pq j2g5)])] : List Value).toArray) (cs := [(bool false), (Value.func (.func 83) #[] #[(pq g6), (pq g7), (pq j2g5)])]) rfl (fun w a hm hs => by simp only [List.map_toArray, List.map_cons, List.map_nil, List.toList_toArray, hs.ev (x := .tmp 85) rfl]; kernel_rfl)) ?_
 refine al_nil ?_
 exact fr_fin hK_ ()⟩, ⟨_, rfl, [], rfl, by
 intro X_ Y_ F_ K_ hK_
 refine al_show (m := Mem.plus (memOf w0 Z0 [] [(oBox g1 92 [(bool false), Value.nilFunc])] [(fPtr tyBool (pq j2g5) j2b5_0), (fPtr (tyList tq) (pq g7) j8x7_0), (fDat (tyList tq) [j8v7_0] j8x7_0), (fPtr (tyList tq) (pq g6) j8x6_0), (fDat (tyList tq) [j8v6_0] j8x6_0), (fDat (tyList tq) [j8v0] j8x0), (fDat (tyList tq) [j4v0] j4x0), (fDat (tyList tq) [v0_0] a0)]) X_ Y_) (S := over (tab [(0, j8v0), (2, (pq g1)), (5, (pq j2g5)), (6, (pq g6)), (7, (pq g7))]) F_) ?_
 refine al_mv rfl rfl ?_
 refine al_nil ?_
 exact fr_fin hK_ ()⟩, ⟨_, rfl, [2], rfl, by
 intro _
 intro X_ Y_ F_ K_ hK_
 refine al_show (m := Mem.plus (memOf w0 Z0 [] [(oBox g1 92 [(bool false), Value.nilFunc])] [(fPtr tyBool (pq j2g5) j2b5_0), (fPtr (tyList tq) (pq g7) j8x7_0), (fDat (tyList tq) [j8v7_0] j8x7_0), (fPtr (tyList tq) (pq g6) j8x6_0), (fDat (tyList tq) [j8v6_0] j8x6_0), (fDat (tyList tq) [j8v0] j8x0), (fDat (tyList tq) [j4v0] j4x0), (fDat (tyList tq) [v0_0] a0)]) X_ Y_) (S := over (put (tab [(0, j8v0), (2, (pq g1)), (5, (pq j2g5)), (6, (pq g6)), (7, (pq g7))]) 87 j8v0) F_) ?_
 refine al_sliceDF 5 hc11.1 hc11.2 rfl rfl rfl Tryd.underlying52 sz3 rfl (fun s12 => ?_)
 refine al_nil ?_
 exact fr_fin hK_ s12⟩, trivial⟩ ?_
     intro _
     intro _
     intro X_ Y_ F_ K_ hK_
     refine al_show (m := Mem.plus (memOf w0 Z0 [] [(oBox g1 92 [(bool false), Value.nilFunc])] [(fPtr tyBool (pq j2g5) j2b5_0), (fPtr (tyList tq) (pq g7) j8x7_0), (fDat (tyList tq) [j8v7_0] j8x7_0), (fPtr (tyList tq) (pq g6) j8x6_0), (fDat (tyList tq) [j8v6_0] j8x6_0), (fDat (tyList tq) [j8v0] j8x0), (fDat (tyList tq) [j4v0] j4x0), (fDat (tyList tq) [v0_0] a0)]) X_ Y_) (S := over (put (put (tab [(0, j8v0), (2, (pq g1)), (5, (pq j2g5)), (6, (pq g6)), (7, (pq g7))]) 85 (Value.func (.func 83) #[] #[(pq g6), (pq g7), (pq j2g5)])) 86 (ag [(bool false), (Value.func (.func 83) #[] #[(pq g6), (pq g7), (pq j2g5)])])) F_) ?_
     refine al_store (i := 0) (vs := [(bool false), (Value.func (.func 83) #[] #[(pq g6), (pq g7), (pq j2g5)])]) (cs' := [(bool false), (Value.func (.func 83) #[] #[(pq g6), (pq g7), (pq j2g5)])]) rfl rfl rfl sz92 (cv_rfl rfl) rfl (co_val rfl (co_val rfl co_nil)) (Nat.le_of_ble_eq_true rfl) rfl rfl ?_
     refine al_nil ?_
     refine aq_show (m := Mem.plus (memOf w0 Z0 [] [(oBox g1 92 [(bool false), (Value.func (.func 83) #[] #[(pq g6), (pq g7), (pq j2g5)])])] [(fPtr tyBool (pq j2g5) j2b5_0), (fPtr (tyList tq) (pq g7) j8x7_0), (fDat (tyList tq) [j8v7_0] j8x7_0), (fPtr (tyList tq) (pq g6) j8x6_0), (fDat (tyList tq) [j8v6_0] j8x6_0), (fDat (tyList tq) [j8v0] j8x0), (fDat (tyList tq) [j4v0] j4x0), (fDat (tyList tq) [v0_0] a0)]) X_ Y_) ?_
     refine aq_next hK_ [0] [0, 1, 2, 3, 4, 5, 6, 7] [(0, j8v0), (2, (pq g1))] [87, 88] [] rfl rfl (by decide) rfl ⟨rfl, rfl, trivial⟩ ⟨rfl, rfl, trivial⟩ ?_
     clear hK_ K_ F_ X_ Y_
     refine ta_show (m := (memOf w0 Z0 [] [(oBox g1 92 [(bool false), (Value.func (.func 83) #[] #[(pq g6), (pq g7), (pq j2g5)])])] [(fPtr tyBool (pq j2g5) j2b5_0), (fPtr (tyList tq) (pq g7) j8x7_0), (fDat (tyList tq) [j8v7_0] j8x7_0), (fPtr (tyList tq) (pq g6) j8x6_0), (fDat (tyList tq) [j8v6_0] j8x6_0), (fDat (tyList tq) [j8v0] j8x0), (fDat (tyList tq) [j4v0] j4x0), (fDat (tyList tq) [v0_0] a0)])) (S := (tab [(0, j8v0), (2, (pq g1))])) ?_
     refine ta_step 5 _ [2, 3] [87, 88] [2, 3] [] [⟨2, 87, Unit, fun _ => { val := j8v0 }⟩, ⟨3, 88, Value, fun (i : Value) => { val := i, fz := [(fDat (tyList tq) [i] (j8x0.drop ((1 : Int)).toNat))] }⟩] [] rfl rfl rfl (by kernel_rfl) rfl rfl rfl ⟨⟨_, rfl, [], rfl, by
 intro X_ Y_ F_ K_ hK_
 refine al_show (m := Mem.plus (memOf w0 Z0 [] [(oBox g1 92 [(bool false), (Value.func (.func 83) #[] #[(pq g6), (pq g7), (pq j2g5)])])] [(fPtr tyBool (pq j2g5) j2b5_0), (fPtr (tyList tq) (pq g7) j8x7_0), (fDat (tyList tq) [j8v7_0] j8x7_0), (fPtr (tyList tq) (pq g6) j8x6_0), (fDat (tyList tq) [j8v6_0] j8x6_0), (fDat (tyList tq) [j8v0] j8x0), (fDat (tyList tq) [j4v0] j4x0), (fDat (tyList tq) [v0_0] a0)]) X_ Y_) (S := over (tab [(0, j8v0), (2, (pq g1))]) F_) ?_
 refine al_mv rfl rfl ?_
 refine al_nil ?_
 exact fr_fin hK_ ()⟩, ⟨_, rfl, [0], rfl, by
 intro _
 intro X_ Y_ F_ K_ hK_
 refine al_show (m := Mem.plus (memOf w0 Z0 [] [(oBox g1 92 [(bool false), (Value.func (.func 83) #[] #[(pq g6), (pq g7), (pq j2g5)])])] [(fPtr tyBool (pq j2g5) j2b5_0), (fPtr (tyList tq) (pq g7) j8x7_0), (fDat (tyList tq) [j8v7_0] j8x7_0), (fPtr (tyList tq) (pq g6) j8x6_0), (fDat (tyList tq) [j8v6_0] j8x6_0), (fDat (tyList tq) [j8v0] j8x0), (fDat (tyList tq) [j4v0] j4x0), (fDat (tyList tq) [v0_0] a0)]) X_ Y_) (S := over (put (tab [(0, j8v0), (2, (pq g1))]) 87 j8v0) F_) ?_
 refine al_sliceDF 5 hc11.1 hc11.2 rfl rfl rfl Tryd.underlying52 sz3 rfl (fun s12 => ?_)
 refine al_nil ?_
 exact fr_fin hK_ s12⟩, trivial⟩ ?_
     intro _
     intro s12
     intro X_ Y_ F_ K_ hK_
     refine al_show (m := Mem.plus (memOf w0 Z0 [] [(oBox g1 92 [(bool false), (Value.func (.func 83) #[] #[(pq g6), (pq g7), (pq j2g5)])])] [(fDat (tyList tq) [s12] (j8x0.drop ((1 : Int)).toNat)), (fPtr tyBool (pq j2g5) j2b5_0), (fPtr (tyList tq) (pq g7) j8x7_0), (fDat (tyList tq) [j8v7_0] j8x7_0), (fPtr (tyList tq) (pq g6) j8x6_0), (fDat (tyList tq) [j8v6_0] j8x6_0), (fDat (tyList tq) [j8v0] j8x0), (fDat (tyList tq) [j4v0] j4x0), (fDat (tyList tq) [v0_0] a0)]) X_ Y_) (S := over (put (put (tab [(0, j8v0), (2, (pq g1))]) 87 j8v0) 88 s12) F_) ?_
     refine al_as rfl rfl ?_
     refine al_nil ?_
     refine aq_show (m := Mem.plus (memOf w0 Z0 [] [(oBox g1 92 [(bool false), (Value.func (.func 83) #[] #[(pq g6), (pq g7), (pq j2g5)])])] [(fDat (tyList tq) [s12] (j8x0.drop ((1 : Int)).toNat)), (fPtr tyBool (pq j2g5) j2b5_0), (fPtr (tyList tq) (pq g7) j8x7_0), (fDat (tyList tq) [j8v7_0] j8x7_0), (fPtr (tyList tq) (pq g6) j8x6_0), (fDat (tyList tq) [j8v6_0] j8x6_0), (fDat (tyList tq) [j8v0] j8x0), (fDat (tyList tq) [j4v0] j4x0), (fDat (tyList tq) [v0_0] a0)]) X_ Y_) ?_
     refine aq_next hK_ [0] [0, 1, 2, 3, 4, 5, 6, 7, 8] [(2, (pq g1)), (3, s12)] [] [] rfl rfl (by decide) rfl ⟨rfl, rfl, trivial⟩ trivial ?_
     clear hK_ K_ F_ X_ Y_
     refine ta_show (m := (memOf w0 Z0 [] [(oBox g1 92 [(bool false), (Value.func (.func 83) #[] #[(pq g6), (pq g7), (pq j2g5)])])] [(fDat (tyList tq) [s12] (j8x0.drop ((1 : Int)).toNat)), (fPtr tyBool (pq j2g5) j2b5_0), (fPtr (tyList tq) (pq g7) j8x7_0), (fDat (tyList tq) [j8v7_0] j8x7_0), (fPtr (tyList tq) (pq g6) j8x6_0), (fDat (tyList tq) [j8v6_0] j8x6_0), (fDat (tyList tq) [j8v0] j8x0), (fDat (tyList tq) [j4v0] j4x0), (fDat (tyList tq) [v0_0] a0)])) (S := (tab [(2, (pq g1)), (3, s12)])) ?_
     refine ta_step 6 _ [] [] [] [] [] [] rfl rfl rfl (by kernel_rfl) rfl rfl rfl trivial ?_
     intro X_ Y_ F_ K_ hK_
     refine al_show (m := Mem.plus (memOf w0 Z0 [] [(oBox g1 92 [(bool false), (Value.func (.func 83) #[] #[(pq g6), (pq g7), (pq j2g5)])])] [(fDat (tyList tq) [s12] (j8x0.drop ((1 : Int)).toNat)), (fPtr tyBool (pq j2g5) j2b5_0), (fPtr (tyList tq) (pq g7) j8x7_0), (fDat (tyList tq) [j8v7_0] j8x7_0), (fPtr (tyList tq) (pq g6) j8x6_0), (fDat (tyList tq) [j8v6_0] j8x6_0), (fDat (tyList tq) [j8v0] j8x0), (fDat (tyList tq) [j4v0] j4x0), (fDat (tyList tq) [v0_0] a0)]) X_ Y_) (S := over (tab [(2, (pq g1)), (3, s12)]) F_) ?_
     refine al_as rfl rfl ?_
     refine al_nil ?_
     refine aq_show (m := Mem.plus (memOf w0 Z0 [] [(oBox g1 92 [(bool false), (Value.func (.func 83) #[] #[(pq g6), (pq g7), (pq j2g5)])])] [(fDat (tyList tq) [s12] (j8x0.drop ((1 : Int)).toNat)), (fPtr tyBool (pq j2g5) j2b5_0), (fPtr (tyList tq) (pq g7) j8x7_0), (fDat (tyList tq) [j8v7_0] j8x7_0), (fPtr (tyList tq) (pq g6) j8x6_0), (fDat (tyList tq) [j8v6_0] j8x6_0), (fDat (tyList tq) [j8v0] j8x0), (fDat (tyList tq) [j4v0] j4x0), (fDat (tyList tq) [v0_0] a0)]) X_ Y_) ?_
     refine aq_next hK_ [0] [0, 1, 2, 3, 4, 5, 6, 7, 8] [(2, (pq g1)), (3, s12), (4, (bool true))] [] [] rfl rfl (by decide) rfl ⟨rfl, rfl, rfl, trivial⟩ trivial ?_
     clear hK_ K_ F_ X_ Y_
     refine ta_show (m := (memOf w0 Z0 [] [(oBox g1 92 [(bool false), (Value.func (.func 83) #[] #[(pq g6), (pq g7), (pq j2g5)])])] [(fDat (tyList tq) [s12] (j8x0.drop ((1 : Int)).toNat)), (fPtr tyBool (pq j2g5) j2b5_0), (fPtr (tyList tq) (pq g7) j8x7_0), (fDat (tyList tq) [j8v7_0] j8x7_0), (fPtr (tyList tq) (pq g6) j8x6_0), (fDat (tyList tq) [j8v6_0] j8x6_0), (fDat (tyList tq) [j8v0] j8x0), (fDat (tyList tq) [j4v0] j4x0), (fDat (tyList tq) [v0_0] a0)])) (S := (tab [(2, (pq g1)), (3, s12), (4, (bool true))])) ?_
     refine ta_end [] [] rfl rfl (by kernel_rfl) rfl trivial ?_
     refine aq_show (m := (memOf w0 Z0 [] [(oBox g1 92 [(bool false), (Value.func (.func 83) #[] #[(pq g6), (pq g7), (pq j2g5)])])] [(fDat (tyList tq) [s12] (j8x0.drop ((1 : Int)).toNat)), (fPtr tyBool (pq j2g5) j2b5_0), (fPtr (tyList tq) (pq g7) j8x7_0), (fDat (tyList tq) [j8v7_0] j8x7_0), (fPtr (tyList tq) (pq g6) j8x6_0), (fDat (tyList tq) [j8v6_0] j8x6_0), (fDat (tyList tq) [j8v0] j8x0), (fDat (tyList tq) [j4v0] j4x0), (fDat (tyList tq) [v0_0] a0)])) (S := (tab [(2, (pq g1)), (3, s12), (4, (bool true))])) ?_
     refine aq_then ?_
     refine aw_ret ?_
     refine aq_addf (f := fDat tyC74 [(Value.func (.func 83) #[] #[(pq g6), (pq g7), (pq j2g5)])] (C74.c83 j8x6_0 j8x7_0 j2b5_0)) (mkC74_83 4 rfl 2 rfl 1 rfl) ?_
     obtain rfl := Option.some.inj h
     exact fn_ret ((Value.func (.func 83) #[] #[(pq g6), (pq g7), (pq j2g5)]), s12) [] [0, 1] rfl rfl rfl rfl (resC rfl (resB (i := 0) rfl rfl Tryd.underlying92 sz92 rfl rfl rfl (resT rfl (resT rfl (resN)))) rfl) rfl rfl rfl (by decide)
   ·clear hkk9
    refine aw_block ?_
    refine aw_nilR 3 tq ?_
    refine aw_nilR 3 tq ?_
    refine aw_state (aw_loop (ι := Value × (List Int) × Value × (List Int) × Value × (List Int)) (fun i => (memOf w0 Z0 [] [(oBox g1 92 [(bool false), Value.nilFunc]), (oBox j2g5 4 [(bool j2b5_0)]), (oRow i.2.2.1 3 tq i.2.2.2.1), (oBox g6 52 [i.2.2.1]), (oRow i.2.2.2.2.1 3 tq i.2.2.2.2.2), (oBox g7 52 [i.2.2.2.2.1])] [(fDat (tyList tq) [i.1] i.2.1), (fDat (tyList tq) [j4v0] j4x0), (fDat (tyList tq) [v0_0] a0)])) (fun i => (tab [(0, i.1), (2, (pq g1)), (5, (pq j2g5)), (6, (pq g6)), (7, (pq g7))])) (fun q i => f_lumref_class_L15 kk9 fu q i.2.1 i.2.2.2.1 i.2.2.2.2.2 = some r) ?_ fu (j4v0, j4x0, nS, ([] : List Int), nS, ([] : List Int)) h) (fun w a hm hs => norm hm hs [4, 5, 0, 3, 1, 2] [0, 0, 1] [(0, j4v0), (2, (pq g1)), (5, (pq j2g5)), (6, (pq g6)), (7, (pq g7))] (by decide) ⟨rfl, rfl, rfl, rfl, rfl, trivial⟩)
    clear h
    rintro k14 ⟨l13v0, l13x0, l13v6_0, l13x6_0, l13v7_0, l13x7_0⟩ h
    have h : f_lumref_class_L15 kk9 fu k14 l13x0 l13x6_0 l13x7_0 = some r := h
    obtain _ | k14 := k14
    · rw [f_lumref_class_L15] at h; cases h
    rw [f_lumref_class_L15] at h
    refine aw_show (m := (memOf w0 Z0 [] [(oBox g1 92 [(bool false), Value.nilFunc]), (oBox j2g5 4 [(bool j2b5_0)]), (oRow l13v6_0 3 tq l13x6_0), (oBox g6 52 [l13v6_0]), (oRow l13v7_0 3 tq l13x7_0), (oBox g7 52 [l13v7_0])] [(fDat (tyList tq) [l13v0] l13x0), (fDat (tyList tq) [j4v0] j4x0), (fDat (tyList tq) [v0_0] a0)])) (S := (tab [(0, l13v0), (2, (pq g1)), (5, (pq j2g5)), (6, (pq g6)), (7, (pq g7))])) ?_
    refine aw_seq ?_
    obtain ⟨kk17, hkk17, h⟩ := lt_some h
    refine aw_seq_join (ι := Bool) (fun i => (memOf w0 Z0 [] [(oBox g1 92 [(bool false), Value.nilFunc]), (oBox j2g5 4 [(bool j2b5_0)]), (oRow l13v6_0 3 tq l13x6_0), (oBox g6 52 [l13v6_0]), (oRow l13v7_0 3 tq l13x7_0), (oBox g7 52 [l13v7_0])] [(fDat (tyList tq) [l13v0] l13x0), (fDat (tyList tq) [j4v0] j4x0), (fDat (tyList tq) [v0_0] a0)])) (fun i => (tab [(0, l13v0), (2, (pq g1)), (5, (pq j2g5)), (6, (pq g6)), (7, (pq g7)), (37, (bool i))])) (fun i => kk17 i = some r) ?_ ?_
    ·rintro j16b37 h
     have h : kk17 j16b37 = some r := h
     rw [hkk17] at h
     dsimp only at h
     clear hkk17
     refine aw_show (m := (memOf w0 Z0 [] [(oBox g1 92 [(bool false), Value.nilFunc]), (oBox j2g5 4 [(bool j2b5_0)]), (oRow l13v6_0 3 tq l13x6_0), (oBox g6 52 [l13v6_0]), (oRow l13v7_0 3 tq l13x7_0), (oBox g7 52 [l13v7_0])] [(fDat (tyList tq) [l13v0] l13x0), (fDat (tyList tq) [j4v0] j4x0), (fDat (tyList tq) [v0_0] a0)])) (S := (tab [(0, l13v0), (2, (pq g1)), (5, (pq j2g5)), (6, (pq g6)), (7, (pq g7)), (37, (bool j16b37))])) ?_
     refine aw_cond rfl (fun hb18 => ?_) (fun hb18 => ?_)
     ·replace h := bif_t hb18 h
      refine aw_skip ?_
      refine aq_then ?_
      refine aw_block ?_
      refine aw_sr ?_
      refine al_mv rfl rfl ?_
      obtain ⟨r20, hc19, h⟩ := opt_some h
      refine al_call (vs := [l13v0]) (f_lumref_plain_ok fu l13v0 l13x0 hc19) [] [] [0, 1, 2, 3, 4, 5] (pre_fz 0 rfl pre_nil) rfl (by simp) (by decide) (.inl rfl) rfl Tryd.func82 rfl rfl rfl (fun v21 => ?_)
      refine al_mv rfl rfl ?_
      refine al_ex rfl rfl rfl ?_
      refine al_ex rfl rfl rfl ?_
      refine al_ex rfl rfl rfl ?_
      refine al_as rfl rfl ?_
      refine al_as rfl rfl ?_
      refine al_as rfl rfl ?_
      refine al_nt ?_
      refine aw_seq ?_
      refine aw_sr ?_
      refine al_mv rfl rfl ?_
      refine al_val (ov_not rfl rfl) ?_
      refine al_nt ?_
      refine aw_cond rfl (fun hb22 => ?_) (fun hb22 => ?_)
      ·replace h := bif_t hb22 h
       refine aw_sr ?_
       refine al_val (ov_build (cells := ([(bool false), Value.nilFunc] : List Value).toArray) (cs := [(bool false), Value.nilFunc]) rfl (fun w a hm hs => by simp only [List.map_toArray, List.map_cons, List.map_nil, List.toList_toArray]; kernel_rfl)) ?_
       refine al_store (i := 0) (vs := [(bool false), Value.nilFunc]) (cs' := [(bool false), Value.nilFunc]) rfl rfl rfl sz92 (cv_rfl rfl) rfl (co_val rfl (co_val rfl co_nil)) (Nat.le_of_ble_eq_true rfl) rfl rfl ?_
       refine al_as rfl rfl ?_
       refine al_as rfl rfl ?_
       refine al_nt ?_
       refine aw_ret ?_
       refine aq_then_ret ?_
       refine aq_block_ret ?_
       refine aq_then_ret ?_
       refine aq_block_ret ?_
       refine aq_then_ret ?_
       refine aq_addf (f := fDat tyC74 [Value.nilFunc] C74.nil) mkC74_nil ?_
       refine aq_nilD tq ?_
       obtain rfl := Option.some.inj h
       exact fn_ret (Value.nilFunc, nS) [] [1, 0] rfl rfl rfl rfl (resC rfl (resB (i := 0) rfl rfl Tryd.underlying92 sz92 rfl rfl rfl (resT rfl (resT rfl (resN)))) rfl) rfl rfl rfl (by decide)
      ·replace h := bif_f hb22 h
       refine aw_skip ?_
       refine aq_tr ?_
       refine al_mv rfl rfl ?_
       refine al_as rfl rfl ?_
       refine al_nt ?_
       refine aw_sr ?_
       refine al_mv rfl rfl ?_
       refine al_as rfl rfl ?_
       refine al_nt ?_
       obtain ⟨kk24, hkk24, h⟩ := lt_some h
       refine aw_seq_join (ι := Value × (List Int) × Int) (fun i => (memOf w0 Z0 [] [(oBox g1 92 [(bool false), Value.nilFunc]), (oBox j2g5 4 [(bool j2b5_0)]), (oRow l13v6_0 3 tq l13x6_0), (oBox g6 52 [l13v6_0]), (oRow l13v7_0 3 tq l13x7_0), (oBox g7 52 [l13v7_0])] [(fDat (tyList tq) [i.1] i.2.1), (fDat (tyList tq) [v21] r20.2.1), (fDat (tyList tq) [l13v0] l13x0), (fDat (tyList tq) [j4v0] j4x0), (fDat (tyList tq) [v0_0] a0)])) (fun i => (tab [(0, i.1), (2, (pq g1)), (5, (pq j2g5)), (6, (pq g6)), (7, (pq g7)), (8, (iq r20.1)), (11, (iq i.2.2))])) (fun i => kk24 i.2.1 i.2.2 = some r) ?_ ?_
       ·rintro ⟨j23v0, j23x0, j23i11⟩ h
        have h : kk24 j23x0 j23i11 = some r := h
        rw [hkk24] at h
        dsimp only at h
        clear hkk24
        refine aw_show (m := (memOf w0 Z0 [] [(oBox g1 92 [(bool false), Value.nilFunc]), (oBox j2g5 4 [(bool j2b5_0)]), (oRow l13v6_0 3 tq l13x6_0), (oBox g6 52 [l13v6_0]), (oRow l13v7_0 3 tq l13x7_0), (oBox g7 52 [l13v7_0])] [(fDat (tyList tq) [j23v0] j23x0), (fDat (tyList tq) [v21] r20.2.1), (fDat (tyList tq) [l13v0] l13x0), (fDat (tyList tq) [j4v0] j4x0), (fDat (tyList tq) [v0_0] a0)])) (S := (tab [(0, j23v0), (2, (pq g1)), (5, (pq j2g5)), (6, (pq g6)), (7, (pq g7)), (8, (iq r20.1)), (11, (iq j23i11))])) ?_
        refine aw_region_open [⟨0, 73, Unit, fun _ => { val := l13v6_0 }⟩, ⟨1, 74, Unit, fun _ => { val := (iq r20.1) }⟩, ⟨2, 75, Value, fun (i : Value) => { val := i, own := [(oRow i 3 tq [r20.1])] }⟩, ⟨4, 77, Unit, fun _ => { val := l13v7_0 }⟩, ⟨5, 78, Unit, fun _ => { val := (iq j23i11) }⟩, ⟨6, 79, Value, fun (i : Value) => { val := i, own := [(oRow i 3 tq [j23i11])] }⟩] (tab [(0, j23v0), (2, (pq g1)), (5, (pq j2g5)), (6, (pq g6)), (7, (pq g7)), (8, (iq r20.1)), (11, (iq j23i11))]) mixed (fun a hs => hs.tab _ (allT_mem ⟨rfl, rfl, rfl, rfl, rfl, rfl, rfl, trivial⟩)) ?_
        refine ta_show (m := (memOf w0 Z0 [] [(oBox g1 92 [(bool false), Value.nilFunc]), (oBox j2g5 4 [(bool j2b5_0)]), (oRow l13v6_0 3 tq l13x6_0), (oBox g6 52 [l13v6_0]), (oRow l13v7_0 3 tq l13x7_0), (oBox g7 52 [l13v7_0])] [(fDat (tyList tq) [j23v0] j23x0), (fDat (tyList tq) [v21] r20.2.1), (fDat (tyList tq) [l13v0] l13x0), (fDat (tyList tq) [j4v0] j4x0), (fDat (tyList tq) [v0_0] a0)])) (S := (tab [(0, j23v0), (2, (pq g1)), (5, (pq j2g5)), (6, (pq g6)), (7, (pq g7)), (8, (iq r20.1)), (11, (iq j23i11))])) ?_
        refine ta_step 3 _ [0, 1, 2, 4, 5, 6] [73, 74, 75, 77, 78, 79] [0, 1, 2] [] [⟨0, 73, Unit, fun _ => { val := l13v6_0 }⟩, ⟨1, 74, Unit, fun _ => { val := (iq r20.1) }⟩, ⟨2, 75, Value, fun (i : Value) => { val := i, own := [(oRow i 3 tq [r20.1])] }⟩] [⟨4, 77, Unit, fun _ => { val := l13v7_0 }⟩, ⟨5, 78, Unit, fun _ => { val := (iq j23i11) }⟩, ⟨6, 79, Value, fun (i : Value) => { val := i, own := [(oRow i 3 tq [j23i11])] }⟩] rfl rfl rfl (by kernel_rfl) rfl rfl rfl ⟨⟨_, rfl, [], rfl, by
 intro X_ Y_ F_ K_ hK_
 refine al_show (m := Mem.plus (memOf w0 Z0 [] [(oBox g1 92 [(bool false), Value.nilFunc]), (oBox j2g5 4 [(bool j2b5_0)]), (oRow l13v6_0 3 tq l13x6_0), (oBox g6 52 [l13v6_0]), (oRow l13v7_0 3 tq l13x7_0), (oBox g7 52 [l13v7_0])] [(fDat (tyList tq) [j23v0] j23x0), (fDat (tyList tq) [v21] r20.2.1), (fDat (tyList tq) [l13v0] l13x0), (fDat (tyList tq) [j4v0] j4x0), (fDat (tyList tq) [v0_0] a0)]) X_ Y_) (S := over (tab [(0, j23v0), (2, (pq g1)), (5, (pq j2g5)), (6, (pq g6)), (7, (pq g7)), (8, (iq r20.1)), (11, (iq j23i11))]) F_) ?_
 refine al_val (ov_load (i := 3) (v := l13v6_0) rfl rfl Tryd.underlying52 sz52 rfl rfl rfl rfl) ?_
 refine al_nil ?_
 exact fr_fin hK_ ()⟩, ⟨_, rfl, [], rfl, by
 intro X_ Y_ F_ K_ hK_
 refine al_show (m := Mem.plus (memOf w0 Z0 [] [(oBox g1 92 [(bool false), Value.nilFunc]), (oBox j2g5 4 [(bool j2b5_0)]), (oRow l13v6_0 3 tq l13x6_0), (oBox g6 52 [l13v6_0]), (oRow l13v7_0 3 tq l13x7_0), (oBox g7 52 [l13v7_0])] [(fDat (tyList tq) [j23v0] j23x0), (fDat (tyList tq) [v21] r20.2.1), (fDat (tyList tq) [l13v0] l13x0), (fDat (tyList tq) [j4v0] j4x0), (fDat (tyList tq) [v0_0] a0)]) X_ Y_) (S := over (tab [(0, j23v0), (2, (pq g1)), (5, (pq j2g5)), (6, (pq g6)), (7, (pq g7)), (8, (iq r20.1)), (11, (iq j23i11))]) F_) ?_
 refine al_mv rfl rfl ?_
 refine al_nil ?_
 exact fr_fin hK_ ()⟩, ⟨_, rfl, [1], rfl, by
 intro _
 intro X_ Y_ F_ K_ hK_
 refine al_show (m := Mem.plus (memOf w0 Z0 [] [(oBox g1 92 [(bool false), Value.nilFunc]), (oBox j2g5 4 [(bool j2b5_0)]), (oRow l13v6_0 3 tq l13x6_0), (oBox g6 52 [l13v6_0]), (oRow l13v7_0 3 tq l13x7_0), (oBox g7 52 [l13v7_0])] [(fDat (tyList tq) [j23v0] j23x0), (fDat (tyList tq) [v21] r20.2.1), (fDat (tyList tq) [l13v0] l13x0), (fDat (tyList tq) [j4v0] j4x0), (fDat (tyList tq) [v0_0] a0)]) X_ Y_) (S := over (put (tab [(0, j23v0), (2, (pq g1)), (5, (pq j2g5)), (6, (pq g6)), (7, (pq g7)), (8, (iq r20.1)), (11, (iq j23i11))]) 74 (iq r20.1)) F_) ?_
 refine al_buildSlice (τ := tq) (e := 3) (k := 1) (sz := 0) (by_ := 0) (z := undef) (cs := [(iq r20.1)]) (xs := [r20.1]) rfl (by decide) (fun w a hm hs => ⟨([(iq r20.1)]).toArray, rfl, by simp only [List.map_toArray, List.map_cons, List.map_nil, hs.ev (x := .tmp 74) rfl]; exact run_bs [(iq r20.1)] [(iq r20.1)] Tryd.underlying52 to3 rfl rfl (bs_cons (l := [(iq r20.1)]) (cs := []) (cv_rfl rfl) rfl bs_nil) hm⟩) (fun hm => ⟨_, _, rfl, (fun _ => rfl) hm, rfl⟩) rfl (fun v25 => ?_)
 refine al_nil ?_
 exact fr_fin hK_ v25⟩, ⟨_, rfl, [], rfl, by
 intro X_ Y_ F_ K_ hK_
 refine al_show (m := Mem.plus (memOf w0 Z0 [] [(oBox g1 92 [(bool false), Value.nilFunc]), (oBox j2g5 4 [(bool j2b5_0)]), (oRow l13v6_0 3 tq l13x6_0), (oBox g6 52 [l13v6_0]), (oRow l13v7_0 3 tq l13x7_0), (oBox g7 52 [l13v7_0])] [(fDat (tyList tq) [j23v0] j23x0), (fDat (tyList tq) [v21] r20.2.1), (fDat (tyList tq) [l13v0] l13x0), (fDat (tyList tq) [j4v0] j4x0), (fDat (tyList tq) [v0_0] a0)]) X_ Y_) (S := over (tab [(0, j23v0), (2, (pq g1)), (5, (pq j2g5)), (6, (pq g6)), (7, (pq g7)), (8, (iq r20.1)), (11, (iq j23i11))]) F_) ?_
 refine al_val (ov_load (i := 5) (v := l13v7_0) rfl rfl Tryd.underlying52 sz52 rfl rfl rfl rfl) ?_
 refine al_nil ?_
 exact fr_fin hK_ ()⟩, ⟨_, rfl, [], rfl, by
 intro X_ Y_ F_ K_ hK_
 refine al_show (m := Mem.plus (memOf w0 Z0 [] [(oBox g1 92 [(bool false), Value.nilFunc]), (oBox j2g5 4 [(bool j2b5_0)]), (oRow l13v6_0 3 tq l13x6_0), (oBox g6 52 [l13v6_0]), (oRow l13v7_0 3 tq l13x7_0), (oBox g7 52 [l13v7_0])] [(fDat (tyList tq) [j23v0] j23x0), (fDat (tyList tq) [v21] r20.2.1), (fDat (tyList tq) [l13v0] l13x0), (fDat (tyList tq) [j4v0] j4x0), (fDat (tyList tq) [v0_0] a0)]) X_ Y_) (S := over (tab [(0, j23v0), (2, (pq g1)), (5, (pq j2g5)), (6, (pq g6)), (7, (pq g7)), (8, (iq r20.1)), (11, (iq j23i11))]) F_) ?_
 refine al_mv rfl rfl ?_
 refine al_nil ?_
 exact fr_fin hK_ ()⟩, ⟨_, rfl, [4], rfl, by
 intro _
 intro X_ Y_ F_ K_ hK_
 refine al_show (m := Mem.plus (memOf w0 Z0 [] [(oBox g1 92 [(bool false), Value.nilFunc]), (oBox j2g5 4 [(bool j2b5_0)]), (oRow l13v6_0 3 tq l13x6_0), (oBox g6 52 [l13v6_0]), (oRow l13v7_0 3 tq l13x7_0), (oBox g7 52 [l13v7_0])] [(fDat (tyList tq) [j23v0] j23x0), (fDat (tyList tq) [v21] r20.2.1), (fDat (tyList tq) [l13v0] l13x0), (fDat (tyList tq) [j4v0] j4x0), (fDat (tyList tq) [v0_0] a0)]) X_ Y_) (S := over (put (tab [(0, j23v0), (2, (pq g1)), (5, (pq j2g5)), (6, (pq g6)), (7, (pq g7)), (8, (iq r20.1)), (11, (iq j23i11))]) 78 (iq j23i11)) F_) ?_
 refine al_buildSlice (τ := tq) (e := 3) (k := 1) (sz := 0) (by_ := 0) (z := undef) (cs := [(iq j23i11)]) (xs := [j23i11]) rfl (by decide) (fun w a hm hs => ⟨([(iq j23i11)]).toArray, rfl, by simp only [List.map_toArray, List.map_cons, List.map_nil, hs.ev (x := .tmp 78) rfl]; exact run_bs [(iq j23i11)] [(iq j23i11)] Tryd.underlying52 to3 rfl rfl (bs_cons (l := [(iq j23i11)]) (cs := []) (cv_rfl rfl) rfl bs_nil) hm⟩) (fun hm => ⟨_, _, rfl, (fun _ => rfl) hm, rfl⟩) rfl (fun v26 => ?_)
 refine al_nil ?_
 exact fr_fin hK_ v26⟩, trivial⟩ ?_
        intro _
        intro _
        intro v25
        intro X_ Y_ F_ K_ hK_
        refine al_show (m := Mem.plus (memOf w0 Z0 [] [(oRow v25 3 tq [r20.1]), (oBox g1 92 [(bool false), Value.nilFunc]), (oBox j2g5 4 [(bool j2b5_0)]), (oRow l13v6_0 3 tq l13x6_0), (oBox g6 52 [l13v6_0]), (oRow l13v7_0 3 tq l13x7_0), (oBox g7 52 [l13v7_0])] [(fDat (tyList tq) [j23v0] j23x0), (fDat (tyList tq) [v21] r20.2.1), (fDat (tyList tq) [l13v0] l13x0), (fDat (tyList tq) [j4v0] j4x0), (fDat (tyList tq) [v0_0] a0)]) X_ Y_) (S := over (put (put (put (tab [(0, j23v0), (2, (pq g1)), (5, (pq j2g5)), (6, (pq g6)), (7, (pq g7)), (8, (iq r20.1)), (11, (iq j23i11))]) 73 l13v6_0) 74 (iq r20.1)) 75 v25) F_) ?_
        obtain ⟨hc27, h⟩ := req_some h
        refine al_append 3 hc27.1 hc27.2 rfl (src_own (i := 3) 0 rfl) rfl rfl Tryd.underlying52 to3 rfl rfl rfl (fun v28 => ?_)
        refine al_nil ?_
        refine aq_show (m := Mem.plus (memOf w0 Z0 [] [(oRow v25 3 tq [r20.1]), (oBox g1 92 [(bool false), Value.nilFunc]), (oBox j2g5 4 [(bool j2b5_0)]), (oRow v28 3 tq (l13x6_0 ++ ([r20.1]))), (oBox g6 52 [l13v6_0]), (oRow l13v7_0 3 tq l13x7_0), (oBox g7 52 [l13v7_0])] [(fDat (tyList tq) [j23v0] j23x0), (fDat (tyList tq) [v21] r20.2.1), (fDat (tyList tq) [l13v0] l13x0), (fDat (tyList tq) [j4v0] j4x0), (fDat (tyList tq) [v0_0] a0)]) X_ Y_) ?_
        refine aq_next hK_ [0, 1, 2, 3, 4, 5, 6] [0, 1, 2, 3, 4] [(0, j23v0), (2, (pq g1)), (5, (pq j2g5)), (6, (pq g6)), (7, (pq g7)), (11, (iq j23i11)), (76, v28)] [77, 78, 79] [] rfl rfl (by decide) rfl ⟨rfl, rfl, rfl, rfl, rfl, rfl, rfl, trivial⟩ ⟨rfl, rfl, rfl, trivial⟩ ?_
        clear hK_ K_ F_ X_ Y_
        refine ta_show (m := (memOf w0 Z0 [] [(oRow v25 3 tq [r20.1]), (oBox g1 92 [(bool false), Value.nilFunc]), (oBox j2g5 4 [(bool j2b5_0)]), (oRow v28 3 tq (l13x6_0 ++ ([r20.1]))), (oBox g6 52 [l13v6_0]), (oRow l13v7_0 3 tq l13x7_0), (oBox g7 52 [l13v7_0])] [(fDat (tyList tq) [j23v0] j23x0), (fDat (tyList tq) [v21] r20.2.1), (fDat (tyList tq) [l13v0] l13x0), (fDat (tyList tq) [j4v0] j4x0), (fDat (tyList tq) [v0_0] a0)])) (S := (tab [(0, j23v0), (2, (pq g1)), (5, (pq j2g5)), (6, (pq g6)), (7, (pq g7)), (11, (iq j23i11)), (76, v28)])) ?_
        refine ta_step 7 _ [4, 5, 6] [77, 78, 79] [4, 5, 6] [] [⟨4, 77, Unit, fun _ => { val := l13v7_0 }⟩, ⟨5, 78, Unit, fun _ => { val := (iq j23i11) }⟩, ⟨6, 79, Value, fun (i : Value) => { val := i, own := [(oRow i 3 tq [j23i11])] }⟩] [] rfl rfl rfl (by kernel_rfl) rfl rfl rfl ⟨⟨_, rfl, [], rfl, by
 intro X_ Y_ F_ K_ hK_
 refine al_show (m := Mem.plus (memOf w0 Z0 [] [(oRow v25 3 tq [r20.1]), (oBox g1 92 [(bool false), Value.nilFunc]), (oBox j2g5 4 [(bool j2b5_0)]), (oRow v28 3 tq (l13x6_0 ++ ([r20.1]))), (oBox g6 52 [l13v6_0]), (oRow l13v7_0 3 tq l13x7_0), (oBox g7 52 [l13v7_0])] [(fDat (tyList tq) [j23v0] j23x0), (fDat (tyList tq) [v21] r20.2.1), (fDat (tyList tq) [l13v0] l13x0), (fDat (tyList tq) [j4v0] j4x0), (fDat (tyList tq) [v0_0] a0)]) X_ Y_) (S := over (tab [(0, j23v0), (2, (pq g1)), (5, (pq j2g5)), (6, (pq g6)), (7, (pq g7)), (11, (iq j23i11)), (76, v28)]) F_) ?_
 refine al_val (ov_load (i := 6) (v := l13v7_0) rfl rfl Tryd.underlying52 sz52 rfl rfl rfl rfl) ?_
 refine al_nil ?_
 exact fr_fin hK_ ()⟩, ⟨_, rfl, [], rfl, by
 intro X_ Y_ F_ K_ hK_
 refine al_show (m := Mem.plus (memOf w0 Z0 [] [(oRow v25 3 tq [r20.1]), (oBox g1 92 [(bool false), Value.nilFunc]), (oBox j2g5 4 [(bool j2b5_0)]), (oRow v28 3 tq (l13x6_0 ++ ([r20.1]))), (oBox g6 52 [l13v6_0]), (oRow l13v7_0 3 tq l13x7_0), (oBox g7 52 [l13v7_0])] [(fDat (tyList tq) [j23v0] j23x0), (fDat (tyList tq) [v21] r20.2.1), (fDat (tyList tq) [l13v0] l13x0), (fDat (tyList tq) [j4v0] j4x0), (fDat (tyList tq) [v0_0] a0)]) X_ Y_) (S := over (tab [(0, j23v0), (2, (pq g1)), (5, (pq j2g5)), (6, (pq g6)), (7, (pq g7)), (11, (iq j23i11)), (76, v28)]) F_) ?_
 refine al_mv rfl rfl ?_
 refine al_nil ?_
 exact fr_fin hK_ ()⟩, ⟨_, rfl, [1], rfl, by
 intro _
 intro X_ Y_ F_ K_ hK_
 refine al_show (m := Mem.plus (memOf w0 Z0 [] [(oRow v25 3 tq [r20.1]), (oBox g1 92 [(bool false), Value.nilFunc]), (oBox j2g5 4 [(bool j2b5_0)]), (oRow v28 3 tq (l13x6_0 ++ ([r20.1]))), (oBox g6 52 [l13v6_0]), (oRow l13v7_0 3 tq l13x7_0), (oBox g7 52 [l13v7_0])] [(fDat (tyList tq) [j23v0] j23x0), (fDat (tyList tq) [v21] r20.2.1), (fDat (tyList tq) [l13v0] l13x0), (fDat (tyList tq) [j4v0] j4x0), (fDat (tyList tq) [v0_0] a0)]) X_ Y_) (S := over (put (tab [(0, j23v0), (2, (pq g1)), (5, (pq j2g5)), (6, (pq g6)), (7, (pq g7)), (11, (iq j23i11)), (76, v28)]) 78 (iq j23i11)) F_) ?_
 refine al_buildSlice (τ := tq) (e := 3) (k := 1) (sz := 0) (by_ := 0) (z := undef) (cs := [(iq j23i11)]) (xs := [j23i11]) rfl (by decide) (fun w a hm hs => ⟨([(iq j23i11)]).toArray, rfl, by simp only [List.map_toArray, List.map_cons, List.map_nil, hs.ev (x := .tmp 78) rfl]; exact run_bs [(iq j23i11)] [(iq j23i11)] Tryd.underlying52 to3 rfl rfl (bs_cons (l := [(iq j23i11)]) (cs := []) (cv_rfl rfl) rfl bs_nil) hm⟩) (fun hm => ⟨_, _, rfl, (fun _ => rfl) hm, rfl⟩) rfl (fun v26 => ?_)
 refine al_nil ?_
 exact fr_fin hK_ v26⟩, trivial⟩ ?_
        intro _
        intro _
        intro v26
        intro X_ Y_ F_ K_ hK_
        refine al_show (m := Mem.plus (memOf w0 Z0 [] [(oRow v26 3 tq [j23i11]), (oRow v25 3 tq [r20.1]), (oBox g1 92 [(bool false), Value.nilFunc]), (oBox j2g5 4 [(bool j2b5_0)]), (oRow v28 3 tq (l13x6_0 ++ ([r20.1]))), (oBox g6 52 [l13v6_0]), (oRow l13v7_0 3 tq l13x7_0), (oBox g7 52 [l13v7_0])] [(fDat (tyList tq) [j23v0] j23x0), (fDat (tyList tq) [v21] r20.2.1), (fDat (tyList tq) [l13v0] l13x0), (fDat (tyList tq) [j4v0] j4x0), (fDat (tyList tq) [v0_0] a0)]) X_ Y_) (S := over (put (put (put (tab [(0, j23v0), (2, (pq g1)), (5, (pq j2g5)), (6, (pq g6)), (7, (pq g7)), (11, (iq j23i11)), (76, v28)]) 77 l13v7_0) 78 (iq j23i11)) 79 v26) F_) ?_
        obtain ⟨hc29, h⟩ := req_some h
        refine al_append 6 hc29.1 hc29.2 rfl (src_own (i := 6) 0 rfl) rfl rfl Tryd.underlying52 to3 rfl rfl rfl (fun v30 => ?_)
        refine al_nil ?_
        refine aq_show (m := Mem.plus (memOf w0 Z0 [] [(oRow v26 3 tq [j23i11]), (oRow v25 3 tq [r20.1]), (oBox g1 92 [(bool false), Value.nilFunc]), (oBox j2g5 4 [(bool j2b5_0)]), (oRow v28 3 tq (l13x6_0 ++ ([r20.1]))), (oBox g6 52 [l13v6_0]), (oRow v30 3 tq (l13x7_0 ++ ([j23i11]))), (oBox g7 52 [l13v7_0])] [(fDat (tyList tq) [j23v0] j23x0), (fDat (tyList tq) [v21] r20.2.1), (fDat (tyList tq) [l13v0] l13x0), (fDat (tyList tq) [j4v0] j4x0), (fDat (tyList tq) [v0_0] a0)]) X_ Y_) ?_
        refine aq_next hK_ [0, 1, 2, 3, 4, 5, 6, 7] [0, 1, 2, 3, 4] [(0, j23v0), (2, (pq g1)), (5, (pq j2g5)), (6, (pq g6)), (7, (pq g7)), (76, v28), (80, v30)] [] [] rfl rfl (by decide) rfl ⟨rfl, rfl, rfl, rfl, rfl, rfl, rfl, trivial⟩ trivial ?_
        clear hK_ K_ F_ X_ Y_
        refine ta_show (m := (memOf w0 Z0 [] [(oRow v26 3 tq [j23i11]), (oRow v25 3 tq [r20.1]), (oBox g1 92 [(bool false), Value.nilFunc]), (oBox j2g5 4 [(bool j2b5_0)]), (oRow v28 3 tq (l13x6_0 ++ ([r20.1]))), (oBox g6 52 [l13v6_0]), (oRow v30 3 tq (l13x7_0 ++ ([j23i11]))), (oBox g7 52 [l13v7_0])] [(fDat (tyList tq) [j23v0] j23x0), (fDat (tyList tq) [v21] r20.2.1), (fDat (tyList tq) [l13v0] l13x0), (fDat (tyList tq) [j4v0] j4x0), (fDat (tyList tq) [v0_0] a0)])) (S := (tab [(0, j23v0), (2, (pq g1)), (5, (pq j2g5)), (6, (pq g6)), (7, (pq g7)), (76, v28), (80, v30)])) ?_
        refine ta_step 8 _ [] [] [] [] [] [] rfl rfl rfl (by kernel_rfl) rfl rfl rfl trivial ?_
        intro X_ Y_ F_ K_ hK_
        refine al_show (m := Mem.plus (memOf w0 Z0 [] [(oRow v26 3 tq [j23i11]), (oRow v25 3 tq [r20.1]), (oBox g1 92 [(bool false), Value.nilFunc]), (oBox j2g5 4 [(bool j2b5_0)]), (oRow v28 3 tq (l13x6_0 ++ ([r20.1]))), (oBox g6 52 [l13v6_0]), (oRow v30 3 tq (l13x7_0 ++ ([j23i11]))), (oBox g7 52 [l13v7_0])] [(fDat (tyList tq) [j23v0] j23x0), (fDat (tyList tq) [v21] r20.2.1), (fDat (tyList tq) [l13v0] l13x0), (fDat (tyList tq) [j4v0] j4x0), (fDat (tyList tq) [v0_0] a0)]) X_ Y_) (S := over (tab [(0, j23v0), (2, (pq g1)), (5, (pq j2g5)), (6, (pq g6)), (7, (pq g7)), (76, v28), (80, v30)]) F_) ?_
        refine al_store (i := 5) (vs := [v28]) (cs' := [v28]) rfl rfl rfl sz52 (cv_own 4 rfl) rfl (co_own 4 rfl co_nil) (Nat.le_of_ble_eq_true rfl) rfl rfl ?_
        refine al_nil ?_
        refine aq_show (m := Mem.plus (memOf w0 Z0 [] [(oRow v26 3 tq [j23i11]), (oRow v25 3 tq [r20.1]), (oBox g1 92 [(bool false), Value.nilFunc]), (oBox j2g5 4 [(bool j2b5_0)]), (oRow v28 3 tq (l13x6_0 ++ ([r20.1]))), (oBox g6 52 [v28]), (oRow v30 3 tq (l13x7_0 ++ ([j23i11]))), (oBox g7 52 [l13v7_0])] [(fDat (tyList tq) [j23v0] j23x0), (fDat (tyList tq) [v21] r20.2.1), (fDat (tyList tq) [l13v0] l13x0), (fDat (tyList tq) [j4v0] j4x0), (fDat (tyList tq) [v0_0] a0)]) X_ Y_) ?_
        refine aq_next hK_ [0, 1, 2, 3, 4, 5, 6, 7] [0, 1, 2, 3, 4] [(0, j23v0), (2, (pq g1)), (5, (pq j2g5)), (6, (pq g6)), (7, (pq g7)), (80, v30)] [] [] rfl rfl (by decide) rfl ⟨rfl, rfl, rfl, rfl, rfl, rfl, trivial⟩ trivial ?_
        clear hK_ K_ F_ X_ Y_
        refine ta_show (m := (memOf w0 Z0 [] [(oRow v26 3 tq [j23i11]), (oRow v25 3 tq [r20.1]), (oBox g1 92 [(bool false), Value.nilFunc]), (oBox j2g5 4 [(bool j2b5_0)]), (oRow v28 3 tq (l13x6_0 ++ ([r20.1]))), (oBox g6 52 [v28]), (oRow v30 3 tq (l13x7_0 ++ ([j23i11]))), (oBox g7 52 [l13v7_0])] [(fDat (tyList tq) [j23v0] j23x0), (fDat (tyList tq) [v21] r20.2.1), (fDat (tyList tq) [l13v0] l13x0), (fDat (tyList tq) [j4v0] j4x0), (fDat (tyList tq) [v0_0] a0)])) (S := (tab [(0, j23v0), (2, (pq g1)), (5, (pq j2g5)), (6, (pq g6)), (7, (pq g7)), (80, v30)])) ?_
        refine ta_step 9 _ [] [] [] [] [] [] rfl rfl rfl (by kernel_rfl) rfl rfl rfl trivial ?_
        intro X_ Y_ F_ K_ hK_
        refine al_show (m := Mem.plus (memOf w0 Z0 [] [(oRow v26 3 tq [j23i11]), (oRow v25 3 tq [r20.1]), (oBox g1 92 [(bool false), Value.nilFunc]), (oBox j2g5 4 [(bool j2b5_0)]), (oRow v28 3 tq (l13x6_0 ++ ([r20.1]))), (oBox g6 52 [v28]), (oRow v30 3 tq (l13x7_0 ++ ([j23i11]))), (oBox g7 52 [l13v7_0])] [(fDat (tyList tq) [j23v0] j23x0), (fDat (tyList tq) [v21] r20.2.1), (fDat (tyList tq) [l13v0] l13x0), (fDat (tyList tq) [j4v0] j4x0), (fDat (tyList tq) [v0_0] a0)]) X_ Y_) (S := over (tab [(0, j23v0), (2, (pq g1)), (5, (pq j2g5)), (6, (pq g6)), (7, (pq g7)), (80, v30)]) F_) ?_
        refine al_store (i := 7) (vs := [v30]) (cs' := [v30]) rfl rfl rfl sz52 (cv_own 6 rfl) rfl (co_own 6 rfl co_nil) (Nat.le_of_ble_eq_true rfl) rfl rfl ?_
        refine al_nil ?_
        refine aq_show (m := Mem.plus (memOf w0 Z0 [] [(oRow v26 3 tq [j23i11]), (oRow v25 3 tq [r20.1]), (oBox g1 92 [(bool false), Value.nilFunc]), (oBox j2g5 4 [(bool j2b5_0)]), (oRow v28 3 tq (l13x6_0 ++ ([r20.1]))), (oBox g6 52 [v28]), (oRow v30 3 tq (l13x7_0 ++ ([j23i11]))), (oBox g7 52 [v30])] [(fDat (tyList tq) [j23v0] j23x0), (fDat (tyList tq) [v21] r20.2.1), (fDat (tyList tq) [l13v0] l13x0), (fDat (tyList tq) [j4v0] j4x0), (fDat (tyList tq) [v0_0] a0)]) X_ Y_) ?_
        refine aq_next hK_ [0, 1, 2, 3, 4, 5, 6, 7] [0, 1, 2, 3, 4] [(0, j23v0), (2, (pq g1)), (5, (pq j2g5)), (6, (pq g6)), (7, (pq g7))] [] [] rfl rfl (by decide) rfl ⟨rfl, rfl, rfl, rfl, rfl, trivial⟩ trivial ?_
        clear hK_ K_ F_ X_ Y_
        refine ta_show (m := (memOf w0 Z0 [] [(oRow v26 3 tq [j23i11]), (oRow v25 3 tq [r20.1]), (oBox g1 92 [(bool false), Value.nilFunc]), (oBox j2g5 4 [(bool j2b5_0)]), (oRow v28 3 tq (l13x6_0 ++ ([r20.1]))), (oBox g6 52 [v28]), (oRow v30 3 tq (l13x7_0 ++ ([j23i11]))), (oBox g7 52 [v30])] [(fDat (tyList tq) [j23v0] j23x0), (fDat (tyList tq) [v21] r20.2.1), (fDat (tyList tq) [l13v0] l13x0), (fDat (tyList tq) [j4v0] j4x0), (fDat (tyList tq) [v0_0] a0)])) (S := (tab [(0, j23v0), (2, (pq g1)), (5, (pq j2g5)), (6, (pq g6)), (7, (pq g7))])) ?_
        refine ta_end [] [] rfl rfl (by kernel_rfl) rfl trivial ?_
        refine aq_show (m := (memOf w0 Z0 [] [(oRow v26 3 tq [j23i11]), (oRow v25 3 tq [r20.1]), (oBox g1 92 [(bool false), Value.nilFunc]), (oBox j2g5 4 [(bool j2b5_0)]), (oRow v28 3 tq (l13x6_0 ++ ([r20.1]))), (oBox g6 52 [v28]), (oRow v30 3 tq (l13x7_0 ++ ([j23i11]))), (oBox g7 52 [v30])] [(fDat (tyList tq) [j23v0] j23x0), (fDat (tyList tq) [v21] r20.2.1), (fDat (tyList tq) [l13v0] l13x0), (fDat (tyList tq) [j4v0] j4x0), (fDat (tyList tq) [v0_0] a0)])) (S := (tab [(0, j23v0), (2, (pq g1)), (5, (pq j2g5)), (6, (pq g6)), (7, (pq g7))])) ?_
        refine aq_block ?_
        exact aq_again k14 (j23v0, j23x0, v28, (l13x6_0 ++ ([r20.1])), v30, (l13x7_0 ++ ([j23i11]))) (Nat.lt_succ_self _) h (fun w a hm hs => norm hm hs [2, 3, 4, 5, 6, 7] [0, 3, 4] [(0, j23v0), (2, (pq g1)), (5, (pq j2g5)), (6, (pq g6)), (7, (pq g7))] (by decide) ⟨rfl, rfl, rfl, rfl, rfl, trivial⟩)
       ·clear hkk24
        obtain ⟨kk32, hkk32, h⟩ := lt_some h
        refine aw_seq_join (ι := Bool) (fun i => (memOf w0 Z0 [] [(oBox g1 92 [(bool false), Value.nilFunc]), (oBox j2g5 4 [(bool j2b5_0)]), (oRow l13v6_0 3 tq l13x6_0), (oBox g6 52 [l13v6_0]), (oRow l13v7_0 3 tq l13x7_0), (oBox g7 52 [l13v7_0])] [(fDat (tyList tq) [v21] r20.2.1), (fDat (tyList tq) [l13v0] l13x0), (fDat (tyList tq) [j4v0] j4x0), (fDat (tyList tq) [v0_0] a0)])) (fun i => (tab [(0, v21), (2, (pq g1)), (5, (pq j2g5)), (6, (pq g6)), (7, (pq g7)), (8, (iq r20.1)), (11, (iq r20.1)), (57, (bool i))])) (fun i => kk32 i = some r) ?_ ?_
        ·rintro j31b57 h
         have h : kk32 j31b57 = some r := h
         rw [hkk32] at h
         dsimp only at h
         clear hkk32
         refine aw_show (m := (memOf w0 Z0 [] [(oBox g1 92 [(bool false), Value.nilFunc]), (oBox j2g5 4 [(bool j2b5_0)]), (oRow l13v6_0 3 tq l13x6_0), (oBox g6 52 [l13v6_0]), (oRow l13v7_0 3 tq l13x7_0), (oBox g7 52 [l13v7_0])] [(fDat (tyList tq) [v21] r20.2.1), (fDat (tyList tq) [l13v0] l13x0), (fDat (tyList tq) [j4v0] j4x0), (fDat (tyList tq) [v0_0] a0)])) (S := (tab [(0, v21), (2, (pq g1)), (5, (pq j2g5)), (6, (pq g6)), (7, (pq g7)), (8, (iq r20.1)), (11, (iq r20.1)), (57, (bool j31b57))])) ?_
         refine aw_cond rfl (fun hb33 => ?_) (fun hb33 => ?_)
         ·replace h := bif_t hb33 h
          refine aw_sr ?_
          refine al_mv rfl rfl ?_
          obtain ⟨hc34, h⟩ := req_some h
          refine al_sliceDF 0 hc34.1 hc34.2 rfl rfl rfl Tryd.underlying52 sz3 rfl (fun s35 => ?_)
          obtain ⟨r37, hc36, h⟩ := opt_some h
          refine al_call (vs := [s35]) (f_lumref_plain_ok fu s35 (r20.2.1.drop ((1 : Int)).toNat) hc36) [] [] [0, 1, 2, 3, 4, 5] (pre_fz 0 rfl pre_nil) rfl (by simp) (by decide) (.inl rfl) rfl Tryd.func82 rfl rfl rfl (fun v38 => ?_)
          refine al_mv rfl rfl ?_
          refine al_ex rfl rfl rfl ?_
          refine al_ex rfl rfl rfl ?_
          refine al_ex rfl rfl rfl ?_
          refine al_as rfl rfl ?_
          refine al_as rfl rfl ?_
          refine al_as rfl rfl ?_
          refine al_nt ?_
          obtain ⟨kk40, hkk40, h⟩ := lt_some h
          refine aw_seq_join (ι := Bool) (fun i => (memOf w0 Z0 [] [(oBox g1 92 [(bool false), Value.nilFunc]), (oBox j2g5 4 [(bool j2b5_0)]), (oRow l13v6_0 3 tq l13x6_0), (oBox g6 52 [l13v6_0]), (oRow l13v7_0 3 tq l13x7_0), (oBox g7 52 [l13v7_0])] [(fDat (tyList tq) [v38] r37.2.1), (fDat (tyList tq) [s35] (r20.2.1.drop ((1 : Int)).toNat)), (fDat (tyList tq) [v21] r20.2.1), (fDat (tyList tq) [l13v0] l13x0), (fDat (tyList tq) [j4v0] j4x0), (fDat (tyList tq) [v0_0] a0)])) (fun i => (tab [(0, v38), (2, (pq g1)), (5, (pq j2g5)), (6, (pq g6)), (7, (pq g7)), (8, (iq r20.1)), (11, (iq r37.1)), (71, (bool i))])) (fun i => kk40 i = some r) ?_ ?_
          ·rintro j39b71 h
           have h : kk40 j39b71 = some r := h
           rw [hkk40] at h
           dsimp only at h
           clear hkk40
           refine aw_show (m := (memOf w0 Z0 [] [(oBox g1 92 [(bool false), Value.nilFunc]), (oBox j2g5 4 [(bool j2b5_0)]), (oRow l13v6_0 3 tq l13x6_0), (oBox g6 52 [l13v6_0]), (oRow l13v7_0 3 tq l13x7_0), (oBox g7 52 [l13v7_0])] [(fDat (tyList tq) [v38] r37.2.1), (fDat (tyList tq) [s35] (r20.2.1.drop ((1 : Int)).toNat)), (fDat (tyList tq) [v21] r20.2.1), (fDat (tyList tq) [l13v0] l13x0), (fDat (tyList tq) [j4v0] j4x0), (fDat (tyList tq) [v0_0] a0)])) (S := (tab [(0, v38), (2, (pq g1)), (5, (pq j2g5)), (6, (pq g6)), (7, (pq g7)), (8, (iq r20.1)), (11, (iq r37.1)), (71, (bool j39b71))])) ?_
           refine aw_cond rfl (fun hb41 => ?_) (fun hb41 => ?_)
           ·replace h := bif_t hb41 h
            refine aw_sr ?_
            refine al_val (ov_build (cells := ([(bool false), Value.nilFunc] : List Value).toArray) (cs := [(bool false), Value.nilFunc]) rfl (fun w a hm hs => by simp only [List.map_toArray, List.map_cons, List.map_nil, List.toList_toArray]; kernel_rfl)) ?_
            refine al_store (i := 0) (vs := [(bool false), Value.nilFunc]) (cs' := [(bool false), Value.nilFunc]) rfl rfl rfl sz92 (cv_rfl rfl) rfl (co_val rfl (co_val rfl co_nil)) (Nat.le_of_ble_eq_true rfl) rfl rfl ?_
            refine al_as rfl rfl ?_
            refine al_as rfl rfl ?_
            refine al_nt ?_
            refine aw_ret ?_
            refine aq_then_ret ?_
            refine aq_block_ret ?_
            refine aq_then_ret ?_
            refine aq_block_ret ?_
            refine aq_then_ret ?_
            refine aq_addf (f := fDat tyC74 [Value.nilFunc] C74.nil) mkC74_nil ?_
            refine aq_nilD tq ?_
            obtain rfl := Option.some.inj h
            exact fn_ret (Value.nilFunc, nS) [] [1, 0] rfl rfl rfl rfl (resC rfl (resB (i := 0) rfl rfl Tryd.underlying92 sz92 rfl rfl rfl (resT rfl (resT rfl (resN)))) rfl) rfl rfl rfl (by decide)
           ·replace h := bif_f hb41 h
            refine aw_skip ?_
            exact aq_join (v38, r37.2.1, r37.1) h (fun w a hm hs => norm hm hs [0, 1, 2, 3, 4, 5] [0, 2, 3, 4, 5] [(0, v38), (2, (pq g1)), (5, (pq j2g5)), (6, (pq g6)), (7, (pq g7)), (8, (iq r20.1)), (11, (iq r37.1))] (by decide) ⟨rfl, rfl, rfl, rfl, rfl, rfl, rfl, trivial⟩)
          ·clear hkk40
           refine aw_region ?_
           refine al_mv rfl rfl ?_
           refine al_val (ov_not rfl rfl) ?_
           refine al_mv rfl rfl ?_
           refine al_caseB 67 rfl (fun hb42 => ?_) (fun hb42 => ?_)
           ·replace h := bif_t hb42 h
            refine al_skip ?_
            refine al_skip ?_
            refine al_skip ?_
            refine al_val (ov_pick_t rfl rfl rfl) ?_
            refine al_nil ?_
            exact aq_join true h (fun w a hm hs => norm hm hs [0, 1, 2, 3, 4, 5] [0, 1, 2, 3, 4, 5] [(0, v38), (2, (pq g1)), (5, (pq j2g5)), (6, (pq g6)), (7, (pq g7)), (8, (iq r20.1)), (11, (iq r37.1)), (71, (bool true))] (by decide) ⟨rfl, rfl, rfl, rfl, rfl, rfl, rfl, rfl, trivial⟩)
           ·replace h := bif_f hb42 h
            refine al_mv rfl rfl ?_
            refine al_mv rfl rfl ?_
            refine al_in rfl rfl rfl rfl ?_
            refine al_val (ov_pick_f rfl rfl rfl) ?_
            refine al_nil ?_
            exact aq_join (decide (r37.1 < r20.1)) h (fun w a hm hs => norm hm hs [0, 1, 2, 3, 4, 5] [0, 1, 2, 3, 4, 5] [(0, v38), (2, (pq g1)), (5, (pq j2g5)), (6, (pq g6)), (7, (pq g7)), (8, (iq r20.1)), (11, (iq r37.1)), (71, (bool (decide (r37.1 < r20.1))))] (by decide) ⟨rfl, rfl, rfl, rfl, rfl, rfl, rfl, rfl, trivial⟩)
         ·replace h := bif_f hb33 h
          refine aw_skip ?_
          exact aq_join (v21, r20.2.1, r20.1) h (fun w a hm hs => norm hm hs [0, 1, 2, 3, 4, 5] [0, 0, 1, 2, 3] [(0, v21), (2, (pq g1)), (5, (pq j2g5)), (6, (pq g6)), (7, (pq g7)), (8, (iq r20.1)), (11, (iq r20.1))] (by decide) ⟨rfl, rfl, rfl, rfl, rfl, rfl, rfl, trivial⟩)
        ·clear hkk32
         refine aw_region ?_
         refine al_mv rfl rfl ?_
         refine al_val (ov_lenD 0 rfl rfl Tryd.underlying52 rfl) ?_
         refine al_in rfl rfl rfl rfl ?_
         refine al_mv rfl rfl ?_
         refine al_caseB 52 rfl (fun hb43 => ?_) (fun hb43 => ?_)
         ·replace h := bif_t hb43 h
          refine al_mv rfl rfl ?_
          obtain ⟨u44, hu45, h⟩ := opt_some h
          refine al_idxD 0 hu45 rfl rfl rfl Tryd.underlying52 sz3 rfl (fun p46 => ?_)
          refine al_val (ov_loadP (ds := [(iq u44)]) 0 rfl (fun h => h) rfl Tryd.underlying3 sz3 rfl rfl rfl) ?_
          refine al_in rfl rfl rfl rfl ?_
          refine al_val (ov_pick_t rfl rfl rfl) ?_
          refine al_nil ?_
          exact aq_join (u44 == (45 : Int)) h (fun w a hm hs => norm hm hs [0, 1, 2, 3, 4, 5] [1, 2, 3, 4] [(0, v21), (2, (pq g1)), (5, (pq j2g5)), (6, (pq g6)), (7, (pq g7)), (8, (iq r20.1)), (11, (iq r20.1)), (57, (bool (u44 == (45 : Int))))] (by decide) ⟨rfl, rfl, rfl, rfl, rfl, rfl, rfl, rfl, trivial⟩)
         ·replace h := bif_f hb43 h
          refine al_skip ?_
          refine al_skip ?_
          refine al_skip ?_
          refine al_skip ?_
          refine al_val (ov_pick_f rfl rfl rfl) ?_
          refine al_nil ?_
          exact aq_join false h (fun w a hm hs => norm hm hs [0, 1, 2, 3, 4, 5] [0, 1, 2, 3] [(0, v21), (2, (pq g1)), (5, (pq j2g5)), (6, (pq g6)), (7, (pq g7)), (8, (iq r20.1)), (11, (iq r20.1)), (57, (bool false))] (by decide) ⟨rfl, rfl, rfl, rfl, rfl, rfl, rfl, rfl, trivial⟩)
     ·replace h := bif_f hb18 h
      refine aw_exit ?_
      refine aq_then_exit ?_
      refine aq_then_exit ?_
      refine aq_block_exit ?_
      exact aq_join (l13v0, l13x0, l13v6_0, l13x6_0, l13v7_0, l13x7_0) h (fun w a hm hs => norm hm hs [0, 1, 2, 3, 4, 5] [0, 1, 2] [(0, l13v0), (2, (pq g1)), (5, (pq j2g5)), (6, (pq g6)), (7, (pq g7))] (by decide) ⟨rfl, rfl, rfl, rfl, rfl, trivial⟩)
    ·clear hkk17
     refine aw_region ?_
     refine al_val (ov_load (i := 3) (v := l13v6_0) rfl rfl Tryd.underlying52 sz52 rfl rfl rfl rfl) ?_
     refine al_val (ov_lenR 2 rfl rfl Tryd.underlying52 rfl) ?_
     refine al_in rfl rfl rfl rfl ?_
     refine al_mv rfl rfl ?_
     refine al_caseB 27 rfl (fun hb47 => ?_) (fun hb47 => ?_)
     ·replace h := bif_t hb47 h
      refine al_skip ?_
      refine al_skip ?_
      refine al_skip ?_
      refine al_skip ?_
      refine al_skip ?_
      refine al_skip ?_
      refine al_skip ?_
      refine al_skip ?_
      refine al_skip ?_
      refine al_val (ov_pick_t rfl rfl rfl) ?_
      refine al_nil ?_
      exact aq_join true h (fun w a hm hs => norm hm hs [0, 1, 2, 3, 4, 5] [0, 1, 2] [(0, l13v0), (2, (pq g1)), (5, (pq j2g5)), (6, (pq g6)), (7, (pq g7)), (37, (bool true))] (by decide) ⟨rfl, rfl, rfl, rfl, rfl, rfl, trivial⟩)
     ·replace h := bif_f hb47 h
      refine al_mv rfl rfl ?_
      refine al_val (ov_lenD 0 rfl rfl Tryd.underlying52 rfl) ?_
      refine al_in rfl rfl rfl rfl ?_
      refine al_mv rfl rfl ?_
      refine al_caseB 31 rfl (fun hb48 => ?_) (fun hb48 => ?_)
      ·replace h := bif_t hb48 h
       refine al_mv rfl rfl ?_
       obtain ⟨u49, hu50, h⟩ := opt_some h
       refine al_idxD 0 hu50 rfl rfl rfl Tryd.underlying52 sz3 rfl (fun p51 => ?_)
       refine al_val (ov_loadP (ds := [(iq u49)]) 0 rfl (fun h => h) rfl Tryd.underlying3 sz3 rfl rfl rfl) ?_
       refine al_in rfl rfl rfl rfl ?_
       refine al_val (ov_pick_t rfl rfl rfl) ?_
       refine al_val (ov_pick_f rfl rfl rfl) ?_
       refine al_nil ?_
       exact aq_join (u49 != (93 : Int)) h (fun w a hm hs => norm hm hs [0, 1, 2, 3, 4, 5] [1, 2, 3] [(0, l13v0), (2, (pq g1)), (5, (pq j2g5)), (6, (pq g6)), (7, (pq g7)), (37, (bool (u49 != (93 : Int))))] (by decide) ⟨rfl, rfl, rfl, rfl, rfl, rfl, trivial⟩)
      ·replace h := bif_f hb48 h
       refine al_skip ?_
       refine al_skip ?_
       refine al_skip ?_
       refine al_skip ?_
       refine al_val (ov_pick_f rfl rfl rfl) ?_
       refine al_val (ov_pick_f rfl rfl rfl) ?_
       refine al_nil ?_
       exact aq_join false h (fun w a hm hs => norm hm hs [0, 1, 2, 3, 4, 5] [0, 1, 2] [(0, l13v0), (2, (pq g1)), (5, (pq j2g5)), (6, (pq g6)), (7, (pq g7)), (37, (bool false))] (by decide) ⟨rfl, rfl, rfl, rfl, rfl, rfl, trivial⟩)
  ·clear hkk5
   refine aw_sr ?_
   refine al_val (ov_load (i := 1) (v := (bool j2b5_0)) rfl rfl Tryd.underlying4 sz4 rfl rfl rfl rfl) ?_
   refine al_nt ?_
   refine aw_cond rfl (fun hb52 => ?_) (fun hb52 => ?_)
   ·replace h := bif_t hb52 h
    refine aw_region ?_
    refine al_mv rfl rfl ?_
    obtain ⟨hc53, h⟩ := req_some h
    refine al_sliceDF 0 hc53.1 hc53.2 rfl rfl rfl Tryd.underlying52 sz3 rfl (fun s54 => ?_)
    refine al_as rfl rfl ?_
    refine al_nil ?_
    exact aq_join (s54, (a0.drop ((1 : Int)).toNat)) h (fun w a hm hs => norm hm hs [0, 1] [0, 1] [(0, s54), (2, (pq g1)), (5, (pq j2g5))] (by decide) ⟨rfl, rfl, rfl, trivial⟩)
   ·replace h := bif_f hb52 h
    refine aw_skip ?_
    exact aq_join (v0_0, a0) h (fun w a hm hs => norm hm hs [0, 1] [0, 0] [(0, v0_0), (2, (pq g1)), (5, (pq j2g5))] (by decide) ⟨rfl, rfl, rfl, trivial⟩)
 ·clear hkk3
  refine aw_region ?_
  refine al_mv rfl rfl ?_
  refine al_val (ov_lenD 0 rfl rfl Tryd.underlying52 rfl) ?_
  refine al_in rfl rfl rfl rfl ?_
  refine al_mv rfl rfl ?_
  refine al_caseB 15 rfl (fun hb55 => ?_) (fun hb55 => ?_)
  ·replace h := bif_t hb55 h
   refine al_mv rfl rfl ?_
   obtain ⟨u56, hu57, h⟩ := opt_some h
   refine al_idxD 0 hu57 rfl rfl rfl Tryd.underlying52 sz3 rfl (fun p58 => ?_)
   refine al_val (ov_loadP (ds := [(iq u56)]) 0 rfl (fun h => h) rfl Tryd.underlying3 sz3 rfl rfl rfl) ?_
   refine al_in rfl rfl rfl rfl ?_
   refine al_val (ov_pick_t rfl rfl rfl) ?_
   refine al_alloc (zs := [(bool false)]) (zeroOf_to to4) rfl rfl (fun g59 => ?_)
   refine al_store (i := 0) (vs := [(bool (u56 == (94 : Int)))]) (cs' := [(bool (u56 == (94 : Int)))]) rfl rfl rfl sz4 (cv_rfl rfl) rfl (co_val rfl co_nil) (Nat.le_of_ble_eq_true rfl) rfl rfl ?_
   refine al_nil ?_
   exact aq_join (g59, (u56 == (94 : Int))) h (fun w a hm hs => norm hm hs [1, 0] [1] [(0, v0_0), (2, (pq g1)), (5, (pq g59))] (by decide) ⟨rfl, rfl, rfl, trivial⟩)
  ·replace h := bif_f hb55 h
   refine al_skip ?_
   refine al_skip ?_
   refine al_skip ?_
   refine al_skip ?_
   refine al_val (ov_pick_f rfl rfl rfl) ?_
   refine al_alloc (zs := [(bool false)]) (zeroOf_to to4) rfl rfl (fun g60 => ?_)
   refine al_store (i := 0) (vs := [(bool false)]) (cs' := [(bool false)]) rfl rfl rfl sz4 (cv_rfl rfl) rfl (co_val rfl co_nil) (Nat.le_of_ble_eq_true rfl) rfl rfl ?_
   refine al_nil ?_
   exact aq_join (g60, false) h (fun w a hm hs => norm hm hs [1, 0] [0] [(0, v0_0), (2, (pq g1)), (5, (pq g60))] (by decide) ⟨rfl, rfl, rfl, trivial⟩)
def f_lumref_marks_3 (fu : Nat) (a0 : Int) (a1 : Int) : Option Bool := (some (a0 == a1))
set_option maxRecDepth 100000 in
theorem f_lumref_marks_3_ok (fu : Nat) (a0 : Int) (c1 : Value) (a1 : Int) {r : Bool} (h : f_lumref_marks_3 fu a0 a1 = some r) : FnOk Tryd.prog 56 [(int .i64 a0), c1] [(fPtr (tyInt .i64) c1 a1)] [] (fun (i : Unit) => { val := (bool r) }) := by
 unfold f_lumref_marks_3 at h
 refine fn_enter Tryd.func56 rfl Tryd.ntmps56 rfl (fun w0 Z0 => ?_)
 refine aw_sr ?_
 refine al_as rfl rfl ?_
 refine al_nt ?_
 refine aw_sr ?_
 refine al_mv rfl rfl ?_
 refine al_val (ov_loadP (ds := [(iq a1)]) 0 rfl (fun h => h) rfl Tryd.underlying3 sz3 rfl rfl rfl) ?_
 refine al_in rfl rfl rfl rfl ?_
 refine al_as rfl rfl ?_
 refine al_nt ?_
 refine aw_ret ?_
 obtain rfl := Option.some.inj h
 exact fn_ret () [] [] rfl rfl rfl rfl (res1 rfl rfl) rfl rfl rfl (by decide)
def f_lumref_marks_L5 (kk2 : ((List S_lumref_mark) → Option ((List S_lumref_mark) × Bool))) (fu : Nat) : Nat → (List Int) → (List S_lumref_mark) → Option ((List S_lumref_mark) × Bool)
  | 0, _, _ => none
  | k4 + 1, l3x0, l3x4 => (bif (decide ((l3x0.length : Int) > (0 : Int))) then (opt (at? l3x0 (0 : Int)) fun (u7 : Int) => (req (0 ≤ (1 : Int) ∧ (1 : Int) ≤ (l3x0.length : Int)) (lt (fun (j14x0 : (List Int)) (j14b6_0 : Bool) (j14x6_1 : C74) => (req (((l3x4.length + ([(S_lumref_mark.mk j14b6_0 j14x6_1)]).length) * 16 : Nat) ≤ 140737488355328 ∧ l3x4.length + ([(S_lumref_mark.mk j14b6_0 j14x6_1)]).length ≤ 9223372036854775807) (f_lumref_marks_L5 kk2 fu k4 j14x0 (l3x4 ++ ([(S_lumref_mark.mk j14b6_0 j14x6_1)]))))) fun (kk15 : (List Int) → Bool → C74 → Option ((List S_lumref_mark) × Bool)) => (bif (u7 == (42 : Int)) then (kk15 (l3x0.drop ((1 : Int)).toNat) true C74.nil) else (bif (u7 == (63 : Int)) then (kk15 (l3x0.drop ((1 : Int)).toNat) false C74.c54) else (bif (u7 == (91 : Int)) then (opt (f_lumref_class fu (l3x0.drop ((1 : Int)).toNat)) fun (r23 : (S_lumref_mark × (List Int) × Bool)) => (bif (!r23.2.2) then (some (([] : List S_lumref_mark), false)) else (kk15 r23.2.1 r23.1.star r23.1.ok))) else (bif (u7 == (92 : Int)) then (bif (((l3x0.drop ((1 : Int)).toNat).length : Int) == (0 : Int)) then (some (([] : List S_lumref_mark), false)) else (opt (at? (l3x0.drop ((1 : Int)).toNat) (0 : Int)) fun (u29 : Int) => (req (0 ≤ (1 : Int) ∧ (1 : Int) ≤ ((l3x0.drop ((1 : Int)).toNat).length : Int)) (kk15 ((l3x0.drop ((1 : Int)).toNat).drop ((1 : Int)).toNat) false (C74.c56 u29))))) else (kk15 (l3x0.drop ((1 : Int)).toNat) false (C74.c53 u7))))))))) else (kk2 l3x4))
def f_lumref_marks (fu : Nat) (a0 : (List Int)) : Option ((List S_lumref_mark) × Bool) := (lt (fun (j1x4 : (List S_lumref_mark)) => (some (j1x4, (decide ((j1x4.length : Int) > (0 : Int)))))) fun (kk2 : (List S_lumref_mark) → Option ((List S_lumref_mark) × Bool)) => (f_lumref_marks_L5 kk2 fu fu a0 ([] : List S_lumref_mark)))
set_option maxRecDepth 100000 in
set_option maxHeartbeats 2000000 in
set_option maxHeartbeats 2000000 in
theorem f_lumref_marks_ok (fu : Nat) (v0_0 : Value) (a0 : (List Int)) {r : ((List S_lumref_mark) × Bool)} (h : f_lumref_marks fu a0 = some r) : FnOk Tryd.prog 27 [v0_0] [(fDat (tyList (tyInt .i64)) [v0_0] a0)] [] (fun (i : Value) => { val := (Value.tuple #[i, (bool r.2)]), own := [(oRow i 92 tyS_lumref_mark r.1)] }) := by
 unfold f_lumref_marks at h
 refine fn_enter Tryd.func27 rfl Tryd.ntmps27 rfl (fun w0 Z0 => ?_)
 refine aw_sr ?_
 refine al_as rfl rfl ?_
 refine al_as rfl rfl ?_
 refine al_nt ?_
 refine aw_sr ?_
 refine al_as rfl rfl ?_
 refine al_nt ?_
 obtain ⟨kk2, hkk2, h⟩ := lt_some h
 refine aw_seq_join (ι := Value × (List S_lumref_mark)) (fun i => (memOf w0 Z0 [] [(oRow i.1 92 tyS_lumref_mark i.2)] [(fDat (tyList tq) [v0_0] a0)])) (fun i => (tab [(4, i.1)])) (fun i => kk2 i.2 = some r) ?_ ?_
 ·rintro ⟨j1v4, j1x4⟩ h
  have h : kk2 j1x4 = some r := h
  rw [hkk2] at h
  dsimp only at h
  clear hkk2
  refine aw_show (m := (memOf w0 Z0 [] [(oRow j1v4 92 tyS_lumref_mark j1x4)] [(fDat (tyList tq) [v0_0] a0)])) (S := (tab [(4, j1v4)])) ?_
  refine aw_sr ?_
  refine al_mv rfl rfl ?_
  refine al_mv rfl rfl ?_
  refine al_val (ov_lenR 0 rfl rfl Tryd.underlying56 rfl) ?_
  refine al_in rfl rfl rfl rfl ?_
  refine al_as rfl rfl ?_
  refine al_as rfl rfl ?_
  refine al_nt ?_
  refine aw_ret ?_
  obtain rfl := Option.some.inj h
  exact fn_ret j1v4 [0] [] rfl rfl rfl rfl (res2 rfl rfl rfl) rfl rfl rfl (by decide)
 ·clear hkk2
  refine aw_block ?_
  refine aw_nilR 92 tyS_lumref_mark ?_
  refine aw_state (aw_loop (ι := Value × (List Int) × Value × (List S_lumref_mark)) (fun i => (memOf w0 Z0 [] [(oRow i.2.2.1 92 tyS_lumref_mark i.2.2.2)] [(fDat (tyList tq) [i.1] i.2.1), (fDat (tyList tq) [v0_0] a0)])) (fun i => (tab [(0, i.1), (4, i.2.2.1)])) (fun q i => f_lumref_marks_L5 kk2 fu q i.2.1 i.2.2.2 = some r) ?_ fu (v0_0, a0, nS, ([] : List S_lumref_mark)) h) (fun w a hm hs => norm hm hs [0] [0, 0] [(0, v0_0), (4, nS)] (by decide) ⟨rfl, rfl, trivial⟩)
  clear h
  rintro k4 ⟨l3v0, l3x0, l3v4, l3x4⟩ h
  have h : f_lumref_marks_L5 kk2 fu k4 l3x0 l3x4 = some r := h
  obtain _ | k4 := k4
  · rw [f_lumref_marks_L5] at h; cases h
  rw [f_lumref_marks_L5] at h
  refine aw_show (m := (memOf w0 Z0 [] [(oRow l3v4 92 tyS_lumref_mark l3x4)] [(fDat (tyList tq) [l3v0] l3x0), (fDat (tyList tq) [v0_0] a0)])) (S := (tab [(0, l3v0), (4, l3v4)])) ?_
  refine aw_seq ?_
  refine aw_sr ?_
  refine al_mv rfl rfl ?_
  refine al_val (ov_lenD 0 rfl rfl Tryd.underlying52 rfl) ?_
  refine al_in rfl rfl rfl rfl ?_
  refine al_nt ?_
  refine aw_cond rfl (fun hb6 => ?_) (fun hb6 => ?_)
  ·replace h := bif_t hb6 h
   refine aw_skip ?_
   refine aq_then ?_
   refine aw_block ?_
   refine aw_sr ?_
   refine al_mv rfl rfl ?_
   obtain ⟨u7, hu8, h⟩ := opt_some h
   refine al_idxD 0 hu8 rfl rfl rfl Tryd.underlying52 sz3 rfl (fun p9 => ?_)
   refine al_val (ov_loadP (ds := [(iq u7)]) 0 rfl (fun h => h) rfl Tryd.underlying3 sz3 rfl rfl rfl) ?_
   refine al_alloc (zs := [(iq (0 : Int))]) (zeroOf_to to3) rfl rfl (fun g10 => ?_)
   refine al_store (i := 0) (vs := [(iq u7)]) (cs' := [(iq u7)]) rfl rfl rfl sz3 (cv_rfl rfl) rfl (co_val rfl co_nil) (Nat.le_of_ble_eq_true rfl) rfl rfl ?_
   refine al_nt ?_
   refine aw_sr ?_
   refine al_mv rfl rfl ?_
   obtain ⟨hc11, h⟩ := req_some h
   refine al_sliceDF 1 hc11.1 hc11.2 rfl rfl rfl Tryd.underlying52 sz3 rfl (fun s12 => ?_)
   refine al_as rfl rfl ?_
   refine al_nt ?_
   refine aw_seq ?_
   refine aw_freezeB (τ := tq) 0 (u7) rfl rfl (fun _ _ => rfl) ?_
   refine aw_region ?_
   refine al_val (ov_makeFunc2 (vs := [(pq g10)]) rfl rfl) ?_
   refine al_val (ov_build (cells := ([(bool false), (Value.func (.func 53) #[] #[(pq g10)])] : List Value).toArray) (cs := [(bool false), (Value.func (.func 53) #[] #[(pq g10)])]) rfl (fun w a hm hs => by simp only [List.map_toArray, List.map_cons, List.map_nil, List.toList_toArray, hs.ev (x := .tmp 17) rfl]; kernel_rfl)) ?_
   refine al_alloc (zs := [(bool false), Value.nilFunc]) (zeroOf_to to92) rfl rfl (fun g13 => ?_)
   refine al_store (i := 0) (vs := [(bool false), (Value.func (.func 53) #[] #[(pq g10)])]) (cs' := [(bool false), (Value.func (.func 53) #[] #[(pq g10)])]) rfl rfl rfl sz92 (cv_rfl rfl) rfl (co_val rfl (co_val rfl co_nil)) (Nat.le_of_ble_eq_true rfl) rfl rfl ?_
   refine al_nt ?_
   obtain ⟨kk15, hkk15, h⟩ := lt_some h
   refine aw_seq_join (ι := Value × (List Int) × Bool × Value × C74) (fun i => (memOf w0 Z0 [] [(oRow l3v4 92 tyS_lumref_mark l3x4), (oBox g13 92 [(bool i.2.2.1), i.2.2.2.1])] [(fDat (tyList tq) [i.1] i.2.1), (fDat tyC74 [i.2.2.2.1] i.2.2.2.2), (fPtr tq (pq g10) u7), (fDat (tyList tq) [s12] (l3x0.drop ((1 : Int)).toNat)), (fPtr tq p9 u7), (fDat (tyList tq) [l3v0] l3x0), (fDat (tyList tq) [v0_0] a0)])) (fun i => (tab [(0, i.1), (4, l3v4), (6, (pq g13))])) (fun i => kk15 i.2.1 i.2.2.1 i.2.2.2.2 = some r) ?_ ?_
   ·rintro ⟨j14v0, j14x0, j14b6_0, j14v6_1, j14x6_1⟩ h
    have h : kk15 j14x0 j14b6_0 j14x6_1 = some r := h
    rw [hkk15] at h
    dsimp only at h
    clear hkk15
    refine aw_show (m := (memOf w0 Z0 [] [(oRow l3v4 92 tyS_lumref_mark l3x4), (oBox g13 92 [(bool j14b6_0), j14v6_1])] [(fDat (tyList tq) [j14v0] j14x0), (fDat tyC74 [j14v6_1] j14x6_1), (fPtr tq (pq g10) u7), (fDat (tyList tq) [s12] (l3x0.drop ((1 : Int)).toNat)), (fPtr tq p9 u7), (fDat (tyList tq) [l3v0] l3x0), (fDat (tyList tq) [v0_0] a0)])) (S := (tab [(0, j14v0), (4, l3v4), (6, (pq g13))])) ?_
    refine aw_region ?_
    refine al_mv rfl rfl ?_
    refine al_val (ov_load (i := 1) (v := (ag [(bool j14b6_0), j14v6_1])) rfl rfl Tryd.underlying92 sz92 rfl rfl rfl rfl) ?_
    refine al_buildSlice (τ := tyS_lumref_mark) (e := 92) (k := 1) (sz := 0) (by_ := 0) (z := undef) (cs := [(bool j14b6_0), j14v6_1]) (xs := [(S_lumref_mark.mk j14b6_0 j14x6_1)]) rfl (by decide) (fun w a hm hs => ⟨([(bool j14b6_0), j14v6_1]).toArray, rfl, by simp only [List.map_toArray, List.map_cons, List.map_nil, hs.ev (x := .tmp 49) rfl]; exact run_bs [(ag [(bool j14b6_0), j14v6_1])] [(bool j14b6_0), j14v6_1] Tryd.underlying56 to92 rfl rfl (bs_cons (l := [(bool j14b6_0), j14v6_1]) (cs := []) (cv_rfl rfl) rfl bs_nil) hm⟩) (fun hm => ⟨_, _, rfl, (fun hm => mknS_lumref_mark (x := (S_lumref_mark.mk j14b6_0 j14x6_1)) rfl (fz_at (i := 1) hm rfl)) hm, rfl⟩) rfl (fun v16 => ?_)
    obtain ⟨hc17, h⟩ := req_some h
    refine al_append 1 hc17.1 hc17.2 rfl (src_own (i := 1) 0 rfl) rfl rfl Tryd.underlying56 to92 rfl rfl rfl (fun v18 => ?_)
    refine al_as rfl rfl ?_
    refine al_nil ?_
    refine aq_block ?_
    exact aq_again k4 (j14v0, j14x0, v18, (l3x4 ++ ([(S_lumref_mark.mk j14b6_0 j14x6_1)]))) (Nat.lt_succ_self _) h (fun w a hm hs => norm hm hs [1] [0, 6] [(0, j14v0), (4, v18)] (by decide) ⟨rfl, rfl, trivial⟩)
   ·clear hkk15
    refine aw_sr ?_
    refine al_val (ov_loadP (ds := [(iq u7)]) 0 rfl (fun h => h) rfl Tryd.underlying3 sz3 rfl rfl rfl) ?_
    refine al_nt ?_
    refine aw_block ?_
    refine aw_sr ?_
    refine al_in rfl rfl rfl rfl ?_
    refine al_as rfl rfl ?_
    refine al_nt ?_
    refine aw_cond rfl (fun hb19 => ?_) (fun hb19 => ?_)
    ·replace h := bif_t hb19 h
     refine aw_region ?_
     refine al_val (ov_build (cells := ([(bool true), Value.nilFunc] : List Value).toArray) (cs := [(bool true), Value.nilFunc]) rfl (fun w a hm hs => by simp only [List.map_toArray, List.map_cons, List.map_nil, List.toList_toArray, hs.ev (x := .const (bool true)) rfl]; kernel_rfl)) ?_
     refine al_store (i := 0) (vs := [(bool true), Value.nilFunc]) (cs' := [(bool true), Value.nilFunc]) rfl rfl rfl sz92 (cv_rfl rfl) rfl (co_val rfl (co_val rfl co_nil)) (Nat.le_of_ble_eq_true rfl) rfl rfl ?_
     refine al_nil ?_
     refine aq_block ?_
     refine aq_addf (f := fDat tyC74 [Value.nilFunc] C74.nil) mkC74_nil ?_
     exact aq_join (s12, (l3x0.drop ((1 : Int)).toNat), true, Value.nilFunc, C74.nil) h (fun w a hm hs => norm hm hs [1, 0] [2, 0, 1, 2, 3, 4, 5] [(0, s12), (4, l3v4), (6, (pq g13))] (by decide) ⟨rfl, rfl, rfl, trivial⟩)
    ·replace h := bif_f hb19 h
     refine aw_sr ?_
     refine al_in rfl rfl rfl rfl ?_
     refine al_as rfl rfl ?_
     refine al_nt ?_
     refine aw_cond rfl (fun hb20 => ?_) (fun hb20 => ?_)
     ·replace h := bif_t hb20 h
      refine aw_region ?_
      refine al_val (ov_build (cells := ([(bool false), (fq 54)] : List Value).toArray) (cs := [(bool false), (fq 54)]) rfl (fun w a hm hs => by simp only [List.map_toArray, List.map_cons, List.map_nil, List.toList_toArray, hs.ev (x := .func 54) rfl]; kernel_rfl)) ?_
      refine al_store (i := 0) (vs := [(bool false), (fq 54)]) (cs' := [(bool false), (fq 54)]) rfl rfl rfl sz92 (cv_rfl rfl) rfl (co_val rfl (co_val rfl co_nil)) (Nat.le_of_ble_eq_true rfl) rfl rfl ?_
      refine al_nil ?_
      refine aq_block ?_
      refine aq_addf (f := fDat tyC74 [(fq 54)] C74.c54) mkC74_54 ?_
      exact aq_join (s12, (l3x0.drop ((1 : Int)).toNat), false, (fq 54), C74.c54) h (fun w a hm hs => norm hm hs [1, 0] [2, 0, 1, 2, 3, 4, 5] [(0, s12), (4, l3v4), (6, (pq g13))] (by decide) ⟨rfl, rfl, rfl, trivial⟩)
     ·replace h := bif_f hb20 h
      refine aw_sr ?_
      refine al_in rfl rfl rfl rfl ?_
      refine al_as rfl rfl ?_
      refine al_nt ?_
      refine aw_cond rfl (fun hb21 => ?_) (fun hb21 => ?_)
      ·replace h := bif_t hb21 h
       refine aw_sr ?_
       refine al_as rfl rfl ?_
       refine al_nt ?_
       refine aw_sr ?_
       refine al_mv rfl rfl ?_
       obtain ⟨r23, hc22, h⟩ := opt_some h
       refine al_call (vs := [s12]) (f_lumref_class_ok fu s12 (l3x0.drop ((1 : Int)).toNat) hc22) [] [] [0, 1] (pre_fz 1 rfl pre_nil) rfl (by simp) (by decide) (.inl rfl) rfl Tryd.func55 rfl rfl rfl (fun ⟨v24, v25⟩ => ?_)
       refine al_mv rfl rfl ?_
       refine al_ex rfl rfl rfl ?_
       refine al_ex rfl rfl rfl ?_
       refine al_ex rfl rfl rfl ?_
       refine al_store (i := 0) (vs := [(bool r23.1.star), v24]) (cs' := [(bool r23.1.star), v24]) rfl rfl rfl sz92 (cv_rfl rfl) rfl (co_val rfl (co_fzT 0 rfl co_nil)) (Nat.le_of_ble_eq_true rfl) rfl rfl ?_
       refine al_as rfl rfl ?_
       refine al_as rfl rfl ?_
       refine al_nt ?_
       refine aw_sr ?_
       refine al_mv rfl rfl ?_
       refine al_val (ov_not rfl rfl) ?_
       refine al_nt ?_
       refine aw_cond rfl (fun hb26 => ?_) (fun hb26 => ?_)
       ·replace h := bif_t hb26 h
        refine aw_sr ?_
        refine al_as rfl rfl ?_
        refine al_as rfl rfl ?_
        refine al_nt ?_
        refine aw_ret ?_
        refine aq_block_ret ?_
        refine aq_then_ret ?_
        refine aq_block_ret ?_
        refine aq_then_ret ?_
        refine aq_block_ret ?_
        refine aq_then_ret ?_
        refine aq_nilR 92 tyS_lumref_mark ?_
        obtain rfl := Option.some.inj h
        exact fn_ret nS [0] [] rfl rfl rfl rfl (res2 rfl rfl rfl) rfl rfl rfl (by decide)
       ·replace h := bif_f hb26 h
        refine aw_skip ?_
        refine aq_block ?_
        exact aq_join (v25, r23.2.1, r23.1.star, v24, r23.1.ok) h (fun w a hm hs => norm hm hs [1, 0] [1, 0, 2, 3, 4, 5, 6] [(0, v25), (4, l3v4), (6, (pq g13))] (by decide) ⟨rfl, rfl, rfl, trivial⟩)
      ·replace h := bif_f hb21 h
       refine aw_sr ?_
       refine al_in rfl rfl rfl rfl ?_
       refine al_as rfl rfl ?_
       refine al_nt ?_
       refine aw_cond rfl (fun hb27 => ?_) (fun hb27 => ?_)
       ·replace h := bif_t hb27 h
        refine aw_seq ?_
        refine aw_sr ?_
        refine al_mv rfl rfl ?_
        refine al_val (ov_lenD 1 rfl rfl Tryd.underlying52 rfl) ?_
        refine al_in rfl rfl rfl rfl ?_
        refine al_nt ?_
        refine aw_cond rfl (fun hb28 => ?_) (fun hb28 => ?_)
        ·replace h := bif_t hb28 h
         refine aw_sr ?_
         refine al_as rfl rfl ?_
         refine al_as rfl rfl ?_
         refine al_nt ?_
         refine aw_ret ?_
         refine aq_then_ret ?_
         refine aq_block_ret ?_
         refine aq_then_ret ?_
         refine aq_block_ret ?_
         refine aq_then_ret ?_
         refine aq_block_ret ?_
         refine aq_then_ret ?_
         refine aq_nilR 92 tyS_lumref_mark ?_
         obtain rfl := Option.some.inj h
         exact fn_ret nS [0] [] rfl rfl rfl rfl (res2 rfl rfl rfl) rfl rfl rfl (by decide)
        ·replace h := bif_f hb28 h
         refine aw_skip ?_
         refine aq_tr ?_
         refine al_mv rfl rfl ?_
         obtain ⟨u29, hu30, h⟩ := opt_some h
         refine al_idxD 1 hu30 rfl rfl rfl Tryd.underlying52 sz3 rfl (fun p31 => ?_)
         refine al_val (ov_loadP (ds := [(iq u29)]) 0 rfl (fun h => h) rfl Tryd.underlying3 sz3 rfl rfl rfl) ?_
         refine al_alloc (zs := [(iq (0 : Int))]) (zeroOf_to to3) rfl rfl (fun g32 => ?_)
         refine al_store (i := 0) (vs := [(iq u29)]) (cs' := [(iq u29)]) rfl rfl rfl sz3 (cv_rfl rfl) rfl (co_val rfl co_nil) (Nat.le_of_ble_eq_true rfl) rfl rfl ?_
         refine al_nt ?_
         refine aw_sr ?_
         refine al_mv rfl rfl ?_
         obtain ⟨hc33, h⟩ := req_some h
         refine al_sliceDF 2 hc33.1 hc33.2 rfl rfl rfl Tryd.underlying52 sz3 rfl (fun s34 => ?_)
         refine al_as rfl rfl ?_
         refine al_nt ?_
         refine aw_freezeB (τ := tq) 0 (u29) rfl rfl (fun _ _ => rfl) ?_
         refine aw_region ?_
         refine al_val (ov_makeFunc2 (vs := [(pq g32)]) rfl rfl) ?_
         refine al_val (ov_fieldA (p := 1) rfl Tryd.underlying92 rfl sz74 rfl rfl rfl) ?_
         refine al_store (i := 0) (vs := [(Value.func (.func 56) #[] #[(pq g32)])]) (cs' := [(bool false), (Value.func (.func 56) #[] #[(pq g32)])]) rfl rfl rfl sz74 (cv_rfl rfl) rfl (co_val rfl co_nil) (Nat.le_of_ble_eq_true rfl) rfl rfl ?_
         refine al_nil ?_
         refine aq_block ?_
         refine aq_addf (f := fDat tyC74 [(Value.func (.func 56) #[] #[(pq g32)])] (C74.c56 u29)) (mkC74_56 0 rfl) ?_
         exact aq_join (s34, ((l3x0.drop ((1 : Int)).toNat).drop ((1 : Int)).toNat), false, (Value.func (.func 56) #[] #[(pq g32)]), (C74.c56 u29)) h (fun w a hm hs => norm hm hs [1, 0] [2, 0, 4, 5, 6, 7, 8] [(0, s34), (4, l3v4), (6, (pq g13))] (by decide) ⟨rfl, rfl, rfl, trivial⟩)
       ·replace h := bif_f hb27 h
        refine aw_skip ?_
        refine aq_block ?_
        refine aq_addf (f := fDat tyC74 [(Value.func (.func 53) #[] #[(pq g10)])] (C74.c53 u7)) (mkC74_53 0 rfl) ?_
        exact aq_join (s12, (l3x0.drop ((1 : Int)).toNat), false, (Value.func (.func 53) #[] #[(pq g10)]), (C74.c53 u7)) h (fun w a hm hs => norm hm hs [1, 0] [2, 0, 1, 2, 3, 4, 5] [(0, s12), (4, l3v4), (6, (pq g13))] (by decide) ⟨rfl, rfl, rfl, trivial⟩)
  ·replace h := bif_f hb6 h
   refine aw_exit ?_
   refine aq_then_exit ?_
   refine aq_then_exit ?_
   refine aq_block_exit ?_
   exact aq_join (l3v4, l3x4) h (fun w a hm hs => norm hm hs [0] [1] [(4, l3v4)] (by decide) ⟨rfl, trivial⟩)
def f_lumref_Pattern_L16 (kk9 : ((List (Option (List S_lumref_mark))) → Option ((List (Option (List S_lumref_mark))) × Int))) (r12 : (List (List UInt8))) (fu : Nat) : Nat → (List (Option (List S_lumref_mark))) → Int → Option ((List (Option (List S_lumref_mark))) × Int)
  | 0, _, _ => none
  | k15 + 1, l14x6, l14i36 => (bif (decide (l14i36 < (r12.length : Int))) then (lt (fun (j18x6 : (List (Option (List S_lumref_mark)))) => (f_lumref_Pattern_L16 kk9 r12 fu k15 j18x6 (IntKind.i64.wrap (l14i36 + (1 : Int))))) fun (kk19 : (List (Option (List S_lumref_mark))) → Option ((List (Option (List S_lumref_mark))) × Int)) => (opt (at? r12 l14i36) fun (u20 : (List UInt8)) => (bif (u20 == ([42, 42] : List UInt8)) then (req (((l14x6.length + ([(none : (Option (List S_lumref_mark)))]).length) * 24 : Nat) ≤ 140737488355328 ∧ l14x6.length + ([(none : (Option (List S_lumref_mark)))]).length ≤ 9223372036854775807) (kk19 (l14x6 ++ ([(none : (Option (List S_lumref_mark)))])))) else (opt (f_lumref_Chars fu u20) fun (r29 : ((List Int) × Bool)) => (opt (f_lumref_marks fu r29.1) fun (r32 : ((List S_lumref_mark) × Bool)) => (bif (!r32.2) then (some (([] : List (Option (List S_lumref_mark))), (13 : Int))) else (req (r32.1 ≠ []) (req (((l14x6.length + ([(some r32.1)]).length) * 24 : Nat) ≤ 140737488355328 ∧ l14x6.length + ([(some r32.1)]).length ≤ 9223372036854775807) (kk19 (l14x6 ++ ([(some r32.1)]))))))))))) else (kk9 l14x6))
def f_lumref_Pattern (fu : Nat) (a0 : (List UInt8)) : Option ((List (Option (List S_lumref_mark))) × Int) := (bif (decide ((a0.length : Int) > (60 : Int))) then (some (([] : List (Option (List S_lumref_mark))), (2 : Int))) else (opt (f_lumref_Chars fu a0) fun (r3 : ((List Int) × Bool)) => (lt (fun (j5b31 : Bool) => (bif j5b31 then (some (([] : List (Option (List S_lumref_mark))), (13 : Int))) else (lt (fun (j8x6 : (List (Option (List S_lumref_mark)))) => (some (j8x6, (0 : Int)))) fun (kk9 : (List (Option (List S_lumref_mark))) → Option ((List (Option (List S_lumref_mark))) × Int)) => (req (0 ≤ (1 : Int) ∧ (1 : Int) ≤ (a0.length : Int)) (opt (f_lumref_cutAt fu (a0.drop ((1 : Int)).toNat)) fun (r12 : (List (List UInt8))) => (f_lumref_Pattern_L16 kk9 r12 fu fu ([] : List (Option (List S_lumref_mark))) (0 : Int))))))) fun (kk6 : Bool → Option ((List (Option (List S_lumref_mark))) × Int)) => (bif (!r3.2) then (kk6 true) else (bif (a0 == ([] : List UInt8)) then (kk6 true) else (req (0 ≤ (0 : Int) ∧ (0 : Int) < (a0.length : Int)) (kk6 ((En.bAt a0 (0 : Int)) != (47 : Int)))))))))
set_option maxRecDepth 100000 in
set_option maxHeartbeats 2000000 in
set_option maxHeartbeats 2000000 in
theorem f_lumref_Pattern_ok (fu : Nat) (a0 : (List UInt8)) {r : ((List (Option (List S_lumref_mark))) × Int)} (h : f_lumref_Pattern fu a0 = some r) : FnOk Tryd.prog 8 [(str a0)] [] [] (fun (i : Value) => { val := (Value.tuple #[i, (int .i64 r.2)]), own := [(oRow i 56 (tyOpt tyS_lumref_mark) r.1)] }) := by
 unfold f_lumref_Pattern at h
 refine fn_enter Tryd.func8 rfl Tryd.ntmps8 rfl (fun w0 Z0 => ?_)
 refine aw_sr ?_
 refine al_as rfl rfl ?_
 refine al_as rfl rfl ?_
 refine al_nt ?_
 refine aw_seq ?_
 refine aw_sr ?_
 refine al_mv rfl rfl ?_
 refine al_val (ov_strLen Tryd.underlying9 rfl rfl) ?_
 refine al_in rfl rfl rfl rfl ?_
 refine al_nt ?_
 refine aw_cond rfl (fun hb1 => ?_) (fun hb1 => ?_)
 ·replace h := bif_t hb1 h
  refine aw_sr ?_
  refine al_as rfl rfl ?_
  refine al_as rfl rfl ?_
  refine al_nt ?_
  refine aw_ret ?_
  refine aq_then_ret ?_
  refine aq_nilR 56 (tyOpt tyS_lumref_mark) ?_
  obtain rfl := Option.some.inj h
  exact fn_ret nS [0] [] rfl rfl rfl rfl (res2 rfl rfl rfl) rfl rfl rfl (by decide)
 ·replace h := bif_f hb1 h
  refine aw_skip ?_
  refine aq_then ?_
  refine aw_seq ?_
  refine aw_sr ?_
  refine al_mv rfl rfl ?_
  obtain ⟨r3, hc2, h⟩ := opt_some h
  refine al_call (vs := [(str a0)]) (f_lumref_Chars_ok fu a0 hc2) [] [] [] pre_nil rfl (by simp) (by decide) (.inl rfl) rfl Tryd.func25 rfl rfl rfl (fun v4 => ?_)
  refine al_mv rfl rfl ?_
  refine al_ex rfl rfl rfl ?_
  refine al_ex rfl rfl rfl ?_
  refine al_as rfl rfl ?_
  refine al_as rfl rfl ?_
  refine al_nt ?_
  obtain ⟨kk6, hkk6, h⟩ := lt_some h
  refine aw_seq_join (ι := Bool) (fun i => (memOf w0 Z0 [] [] [])) (fun i => (tab [(0, (str a0)), (31, (bool i))])) (fun i => kk6 i = some r) ?_ ?_
  ·rintro j5b31 h
   have h : kk6 j5b31 = some r := h
   rw [hkk6] at h
   dsimp only at h
   clear hkk6
   refine aw_show (m := (memOf w0 Z0 [] [] [])) (S := (tab [(0, (str a0)), (31, (bool j5b31))])) ?_
   refine aw_cond rfl (fun hb7 => ?_) (fun hb7 => ?_)
   ·replace h := bif_t hb7 h
    refine aw_sr ?_
    refine al_as rfl rfl ?_
    refine al_as rfl rfl ?_
    refine al_nt ?_
    refine aw_ret ?_
    refine aq_then_ret ?_
    refine aq_nilR 56 (tyOpt tyS_lumref_mark) ?_
    obtain rfl := Option.some.inj h
    exact fn_ret nS [0] [] rfl rfl rfl rfl (res2 rfl rfl rfl) rfl rfl rfl (by decide)
   ·replace h := bif_f hb7 h
    refine aw_skip ?_
    refine aq_tr ?_
    refine al_as rfl rfl ?_
    refine al_nt ?_
    obtain ⟨kk9, hkk9, h⟩ := lt_some h
    refine aw_seq_join (ι := Value × (List (Option (List S_lumref_mark)))) (fun i => (memOf w0 Z0 [] [(oRow i.1 56 (tyOpt tyS_lumref_mark) i.2)] [])) (fun i => (tab [(6, i.1)])) (fun i => kk9 i.2 = some r) ?_ ?_
    ·rintro ⟨j8v6, j8x6⟩ h
     have h : kk9 j8x6 = some r := h
     rw [hkk9] at h
     dsimp only at h
     clear hkk9
     refine aw_show (m := (memOf w0 Z0 [] [(oRow j8v6 56 (tyOpt tyS_lumref_mark) j8x6)] [])) (S := (tab [(6, j8v6)])) ?_
     refine aw_sr ?_
     refine al_mv rfl rfl ?_
     refine al_as rfl rfl ?_
     refine al_as rfl rfl ?_
     refine al_nt ?_
     refine aw_ret ?_
     obtain rfl := Option.some.inj h
     exact fn_ret j8v6 [0] [] rfl rfl rfl rfl (res2 rfl rfl rfl) rfl rfl rfl (by decide)
    ·clear hkk9
     refine aw_sr ?_
     refine al_mv rfl rfl ?_
     obtain ⟨hc10, h⟩ := req_some h
     refine al_val (ov_strFrom hc10.1 hc10.2 Tryd.underlying9 rfl rfl rfl) ?_
     obtain ⟨r12, hc11, h⟩ := opt_some h
     refine al_call (vs := [(str (a0.drop ((1 : Int)).toNat))]) (f_lumref_cutAt_ok fu (a0.drop ((1 : Int)).toNat) hc11) [] [] [] pre_nil rfl (by simp) (by decide) (.inl rfl) rfl Tryd.func26 rfl rfl rfl (fun v13 => ?_)
     refine al_val (ov_lenR 0 rfl rfl Tryd.underlying22 rfl) ?_
     refine al_mv rfl rfl ?_
     refine al_nt ?_
     refine aw_block ?_
     refine aw_nilR 56 (tyOpt tyS_lumref_mark) ?_
     refine aw_state (aw_loop (ι := Value × (List (Option (List S_lumref_mark))) × Int) (fun i => (memOf w0 Z0 [] [(oRow i.1 56 (tyOpt tyS_lumref_mark) i.2.1), (oRow v13 9 tyStr r12)] [])) (fun i => (tab [(6, i.1), (34, v13), (35, (iq (r12.length : Int))), (36, (iq i.2.2))])) (fun q i => f_lumref_Pattern_L16 kk9 r12 fu q i.2.1 i.2.2 = some r) ?_ fu (nS, ([] : List (Option (List S_lumref_mark))), (0 : Int)) h) (fun w a hm hs => norm hm hs [0, 1] [] [(6, nS), (34, v13), (35, (iq (r12.length : Int))), (36, (iq (0 : Int)))] (by decide) ⟨rfl, rfl, rfl, rfl, trivial⟩)
     clear h
     rintro k15 ⟨l14v6, l14x6, l14i36⟩ h
     have h : f_lumref_Pattern_L16 kk9 r12 fu k15 l14x6 l14i36 = some r := h
     obtain _ | k15 := k15
     · rw [f_lumref_Pattern_L16] at h; cases h
     rw [f_lumref_Pattern_L16] at h
     refine aw_show (m := (memOf w0 Z0 [] [(oRow l14v6 56 (tyOpt tyS_lumref_mark) l14x6), (oRow v13 9 tyStr r12)] [])) (S := (tab [(6, l14v6), (34, v13), (35, (iq (r12.length : Int))), (36, (iq l14i36))])) ?_
     refine aw_sr ?_
     refine al_in rfl rfl rfl rfl ?_
     refine al_nt ?_
     refine aw_seq ?_
     refine aw_cond rfl (fun hb17 => ?_) (fun hb17 => ?_)
     ·replace h := bif_t hb17 h
      refine aw_skip ?_
      refine aq_then ?_
      obtain ⟨kk19, hkk19, h⟩ := lt_some h
      refine aw_seq_join (ι := Value × (List (Option (List S_lumref_mark)))) (fun i => (memOf w0 Z0 [] [(oRow i.1 56 (tyOpt tyS_lumref_mark) i.2), (oRow v13 9 tyStr r12)] [])) (fun i => (tab [(6, i.1), (34, v13), (35, (iq (r12.length : Int))), (36, (iq l14i36))])) (fun i => kk19 i.2 = some r) ?_ ?_
      ·rintro ⟨j18v6, j18x6⟩ h
       have h : kk19 j18x6 = some r := h
       rw [hkk19] at h
       dsimp only at h
       clear hkk19
       refine aw_show (m := (memOf w0 Z0 [] [(oRow j18v6 56 (tyOpt tyS_lumref_mark) j18x6), (oRow v13 9 tyStr r12)] [])) (S := (tab [(6, j18v6), (34, v13), (35, (iq (r12.length : Int))), (36, (iq l14i36))])) ?_
       refine aw_region ?_
       refine al_in rfl rfl rfl rfl ?_
       refine al_mv rfl rfl ?_
       refine al_nil ?_
       exact aq_again k15 (j18v6, j18x6, (wq (l14i36 + (1 : Int)))) (Nat.lt_succ_self _) h (fun w a hm hs => norm hm hs [0, 1] [] [(6, j18v6), (34, v13), (35, (iq (r12.length : Int))), (36, (iq (wq (l14i36 + (1 : Int)))))] (by decide) ⟨rfl, rfl, rfl, rfl, trivial⟩)
      ·clear hkk19
       refine aw_block ?_
       refine aw_sr ?_
       obtain ⟨u20, hu21, h⟩ := opt_some h
       refine al_idxR 1 (at_some hu21).1 (at_some hu21).2.1 rfl rfl rfl Tryd.underlying22 sz9 rfl (fun p22 hp23 => ?_)
       refine al_val (ov_loadR (ds := [(str u20)]) 1 rfl hp23 (at_some hu21).2.2 (fun h => h) rfl Tryd.underlying9 sz9 rfl rfl rfl) ?_
       refine al_as rfl rfl ?_
       refine al_nt ?_
       refine aw_seq ?_
       refine aw_sr ?_
       refine al_mv rfl rfl ?_
       refine al_val (ov_strCmp rfl rfl rfl rfl) ?_
       refine al_nt ?_
       refine aw_cond rfl (fun hb24 => ?_) (fun hb24 => ?_)
       ·replace h := bif_t hb24 h
        refine aw_sr ?_
        refine al_mv rfl rfl ?_
        refine al_buildSlice (τ := (tyOpt tyS_lumref_mark)) (e := 56) (k := 1) (sz := 0) (by_ := 0) (z := undef) (cs := [nS]) (xs := [(none : (Option (List S_lumref_mark)))]) rfl (by decide) (fun w a hm hs => ⟨([nS]).toArray, rfl, by simp only [List.map_toArray, List.map_cons, List.map_nil, hs.ev (x := .const nS) rfl]; exact run_bs [nS] [nS] Tryd.underlying27 to56 rfl rfl (bs_cons (l := [nS]) (cs := []) (cv_rfl rfl) rfl bs_nil) hm⟩) (fun hm => ⟨_, _, rfl, (fun _ => rfl) hm, rfl⟩) rfl (fun v25 => ?_)
        obtain ⟨hc26, h⟩ := req_some h
        refine al_append 1 hc26.1 hc26.2 rfl (src_own (i := 1) 0 rfl) rfl rfl Tryd.underlying27 to56 rfl rfl rfl (fun v27 => ?_)
        refine al_as rfl rfl ?_
        refine al_nt ?_
        refine aw_exit ?_
        refine aq_then_exit ?_
        refine aq_block_exit ?_
        exact aq_join (v27, (l14x6 ++ ([(none : (Option (List S_lumref_mark)))]))) h (fun w a hm hs => norm hm hs [1, 2] [] [(6, v27), (34, v13), (35, (iq (r12.length : Int))), (36, (iq l14i36))] (by decide) ⟨rfl, rfl, rfl, rfl, trivial⟩)
       ·replace h := bif_f hb24 h
        refine aw_skip ?_
        refine aq_tr ?_
        refine al_mv rfl rfl ?_
        obtain ⟨r29, hc28, h⟩ := opt_some h
        refine al_call (vs := [(str u20)]) (f_lumref_Chars_ok fu u20 hc28) [] [] [0, 1] pre_nil rfl (by simp) (by decide) (.inl rfl) rfl Tryd.func25 rfl rfl rfl (fun v30 => ?_)
        refine al_mv rfl rfl ?_
        refine al_ex rfl rfl rfl ?_
        refine al_ex rfl rfl rfl ?_
        refine al_as rfl rfl ?_
        refine al_as rfl rfl ?_
        refine al_nt ?_
        refine aw_sr ?_
        refine al_mv rfl rfl ?_
        refine al_freeze 0 rfl rfl ?_
        obtain ⟨r32, hc31, h⟩ := opt_some h
        refine al_call (vs := [v30]) (f_lumref_marks_ok fu v30 r29.1 hc31) [] [] [0, 1] (pre_fz 0 rfl pre_nil) rfl (by simp) (by decide) (.inl rfl) rfl Tryd.func27 rfl rfl rfl (fun v33 => ?_)
        refine al_mv rfl rfl ?_
        refine al_ex rfl rfl rfl ?_
        refine al_ex rfl rfl rfl ?_
        refine al_as rfl rfl ?_
        refine al_as rfl rfl ?_
        refine al_nt ?_
        refine aw_seq ?_
        refine aw_sr ?_
        refine al_mv rfl rfl ?_
        refine al_val (ov_not rfl rfl) ?_
        refine al_nt ?_
        refine aw_cond rfl (fun hb34 => ?_) (fun hb34 => ?_)
        ·replace h := bif_t hb34 h
         refine aw_sr ?_
         refine al_as rfl rfl ?_
         refine al_as rfl rfl ?_
         refine al_nt ?_
         refine aw_ret ?_
         refine aq_then_ret ?_
         refine aq_block_ret ?_
         refine aq_then_ret ?_
         refine aq_then_ret ?_
         refine aq_block_ret ?_
         refine aq_then_ret ?_
         refine aq_nilR 56 (tyOpt tyS_lumref_mark) ?_
         obtain rfl := Option.some.inj h
         exact fn_ret nS [0] [] rfl rfl rfl rfl (res2 rfl rfl rfl) rfl rfl rfl (by decide)
        ·replace h := bif_f hb34 h
         refine aw_skip ?_
         refine aq_then ?_
         refine aw_region ?_
         refine al_mv rfl rfl ?_
         refine al_mv rfl rfl ?_
         refine al_freeze 0 rfl rfl ?_
         obtain ⟨hc36, h⟩ := req_some h
         refine al_buildSlice (τ := (tyOpt tyS_lumref_mark)) (e := 56) (k := 1) (sz := 0) (by_ := 0) (z := undef) (cs := [v33]) (xs := [(some r32.1)]) rfl (by decide) (fun w a hm hs => ⟨([v33]).toArray, rfl, by simp only [List.map_toArray, List.map_cons, List.map_nil, hs.ev (x := .tmp 58) rfl]; exact run_bs [v33] [v33] Tryd.underlying27 to56 rfl rfl (bs_cons (l := [v33]) (cs := []) (cv_fz 0 rfl) rfl bs_nil) hm⟩) (fun hm => ⟨_, _, rfl, (fun hm => ⟨hc36, fz_at (i := 0) hm rfl⟩) hm, rfl⟩) rfl (fun v35 => ?_)
         obtain ⟨hc37, h⟩ := req_some h
         refine al_append 1 hc37.1 hc37.2 rfl (src_own (i := 1) 0 rfl) rfl rfl Tryd.underlying27 to56 rfl rfl rfl (fun v38 => ?_)
         refine al_as rfl rfl ?_
         refine al_nil ?_
         refine aq_block ?_
         exact aq_join (v38, (l14x6 ++ ([(some r32.1)]))) h (fun w a hm hs => norm hm hs [1, 2] [] [(6, v38), (34, v13), (35, (iq (r12.length : Int))), (36, (iq l14i36))] (by decide) ⟨rfl, rfl, rfl, rfl, trivial⟩)
     ·replace h := bif_f hb17 h
      refine aw_exit ?_
      refine aq_then_exit ?_
      refine aq_then_exit ?_
      refine aq_block_exit ?_
      exact aq_join (l14v6, l14x6) h (fun w a hm hs => norm hm hs [0] [] [(6, l14v6)] (by decide) ⟨rfl, trivial⟩)
  ·clear hkk6
   refine aw_region ?_
   refine al_mv rfl rfl ?_
   refine al_val (ov_not rfl rfl) ?_
   refine al_mv rfl rfl ?_
   refine al_caseB 23 rfl (fun hb39 => ?_) (fun hb39 => ?_)
   ·replace h := bif_t hb39 h
    refine al_skip ?_
    refine al_skip ?_
    refine al_val (ov_pick_t rfl rfl rfl) ?_
    refine al_mv rfl rfl ?_
    refine al_skip ?_
    refine al_skip ?_
    refine al_skip ?_
    refine al_val (ov_pick_t rfl rfl rfl) ?_
    refine al_nil ?_
    exact aq_join true h (fun w a hm hs => norm hm hs [] [] [(0, (str a0)), (31, (bool true))] (by decide) ⟨rfl, rfl, trivial⟩)
   ·replace h := bif_f hb39 h
    refine al_mv rfl rfl ?_
    refine al_val (ov_strCmp rfl rfl rfl rfl) ?_
    refine al_val (ov_pick_f rfl rfl rfl) ?_
    refine al_mv rfl rfl ?_
    refine al_caseB 27 rfl (fun hb40 => ?_) (fun hb40 => ?_)
    ·replace h := bif_t hb40 h
     refine al_skip ?_
     refine al_skip ?_
     refine al_skip ?_
     refine al_val (ov_pick_t rfl rfl rfl) ?_
     refine al_nil ?_
     exact aq_join true h (fun w a hm hs => norm hm hs [] [] [(0, (str a0)), (31, (bool true))] (by decide) ⟨rfl, rfl, trivial⟩)
    ·replace h := bif_f hb40 h
     refine al_mv rfl rfl ?_
     obtain ⟨hc41, h⟩ := req_some h
     refine al_val (ov_strIdx hc41.1 hc41.2 Tryd.underlying9 rfl rfl rfl) ?_
     refine al_in rfl rfl rfl rfl ?_
     refine al_val (ov_pick_f rfl rfl rfl) ?_
     refine al_nil ?_
     exact aq_join ((En.bAt a0 (0 : Int)) != (47 : Int)) h (fun w a hm hs => norm hm hs [] [] [(0, (str a0)), (31, (bool ((En.bAt a0 (0 : Int)) != (47 : Int))))] (by decide) ⟨rfl, rfl, trivial⟩)
def f_lumref_Name_L12 (r2 : ((List Int) × Bool)) (kk8 : (Unit → Option Int)) : Nat → Int → Option Int
  | 0, _ => none
  | k11 + 1, l10i29 => (bif (decide (l10i29 < (r2.1.length : Int))) then (opt (at? r2.1 l10i29) fun (u14 : Int) => (lt (fun (j18b42 : Bool) => (bif j18b42 then (some (8 : Int)) else (f_lumref_Name_L12 r2 kk8 k11 (IntKind.i64.wrap (l10i29 + (1 : Int)))))) fun (kk19 : Bool → Option Int) => (bif (u14 == (47 : Int)) then (kk19 true) else (bif (decide (u14 < (32 : Int))) then (kk19 true) else (kk19 (u14 == (127 : Int))))))) else (kk8 ()))
def f_lumref_Name (fu : Nat) (a0 : (List UInt8)) : Option Int := (opt (f_lumref_Chars fu a0) fun (r2 : ((List Int) × Bool)) => (lt (fun (j4b26 : Bool) => (bif j4b26 then (some (8 : Int)) else (lt (fun (_ : Unit) => (bif (decide ((r2.1.length : Int) > (24 : Int))) then (some (2 : Int)) else (some (0 : Int)))) fun (kk8 : Unit → Option Int) => (f_lumref_Name_L12 r2 kk8 fu (0 : Int))))) fun (kk5 : Bool → Option Int) => (bif (!r2.2) then (kk5 true) else (bif ((r2.1.length : Int) == (0 : Int)) then (kk5 true) else (bif (a0 == ([46] : List UInt8)) then (kk5 true) else (kk5 (a0 == ([46, 46] : List UInt8))))))))
set_option maxHeartbeats 2000000 in
set_option maxRecDepth 100000 in
theorem f_lumref_Name_ok (fu : Nat) (a0 : (List UInt8)) {r : Int} (h : f_lumref_Name fu a0 = some r) : FnOk Tryd.prog 80 [(str a0)] [] [] (fun (i : Unit) => { val := (int .i64 r) }) := by
 unfold f_lumref_Name at h
 refine fn_enter Tryd.func80 rfl Tryd.ntmps80 rfl (fun w0 Z0 => ?_)
 refine aw_sr ?_
 refine al_as rfl rfl ?_
 refine al_nt ?_
 refine aw_sr ?_
 refine al_mv rfl rfl ?_
 obtain ⟨r2, hc1, h⟩ := opt_some h
 refine al_call (vs := [(str a0)]) (f_lumref_Chars_ok fu a0 hc1) [] [] [] pre_nil rfl (by simp) (by decide) (.inl rfl) rfl Tryd.func25 rfl rfl rfl (fun v3 => ?_)
 refine al_mv rfl rfl ?_
 refine al_ex rfl rfl rfl ?_
 refine al_ex rfl rfl rfl ?_
 refine al_as rfl rfl ?_
 refine al_as rfl rfl ?_
 refine al_nt ?_
 refine aw_seq ?_
 obtain ⟨kk5, hkk5, h⟩ := lt_some h
 refine aw_seq_join (ι := Bool) (fun i => (memOf w0 Z0 [] [(oRow v3 3 tq r2.1)] [])) (fun i => (tab [(3, v3), (26, (bool i))])) (fun i => kk5 i = some r) ?_ ?_
 ·rintro j4b26 h
  have h : kk5 j4b26 = some r := h
  rw [hkk5] at h
  dsimp only at h
  clear hkk5
  refine aw_show (m := (memOf w0 Z0 [] [(oRow v3 3 tq r2.1)] [])) (S := (tab [(3, v3), (26, (bool j4b26))])) ?_
  refine aw_cond rfl (fun hb6 => ?_) (fun hb6 => ?_)
  ·replace h := bif_t hb6 h
   refine aw_sr ?_
   refine al_as rfl rfl ?_
   refine al_nt ?_
   refine aw_ret ?_
   refine aq_then_ret ?_
   obtain rfl := Option.some.inj h
   exact fn_ret () [] [] rfl rfl rfl rfl (res1 rfl rfl) rfl rfl rfl (by decide)
  ·replace h := bif_f hb6 h
   refine aw_skip ?_
   refine aq_then ?_
   obtain ⟨kk8, hkk8, h⟩ := lt_some h
   refine aw_seq_join (ι := Unit) (fun i => (memOf w0 Z0 [] [(oRow v3 3 tq r2.1)] [])) (fun i => (tab [(3, v3)])) (fun i => kk8 () = some r) ?_ ?_
   ·rintro _ h
    have h : kk8 () = some r := h
    rw [hkk8] at h
    dsimp only at h
    clear hkk8
    refine aw_show (m := (memOf w0 Z0 [] [(oRow v3 3 tq r2.1)] [])) (S := (tab [(3, v3)])) ?_
    refine aw_seq ?_
    refine aw_sr ?_
    refine al_mv rfl rfl ?_
    refine al_val (ov_lenR 0 rfl rfl Tryd.underlying52 rfl) ?_
    refine al_in rfl rfl rfl rfl ?_
    refine al_nt ?_
    refine aw_cond rfl (fun hb9 => ?_) (fun hb9 => ?_)
    ·replace h := bif_t hb9 h
     refine aw_sr ?_
     refine al_as rfl rfl ?_
     refine al_nt ?_
     refine aw_ret ?_
     refine aq_then_ret ?_
     obtain rfl := Option.some.inj h
     exact fn_ret () [] [] rfl rfl rfl rfl (res1 rfl rfl) rfl rfl rfl (by decide)
    ·replace h := bif_f hb9 h
     refine aw_skip ?_
     refine aq_tr ?_
     refine al_as rfl rfl ?_
     refine al_nt ?_
     refine aw_ret ?_
     obtain rfl := Option.some.inj h
     exact fn_ret () [] [] rfl rfl rfl rfl (res1 rfl rfl) rfl rfl rfl (by decide)
   ·clear hkk8
    refine aw_sr ?_
    refine al_mv rfl rfl ?_
    refine al_val (ov_lenR 0 rfl rfl Tryd.underlying52 rfl) ?_
    refine al_mv rfl rfl ?_
    refine al_nt ?_
    refine aw_block ?_
    refine aw_state (aw_loop (ι := Int) (fun i => (memOf w0 Z0 [] [(oRow v3 3 tq r2.1)] [])) (fun i => (tab [(3, v3), (27, v3), (28, (iq (r2.1.length : Int))), (29, (iq i))])) (fun q i => f_lumref_Name_L12 r2 kk8 q i = some r) ?_ fu (0 : Int) h) (fun w a hm hs => norm hm hs [0] [] [(3, v3), (27, v3), (28, (iq (r2.1.length : Int))), (29, (iq (0 : Int)))] (by decide) ⟨rfl, rfl, rfl, rfl, trivial⟩)
    clear h
    rintro k11 l10i29 h
    have h : f_lumref_Name_L12 r2 kk8 k11 l10i29 = some r := h
    obtain _ | k11 := k11
    · rw [f_lumref_Name_L12] at h; cases h
    rw [f_lumref_Name_L12] at h
    refine aw_show (m := (memOf w0 Z0 [] [(oRow v3 3 tq r2.1)] [])) (S := (tab [(3, v3), (27, v3), (28, (iq (r2.1.length : Int))), (29, (iq l10i29))])) ?_
    refine aw_sr ?_
    refine al_in rfl rfl rfl rfl ?_
    refine al_nt ?_
    refine aw_seq ?_
    refine aw_cond rfl (fun hb13 => ?_) (fun hb13 => ?_)
    ·replace h := bif_t hb13 h
     refine aw_skip ?_
     refine aq_then ?_
     refine aw_seq ?_
     refine aw_block ?_
     refine aw_sr ?_
     obtain ⟨u14, hu15, h⟩ := opt_some h
     refine al_idxR 0 (at_some hu15).1 (at_some hu15).2.1 rfl rfl rfl Tryd.underlying52 sz3 rfl (fun p16 hp17 => ?_)
     refine al_val (ov_loadR (ds := [(iq u14)]) 0 rfl hp17 (at_some hu15).2.2 (fun h => h) rfl Tryd.underlying3 sz3 rfl rfl rfl) ?_
     refine al_as rfl rfl ?_
     refine al_nt ?_
     obtain ⟨kk19, hkk19, h⟩ := lt_some h
     refine aw_seq_join (ι := Bool) (fun i => (memOf w0 Z0 [] [(oRow v3 3 tq r2.1)] [])) (fun i => (tab [(3, v3), (27, v3), (28, (iq (r2.1.length : Int))), (29, (iq l10i29)), (42, (bool i))])) (fun i => kk19 i = some r) ?_ ?_
     ·rintro j18b42 h
      have h : kk19 j18b42 = some r := h
      rw [hkk19] at h
      dsimp only at h
      clear hkk19
      refine aw_show (m := (memOf w0 Z0 [] [(oRow v3 3 tq r2.1)] [])) (S := (tab [(3, v3), (27, v3), (28, (iq (r2.1.length : Int))), (29, (iq l10i29)), (42, (bool j18b42))])) ?_
      refine aw_cond rfl (fun hb20 => ?_) (fun hb20 => ?_)
      ·replace h := bif_t hb20 h
       refine aw_sr ?_
       refine al_as rfl rfl ?_
       refine al_nt ?_
       refine aw_ret ?_
       refine aq_block_ret ?_
       refine aq_then_ret ?_
       refine aq_then_ret ?_
       refine aq_block_ret ?_
       refine aq_then_ret ?_
       obtain rfl := Option.some.inj h
       exact fn_ret () [] [] rfl rfl rfl rfl (res1 rfl rfl) rfl rfl rfl (by decide)
      ·replace h := bif_f hb20 h
       refine aw_skip ?_
       refine aq_block ?_
       refine aq_then ?_
       refine aw_region ?_
       refine al_in rfl rfl rfl rfl ?_
       refine al_mv rfl rfl ?_
       refine al_nil ?_
       exact aq_again k11 (wq (l10i29 + (1 : Int))) (Nat.lt_succ_self _) h (fun w a hm hs => norm hm hs [0] [] [(3, v3), (27, v3), (28, (iq (r2.1.length : Int))), (29, (iq (wq (l10i29 + (1 : Int)))))] (by decide) ⟨rfl, rfl, rfl, rfl, trivial⟩)
     ·clear hkk19
      refine aw_region ?_
      refine al_mv rfl rfl ?_
      refine al_in rfl rfl rfl rfl ?_
      refine al_mv rfl rfl ?_
      refine al_caseB 35 rfl (fun hb21 => ?_) (fun hb21 => ?_)
      ·replace h := bif_t hb21 h
       refine al_skip ?_
       refine al_skip ?_
       refine al_val (ov_pick_t rfl rfl rfl) ?_
       refine al_mv rfl rfl ?_
       refine al_skip ?_
       refine al_skip ?_
       refine al_val (ov_pick_t rfl rfl rfl) ?_
       refine al_nil ?_
       exact aq_join true h (fun w a hm hs => norm hm hs [0] [] [(3, v3), (27, v3), (28, (iq (r2.1.length : Int))), (29, (iq l10i29)), (42, (bool true))] (by decide) ⟨rfl, rfl, rfl, rfl, rfl, trivial⟩)
      ·replace h := bif_f hb21 h
       refine al_mv rfl rfl ?_
       refine al_in rfl rfl rfl rfl ?_
       refine al_val (ov_pick_f rfl rfl rfl) ?_
       refine al_mv rfl rfl ?_
       refine al_caseB 39 rfl (fun hb22 => ?_) (fun hb22 => ?_)
       ·replace h := bif_t hb22 h
        refine al_skip ?_
        refine al_skip ?_
        refine al_val (ov_pick_t rfl rfl rfl) ?_
        refine al_nil ?_
        exact aq_join true h (fun w a hm hs => norm hm hs [0] [] [(3, v3), (27, v3), (28, (iq (r2.1.length : Int))), (29, (iq l10i29)), (42, (bool true))] (by decide) ⟨rfl, rfl, rfl, rfl, rfl, trivial⟩)
       ·replace h := bif_f hb22 h
        refine al_mv rfl rfl ?_
        refine al_in rfl rfl rfl rfl ?_
        refine al_val (ov_pick_f rfl rfl rfl) ?_
        refine al_nil ?_
        exact aq_join (u14 == (127 : Int)) h (fun w a hm hs => norm hm hs [0] [] [(3, v3), (27, v3), (28, (iq (r2.1.length : Int))), (29, (iq l10i29)), (42, (bool (u14 == (127 : Int))))] (by decide) ⟨rfl, rfl, rfl, rfl, rfl, trivial⟩)
    ·replace h := bif_f hb13 h
     refine aw_exit ?_
     refine aq_then_exit ?_
     refine aq_then_exit ?_
     refine aq_block_exit ?_
     exact aq_join () h (fun w a hm hs => norm hm hs [0] [] [(3, v3)] (by decide) ⟨rfl, trivial⟩)
 ·clear hkk5
  refine aw_region ?_
  refine al_mv rfl rfl ?_
  refine al_val (ov_not rfl rfl) ?_
  refine al_mv rfl rfl ?_
  refine al_caseB 14 rfl (fun hb23 => ?_) (fun hb23 => ?_)
  ·replace h := bif_t hb23 h
   refine al_skip ?_
   refine al_skip ?_
   refine al_skip ?_
   refine al_val (ov_pick_t rfl rfl rfl) ?_
   refine al_mv rfl rfl ?_
   refine al_skip ?_
   refine al_skip ?_
   refine al_val (ov_pick_t rfl rfl rfl) ?_
   refine al_mv rfl rfl ?_
   refine al_skip ?_
   refine al_skip ?_
   refine al_val (ov_pick_t rfl rfl rfl) ?_
   refine al_nil ?_
   exact aq_join true h (fun w a hm hs => norm hm hs [0] [] [(3, v3), (26, (bool true))] (by decide) ⟨rfl, rfl, trivial⟩)
  ·replace h := bif_f hb23 h
   refine al_mv rfl rfl ?_
   refine al_val (ov_lenR 0 rfl rfl Tryd.underlying52 rfl) ?_
   refine al_in rfl rfl rfl rfl ?_
   refine al_val (ov_pick_f rfl rfl rfl) ?_
   refine al_mv rfl rfl ?_
   refine al_caseB 19 rfl (fun hb24 => ?_) (fun hb24 => ?_)
   ·replace h := bif_t hb24 h
    refine al_skip ?_
    refine al_skip ?_
    refine al_val (ov_pick_t rfl rfl rfl) ?_
    refine al_mv rfl rfl ?_
    refine al_skip ?_
    refine al_skip ?_
    refine al_val (ov_pick_t rfl rfl rfl) ?_
    refine al_nil ?_
    exact aq_join true h (fun w a hm hs => norm hm hs [0] [] [(3, v3), (26, (bool true))] (by decide) ⟨rfl, rfl, trivial⟩)
   ·replace h := bif_f hb24 h
    refine al_mv rfl rfl ?_
    refine al_val (ov_strCmp rfl rfl rfl rfl) ?_
    refine al_val (ov_pick_f rfl rfl rfl) ?_
    refine al_mv rfl rfl ?_
    refine al_caseB 23 rfl (fun hb25 => ?_) (fun hb25 => ?_)
    ·replace h := bif_t hb25 h
     refine al_skip ?_
     refine al_skip ?_
     refine al_val (ov_pick_t rfl rfl rfl) ?_
     refine al_nil ?_
     exact aq_join true h (fun w a hm hs => norm hm hs [0] [] [(3, v3), (26, (bool true))] (by decide) ⟨rfl, rfl, trivial⟩)
    ·replace h := bif_f hb25 h
     refine al_mv rfl rfl ?_
     refine al_val (ov_strCmp rfl rfl rfl rfl) ?_
     refine al_val (ov_pick_f rfl rfl rfl) ?_
     refine al_nil ?_
     exact aq_join (a0 == ([46, 46] : List UInt8)) h (fun w a hm hs => norm hm hs [0] [] [(3, v3), (26, (bool (a0 == ([46, 46] : List UInt8))))] (by decide) ⟨rfl, rfl, trivial⟩)
def f_lumref_nameErr_L5 (a0 : (List (List UInt8))) (kk2 : (Unit → Option Int)) (fu : Nat) : Nat → Int → Option Int
  | 0, _ => none
  | k4 + 1, l3i8 => (bif (decide (l3i8 < (a0.length : Int))) then (opt (at? a0 l3i8) fun (u7 : (List UInt8)) => (bif (decide (l3i8 ≥ (8 : Int))) then (some (14 : Int)) else (opt (f_lumref_Name fu u7) fun (r12 : Int) => (bif (r12 != (0 : Int)) then (some r12) else (f_lumref_nameErr_L5 a0 kk2 fu k4 (IntKind.i64.wrap (l3i8 + (1 : Int)))))))) else (kk2 ()))
def f_lumref_nameErr (fu : Nat) (a0 : (List (List UInt8))) : Option Int := (lt (fun (_ : Unit) => (some (0 : Int))) fun (kk2 : Unit → Option Int) => (f_lumref_nameErr_L5 a0 kk2 fu fu (0 : Int)))
set_option maxHeartbeats 2000000 in
set_option maxRecDepth 100000 in
theorem f_lumref_nameErr_ok (fu : Nat) (v0_0 : Value) (a0 : (List (List UInt8))) {r : Int} (h : f_lumref_nameErr fu a0 = some r) : FnOk Tryd.prog 50 [v0_0] [(fDat (tyList tyStr) [v0_0] a0)] [] (fun (i : Unit) => { val := (int .i64 r) }) := by
 unfold f_lumref_nameErr at h
 refine fn_enter Tryd.func50 rfl Tryd.ntmps50 rfl (fun w0 Z0 => ?_)
 refine aw_sr ?_
 refine al_as rfl rfl ?_
 refine al_nt ?_
 obtain ⟨kk2, hkk2, h⟩ := lt_some h
 refine aw_seq_join (ι := Unit) (fun i => (memOf w0 Z0 [] [] [(fDat (tyList tyStr) [v0_0] a0)])) (fun i => (tab [])) (fun i => kk2 () = some r) ?_ ?_
 ·rintro _ h
  have h : kk2 () = some r := h
  rw [hkk2] at h
  dsimp only at h
  clear hkk2
  refine aw_show (m := (memOf w0 Z0 [] [] [(fDat (tyList tyStr) [v0_0] a0)])) (S := (tab [])) ?_
  refine aw_sr ?_
  refine al_as rfl rfl ?_
  refine al_nt ?_
  refine aw_ret ?_
  obtain rfl := Option.some.inj h
  exact fn_ret () [] [] rfl rfl rfl rfl (res1 rfl rfl) rfl rfl rfl (by decide)
 ·clear hkk2
  refine aw_sr ?_
  refine al_mv rfl rfl ?_
  refine al_val (ov_lenD 0 rfl rfl Tryd.underlying22 rfl) ?_
  refine al_mv rfl rfl ?_
  refine al_nt ?_
  refine aw_block ?_
  refine aw_state (aw_loop (ι := Int) (fun i => (memOf w0 Z0 [] [] [(fDat (tyList tyStr) [v0_0] a0)])) (fun i => (tab [(6, v0_0), (7, (iq (a0.length : Int))), (8, (iq i))])) (fun q i => f_lumref_nameErr_L5 a0 kk2 fu q i = some r) ?_ fu (0 : Int) h) (fun w a hm hs => norm hm hs [] [0] [(6, v0_0), (7, (iq (a0.length : Int))), (8, (iq (0 : Int)))] (by decide) ⟨rfl, rfl, rfl, trivial⟩)
  clear h
  rintro k4 l3i8 h
  have h : f_lumref_nameErr_L5 a0 kk2 fu k4 l3i8 = some r := h
  obtain _ | k4 := k4
  · rw [f_lumref_nameErr_L5] at h; cases h
  rw [f_lumref_nameErr_L5] at h
  refine aw_show (m := (memOf w0 Z0 [] [] [(fDat (tyList tyStr) [v0_0] a0)])) (S := (tab [(6, v0_0), (7, (iq (a0.length : Int))), (8, (iq l3i8))])) ?_
  refine aw_sr ?_
  refine al_in rfl rfl rfl rfl ?_
  refine al_nt ?_
  refine aw_seq ?_
  refine aw_cond rfl (fun hb6 => ?_) (fun hb6 => ?_)
  ·replace h := bif_t hb6 h
   refine aw_skip ?_
   refine aq_then ?_
   refine aw_seq ?_
   refine aw_block ?_
   refine aw_sr ?_
   refine al_mv rfl rfl ?_
   obtain ⟨u7, hu8, h⟩ := opt_some h
   refine al_idxD 0 hu8 rfl rfl rfl Tryd.underlying22 sz9 rfl (fun p9 => ?_)
   refine al_val (ov_loadP (ds := [(str u7)]) 0 rfl (fun h => h) rfl Tryd.underlying9 sz9 rfl rfl rfl) ?_
   refine al_as rfl rfl ?_
   refine al_as rfl rfl ?_
   refine al_nt ?_
   refine aw_seq ?_
   refine aw_sr ?_
   refine al_mv rfl rfl ?_
   refine al_in rfl rfl rfl rfl ?_
   refine al_nt ?_
   refine aw_cond rfl (fun hb10 => ?_) (fun hb10 => ?_)
   ·replace h := bif_t hb10 h
    refine aw_sr ?_
    refine al_as rfl rfl ?_
    refine al_nt ?_
    refine aw_ret ?_
    refine aq_then_ret ?_
    refine aq_block_ret ?_
    refine aq_then_ret ?_
    refine aq_then_ret ?_
    refine aq_block_ret ?_
    refine aq_then_ret ?_
    obtain rfl := Option.some.inj h
    exact fn_ret () [] [] rfl rfl rfl rfl (res1 rfl rfl) rfl rfl rfl (by decide)
   ·replace h := bif_f hb10 h
    refine aw_skip ?_
    refine aq_tr ?_
    refine al_mv rfl rfl ?_
    obtain ⟨r12, hc11, h⟩ := opt_some h
    refine al_call (vs := [(str u7)]) (f_lumref_Name_ok fu u7 hc11) [] [] [] pre_nil rfl (by simp) (by decide) (.inl rfl) rfl Tryd.func80 rfl rfl rfl (fun _ => ?_)
    refine al_as rfl rfl ?_
    refine al_nt ?_
    refine aw_sr ?_
    refine al_mv rfl rfl ?_
    refine al_in rfl rfl rfl rfl ?_
    refine al_nt ?_
    refine aw_cond rfl (fun hb13 => ?_) (fun hb13 => ?_)
    ·replace h := bif_t hb13 h
     refine aw_sr ?_
     refine al_mv rfl rfl ?_
     refine al_as rfl rfl ?_
     refine al_nt ?_
     refine aw_ret ?_
     refine aq_block_ret ?_
     refine aq_then_ret ?_
     refine aq_then_ret ?_
     refine aq_block_ret ?_
     refine aq_then_ret ?_
     obtain rfl := Option.some.inj h
     exact fn_ret () [] [] rfl rfl rfl rfl (res1 rfl rfl) rfl rfl rfl (by decide)
    ·replace h := bif_f hb13 h
     refine aw_skip ?_
     refine aq_block ?_
     refine aq_then ?_
     refine aw_region ?_
     refine al_in rfl rfl rfl rfl ?_
     refine al_mv rfl rfl ?_
     refine al_nil ?_
     exact aq_again k4 (wq (l3i8 + (1 : Int))) (Nat.lt_succ_self _) h (fun w a hm hs => norm hm hs [] [1] [(6, v0_0), (7, (iq (a0.length : Int))), (8, (iq (wq (l3i8 + (1 : Int)))))] (by decide) ⟨rfl, rfl, rfl, trivial⟩)
  ·replace h := bif_f hb6 h
   refine aw_exit ?_
   refine aq_then_exit ?_
   refine aq_then_exit ?_
   refine aq_block_exit ?_
   exact aq_join () h (fun w a hm hs => norm hm hs [] [0] [] (by decide) trivial)
def f_lumref_Split (fu : Nat) (a0 : (List UInt8)) : Option ((List (List UInt8)) × Int) := (lt (fun (j1b12 : Bool) => (bif j1b12 then (some (([] : List (List UInt8)), (8 : Int))) else (bif (a0 == ([47] : List UInt8)) then (some (([] : List (List UInt8)), (0 : Int))) else (req (0 ≤ (1 : Int) ∧ (1 : Int) ≤ (a0.length : Int)) (opt (f_lumref_cutAt fu (a0.drop ((1 : Int)).toNat)) fun (r7 : (List (List UInt8))) => (opt (f_lumref_nameErr fu r7) fun (r10 : Int) => (bif (r10 != (0 : Int)) then (some (([] : List (List UInt8)), r10)) else (some (r7, (0 : Int)))))))))) fun (kk2 : Bool → Option ((List (List UInt8)) × Int)) => (bif (a0 == ([] : List UInt8)) then (kk2 true) else (req (0 ≤ (0 : Int) ∧ (0 : Int) < (a0.length : Int)) (kk2 ((En.bAt a0 (0 : Int)) != (47 : Int))))))
set_option maxHeartbeats 2000000 in
set_option maxRecDepth 100000 in
theorem f_lumref_Split_ok (fu : Nat) (a0 : (List UInt8)) {r : ((List (List UInt8)) × Int)} (h : f_lumref_Split fu a0 = some r) : FnOk Tryd.prog 23 [(str a0)] [] [] (fun (i : Value) => { val := (Value.tuple #[i, (int .i64 r.2)]), own := [(oRow i 9 tyStr r.1)] }) := by
 unfold f_lumref_Split at h
 refine fn_enter Tryd.func23 rfl Tryd.ntmps23 rfl (fun w0 Z0 => ?_)
 refine aw_sr ?_
 refine al_as rfl rfl ?_
 refine al_as rfl rfl ?_
 refine al_nt ?_
 refine aw_seq ?_
 obtain ⟨kk2, hkk2, h⟩ := lt_some h
 refine aw_seq_join (ι := Bool) (fun i => (memOf w0 Z0 [] [] [])) (fun i => (tab [(0, (str a0)), (12, (bool i))])) (fun i => kk2 i = some r) ?_ ?_
 ·rintro j1b12 h
  have h : kk2 j1b12 = some r := h
  rw [hkk2] at h
  dsimp only at h
  clear hkk2
  refine aw_show (m := (memOf w0 Z0 [] [] [])) (S := (tab [(0, (str a0)), (12, (bool j1b12))])) ?_
  refine aw_cond rfl (fun hb3 => ?_) (fun hb3 => ?_)
  ·replace h := bif_t hb3 h
   refine aw_sr ?_
   refine al_as rfl rfl ?_
   refine al_as rfl rfl ?_
   refine al_nt ?_
   refine aw_ret ?_
   refine aq_then_ret ?_
   refine aq_nilR 9 tyStr ?_
   obtain rfl := Option.some.inj h
   exact fn_ret nS [0] [] rfl rfl rfl rfl (res2 rfl rfl rfl) rfl rfl rfl (by decide)
  ·replace h := bif_f hb3 h
   refine aw_skip ?_
   refine aq_then ?_
   refine aw_seq ?_
   refine aw_sr ?_
   refine al_mv rfl rfl ?_
   refine al_val (ov_strCmp rfl rfl rfl rfl) ?_
   refine al_nt ?_
   refine aw_cond rfl (fun hb4 => ?_) (fun hb4 => ?_)
   ·replace h := bif_t hb4 h
    refine aw_sr ?_
    refine al_as rfl rfl ?_
    refine al_as rfl rfl ?_
    refine al_nt ?_
    refine aw_ret ?_
    refine aq_then_ret ?_
    refine aq_nilR 9 tyStr ?_
    obtain rfl := Option.some.inj h
    exact fn_ret nS [0] [] rfl rfl rfl rfl (res2 rfl rfl rfl) rfl rfl rfl (by decide)
   ·replace h := bif_f hb4 h
    refine aw_skip ?_
    refine aq_tr ?_
    refine al_mv rfl rfl ?_
    obtain ⟨hc5, h⟩ := req_some h
    refine al_val (ov_strFrom hc5.1 hc5.2 Tryd.underlying9 rfl rfl rfl) ?_
    obtain ⟨r7, hc6, h⟩ := opt_some h
    refine al_call (vs := [(str (a0.drop ((1 : Int)).toNat))]) (f_lumref_cutAt_ok fu (a0.drop ((1 : Int)).toNat) hc6) [] [] [] pre_nil rfl (by simp) (by decide) (.inl rfl) rfl Tryd.func26 rfl rfl rfl (fun v8 => ?_)
    refine al_as rfl rfl ?_
    refine al_nt ?_
    refine aw_seq ?_
    refine aw_sr ?_
    refine al_mv rfl rfl ?_
    obtain ⟨r10, hc9, h⟩ := opt_some h
    refine al_call (vs := [v8]) (f_lumref_nameErr_ok fu v8 r7 hc9) [0] [] [0] (pre_own 0 rfl rfl pre_nil) rfl (by simp) (by decide) (.inr flat_res0) rfl Tryd.func50 rfl rfl rfl (fun _ => ?_)
    refine al_as rfl rfl ?_
    refine al_nt ?_
    refine aw_sr ?_
    refine al_mv rfl rfl ?_
    refine al_in rfl rfl rfl rfl ?_
    refine al_nt ?_
    refine aw_cond rfl (fun hb11 => ?_) (fun hb11 => ?_)
    ·replace h := bif_t hb11 h
     refine aw_sr ?_
     refine al_mv rfl rfl ?_
     refine al_as rfl rfl ?_
     refine al_as rfl rfl ?_
     refine al_nt ?_
     refine aw_ret ?_
     refine aq_then_ret ?_
     refine aq_nilR 9 tyStr ?_
     obtain rfl := Option.some.inj h
     exact fn_ret nS [0] [] rfl rfl rfl rfl (res2 rfl rfl rfl) rfl rfl rfl (by decide)
    ·replace h := bif_f hb11 h
     refine aw_skip ?_
     refine aq_tr ?_
     refine al_mv rfl rfl ?_
     refine al_as rfl rfl ?_
     refine al_as rfl rfl ?_
     refine al_nt ?_
     refine aw_ret ?_
     obtain rfl := Option.some.inj h
     exact fn_ret v8 [0] [] rfl rfl rfl rfl (res2 rfl rfl rfl) rfl rfl rfl (by decide)
 ·clear hkk2
  refine aw_region ?_
  refine al_mv rfl rfl ?_
  refine al_val (ov_strCmp rfl rfl rfl rfl) ?_
  refine al_mv rfl rfl ?_
  refine al_caseB 8 rfl (fun hb12 => ?_) (fun hb12 => ?_)
  ·replace h := bif_t hb12 h
   refine al_skip ?_
   refine al_skip ?_
   refine al_skip ?_
   refine al_val (ov_pick_t rfl rfl rfl) ?_
   refine al_nil ?_
   exact aq_join true h (fun w a hm hs => norm hm hs [] [] [(0, (str a0)), (12, (bool true))] (by decide) ⟨rfl, rfl, trivial⟩)
  ·replace h := bif_f hb12 h
   refine al_mv rfl rfl ?_
   obtain ⟨hc13, h⟩ := req_some h
   refine al_val (ov_strIdx hc13.1 hc13.2 Tryd.underlying9 rfl rfl rfl) ?_
   refine al_in rfl rfl rfl rfl ?_
   refine al_val (ov_pick_f rfl rfl rfl) ?_
   refine al_nil ?_
   exact aq_join ((En.bAt a0 (0 : Int)) != (47 : Int)) h (fun w a hm hs => norm hm hs [] [] [(0, (str a0)), (12, (bool ((En.bAt a0 (0 : Int)) != (47 : Int))))] (by decide) ⟨rfl, rfl, trivial⟩)
def f_lumref_Fits_1 (fu : Nat) (a0 : Int) (a1 : (List (Option (List S_lumref_mark)))) : Option Bool := (opt (at? a1 a0) fun (u2 : (Option (List S_lumref_mark))) => (some (Option.isNone u2)))
set_option maxRecDepth 100000 in
theorem f_lumref_Fits_1_ok (fu : Nat) (a0 : Int) (c1 : Value) (a1 : (List (Option (List S_lumref_mark)))) {r : Bool} (h : f_lumref_Fits_1 fu a0 a1 = some r) : FnOk Tryd.prog 58 [(int .i64 a0), c1] [(fPtr (tyList (tyOpt tyS_lumref_mark)) c1 a1)] [] (fun (i : Unit) => { val := (bool r) }) := by
 unfold f_lumref_Fits_1 at h
 refine fn_enter Tryd.func58 rfl Tryd.ntmps58 rfl (fun w0 Z0 => ?_)
 refine aw_sr ?_
 refine al_as rfl rfl ?_
 refine al_nt ?_
 refine aw_sr ?_
 refine al_loadP1 0 rfl rfl Tryd.underlying27 sz27 rfl rfl rfl (fun s1 => ?_)
 refine al_mv rfl rfl ?_
 obtain ⟨u2, hu3, h⟩ := opt_some h
 refine al_idxD 0 hu3 rfl rfl rfl Tryd.underlying27 sz56 rfl (fun p4 => ?_)
 refine al_loadP1 0 rfl rfl Tryd.underlying56 sz56 rfl rfl rfl (fun s5 => ?_)
 refine al_optL 0 rfl ?_
 refine al_val (ov_isNilO 1 rfl rfl rfl Tryd.underlying56 rfl) ?_
 refine al_as rfl rfl ?_
 refine al_nt ?_
 refine aw_ret ?_
 obtain rfl := Option.some.inj h
 exact fn_ret () [] [] rfl rfl rfl rfl (res1 rfl rfl) rfl rfl rfl (by decide)
def f_lumref_partFits_1 (fu : Nat) (a0 : Int) (a1 : (List S_lumref_mark)) : Option Bool := (opt (at? a1 a0) fun (u2 : S_lumref_mark) => (some u2.star))
set_option maxRecDepth 100000 in
theorem f_lumref_partFits_1_ok (fu : Nat) (a0 : Int) (c1 : Value) (a1 : (List S_lumref_mark)) {r : Bool} (h : f_lumref_partFits_1 fu a0 a1 = some r) : FnOk Tryd.prog 84 [(int .i64 a0), c1] [(fPtr (tyList tyS_lumref_mark) c1 a1)] [] (fun (i : Unit) => { val := (bool r) }) := by
 unfold f_lumref_partFits_1 at h
 refine fn_enter Tryd.func84 rfl Tryd.ntmps84 rfl (fun w0 Z0 => ?_)
 refine aw_sr ?_
 refine al_as rfl rfl ?_
 refine al_nt ?_
 refine aw_sr ?_
 refine al_loadP1 0 rfl rfl Tryd.underlying56 sz56 rfl rfl rfl (fun s1 => ?_)
 refine al_mv rfl rfl ?_
 obtain ⟨u2, hu3, h⟩ := opt_some h
 refine al_idxD 0 hu3 rfl rfl rfl Tryd.underlying56 sz92 rfl (fun p4 => ?_)
 refine al_fieldD (pr := fun (y : S_lumref_mark) => y.star) 0 rfl subS_lumref_mark_0 rfl Tryd.underlying92 rfl sz4 rfl rfl (fun p5 => ?_)
 refine al_val (ov_loadP (ds := [(bool u2.star)]) 0 rfl (fun h => h) rfl Tryd.underlying4 sz4 rfl rfl rfl) ?_
 refine al_as rfl rfl ?_
 refine al_nt ?_
 refine aw_ret ?_
 obtain rfl := Option.some.inj h
 exact fn_ret () [] [] rfl rfl rfl rfl (res1 rfl rfl) rfl rfl rfl (by decide)
def f_lumref_partFits_2 (fu : Nat) (a0 : Int) (a1 : Int) (a2 : (List S_lumref_mark)) (a3 : (List Int)) : Option Bool := (opt (at? a2 a0) fun (u2 : S_lumref_mark) => (opt (at? a3 a1) fun (u8 : Int) => (match u2.ok with | .nil => none | .c53 b13 => (opt (f_lumref_marks_1 fu u8 b13) fun (r17 : Bool) => (some r17)) | .c54 => (opt (f_lumref_marks_2 fu u8) fun (r20 : Bool) => (some r20)) | .c56 b21 => (opt (f_lumref_marks_3 fu u8 b21) fun (r25 : Bool) => (some r25)) | .c83 b26 b27 b28 => (opt (f_lumref_class_1 fu u8 b26 b27 b28) fun (r34 : Bool) => (some r34)))))
set_option maxHeartbeats 2000000 in
set_option maxRecDepth 100000 in
theorem f_lumref_partFits_2_ok (fu : Nat) (a0 : Int) (a1 : Int) (c2 : Value) (a2 : (List S_lumref_mark)) (c3 : Value) (a3 : (List Int)) {r : Bool} (h : f_lumref_partFits_2 fu a0 a1 a2 a3 = some r) : FnOk Tryd.prog 85 [(int .i64 a0), (int .i64 a1), c2, c3] [(fPtr (tyList tyS_lumref_mark) c2 a2), (fPtr (tyList (tyInt .i64)) c3 a3)] [] (fun (i : Unit) => { val := (bool r) }) := by
 unfold f_lumref_partFits_2 at h
 refine fn_enter Tryd.func85 rfl Tryd.ntmps85 rfl (fun w0 Z0 => ?_)
 refine aw_sr ?_
 refine al_as rfl rfl ?_
 refine al_nt ?_
 refine aw_seq ?_
 obtain ⟨u2, hu3, h⟩ := opt_some h
 obtain ⟨u8, hu9, h⟩ := opt_some h
 refine aw_region_draw 9 [(7, (fun s1 => (fDat (tyList tyS_lumref_mark) [s1] a2))), (8, (fun u => fEq u (iq a0))), (9, (fun p4 => (fPtr tyS_lumref_mark p4 u2))), (10, (fun p5 => (fPtr tyC74 p5 u2.ok))), (11, (fun s6 => (fDat tyC74 [s6] u2.ok))), (12, (fun s7 => (fDat (tyList tq) [s7] a3))), (13, (fun u => fEq u (iq a1))), (14, (fun p10 => (fPtr tq p10 u8))), (15, (fun u => fEq u (iq u8)))] (tab [(0, (iq a0)), (1, (iq a1)), (2, c2), (3, c3), (6, (bool false))]) mixed (by kernel_rfl) rfl rfl rfl (fun a hs => hs.tab _ (allT_mem ⟨rfl, rfl, rfl, rfl, rfl, trivial⟩)) ⟨⟨rfl, ld_of (of_loadP1 0 rfl rfl Tryd.underlying56 sz56 rfl rfl rfl)⟩, ⟨rfl, ld_val (ov_move rfl rfl)⟩, ⟨rfl, ld_fact (j := 0) rfl rfl (fun s1 => ld_eq (j := 1) rfl rfl (ld_of (of_idxD 0 hu3 rfl rfl rfl Tryd.underlying56 sz92 rfl)))⟩, ⟨rfl, ld_fact (j := 2) rfl rfl (fun p4 => ld_of (of_fieldD (pr := fun (y : S_lumref_mark) => y.ok) 0 rfl subS_lumref_mark_1 rfl Tryd.underlying92 rfl sz74 rfl rfl))⟩, ⟨rfl, ld_fact (j := 3) rfl rfl (fun p5 => ld_of (of_loadP1 0 rfl rfl Tryd.underlying74 sz74 rfl rfl rfl))⟩, ⟨rfl, ld_of (of_loadP1 1 rfl rfl Tryd.underlying52 sz52 rfl rfl rfl)⟩, ⟨rfl, ld_val (ov_move rfl rfl)⟩, ⟨rfl, ld_fact (j := 5) rfl rfl (fun s7 => ld_eq (j := 6) rfl rfl (ld_of (of_idxD 0 hu9 rfl rfl rfl Tryd.underlying52 sz3 rfl)))⟩, ⟨rfl, ld_fact (j := 7) rfl rfl (fun p10 => ld_val (ov_loadP (ds := [(iq u8)]) 0 rfl (fun h => h) rfl Tryd.underlying3 sz3 rfl rfl rfl))⟩, trivial⟩ ?_
 refine tl_fact 4 rfl (fun s6 => ?_)
 refine tl_eq 8 rfl ?_
 refine tl_done ?_
 revert h
 generalize u2.ok = cx11
 intro h
 cases cx11 with
 | nil => cases h
 | c53 b13 =>
   dsimp only at h
   refine al_use 0 rfl _ _ useC74_53 ?_
   rintro p14 hv15
   refine al_recast (d := 11) (v' := (Value.func (.func 53) #[] #[p14])) rfl hv15 ?_
   obtain ⟨r17, hc16, h⟩ := opt_some h
   refine al_callF (vs := [(iq u8)]) (caps := [p14]) (f_lumref_marks_1_ok fu u8 p14 b13 hc16) rfl [] [] [] (pre_fz 0 rfl pre_nil) rfl (by simp) (by decide) (.inl rfl) rfl rfl Tryd.func53 rfl rfl rfl (fun _ => ?_)
   refine al_as rfl rfl ?_
   refine al_nt ?_
   refine aw_ret ?_
   obtain rfl := Option.some.inj h
   exact fn_ret () [] [] rfl rfl rfl rfl (res1 rfl rfl) rfl rfl rfl (by decide)
 | c54 =>
   dsimp only at h
   refine al_use 0 rfl _ _ useC74_54 ?_
   rintro _ hv18
   refine al_recast (d := 11) (v' := (fq 54)) rfl hv18 ?_
   obtain ⟨r20, hc19, h⟩ := opt_some h
   refine al_callF (vs := [(iq u8)]) (caps := []) (f_lumref_marks_2_ok fu u8 hc19) rfl [] [] [] pre_nil rfl (by simp) (by decide) (.inl rfl) rfl rfl Tryd.func54 rfl rfl rfl (fun _ => ?_)
   refine al_as rfl rfl ?_
   refine al_nt ?_
   refine aw_ret ?_
   obtain rfl := Option.some.inj h
   exact fn_ret () [] [] rfl rfl rfl rfl (res1 rfl rfl) rfl rfl rfl (by decide)
 | c56 b21 =>
   dsimp only at h
   refine al_use 0 rfl _ _ useC74_56 ?_
   rintro p22 hv23
   refine al_recast (d := 11) (v' := (Value.func (.func 56) #[] #[p22])) rfl hv23 ?_
   obtain ⟨r25, hc24, h⟩ := opt_some h
   refine al_callF (vs := [(iq u8)]) (caps := [p22]) (f_lumref_marks_3_ok fu u8 p22 b21 hc24) rfl [] [] [] (pre_fz 0 rfl pre_nil) rfl (by simp) (by decide) (.inl rfl) rfl rfl Tryd.func56 rfl rfl rfl (fun _ => ?_)
   refine al_as rfl rfl ?_
   refine al_nt ?_
   refine aw_ret ?_
   obtain rfl := Option.some.inj h
   exact fn_ret () [] [] rfl rfl rfl rfl (res1 rfl rfl) rfl rfl rfl (by decide)
 | c83 b26 b27 b28 =>
   dsimp only at h
   refine al_use 0 rfl _ _ useC74_83 ?_
   rintro ⟨p29, p30, p31⟩ hv32
   refine al_recast (d := 11) (v' := (Value.func (.func 83) #[] #[p29, p30, p31])) rfl hv32 ?_
   obtain ⟨r34, hc33, h⟩ := opt_some h
   refine al_callF (vs := [(iq u8)]) (caps := [p29, p30, p31]) (f_lumref_class_1_ok fu u8 p29 b26 p30 b27 p31 b28 hc33) rfl [] [] [] (pre_fz 0 rfl (pre_fz 1 rfl (pre_fz 2 rfl pre_nil))) rfl (by simp) (by decide) (.inl rfl) rfl rfl Tryd.func83 rfl rfl rfl (fun _ => ?_)
   refine al_as rfl rfl ?_
   refine al_nt ?_
   refine aw_ret ?_
   obtain rfl := Option.some.inj h
   exact fn_ret () [] [] rfl rfl rfl rfl (res1 rfl rfl) rfl rfl rfl (by decide)
-- STUCK lumberroom/lumref.table: lty ['func', [3, 3], [4], False]
def f_lumref_table_F84_F85_L26 (a0 : Int) (a2_0 : (List S_lumref_mark)) (a3_0 : (List S_lumref_mark)) (a3_1 : (List Int)) (l13x9 : (List Bool)) (l13i19 : Int) (kk23 : ((List Bool) → Option Bool)) (fu : Nat) : Nat → (List Bool) → Int → Option Bool
  | 0, _, _ => none
  | k25 + 1, l24x11, l24i27 => (bif (decide (l24i27 < (IntKind.i64.wrap (a0 + (1 : Int))))) then (lt (fun (j28x11 : (List Bool)) => (f_lumref_table_F84_F85_L26 a0 a2_0 a3_0 a3_1 l13x9 l13i19 kk23 fu k25 j28x11 (IntKind.i64.wrap (l24i27 + (1 : Int))))) fun (kk29 : (List Bool) → Option Bool) => (opt (f_lumref_partFits_1 fu l13i19 a2_0) fun (r31 : Bool) => (bif r31 then (opt (at? l13x9 l24i27) fun (u33 : Bool) => (bif u33 then (opt (at? l24x11 l24i27) fun (u38 : Bool) => (kk29 (l24x11.set (l24i27).toNat true))) else (bif (decide (l24i27 > (0 : Int))) then (opt (at? l24x11 (IntKind.i64.wrap (l24i27 - (1 : Int)))) fun (u43 : Bool) => (opt (at? l24x11 l24i27) fun (u47 : Bool) => (kk29 (l24x11.set (l24i27).toNat u43)))) else (opt (at? l24x11 l24i27) fun (u51 : Bool) => (kk29 (l24x11.set (l24i27).toNat false)))))) else (bif (decide (l24i27 > (0 : Int))) then (opt (at? l13x9 (IntKind.i64.wrap (l24i27 - (1 : Int)))) fun (u56 : Bool) => (bif u56 then (opt (f_lumref_partFits_2 fu l13i19 (IntKind.i64.wrap (l24i27 - (1 : Int))) a3_0 a3_1) fun (r62 : Bool) => (opt (at? l24x11 l24i27) fun (u63 : Bool) => (kk29 (l24x11.set (l24i27).toNat r62)))) else (opt (at? l24x11 l24i27) fun (u67 : Bool) => (kk29 (l24x11.set (l24i27).toNat false))))) else (opt (at? l24x11 l24i27) fun (u71 : Bool) => (kk29 (l24x11.set (l24i27).toNat false))))))) else (kk23 l24x11))
def f_lumref_table_F84_F85_L15 (a0 : Int) (a1 : Int) (a2_0 : (List S_lumref_mark)) (a3_0 : (List S_lumref_mark)) (a3_1 : (List Int)) (kk8 : ((List Bool) → Option Bool)) (fu : Nat) : Nat → (List Bool) → Int → Option Bool
  | 0, _, _ => none
  | k14 + 1, l13x9, l13i19 => (lt (fun (l13x9 : (List Bool)) (l13i19 : Int) => (f_lumref_table_F84_F85_L15 a0 a1 a2_0 a3_0 a3_1 kk8 fu k14 l13x9 l13i19)) fun (kk16 : (List Bool) → Int → Option Bool) => (bif (decide (l13i19 < a1)) then (lt (fun (j18x9 : (List Bool)) => (kk16 j18x9 (IntKind.i64.wrap (l13i19 + (1 : Int))))) fun (kk19 : (List Bool) → Option Bool) => (req (0 ≤ (IntKind.i64.wrap (a0 + (1 : Int))) ∧ 1 * (IntKind.i64.wrap (a0 + (1 : Int))) ≤ 281474976710656 ∧ (IntKind.i64.wrap (a0 + (1 : Int))) ≤ 9223372036854775807) (lt (fun (j22x11 : (List Bool)) => (kk19 j22x11)) fun (kk23 : (List Bool) → Option Bool) => (f_lumref_table_F84_F85_L26 a0 a2_0 a3_0 a3_1 l13x9 l13i19 kk23 fu fu (List.replicate ((IntKind.i64.wrap (a0 + (1 : Int)))).toNat false) (0 : Int))))) else (kk8 l13x9)))
def f_lumref_table_F84_F85 (fu : Nat) (a0 : Int) (a1 : Int) (a2_0 : (List S_lumref_mark)) (a3_0 : (List S_lumref_mark)) (a3_1 : (List Int)) : Option Bool := (req (0 ≤ (IntKind.i64.wrap (a0 + (1 : Int))) ∧ 1 * (IntKind.i64.wrap (a0 + (1 : Int))) ≤ 281474976710656 ∧ (IntKind.i64.wrap (a0 + (1 : Int))) ≤ 9223372036854775807) (opt (at? (List.replicate ((IntKind.i64.wrap (a0 + (1 : Int)))).toNat false) (0 : Int)) fun (u3 : Bool) => (lt (fun (j7x9 : (List Bool)) => (opt (at? j7x9 a0) fun (u9 : Bool) => (some u9))) fun (kk8 : (List Bool) → Option Bool) => (f_lumref_table_F84_F85_L15 a0 a1 a2_0 a3_0 a3_1 kk8 fu fu ((List.replicate ((IntKind.i64.wrap (a0 + (1 : Int)))).toNat false).set ((0 : Int)).toNat true) (0 : Int)))))
set_option maxRecDepth 100000 in
set_option maxHeartbeats 2000000 in
set_option maxHeartbeats 2000000 in
theorem f_lumref_table_F84_F85_ok (fu : Nat) (a0 : Int) (a1 : Int) (c2_0 : Value) (a2_0 : (List S_lumref_mark)) (c3_0 : Value) (a3_0 : (List S_lumref_mark)) (c3_1 : Value) (a3_1 : (List Int)) {r : Bool} (h : f_lumref_table_F84_F85 fu a0 a1 a2_0 a3_0 a3_1 = some r) : FnOk Tryd.prog 57 [(int .i64 a0), (int .i64 a1), (Value.func (.func 84) #[] #[c2_0]), (Value.func (.func 85) #[] #[c3_0, c3_1])] [(fPtr (tyList tyS_lumref_mark) c2_0 a2_0), (fPtr (tyList tyS_lumref_mark) c3_0 a3_0), (fPtr (tyList (tyInt .i64)) c3_1 a3_1)] [] (fun (i : Unit) => { val := (bool r) }) := by
 unfold f_lumref_table_F84_F85 at h
 refine fn_enter Tryd.func57 rfl Tryd.ntmps57 rfl (fun w0 Z0 => ?_)
 refine aw_sr ?_
 refine al_as rfl rfl ?_
 refine al_nt ?_
 refine aw_sr ?_
 refine al_mv rfl rfl ?_
 refine al_in rfl rfl rfl rfl ?_
 obtain ⟨hc1, h⟩ := req_some h
 refine al_make (τ := tyBool) (x0 := false) hc1.1 hc1.2.1 hc1.2.2 rfl rfl Tryd.underlying131 to4 (fun _ _ => rfl) rfl rfl (fun v2 => ?_)
 refine al_as rfl rfl ?_
 refine al_nt ?_
 refine aw_sr ?_
 refine al_mv rfl rfl ?_
 obtain ⟨u3, hu4, h⟩ := opt_some h
 refine al_idxR 0 (at_some hu4).1 (at_some hu4).2.1 rfl rfl rfl Tryd.underlying131 sz4 rfl (fun p5 hp6 => ?_)
 refine al_storeR (k := ((0 : Int)).toNat) (x := true) (vs := [(bool true)]) 0 rfl hp6 (idx_lt hu4) rfl rfl (cv_rfl rfl) (fun _ => rfl) sz4 rfl ?_
 refine al_nt ?_
 obtain ⟨kk8, hkk8, h⟩ := lt_some h
 refine aw_seq_join (ι := Value × (List Bool)) (fun i => (memOf w0 Z0 [] [(oRow i.1 4 tyBool i.2)] [(fPtr (tyList tyS_lumref_mark) c2_0 a2_0), (fPtr (tyList tyS_lumref_mark) c3_0 a3_0), (fPtr (tyList tq) c3_1 a3_1)])) (fun i => (tab [(0, (iq a0)), (9, i.1)])) (fun i => kk8 i.2 = some r) ?_ ?_
 ·rintro ⟨j7v9, j7x9⟩ h
  have h : kk8 j7x9 = some r := h
  rw [hkk8] at h
  dsimp only at h
  clear hkk8
  refine aw_show (m := (memOf w0 Z0 [] [(oRow j7v9 4 tyBool j7x9)] [(fPtr (tyList tyS_lumref_mark) c2_0 a2_0), (fPtr (tyList tyS_lumref_mark) c3_0 a3_0), (fPtr (tyList tq) c3_1 a3_1)])) (S := (tab [(0, (iq a0)), (9, j7v9)])) ?_
  refine aw_sr ?_
  refine al_mv rfl rfl ?_
  refine al_mv rfl rfl ?_
  obtain ⟨u9, hu10, h⟩ := opt_some h
  refine al_idxR 0 (at_some hu10).1 (at_some hu10).2.1 rfl rfl rfl Tryd.underlying131 sz4 rfl (fun p11 hp12 => ?_)
  refine al_val (ov_loadR (ds := [(bool u9)]) 0 rfl hp12 (at_some hu10).2.2 (fun h => h) rfl Tryd.underlying4 sz4 rfl rfl rfl) ?_
  refine al_as rfl rfl ?_
  refine al_nt ?_
  refine aw_ret ?_
  obtain rfl := Option.some.inj h
  exact fn_ret () [] [] rfl rfl rfl rfl (res1 rfl rfl) rfl rfl rfl (by decide)
 ·clear hkk8
  refine aw_sr ?_
  refine al_mv rfl rfl ?_
  refine al_mv rfl rfl ?_
  refine al_nt ?_
  refine aw_block ?_
  refine aw_state (aw_loop (ι := Value × (List Bool) × Int) (fun i => (memOf w0 Z0 [] [(oRow i.1 4 tyBool i.2.1)] [(fPtr (tyList tyS_lumref_mark) c2_0 a2_0), (fPtr (tyList tyS_lumref_mark) c3_0 a3_0), (fPtr (tyList tq) c3_1 a3_1)])) (fun i => (tab [(0, (iq a0)), (2, (Value.func (.func 84) #[] #[c2_0])), (3, (Value.func (.func 85) #[] #[c3_0, c3_1])), (9, i.1), (18, (iq a1)), (19, (iq i.2.2))])) (fun q i => f_lumref_table_F84_F85_L15 a0 a1 a2_0 a3_0 a3_1 kk8 fu q i.2.1 i.2.2 = some r) ?_ fu (v2, ((List.replicate ((wq (a0 + (1 : Int)))).toNat false).set ((0 : Int)).toNat true), (0 : Int)) h) (fun w a hm hs => norm hm hs [0] [0, 1, 2] [(0, (iq a0)), (2, (Value.func (.func 84) #[] #[c2_0])), (3, (Value.func (.func 85) #[] #[c3_0, c3_1])), (9, v2), (18, (iq a1)), (19, (iq (0 : Int)))] (by decide) ⟨rfl, rfl, rfl, rfl, rfl, rfl, trivial⟩)
  clear h
  rintro k14 ⟨l13v9, l13x9, l13i19⟩ h
  have h : f_lumref_table_F84_F85_L15 a0 a1 a2_0 a3_0 a3_1 kk8 fu k14 l13x9 l13i19 = some r := h
  obtain _ | k14 := k14
  · rw [f_lumref_table_F84_F85_L15] at h; cases h
  rw [f_lumref_table_F84_F85_L15] at h
  refine aw_show (m := (memOf w0 Z0 [] [(oRow l13v9 4 tyBool l13x9)] [(fPtr (tyList tyS_lumref_mark) c2_0 a2_0), (fPtr (tyList tyS_lumref_mark) c3_0 a3_0), (fPtr (tyList tq) c3_1 a3_1)])) (S := (tab [(0, (iq a0)), (2, (Value.func (.func 84) #[] #[c2_0])), (3, (Value.func (.func 85) #[] #[c3_0, c3_1])), (9, l13v9), (18, (iq a1)), (19, (iq l13i19))])) ?_
  obtain ⟨kk16, hkk16, h⟩ := lt_some h
  refine aw_body_join (ι := Value × (List Bool) × Int) (fun i => (memOf w0 Z0 [] [(oRow i.1 4 tyBool i.2.1)] [(fPtr (tyList tyS_lumref_mark) c2_0 a2_0), (fPtr (tyList tyS_lumref_mark) c3_0 a3_0), (fPtr (tyList tq) c3_1 a3_1)])) (fun i => (tab [(0, (iq a0)), (2, (Value.func (.func 84) #[] #[c2_0])), (3, (Value.func (.func 85) #[] #[c3_0, c3_1])), (9, i.1), (18, (iq a1)), (19, (iq i.2.2))])) (fun i => kk16 i.2.1 i.2.2 = some r) (fun i h => aq_again k14 i (Nat.lt_succ_self _) (by rw [hkk16] at h; exact h) (fun w a hm hs => ⟨hm, hs⟩)) ?_
  clear hkk16
  refine aw_sr ?_
  refine al_in rfl rfl rfl rfl ?_
  refine al_nt ?_
  refine aw_seq ?_
  refine aw_cond rfl (fun hb17 => ?_) (fun hb17 => ?_)
  ·replace h := bif_t hb17 h
   refine aw_skip ?_
   refine aq_then ?_
   obtain ⟨kk19, hkk19, h⟩ := lt_some h
   refine aw_seq_join (ι := Value × (List Bool)) (fun i => (memOf w0 Z0 [] [(oRow i.1 4 tyBool i.2)] [(fPtr (tyList tyS_lumref_mark) c2_0 a2_0), (fPtr (tyList tyS_lumref_mark) c3_0 a3_0), (fPtr (tyList tq) c3_1 a3_1)])) (fun i => (tab [(0, (iq a0)), (2, (Value.func (.func 84) #[] #[c2_0])), (3, (Value.func (.func 85) #[] #[c3_0, c3_1])), (9, i.1), (18, (iq a1)), (19, (iq l13i19))])) (fun i => kk19 i.2 = some r) ?_ ?_
   ·rintro ⟨j18v9, j18x9⟩ h
    have h : kk19 j18x9 = some r := h
    rw [hkk19] at h
    dsimp only at h
    clear hkk19
    refine aw_show (m := (memOf w0 Z0 [] [(oRow j18v9 4 tyBool j18x9)] [(fPtr (tyList tyS_lumref_mark) c2_0 a2_0), (fPtr (tyList tyS_lumref_mark) c3_0 a3_0), (fPtr (tyList tq) c3_1 a3_1)])) (S := (tab [(0, (iq a0)), (2, (Value.func (.func 84) #[] #[c2_0])), (3, (Value.func (.func 85) #[] #[c3_0, c3_1])), (9, j18v9), (18, (iq a1)), (19, (iq l13i19))])) ?_
    refine aw_region ?_
    refine al_in rfl rfl rfl rfl ?_
    refine al_mv rfl rfl ?_
    refine al_nil ?_
    exact aq_join (j18v9, j18x9, (wq (l13i19 + (1 : Int)))) h (fun w a hm hs => norm hm hs [0] [0, 1, 2] [(0, (iq a0)), (2, (Value.func (.func 84) #[] #[c2_0])), (3, (Value.func (.func 85) #[] #[c3_0, c3_1])), (9, j18v9), (18, (iq a1)), (19, (iq (wq (l13i19 + (1 : Int)))))] (by decide) ⟨rfl, rfl, rfl, rfl, rfl, rfl, trivial⟩)
   ·clear hkk19
    refine aw_block ?_
    refine aw_sr ?_
    refine al_mv rfl rfl ?_
    refine al_as rfl rfl ?_
    refine al_nt ?_
    refine aw_sr ?_
    refine al_mv rfl rfl ?_
    refine al_in rfl rfl rfl rfl ?_
    obtain ⟨hc20, h⟩ := req_some h
    refine al_make (τ := tyBool) (x0 := false) hc20.1 hc20.2.1 hc20.2.2 rfl rfl Tryd.underlying131 to4 (fun _ _ => rfl) rfl rfl (fun v21 => ?_)
    refine al_as rfl rfl ?_
    refine al_nt ?_
    obtain ⟨kk23, hkk23, h⟩ := lt_some h
    refine aw_seq_join (ι := (List Bool)) (fun i => (memOf w0 Z0 [] [(oRow v21 4 tyBool i)] [(fPtr (tyList tyS_lumref_mark) c2_0 a2_0), (fPtr (tyList tyS_lumref_mark) c3_0 a3_0), (fPtr (tyList tq) c3_1 a3_1)])) (fun i => (tab [(0, (iq a0)), (2, (Value.func (.func 84) #[] #[c2_0])), (3, (Value.func (.func 85) #[] #[c3_0, c3_1])), (11, v21), (18, (iq a1)), (19, (iq l13i19))])) (fun i => kk23 i = some r) ?_ ?_
    ·rintro j22x11 h
     have h : kk23 j22x11 = some r := h
     rw [hkk23] at h
     dsimp only at h
     clear hkk23
     refine aw_show (m := (memOf w0 Z0 [] [(oRow v21 4 tyBool j22x11)] [(fPtr (tyList tyS_lumref_mark) c2_0 a2_0), (fPtr (tyList tyS_lumref_mark) c3_0 a3_0), (fPtr (tyList tq) c3_1 a3_1)])) (S := (tab [(0, (iq a0)), (2, (Value.func (.func 84) #[] #[c2_0])), (3, (Value.func (.func 85) #[] #[c3_0, c3_1])), (11, v21), (18, (iq a1)), (19, (iq l13i19))])) ?_
     refine aw_region ?_
     refine al_mv rfl rfl ?_
     refine al_as rfl rfl ?_
     refine al_nil ?_
     refine aq_block ?_
     exact aq_join (v21, j22x11) h (fun w a hm hs => norm hm hs [0] [0, 1, 2] [(0, (iq a0)), (2, (Value.func (.func 84) #[] #[c2_0])), (3, (Value.func (.func 85) #[] #[c3_0, c3_1])), (9, v21), (18, (iq a1)), (19, (iq l13i19))] (by decide) ⟨rfl, rfl, rfl, rfl, rfl, rfl, trivial⟩)
    ·clear hkk23
     refine aw_sr ?_
     refine al_mv rfl rfl ?_
     refine al_in rfl rfl rfl rfl ?_
     refine al_mv rfl rfl ?_
     refine al_nt ?_
     refine aw_block ?_
     refine aw_state (aw_loop (ι := (List Bool) × Int) (fun i => (memOf w0 Z0 [] [(oRow l13v9 4 tyBool l13x9), (oRow v21 4 tyBool i.1)] [(fPtr (tyList tyS_lumref_mark) c2_0 a2_0), (fPtr (tyList tyS_lumref_mark) c3_0 a3_0), (fPtr (tyList tq) c3_1 a3_1)])) (fun i => (tab [(0, (iq a0)), (2, (Value.func (.func 84) #[] #[c2_0])), (3, (Value.func (.func 85) #[] #[c3_0, c3_1])), (9, l13v9), (10, (iq l13i19)), (11, v21), (18, (iq a1)), (19, (iq l13i19)), (26, (iq (wq (a0 + (1 : Int))))), (27, (iq i.2))])) (fun q i => f_lumref_table_F84_F85_L26 a0 a2_0 a3_0 a3_1 l13x9 l13i19 kk23 fu q i.1 i.2 = some r) ?_ fu ((List.replicate ((wq (a0 + (1 : Int)))).toNat false), (0 : Int)) h) (fun w a hm hs => norm hm hs [1, 0] [0, 1, 2] [(0, (iq a0)), (2, (Value.func (.func 84) #[] #[c2_0])), (3, (Value.func (.func 85) #[] #[c3_0, c3_1])), (9, l13v9), (10, (iq l13i19)), (11, v21), (18, (iq a1)), (19, (iq l13i19)), (26, (iq (wq (a0 + (1 : Int))))), (27, (iq (0 : Int)))] (by decide) ⟨rfl, rfl, rfl, rfl, rfl, rfl, rfl, rfl, rfl, rfl, trivial⟩)
     clear h
     rintro k25 ⟨l24x11, l24i27⟩ h
     have h : f_lumref_table_F84_F85_L26 a0 a2_0 a3_0 a3_1 l13x9 l13i19 kk23 fu k25 l24x11 l24i27 = some r := h
     obtain _ | k25 := k25
     · rw [f_lumref_table_F84_F85_L26] at h; cases h
     rw [f_lumref_table_F84_F85_L26] at h
     refine aw_show (m := (memOf w0 Z0 [] [(oRow l13v9 4 tyBool l13x9), (oRow v21 4 tyBool l24x11)] [(fPtr (tyList tyS_lumref_mark) c2_0 a2_0), (fPtr (tyList tyS_lumref_mark) c3_0 a3_0), (fPtr (tyList tq) c3_1 a3_1)])) (S := (tab [(0, (iq a0)), (2, (Value.func (.func 84) #[] #[c2_0])), (3, (Value.func (.func 85) #[] #[c3_0, c3_1])), (9, l13v9), (10, (iq l13i19)), (11, v21), (18, (iq a1)), (19, (iq l13i19)), (26, (iq (wq (a0 + (1 : Int))))), (27, (iq l24i27))])) ?_
     refine aw_sr ?_
     refine al_in rfl rfl rfl rfl ?_
     refine al_nt ?_
     refine aw_seq ?_
     refine aw_cond rfl (fun hb27 => ?_) (fun hb27 => ?_)
     ·replace h := bif_t hb27 h
      refine aw_skip ?_
      refine aq_then ?_
      obtain ⟨kk29, hkk29, h⟩ := lt_some h
      refine aw_seq_join (ι := (List Bool)) (fun i => (memOf w0 Z0 [] [(oRow l13v9 4 tyBool l13x9), (oRow v21 4 tyBool i)] [(fPtr (tyList tyS_lumref_mark) c2_0 a2_0), (fPtr (tyList tyS_lumref_mark) c3_0 a3_0), (fPtr (tyList tq) c3_1 a3_1)])) (fun i => (tab [(0, (iq a0)), (2, (Value.func (.func 84) #[] #[c2_0])), (3, (Value.func (.func 85) #[] #[c3_0, c3_1])), (9, l13v9), (10, (iq l13i19)), (11, v21), (18, (iq a1)), (19, (iq l13i19)), (26, (iq (wq (a0 + (1 : Int))))), (27, (iq l24i27))])) (fun i => kk29 i = some r) ?_ ?_
      ·rintro j28x11 h
       have h : kk29 j28x11 = some r := h
       rw [hkk29] at h
       dsimp only at h
       clear hkk29
       refine aw_show (m := (memOf w0 Z0 [] [(oRow l13v9 4 tyBool l13x9), (oRow v21 4 tyBool j28x11)] [(fPtr (tyList tyS_lumref_mark) c2_0 a2_0), (fPtr (tyList tyS_lumref_mark) c3_0 a3_0), (fPtr (tyList tq) c3_1 a3_1)])) (S := (tab [(0, (iq a0)), (2, (Value.func (.func 84) #[] #[c2_0])), (3, (Value.func (.func 85) #[] #[c3_0, c3_1])), (9, l13v9), (10, (iq l13i19)), (11, v21), (18, (iq a1)), (19, (iq l13i19)), (26, (iq (wq (a0 + (1 : Int))))), (27, (iq l24i27))])) ?_
       refine aw_region ?_
       refine al_in rfl rfl rfl rfl ?_
       refine al_mv rfl rfl ?_
       refine al_nil ?_
       exact aq_again k25 (j28x11, (wq (l24i27 + (1 : Int)))) (Nat.lt_succ_self _) h (fun w a hm hs => norm hm hs [0, 1] [0, 1, 2] [(0, (iq a0)), (2, (Value.func (.func 84) #[] #[c2_0])), (3, (Value.func (.func 85) #[] #[c3_0, c3_1])), (9, l13v9), (10, (iq l13i19)), (11, v21), (18, (iq a1)), (19, (iq l13i19)), (26, (iq (wq (a0 + (1 : Int))))), (27, (iq (wq (l24i27 + (1 : Int)))))] (by decide) ⟨rfl, rfl, rfl, rfl, rfl, rfl, rfl, rfl, rfl, rfl, trivial⟩)
      ·clear hkk29
       refine aw_block ?_
       refine aw_sr ?_
       refine al_mv rfl rfl ?_
       refine al_as rfl rfl ?_
       refine al_nt ?_
       refine aw_sr ?_
       refine al_mv rfl rfl ?_
       refine al_mv rfl rfl ?_
       obtain ⟨r31, hc30, h⟩ := opt_some h
       refine al_callF (vs := [(iq l13i19)]) (caps := [c2_0]) (f_lumref_partFits_1_ok fu l13i19 c2_0 a2_0 hc30) rfl [] [] [0, 1] (pre_fz 0 rfl pre_nil) rfl (by simp) (by decide) (.inl rfl) rfl rfl Tryd.func84 rfl rfl rfl (fun _ => ?_)
       refine al_nt ?_
       refine aw_cond rfl (fun hb32 => ?_) (fun hb32 => ?_)
       ·replace h := bif_t hb32 h
        refine aw_region ?_
        refine al_mv rfl rfl ?_
        refine al_mv rfl rfl ?_
        refine al_mv rfl rfl ?_
        refine al_mv rfl rfl ?_
        obtain ⟨u33, hu34, h⟩ := opt_some h
        refine al_idxR 0 (at_some hu34).1 (at_some hu34).2.1 rfl rfl rfl Tryd.underlying131 sz4 rfl (fun p35 hp36 => ?_)
        refine al_val (ov_loadR (ds := [(bool u33)]) 0 rfl hp36 (at_some hu34).2.2 (fun h => h) rfl Tryd.underlying4 sz4 rfl rfl rfl) ?_
        refine al_mv rfl rfl ?_
        refine al_caseB 39 rfl (fun hb37 => ?_) (fun hb37 => ?_)
        ·replace h := bif_t hb37 h
         refine al_skip ?_
         refine al_skip ?_
         refine al_skip ?_
         refine al_skip ?_
         refine al_skip ?_
         refine al_skip ?_
         refine al_skip ?_
         refine al_skip ?_
         refine al_skip ?_
         refine al_val (ov_pick_t rfl rfl rfl) ?_
         obtain ⟨u38, hu39, h⟩ := opt_some h
         refine al_idxR 1 (at_some hu39).1 (at_some hu39).2.1 rfl rfl rfl Tryd.underlying131 sz4 rfl (fun p40 hp41 => ?_)
         refine al_storeR (k := (l24i27).toNat) (x := true) (vs := [(bool true)]) 1 rfl hp41 (idx_lt hu39) rfl rfl (cv_rfl rfl) (fun _ => rfl) sz4 rfl ?_
         refine al_nil ?_
         refine aq_block ?_
         exact aq_join (l24x11.set (l24i27).toNat true) h (fun w a hm hs => norm hm hs [0, 1] [0, 1, 2] [(0, (iq a0)), (2, (Value.func (.func 84) #[] #[c2_0])), (3, (Value.func (.func 85) #[] #[c3_0, c3_1])), (9, l13v9), (10, (iq l13i19)), (11, v21), (18, (iq a1)), (19, (iq l13i19)), (26, (iq (wq (a0 + (1 : Int))))), (27, (iq l24i27))] (by decide) ⟨rfl, rfl, rfl, rfl, rfl, rfl, rfl, rfl, rfl, rfl, trivial⟩)
        ·replace h := bif_f hb37 h
         refine al_mv rfl rfl ?_
         refine al_in rfl rfl rfl rfl ?_
         refine al_mv rfl rfl ?_
         refine al_caseB 42 rfl (fun hb42 => ?_) (fun hb42 => ?_)
         ·replace h := bif_t hb42 h
          refine al_mv rfl rfl ?_
          refine al_mv rfl rfl ?_
          refine al_in rfl rfl rfl rfl ?_
          obtain ⟨u43, hu44, h⟩ := opt_some h
          refine al_idxR 1 (at_some hu44).1 (at_some hu44).2.1 rfl rfl rfl Tryd.underlying131 sz4 rfl (fun p45 hp46 => ?_)
          refine al_val (ov_loadR (ds := [(bool u43)]) 1 rfl hp46 (at_some hu44).2.2 (fun h => h) rfl Tryd.underlying4 sz4 rfl rfl rfl) ?_
          refine al_val (ov_pick_t rfl rfl rfl) ?_
          refine al_val (ov_pick_f rfl rfl rfl) ?_
          obtain ⟨u47, hu48, h⟩ := opt_some h
          refine al_idxR 1 (at_some hu48).1 (at_some hu48).2.1 rfl rfl rfl Tryd.underlying131 sz4 rfl (fun p49 hp50 => ?_)
          refine al_storeR (k := (l24i27).toNat) (x := u43) (vs := [(bool u43)]) 1 rfl hp50 (idx_lt hu48) rfl rfl (cv_rfl rfl) (fun _ => rfl) sz4 rfl ?_
          refine al_nil ?_
          refine aq_block ?_
          exact aq_join (l24x11.set (l24i27).toNat u43) h (fun w a hm hs => norm hm hs [0, 1] [0, 1, 2] [(0, (iq a0)), (2, (Value.func (.func 84) #[] #[c2_0])), (3, (Value.func (.func 85) #[] #[c3_0, c3_1])), (9, l13v9), (10, (iq l13i19)), (11, v21), (18, (iq a1)), (19, (iq l13i19)), (26, (iq (wq (a0 + (1 : Int))))), (27, (iq l24i27))] (by decide) ⟨rfl, rfl, rfl, rfl, rfl, rfl, rfl, rfl, rfl, rfl, trivial⟩)
         ·replace h := bif_f hb42 h
          refine al_skip ?_
          refine al_skip ?_
          refine al_skip ?_
          refine al_skip ?_
          refine al_skip ?_
          refine al_val (ov_pick_f rfl rfl rfl) ?_
          refine al_val (ov_pick_f rfl rfl rfl) ?_
          obtain ⟨u51, hu52, h⟩ := opt_some h
          refine al_idxR 1 (at_some hu52).1 (at_some hu52).2.1 rfl rfl rfl Tryd.underlying131 sz4 rfl (fun p53 hp54 => ?_)
          refine al_storeR (k := (l24i27).toNat) (x := false) (vs := [(bool false)]) 1 rfl hp54 (idx_lt hu52) rfl rfl (cv_rfl rfl) (fun _ => rfl) sz4 rfl ?_
          refine al_nil ?_
          refine aq_block ?_
          exact aq_join (l24x11.set (l24i27).toNat false) h (fun w a hm hs => norm hm hs [0, 1] [0, 1, 2] [(0, (iq a0)), (2, (Value.func (.func 84) #[] #[c2_0])), (3, (Value.func (.func 85) #[] #[c3_0, c3_1])), (9, l13v9), (10, (iq l13i19)), (11, v21), (18, (iq a1)), (19, (iq l13i19)), (26, (iq (wq (a0 + (1 : Int))))), (27, (iq l24i27))] (by decide) ⟨rfl, rfl, rfl, rfl, rfl, rfl, rfl, rfl, rfl, rfl, trivial⟩)
       ·replace h := bif_f hb32 h
        refine aw_region ?_
        refine al_mv rfl rfl ?_
        refine al_mv rfl rfl ?_
        refine al_mv rfl rfl ?_
        refine al_in rfl rfl rfl rfl ?_
        refine al_mv rfl rfl ?_
        refine al_caseB 55 rfl (fun hb55 => ?_) (fun hb55 => ?_)
        ·replace h := bif_t hb55 h
         refine al_mv rfl rfl ?_
         refine al_mv rfl rfl ?_
         refine al_in rfl rfl rfl rfl ?_
         obtain ⟨u56, hu57, h⟩ := opt_some h
         refine al_idxR 0 (at_some hu57).1 (at_some hu57).2.1 rfl rfl rfl Tryd.underlying131 sz4 rfl (fun p58 hp59 => ?_)
         refine al_val (ov_loadR (ds := [(bool u56)]) 0 rfl hp59 (at_some hu57).2.2 (fun h => h) rfl Tryd.underlying4 sz4 rfl rfl rfl) ?_
         refine al_val (ov_pick_t rfl rfl rfl) ?_
         refine al_mv rfl rfl ?_
         refine al_caseB 62 rfl (fun hb60 => ?_) (fun hb60 => ?_)
         ·replace h := bif_t hb60 h
          refine al_mv rfl rfl ?_
          refine al_mv rfl rfl ?_
          refine al_mv rfl rfl ?_
          refine al_in rfl rfl rfl rfl ?_
          obtain ⟨r62, hc61, h⟩ := opt_some h
          refine al_callF (vs := [(iq l13i19), (iq (wq (l24i27 - (1 : Int))))]) (caps := [c3_0, c3_1]) (f_lumref_partFits_2_ok fu l13i19 (wq (l24i27 - (1 : Int))) c3_0 a3_0 c3_1 a3_1 hc61) rfl [] [] [0, 1] (pre_fz 1 rfl (pre_fz 2 rfl pre_nil)) rfl (by simp) (by decide) (.inl rfl) rfl rfl Tryd.func85 rfl rfl rfl (fun _ => ?_)
          refine al_val (ov_pick_t rfl rfl rfl) ?_
          obtain ⟨u63, hu64, h⟩ := opt_some h
          refine al_idxR 1 (at_some hu64).1 (at_some hu64).2.1 rfl rfl rfl Tryd.underlying131 sz4 rfl (fun p65 hp66 => ?_)
          refine al_storeR (k := (l24i27).toNat) (x := r62) (vs := [(bool r62)]) 1 rfl hp66 (idx_lt hu64) rfl rfl (cv_rfl rfl) (fun _ => rfl) sz4 rfl ?_
          refine al_nil ?_
          refine aq_block ?_
          exact aq_join (l24x11.set (l24i27).toNat r62) h (fun w a hm hs => norm hm hs [0, 1] [0, 1, 2] [(0, (iq a0)), (2, (Value.func (.func 84) #[] #[c2_0])), (3, (Value.func (.func 85) #[] #[c3_0, c3_1])), (9, l13v9), (10, (iq l13i19)), (11, v21), (18, (iq a1)), (19, (iq l13i19)), (26, (iq (wq (a0 + (1 : Int))))), (27, (iq l24i27))] (by decide) ⟨rfl, rfl, rfl, rfl, rfl, rfl, rfl, rfl, rfl, rfl, trivial⟩)
         ·replace h := bif_f hb60 h
          refine al_skip ?_
          refine al_skip ?_
          refine al_skip ?_
          refine al_skip ?_
          refine al_skip ?_
          refine al_val (ov_pick_f rfl rfl rfl) ?_
          obtain ⟨u67, hu68, h⟩ := opt_some h
          refine al_idxR 1 (at_some hu68).1 (at_some hu68).2.1 rfl rfl rfl Tryd.underlying131 sz4 rfl (fun p69 hp70 => ?_)
          refine al_storeR (k := (l24i27).toNat) (x := false) (vs := [(bool false)]) 1 rfl hp70 (idx_lt hu68) rfl rfl (cv_rfl rfl) (fun _ => rfl) sz4 rfl ?_
          refine al_nil ?_
          refine aq_block ?_
          exact aq_join (l24x11.set (l24i27).toNat false) h (fun w a hm hs => norm hm hs [0, 1] [0, 1, 2] [(0, (iq a0)), (2, (Value.func (.func 84) #[] #[c2_0])), (3, (Value.func (.func 85) #[] #[c3_0, c3_1])), (9, l13v9), (10, (iq l13i19)), (11, v21), (18, (iq a1)), (19, (iq l13i19)), (26, (iq (wq (a0 + (1 : Int))))), (27, (iq l24i27))] (by decide) ⟨rfl, rfl, rfl, rfl, rfl, rfl, rfl, rfl, rfl, rfl, trivial⟩)
        ·replace h := bif_f hb55 h
         refine al_skip ?_
         refine al_skip ?_
         refine al_skip ?_
         refine al_skip ?_
         refine al_skip ?_
         refine al_val (ov_pick_f rfl rfl rfl) ?_
         refine al_mv rfl rfl ?_
         refine al_skip ?_
         refine al_skip ?_
         refine al_skip ?_
         refine al_skip ?_
         refine al_skip ?_
         refine al_val (ov_pick_f rfl rfl rfl) ?_
         obtain ⟨u71, hu72, h⟩ := opt_some h
         refine al_idxR 1 (at_some hu72).1 (at_some hu72).2.1 rfl rfl rfl Tryd.underlying131 sz4 rfl (fun p73 hp74 => ?_)
         refine al_storeR (k := (l24i27).toNat) (x := false) (vs := [(bool false)]) 1 rfl hp74 (idx_lt hu72) rfl rfl (cv_rfl rfl) (fun _ => rfl) sz4 rfl ?_
         refine al_nil ?_
         refine aq_block ?_
         exact aq_join (l24x11.set (l24i27).toNat false) h (fun w a hm hs => norm hm hs [0, 1] [0, 1, 2] [(0, (iq a0)), (2, (Value.func (.func 84) #[] #[c2_0])), (3, (Value.func (.func 85) #[] #[c3_0, c3_1])), (9, l13v9), (10, (iq l13i19)), (11, v21), (18, (iq a1)), (19, (iq l13i19)), (26, (iq (wq (a0 + (1 : Int))))), (27, (iq l24i27))] (by decide) ⟨rfl, rfl, rfl, rfl, rfl, rfl, rfl, rfl, rfl, rfl, trivial⟩)
     ·replace h := bif_f hb27 h
      refine aw_exit ?_
      refine aq_then_exit ?_
      refine aq_then_exit ?_
      refine aq_block_exit ?_
      exact aq_join l24x11 h (fun w a hm hs => norm hm hs [1] [0, 1, 2] [(0, (iq a0)), (2, (Value.func (.func 84) #[] #[c2_0])), (3, (Value.func (.func 85) #[] #[c3_0, c3_1])), (11, v21), (18, (iq a1)), (19, (iq l13i19))] (by decide) ⟨rfl, rfl, rfl, rfl, rfl, rfl, trivial⟩)
  ·replace h := bif_f hb17 h
   refine aw_exit ?_
   refine aq_then_exit ?_
   refine aq_then_exit ?_
   refine aq_block_exit ?_
   exact aq_join (l13v9, l13x9) h (fun w a hm hs => norm hm hs [0] [0, 1, 2] [(0, (iq a0)), (9, l13v9)] (by decide) ⟨rfl, rfl, trivial⟩)
def f_lumref_partFits (fu : Nat) (a0 : (List S_lumref_mark)) (a1 : (List UInt8)) : Option Bool := (opt (f_lumref_Chars fu a1) fun (r3 : ((List Int) × Bool)) => (opt (f_lumref_table_F84_F85 fu (r3.1.length : Int) (a0.length : Int) a0 a0 r3.1) fun (r9 : Bool) => (some r9)))
set_option maxHeartbeats 2000000 in
set_option maxRecDepth 100000 in
theorem f_lumref_partFits_ok (fu : Nat) (v0_0 : Value) (a0 : (List S_lumref_mark)) (a1 : (List UInt8)) {r : Bool} (h : f_lumref_partFits fu a0 a1 = some r) : FnOk Tryd.prog 60 [v0_0, (str a1)] [(fDat (tyList tyS_lumref_mark) [v0_0] a0)] [] (fun (i : Unit) => { val := (bool r) }) := by
 unfold f_lumref_partFits at h
 refine fn_enter Tryd.func60 rfl Tryd.ntmps60 rfl (fun w0 Z0 => ?_)
 refine aw_sr ?_
 refine al_box (vs := [v0_0]) rfl (cv_fz 0 rfl) rfl (fun g1 => ?_)
 refine al_as rfl rfl ?_
 refine al_nt ?_
 refine aw_sr ?_
 refine al_mv rfl rfl ?_
 obtain ⟨r3, hc2, h⟩ := opt_some h
 refine al_call (vs := [(str a1)]) (f_lumref_Chars_ok fu a1 hc2) [] [] [0] pre_nil rfl (by simp) (by decide) (.inl rfl) rfl Tryd.func25 rfl rfl rfl (fun v4 => ?_)
 refine al_mv rfl rfl ?_
 refine al_ex rfl rfl rfl ?_
 refine al_ex rfl rfl rfl ?_
 refine al_alloc (zs := [nS]) (zeroOf_to to52) rfl rfl (fun g5 => ?_)
 refine al_store (i := 0) (vs := [v4]) (cs' := [v4]) rfl rfl rfl sz52 (cv_own 1 rfl) rfl (co_own 1 rfl co_nil) (Nat.le_of_ble_eq_true rfl) rfl rfl ?_
 refine al_as rfl rfl ?_
 refine al_nt ?_
 refine aw_seq ?_
 refine aw_freezeBN (τ := (tyList tyS_lumref_mark)) 2 (a0) rfl rfl (fun hm => fz_at (i := 0) hm rfl) ?_
 refine aw_freeze 1 rfl rfl ?_
 refine aw_freezeBN (τ := (tyList tq)) 0 (r3.1) rfl rfl (fun hm => fz_at (i := 0) hm rfl) ?_
 refine aw_region ?_
 refine al_loadP1 0 rfl rfl Tryd.underlying52 sz52 rfl rfl rfl (fun s6 => ?_)
 refine al_val (ov_lenD 0 rfl rfl Tryd.underlying52 rfl) ?_
 refine al_loadP1 3 rfl rfl Tryd.underlying56 sz56 rfl rfl rfl (fun s7 => ?_)
 refine al_val (ov_lenD 0 rfl rfl Tryd.underlying56 rfl) ?_
 refine al_val (ov_makeFunc2 (vs := [(pq g1)]) rfl rfl) ?_
 refine al_val (ov_makeFunc2 (vs := [(pq g1), (pq g5)]) rfl rfl) ?_
 obtain ⟨r9, hc8, h⟩ := opt_some h
 refine al_call (vs := [(iq (r3.1.length : Int)), (iq (a0.length : Int)), (Value.func (.func 84) #[] #[(pq g1)]), (Value.func (.func 85) #[] #[(pq g1), (pq g5)])]) (f_lumref_table_F84_F85_ok fu (r3.1.length : Int) (a0.length : Int) (pq g1) a0 (pq g1) a0 (pq g5) r3.1 hc8) [] [] [] (pre_fz 4 rfl (pre_fz 4 rfl (pre_fz 2 rfl pre_nil))) rfl (by simp) (by decide) (.inl rfl) rfl Tryd.func57 rfl rfl rfl (fun _ => ?_)
 refine al_as rfl rfl ?_
 refine al_nt ?_
 refine aw_ret ?_
 obtain rfl := Option.some.inj h
 exact fn_ret () [] [] rfl rfl rfl rfl (res1 rfl rfl) rfl rfl rfl (by decide)
def f_lumref_Fits_2 (fu : Nat) (a0 : Int) (a1 : Int) (a2 : (List (Option (List S_lumref_mark)))) (a3 : (List (List UInt8))) : Option Bool := (opt (at? a2 a0) fun (u2 : (Option (List S_lumref_mark))) => (opt (at? a3 a1) fun (u7 : (List UInt8)) => (opt (f_lumref_partFits fu (u2.getD []) u7) fun (r11 : Bool) => (some r11))))
set_option maxHeartbeats 2000000 in
set_option maxRecDepth 100000 in
theorem f_lumref_Fits_2_ok (fu : Nat) (a0 : Int) (a1 : Int) (c2 : Value) (a2 : (List (Option (List S_lumref_mark)))) (c3 : Value) (a3 : (List (List UInt8))) {r : Bool} (h : f_lumref_Fits_2 fu a0 a1 a2 a3 = some r) : FnOk Tryd.prog 59 [(int .i64 a0), (int .i64 a1), c2, c3] [(fPtr (tyList (tyOpt tyS_lumref_mark)) c2 a2), (fPtr (tyList tyStr) c3 a3)] [] (fun (i : Unit) => { val := (bool r) }) := by
 unfold f_lumref_Fits_2 at h
 refine fn_enter Tryd.func59 rfl Tryd.ntmps59 rfl (fun w0 Z0 => ?_)
 refine aw_sr ?_
 refine al_as rfl rfl ?_
 refine al_nt ?_
 refine aw_seq ?_
 obtain ⟨u2, hu3, h⟩ := opt_some h
 obtain ⟨u7, hu8, h⟩ := opt_some h
 refine aw_region_open [⟨0, 7, Value, fun (i : Value) => { val := i, fz := [(fDat (tyList (tyOpt tyS_lumref_mark)) [i] a2)] }⟩, ⟨1, 8, Unit, fun _ => { val := (iq a0) }⟩, ⟨2, 9, Value, fun (i : Value) => { val := i, fz := [(fPtr (tyOpt tyS_lumref_mark) i u2)] }⟩, ⟨3, 10, Value, fun (i : Value) => { val := i, fz := [(fDat (tyList tyS_lumref_mark) [i] (u2.getD [])), (fDat (tyOpt tyS_lumref_mark) [i] u2)] }⟩, ⟨4, 11, Value, fun (i : Value) => { val := i, fz := [(fDat (tyList tyStr) [i] a3)] }⟩, ⟨5, 12, Unit, fun _ => { val := (iq a1) }⟩, ⟨6, 13, Value, fun (i : Value) => { val := i, fz := [(fPtr tyStr i u7)] }⟩, ⟨7, 14, Unit, fun _ => { val := (str u7) }⟩] (tab [(0, (iq a0)), (1, (iq a1)), (2, c2), (3, c3), (6, (bool false))]) mixed (fun a hs => hs.tab _ (allT_mem ⟨rfl, rfl, rfl, rfl, rfl, trivial⟩)) ?_
 refine ta_show (m := (memOf w0 Z0 [] [] [(fPtr (tyList (tyOpt tyS_lumref_mark)) c2 a2), (fPtr (tyList tyStr) c3 a3)])) (S := (tab [(0, (iq a0)), (1, (iq a1)), (2, c2), (3, c3), (6, (bool false))])) ?_
 refine ta_step 8 _ [0, 1, 2, 3, 4, 5, 6, 7] [7, 8, 9, 10, 11, 12, 13, 14] [0, 1, 2, 3, 4, 5, 6, 7] [] [⟨0, 7, Value, fun (i : Value) => { val := i, fz := [(fDat (tyList (tyOpt tyS_lumref_mark)) [i] a2)] }⟩, ⟨1, 8, Unit, fun _ => { val := (iq a0) }⟩, ⟨2, 9, Value, fun (i : Value) => { val := i, fz := [(fPtr (tyOpt tyS_lumref_mark) i u2)] }⟩, ⟨3, 10, Value, fun (i : Value) => { val := i, fz := [(fDat (tyList tyS_lumref_mark) [i] (u2.getD [])), (fDat (tyOpt tyS_lumref_mark) [i] u2)] }⟩, ⟨4, 11, Value, fun (i : Value) => { val := i, fz := [(fDat (tyList tyStr) [i] a3)] }⟩, ⟨5, 12, Unit, fun _ => { val := (iq a1) }⟩, ⟨6, 13, Value, fun (i : Value) => { val := i, fz := [(fPtr tyStr i u7)] }⟩, ⟨7, 14, Unit, fun _ => { val := (str u7) }⟩] [] rfl rfl rfl (by kernel_rfl) rfl rfl rfl ⟨⟨_, rfl, [], rfl, by
 intro X_ Y_ F_ K_ hK_
 refine al_show (m := Mem.plus (memOf w0 Z0 [] [] [(fPtr (tyList (tyOpt tyS_lumref_mark)) c2 a2), (fPtr (tyList tyStr) c3 a3)]) X_ Y_) (S := over (tab [(0, (iq a0)), (1, (iq a1)), (2, c2), (3, c3), (6, (bool false))]) F_) ?_
 refine al_loadP1 0 rfl rfl Tryd.underlying27 sz27 rfl rfl rfl (fun s1 => ?_)
 refine al_nil ?_
 exact fr_fin hK_ s1⟩, ⟨_, rfl, [], rfl, by
 intro X_ Y_ F_ K_ hK_
 refine al_show (m := Mem.plus (memOf w0 Z0 [] [] [(fPtr (tyList (tyOpt tyS_lumref_mark)) c2 a2), (fPtr (tyList tyStr) c3 a3)]) X_ Y_) (S := over (tab [(0, (iq a0)), (1, (iq a1)), (2, c2), (3, c3), (6, (bool false))]) F_) ?_
 refine al_mv rfl rfl ?_
 refine al_nil ?_
 exact fr_fin hK_ ()⟩, ⟨_, rfl, [0, 1], rfl, by
 intro s1
 intro _
 intro X_ Y_ F_ K_ hK_
 refine al_show (m := Mem.plus (memOf w0 Z0 [] [] [(fDat (tyList (tyOpt tyS_lumref_mark)) [s1] a2), (fPtr (tyList (tyOpt tyS_lumref_mark)) c2 a2), (fPtr (tyList tyStr) c3 a3)]) X_ Y_) (S := over (put (put (tab [(0, (iq a0)), (1, (iq a1)), (2, c2), (3, c3), (6, (bool false))]) 7 s1) 8 (iq a0)) F_) ?_
 refine al_idxD 0 hu3 rfl rfl rfl Tryd.underlying27 sz56 rfl (fun p4 => ?_)
 refine al_nil ?_
 exact fr_fin hK_ p4⟩, ⟨_, rfl, [2], rfl, by
 intro p4
 intro X_ Y_ F_ K_ hK_
 refine al_show (m := Mem.plus (memOf w0 Z0 [] [] [(fPtr (tyOpt tyS_lumref_mark) p4 u2), (fPtr (tyList (tyOpt tyS_lumref_mark)) c2 a2), (fPtr (tyList tyStr) c3 a3)]) X_ Y_) (S := over (put (tab [(0, (iq a0)), (1, (iq a1)), (2, c2), (3, c3), (6, (bool false))]) 9 p4) F_) ?_
 refine al_loadP1 0 rfl rfl Tryd.underlying56 sz56 rfl rfl rfl (fun s5 => ?_)
 refine al_optL 0 rfl ?_
 refine al_nil ?_
 exact fr_fin hK_ s5⟩, ⟨_, rfl, [], rfl, by
 intro X_ Y_ F_ K_ hK_
 refine al_show (m := Mem.plus (memOf w0 Z0 [] [] [(fPtr (tyList (tyOpt tyS_lumref_mark)) c2 a2), (fPtr (tyList tyStr) c3 a3)]) X_ Y_) (S := over (tab [(0, (iq a0)), (1, (iq a1)), (2, c2), (3, c3), (6, (bool false))]) F_) ?_
 refine al_loadP1 1 rfl rfl Tryd.underlying22 sz22 rfl rfl rfl (fun s6 => ?_)
 refine al_nil ?_
 exact fr_fin hK_ s6⟩, ⟨_, rfl, [], rfl, by
 intro X_ Y_ F_ K_ hK_
 refine al_show (m := Mem.plus (memOf w0 Z0 [] [] [(fPtr (tyList (tyOpt tyS_lumref_mark)) c2 a2), (fPtr (tyList tyStr) c3 a3)]) X_ Y_) (S := over (tab [(0, (iq a0)), (1, (iq a1)), (2, c2), (3, c3), (6, (bool false))]) F_) ?_
 refine al_mv rfl rfl ?_
 refine al_nil ?_
 exact fr_fin hK_ ()⟩, ⟨_, rfl, [4, 5], rfl, by
 intro s6
 intro _
 intro X_ Y_ F_ K_ hK_
 refine al_show (m := Mem.plus (memOf w0 Z0 [] [] [(fDat (tyList tyStr) [s6] a3), (fPtr (tyList (tyOpt tyS_lumref_mark)) c2 a2), (fPtr (tyList tyStr) c3 a3)]) X_ Y_) (S := over (put (put (tab [(0, (iq a0)), (1, (iq a1)), (2, c2), (3, c3), (6, (bool false))]) 11 s6) 12 (iq a1)) F_) ?_
 refine al_idxD 0 hu8 rfl rfl rfl Tryd.underlying22 sz9 rfl (fun p9 => ?_)
 refine al_nil ?_
 exact fr_fin hK_ p9⟩, ⟨_, rfl, [6], rfl, by
 intro p9
 intro X_ Y_ F_ K_ hK_
 refine al_show (m := Mem.plus (memOf w0 Z0 [] [] [(fPtr tyStr p9 u7), (fPtr (tyList (tyOpt tyS_lumref_mark)) c2 a2), (fPtr (tyList tyStr) c3 a3)]) X_ Y_) (S := over (put (tab [(0, (iq a0)), (1, (iq a1)), (2, c2), (3, c3), (6, (bool false))]) 13 p9) F_) ?_
 refine al_val (ov_loadP (ds := [(str u7)]) 0 rfl (fun h => h) rfl Tryd.underlying9 sz9 rfl rfl rfl) ?_
 refine al_nil ?_
 exact fr_fin hK_ ()⟩, trivial⟩ ?_
 intro s1
 intro _
 intro p4
 intro s5
 intro s6
 intro _
 intro p9
 intro _
 intro X_ Y_ F_ K_ hK_
 refine al_show (m := Mem.plus (memOf w0 Z0 [] [] [(fPtr tyStr p9 u7), (fDat (tyList tyStr) [s6] a3), (fDat (tyList tyS_lumref_mark) [s5] (u2.getD [])), (fDat (tyOpt tyS_lumref_mark) [s5] u2), (fPtr (tyOpt tyS_lumref_mark) p4 u2), (fDat (tyList (tyOpt tyS_lumref_mark)) [s1] a2), (fPtr (tyList (tyOpt tyS_lumref_mark)) c2 a2), (fPtr (tyList tyStr) c3 a3)]) X_ Y_) (S := over (put (put (put (put (put (put (put (put (tab [(0, (iq a0)), (1, (iq a1)), (2, c2), (3, c3), (6, (bool false))]) 7 s1) 8 (iq a0)) 9 p4) 10 s5) 11 s6) 12 (iq a1)) 13 p9) 14 (str u7)) F_) ?_
 obtain ⟨r11, hc10, h⟩ := opt_some h
 refine al_callX (vs := [s5, (str u7)]) (f_lumref_partFits_ok fu s5 (u2.getD []) u7 hc10) [] [] [] (pre_fz 2 rfl pre_nil) rfl (by simp) (by decide) rfl (.inl rfl) rfl Tryd.func60 rfl rfl rfl (fun _ => ?_)
 refine al_nil ?_
 refine aq_show (m := Mem.plus (memOf w0 Z0 [] [] [(fPtr tyStr p9 u7), (fDat (tyList tyStr) [s6] a3), (fDat (tyList tyS_lumref_mark) [s5] (u2.getD [])), (fDat (tyOpt tyS_lumref_mark) [s5] u2), (fPtr (tyOpt tyS_lumref_mark) p4 u2), (fDat (tyList (tyOpt tyS_lumref_mark)) [s1] a2), (fPtr (tyList (tyOpt tyS_lumref_mark)) c2 a2), (fPtr (tyList tyStr) c3 a3)]) X_ Y_) ?_
 refine aq_next hK_ [] [6, 7] [(6, (bool false)), (15, (bool r11))] [] [] rfl rfl (by decide) rfl ⟨rfl, rfl, trivial⟩ trivial ?_
 clear hK_ K_ F_ X_ Y_
 refine ta_show (m := (memOf w0 Z0 [] [] [(fPtr (tyList (tyOpt tyS_lumref_mark)) c2 a2), (fPtr (tyList tyStr) c3 a3)])) (S := (tab [(6, (bool false)), (15, (bool r11))])) ?_
 refine ta_step 9 _ [] [] [] [] [] [] rfl rfl rfl (by kernel_rfl) rfl rfl rfl trivial ?_
 intro X_ Y_ F_ K_ hK_
 refine al_show (m := Mem.plus (memOf w0 Z0 [] [] [(fPtr (tyList (tyOpt tyS_lumref_mark)) c2 a2), (fPtr (tyList tyStr) c3 a3)]) X_ Y_) (S := over (tab [(6, (bool false)), (15, (bool r11))]) F_) ?_
 refine al_as rfl rfl ?_
 refine al_nil ?_
 refine aq_show (m := Mem.plus (memOf w0 Z0 [] [] [(fPtr (tyList (tyOpt tyS_lumref_mark)) c2 a2), (fPtr (tyList tyStr) c3 a3)]) X_ Y_) ?_
 refine aq_next hK_ [] [0, 1] [(6, (bool r11))] [] [] rfl rfl (by decide) rfl ⟨rfl, trivial⟩ trivial ?_
 clear hK_ K_ F_ X_ Y_
 refine ta_show (m := (memOf w0 Z0 [] [] [(fPtr (tyList (tyOpt tyS_lumref_mark)) c2 a2), (fPtr (tyList tyStr) c3 a3)])) (S := (tab [(6, (bool r11))])) ?_
 refine ta_end [] [] rfl rfl (by kernel_rfl) rfl trivial ?_
 refine aq_show (m := (memOf w0 Z0 [] [] [(fPtr (tyList (tyOpt tyS_lumref_mark)) c2 a2), (fPtr (tyList tyStr) c3 a3)])) (S := (tab [(6, (bool r11))])) ?_
 refine aq_then ?_
 refine aw_ret ?_
 obtain rfl := Option.some.inj h
 exact fn_ret () [] [] rfl rfl rfl rfl (res1 rfl rfl) rfl rfl rfl (by decide)
def f_lumref_table_F58_F59_L26 (a0 : Int) (a2_0 : (List (Option (List S_lumref_mark)))) (a3_0 : (List (Option (List S_lumref_mark)))) (a3_1 : (List (List UInt8))) (l13x9 : (List Bool)) (l13i19 : Int) (kk23 : ((List Bool) → Option Bool)) (fu : Nat) : Nat → (List Bool) → Int → Option Bool
  | 0, _, _ => none
  | k25 + 1, l24x11, l24i27 => (bif (decide (l24i27 < (IntKind.i64.wrap (a0 + (1 : Int))))) then (lt (fun (j28x11 : (List Bool)) => (f_lumref_table_F58_F59_L26 a0 a2_0 a3_0 a3_1 l13x9 l13i19 kk23 fu k25 j28x11 (IntKind.i64.wrap (l24i27 + (1 : Int))))) fun (kk29 : (List Bool) → Option Bool) => (opt (f_lumref_Fits_1 fu l13i19 a2_0) fun (r31 : Bool) => (bif r31 then (opt (at? l13x9 l24i27) fun (u33 : Bool) => (bif u33 then (opt (at? l24x11 l24i27) fun (u38 : Bool) => (kk29 (l24x11.set (l24i27).toNat true))) else (bif (decide (l24i27 > (0 : Int))) then (opt (at? l24x11 (IntKind.i64.wrap (l24i27 - (1 : Int)))) fun (u43 : Bool) => (opt (at? l24x11 l24i27) fun (u47 : Bool) => (kk29 (l24x11.set (l24i27).toNat u43)))) else (opt (at? l24x11 l24i27) fun (u51 : Bool) => (kk29 (l24x11.set (l24i27).toNat false)))))) else (bif (decide (l24i27 > (0 : Int))) then (opt (at? l13x9 (IntKind.i64.wrap (l24i27 - (1 : Int)))) fun (u56 : Bool) => (bif u56 then (opt (f_lumref_Fits_2 fu l13i19 (IntKind.i64.wrap (l24i27 - (1 : Int))) a3_0 a3_1) fun (r62 : Bool) => (opt (at? l24x11 l24i27) fun (u63 : Bool) => (kk29 (l24x11.set (l24i27).toNat r62)))) else (opt (at? l24x11 l24i27) fun (u67 : Bool) => (kk29 (l24x11.set (l24i27).toNat false))))) else (opt (at? l24x11 l24i27) fun (u71 : Bool) => (kk29 (l24x11.set (l24i27).toNat false))))))) else (kk23 l24x11))
def f_lumref_table_F58_F59_L15 (a0 : Int) (a1 : Int) (a2_0 : (List (Option (List S_lumref_mark)))) (a3_0 : (List (Option (List S_lumref_mark)))) (a3_1 : (List (List UInt8))) (kk8 : ((List Bool) → Option Bool)) (fu : Nat) : Nat → (List Bool) → Int → Option Bool
  | 0, _, _ => none
  | k14 + 1, l13x9, l13i19 => (lt (fun (l13x9 : (List Bool)) (l13i19 : Int) => (f_lumref_table_F58_F59_L15 a0 a1 a2_0 a3_0 a3_1 kk8 fu k14 l13x9 l13i19)) fun (kk16 : (List Bool) → Int → Option Bool) => (bif (decide (l13i19 < a1)) then (lt (fun (j18x9 : (List Bool)) => (kk16 j18x9 (IntKind.i64.wrap (l13i19 + (1 : Int))))) fun (kk19 : (List Bool) → Option Bool) => (req (0 ≤ (IntKind.i64.wrap (a0 + (1 : Int))) ∧ 1 * (IntKind.i64.wrap (a0 + (1 : Int))) ≤ 281474976710656 ∧ (IntKind.i64.wrap (a0 + (1 : Int))) ≤ 9223372036854775807) (lt (fun (j22x11 : (List Bool)) => (kk19 j22x11)) fun (kk23 : (List Bool) → Option Bool) => (f_lumref_table_F58_F59_L26 a0 a2_0 a3_0 a3_1 l13x9 l13i19 kk23 fu fu (List.replicate ((IntKind.i64.wrap (a0 + (1 : Int)))).toNat false) (0 : Int))))) else (kk8 l13x9)))
def f_lumref_table_F58_F59 (fu : Nat) (a0 : Int) (a1 : Int) (a2_0 : (List (Option (List S_lumref_mark)))) (a3_0 : (List (Option (List S_lumref_mark)))) (a3_1 : (List (List UInt8))) : Option Bool := (req (0 ≤ (IntKind.i64.wrap (a0 + (1 : Int))) ∧ 1 * (IntKind.i64.wrap (a0 + (1 : Int))) ≤ 281474976710656 ∧ (IntKind.i64.wrap (a0 + (1 : Int))) ≤ 9223372036854775807) (opt (at? (List.replicate ((IntKind.i64.wrap (a0 + (1 : Int)))).toNat false) (0 : Int)) fun (u3 : Bool) => (lt (fun (j7x9 : (List Bool)) => (opt (at? j7x9 a0) fun (u9 : Bool) => (some u9))) fun (kk8 : (List Bool) → Option Bool) => (f_lumref_table_F58_F59_L15 a0 a1 a2_0 a3_0 a3_1 kk8 fu fu ((List.replicate ((IntKind.i64.wrap (a0 + (1 : Int)))).toNat false).set ((0 : Int)).toNat true) (0 : Int)))))
set_option maxRecDepth 100000 in
set_option maxHeartbeats 2000000 in
set_option maxHeartbeats 2000000 in
theorem f_lumref_table_F58_F59_ok (fu : Nat) (a0 : Int) (a1 : Int) (c2_0 : Value) (a2_0 : (List (Option (List S_lumref_mark)))) (c3_0 : Value) (a3_0 : (List (Option (List S_lumref_mark)))) (c3_1 : Value) (a3_1 : (List (List UInt8))) {r : Bool} (h : f_lumref_table_F58_F59 fu a0 a1 a2_0 a3_0 a3_1 = some r) : FnOk Tryd.prog 57 [(int .i64 a0), (int .i64 a1), (Value.func (.func 58) #[] #[c2_0]), (Value.func (.func 59) #[] #[c3_0, c3_1])] [(fPtr (tyList (tyOpt tyS_lumref_mark)) c2_0 a2_0), (fPtr (tyList (tyOpt tyS_lumref_mark)) c3_0 a3_0), (fPtr (tyList tyStr) c3_1 a3_1)] [] (fun (i : Unit) => { val := (bool r) }) := by
 unfold f_lumref_table_F58_F59 at h
 refine fn_enter Tryd.func57 rfl Tryd.ntmps57 rfl (fun w0 Z0 => ?_)
 refine aw_sr ?_
 refine al_as rfl rfl ?_
 refine al_nt ?_
 refine aw_sr ?_
 refine al_mv rfl rfl ?_
 refine al_in rfl rfl rfl rfl ?_
 obtain ⟨hc1, h⟩ := req_some h
 refine al_make (τ := tyBool) (x0 := false) hc1.1 hc1.2.1 hc1.2.2 rfl rfl Tryd.underlying131 to4 (fun _ _ => rfl) rfl rfl (fun v2 => ?_)
 refine al_as rfl rfl ?_
 refine al_nt ?_
 refine aw_sr ?_
 refine al_mv rfl rfl ?_
 obtain ⟨u3, hu4, h⟩ := opt_some h
 refine al_idxR 0 (at_some hu4).1 (at_some hu4).2.1 rfl rfl rfl Tryd.underlying131 sz4 rfl (fun p5 hp6 => ?_)
 refine al_storeR (k := ((0 : Int)).toNat) (x := true) (vs := [(bool true)]) 0 rfl hp6 (idx_lt hu4) rfl rfl (cv_rfl rfl) (fun _ => rfl) sz4 rfl ?_
 refine al_nt ?_
 obtain ⟨kk8, hkk8, h⟩ := lt_some h
 refine aw_seq_join (ι := Value × (List Bool)) (fun i => (memOf w0 Z0 [] [(oRow i.1 4 tyBool i.2)] [(fPtr (tyList (tyOpt tyS_lumref_mark)) c2_0 a2_0), (fPtr (tyList (tyOpt tyS_lumref_mark)) c3_0 a3_0), (fPtr (tyList tyStr) c3_1 a3_1)])) (fun i => (tab [(0, (iq a0)), (9, i.1)])) (fun i => kk8 i.2 = some r) ?_ ?_
 ·rintro ⟨j7v9, j7x9⟩ h
  have h : kk8 j7x9 = some r := h
  rw [hkk8] at h
  dsimp only at h
  clear hkk8
  refine aw_show (m := (memOf w0 Z0 [] [(oRow j7v9 4 tyBool j7x9)] [(fPtr (tyList (tyOpt tyS_lumref_mark)) c2_0 a2_0), (fPtr (tyList (tyOpt tyS_lumref_mark)) c3_0 a3_0), (fPtr (tyList tyStr) c3_1 a3_1)])) (S := (tab [(0, (iq a0)), (9, j7v9)])) ?_
  refine aw_sr ?_
  refine al_mv rfl rfl ?_
  refine al_mv rfl rfl ?_
  obtain ⟨u9, hu10, h⟩ := opt_some h
  refine al_idxR 0 (at_some hu10).1 (at_some hu10).2.1 rfl rfl rfl Tryd.underlying131 sz4 rfl (fun p11 hp12 => ?_)
  refine al_val (ov_loadR (ds := [(bool u9)]) 0 rfl hp12 (at_some hu10).2.2 (fun h => h) rfl Tryd.underlying4 sz4 rfl rfl rfl) ?_
  refine al_as rfl rfl ?_
  refine al_nt ?_
  refine aw_ret ?_
  obtain rfl := Option.some.inj h
  exact fn_ret () [] [] rfl rfl rfl rfl (res1 rfl rfl) rfl rfl rfl (by decide)
 ·clear hkk8
  refine aw_sr ?_
  refine al_mv rfl rfl ?_
  refine al_mv rfl rfl ?_
  refine al_nt ?_
  refine aw_block ?_
  refine aw_state (aw_loop (ι := Value × (List Bool) × Int) (fun i => (memOf w0 Z0 [] [(oRow i.1 4 tyBool i.2.1)] [(fPtr (tyList (tyOpt tyS_lumref_mark)) c2_0 a2_0), (fPtr (tyList (tyOpt tyS_lumref_mark)) c3_0 a3_0), (fPtr (tyList tyStr) c3_1 a3_1)])) (fun i => (tab [(0, (iq a0)), (2, (Value.func (.func 58) #[] #[c2_0])), (3, (Value.func (.func 59) #[] #[c3_0, c3_1])), (9, i.1), (18, (iq a1)), (19, (iq i.2.2))])) (fun q i => f_lumref_table_F58_F59_L15 a0 a1 a2_0 a3_0 a3_1 kk8 fu q i.2.1 i.2.2 = some r) ?_ fu (v2, ((List.replicate ((wq (a0 + (1 : Int)))).toNat false).set ((0 : Int)).toNat true), (0 : Int)) h) (fun w a hm hs => norm hm hs [0] [0, 1, 2] [(0, (iq a0)), (2, (Value.func (.func 58) #[] #[c2_0])), (3, (Value.func (.func 59) #[] #[c3_0, c3_1])), (9, v2), (18, (iq a1)), (19, (iq (0 : Int)))] (by decide) ⟨rfl, rfl, rfl, rfl, rfl, rfl, trivial⟩)
  clear h
  rintro k14 ⟨l13v9, l13x9, l13i19⟩ h
  have h : f_lumref_table_F58_F59_L15 a0 a1 a2_0 a3_0 a3_1 kk8 fu k14 l13x9 l13i19 = some r := h
  obtain _ | k14 := k14
  · rw [f_lumref_table_F58_F59_L15] at h; cases h
  rw [f_lumref_table_F58_F59_L15] at h
  refine aw_show (m := (memOf w0 Z0 [] [(oRow l13v9 4 tyBool l13x9)] [(fPtr (tyList (tyOpt tyS_lumref_mark)) c2_0 a2_0), (fPtr (tyList (tyOpt tyS_lumref_mark)) c3_0 a3_0), (fPtr (tyList tyStr) c3_1 a3_1)])) (S := (tab [(0, (iq a0)), (2, (Value.func (.func 58) #[] #[c2_0])), (3, (Value.func (.func 59) #[] #[c3_0, c3_1])), (9, l13v9), (18, (iq a1)), (19, (iq l13i19))])) ?_
  obtain ⟨kk16, hkk16, h⟩ := lt_some h
  refine aw_body_join (ι := Value × (List Bool) × Int) (fun i => (memOf w0 Z0 [] [(oRow i.1 4 tyBool i.2.1)] [(fPtr (tyList (tyOpt tyS_lumref_mark)) c2_0 a2_0), (fPtr (tyList (tyOpt tyS_lumref_mark)) c3_0 a3_0), (fPtr (tyList tyStr) c3_1 a3_1)])) (fun i => (tab [(0, (iq a0)), (2, (Value.func (.func 58) #[] #[c2_0])), (3, (Value.func (.func 59) #[] #[c3_0, c3_1])), (9, i.1), (18, (iq a1)), (19, (iq i.2.2))])) (fun i => kk16 i.2.1 i.2.2 = some r) (fun i h => aq_again k14 i (Nat.lt_succ_self _) (by rw [hkk16] at h; exact h) (fun w a hm hs => ⟨hm, hs⟩)) ?_
  clear hkk16
  refine aw_sr ?_
  refine al_in rfl rfl rfl rfl ?_
  refine al_nt ?_
  refine aw_seq ?_
  refine aw_cond rfl (fun hb17 => ?_) (fun hb17 => ?_)
  ·replace h := bif_t hb17 h
   refine aw_skip ?_
   refine aq_then ?_
   obtain ⟨kk19, hkk19, h⟩ := lt_some h
   refine aw_seq_join (ι := Value × (List Bool)) (fun i => (memOf w0 Z0 [] [(oRow i.1 4 tyBool i.2)] [(fPtr (tyList (tyOpt tyS_lumref_mark)) c2_0 a2_0), (fPtr (tyList (tyOpt tyS_lumref_mark)) c3_0 a3_0), (fPtr (tyList tyStr) c3_1 a3_1)])) (fun i => (tab [(0, (iq a0)), (2, (Value.func (.func 58) #[] #[c2_0])), (3, (Value.func (.func 59) #[] #[c3_0, c3_1])), (9, i.1), (18, (iq a1)), (19, (iq l13i19))])) (fun i => kk19 i.2 = some r) ?_ ?_
   ·rintro ⟨j18v9, j18x9⟩ h
    have h : kk19 j18x9 = some r := h
    rw [hkk19] at h
    dsimp only at h
    clear hkk19
    refine aw_show (m := (memOf w0 Z0 [] [(oRow j18v9 4 tyBool j18x9)] [(fPtr (tyList (tyOpt tyS_lumref_mark)) c2_0 a2_0), (fPtr (tyList (tyOpt tyS_lumref_mark)) c3_0 a3_0), (fPtr (tyList tyStr) c3_1 a3_1)])) (S := (tab [(0, (iq a0)), (2, (Value.func (.func 58) #[] #[c2_0])), (3, (Value.func (.func 59) #[] #[c3_0, c3_1])), (9, j18v9), (18, (iq a1)), (19, (iq l13i19))])) ?_
    refine aw_region ?_
    refine al_in rfl rfl rfl rfl ?_
    refine al_mv rfl rfl ?_
    refine al_nil ?_
    exact aq_join (j18v9, j18x9, (wq (l13i19 + (1 : Int)))) h (fun w a hm hs => norm hm hs [0] [0, 1, 2] [(0, (iq a0)), (2, (Value.func (.func 58) #[] #[c2_0])), (3, (Value.func (.func 59) #[] #[c3_0, c3_1])), (9, j18v9), (18, (iq a1)), (19, (iq (wq (l13i19 + (1 : Int)))))] (by decide) ⟨rfl, rfl, rfl, rfl, rfl, rfl, trivial⟩)
   ·clear hkk19
    refine aw_block ?_
    refine aw_sr ?_
    refine al_mv rfl rfl ?_
    refine al_as rfl rfl ?_
    refine al_nt ?_
    refine aw_sr ?_
    refine al_mv rfl rfl ?_
    refine al_in rfl rfl rfl rfl ?_
    obtain ⟨hc20, h⟩ := req_some h
    refine al_make (τ := tyBool) (x0 := false) hc20.1 hc20.2.1 hc20.2.2 rfl rfl Tryd.underlying131 to4 (fun _ _ => rfl) rfl rfl (fun v21 => ?_)
    refine al_as rfl rfl ?_
    refine al_nt ?_
    obtain ⟨kk23, hkk23, h⟩ := lt_some h
    refine aw_seq_join (ι := (List Bool)) (fun i => (memOf w0 Z0 [] [(oRow v21 4 tyBool i)] [(fPtr (tyList (tyOpt tyS_lumref_mark)) c2_0 a2_0), (fPtr (tyList (tyOpt tyS_lumref_mark)) c3_0 a3_0), (fPtr (tyList tyStr) c3_1 a3_1)])) (fun i => (tab [(0, (iq a0)), (2, (Value.func (.func 58) #[] #[c2_0])), (3, (Value.func (.func 59) #[] #[c3_0, c3_1])), (11, v21), (18, (iq a1)), (19, (iq l13i19))])) (fun i => kk23 i = some r) ?_ ?_
    ·rintro j22x11 h
     have h : kk23 j22x11 = some r := h
     rw [hkk23] at h
     dsimp only at h
     clear hkk23
     refine aw_show (m := (memOf w0 Z0 [] [(oRow v21 4 tyBool j22x11)] [(fPtr (tyList (tyOpt tyS_lumref_mark)) c2_0 a2_0), (fPtr (tyList (tyOpt tyS_lumref_mark)) c3_0 a3_0), (fPtr (tyList tyStr) c3_1 a3_1)])) (S := (tab [(0, (iq a0)), (2, (Value.func (.func 58) #[] #[c2_0])), (3, (Value.func (.func 59) #[] #[c3_0, c3_1])), (11, v21), (18, (iq a1)), (19, (iq l13i19))])) ?_
     refine aw_region ?_
     refine al_mv rfl rfl ?_
     refine al_as rfl rfl ?_
     refine al_nil ?_
     refine aq_block ?_
     exact aq_join (v21, j22x11) h (fun w a hm hs => norm hm hs [0] [0, 1, 2] [(0, (iq a0)), (2, (Value.func (.func 58) #[] #[c2_0])), (3, (Value.func (.func 59) #[] #[c3_0, c3_1])), (9, v21), (18, (iq a1)), (19, (iq l13i19))] (by decide) ⟨rfl, rfl, rfl, rfl, rfl, rfl, trivial⟩)
    ·clear hkk23
     refine aw_sr ?_
     refine al_mv rfl rfl ?_
     refine al_in rfl rfl rfl rfl ?_
     refine al_mv rfl rfl ?_
     refine al_nt ?_
     refine aw_block ?_
     refine aw_state (aw_loop (ι := (List Bool) × Int) (fun i => (memOf w0 Z0 [] [(oRow l13v9 4 tyBool l13x9), (oRow v21 4 tyBool i.1)] [(fPtr (tyList (tyOpt tyS_lumref_mark)) c2_0 a2_0), (fPtr (tyList (tyOpt tyS_lumref_mark)) c3_0 a3_0), (fPtr (tyList tyStr) c3_1 a3_1)])) (fun i => (tab [(0, (iq a0)), (2, (Value.func (.func 58) #[] #[c2_0])), (3, (Value.func (.func 59) #[] #[c3_0, c3_1])), (9, l13v9), (10, (iq l13i19)), (11, v21), (18, (iq a1)), (19, (iq l13i19)), (26, (iq (wq (a0 + (1 : Int))))), (27, (iq i.2))])) (fun q i => f_lumref_table_F58_F59_L26 a0 a2_0 a3_0 a3_1 l13x9 l13i19 kk23 fu q i.1 i.2 = some r) ?_ fu ((List.replicate ((wq (a0 + (1 : Int)))).toNat false), (0 : Int)) h) (fun w a hm hs => norm hm hs [1, 0] [0, 1, 2] [(0, (iq a0)), (2, (Value.func (.func 58) #[] #[c2_0])), (3, (Value.func (.func 59) #[] #[c3_0, c3_1])), (9, l13v9), (10, (iq l13i19)), (11, v21), (18, (iq a1)), (19, (iq l13i19)), (26, (iq (wq (a0 + (1 : Int))))), (27, (iq (0 : Int)))] (by decide) ⟨rfl, rfl, rfl, rfl, rfl, rfl, rfl, rfl, rfl, rfl, trivial⟩)
     clear h
     rintro k25 ⟨l24x11, l24i27⟩ h
     have h : f_lumref_table_F58_F59_L26 a0 a2_0 a3_0 a3_1 l13x9 l13i19 kk23 fu k25 l24x11 l24i27 = some r := h
     obtain _ | k25 := k25
     · rw [f_lumref_table_F58_F59_L26] at h; cases h
     rw [f_lumref_table_F58_F59_L26] at h
     refine aw_show (m := (memOf w0 Z0 [] [(oRow l13v9 4 tyBool l13x9), (oRow v21 4 tyBool l24x11)] [(fPtr (tyList (tyOpt tyS_lumref_mark)) c2_0 a2_0), (fPtr (tyList (tyOpt tyS_lumref_mark)) c3_0 a3_0), (fPtr (tyList tyStr) c3_1 a3_1)])) (S := (tab [(0, (iq a0)), (2, (Value.func (.func 58) #[] #[c2_0])), (3, (Value.func (.func 59) #[] #[c3_0, c3_1])), (9, l13v9), (10, (iq l13i19)), (11, v21), (18, (iq a1)), (19, (iq l13i19)), (26, (iq (wq (a0 + (1 : Int))))), (27, (iq l24i27))])) ?_
     refine aw_sr ?_
     refine al_in rfl rfl rfl rfl ?_
     refine al_nt ?_
     refine aw_seq ?_
     refine aw_cond rfl (fun hb27 => ?_) (fun hb27 => ?_)
     ·replace h := bif_t hb27 h
      refine aw_skip ?_
      refine aq_then ?_
      obtain ⟨kk29, hkk29, h⟩ := lt_some h
      refine aw_seq_join (ι := (List Bool)) (fun i => (memOf w0 Z0 [] [(oRow l13v9 4 tyBool l13x9), (oRow v21 4 tyBool i)] [(fPtr (tyList (tyOpt tyS_lumref_mark)) c2_0 a2_0), (fPtr (tyList (tyOpt tyS_lumref_mark)) c3_0 a3_0), (fPtr (tyList tyStr) c3_1 a3_1)])) (fun i => (tab [(0, (iq a0)), (2, (Value.func (.func 58) #[] #[c2_0])), (3, (Value.func (.func 59) #[] #[c3_0, c3_1])), (9, l13v9), (10, (iq l13i19)), (11, v21), (18, (iq a1)), (19, (iq l13i19)), (26, (iq (wq (a0 + (1 : Int))))), (27, (iq l24i27))])) (fun i => kk29 i = some r) ?_ ?_
      ·rintro j28x11 h
       have h : kk29 j28x11 = some r := h
       rw [hkk29] at h
       dsimp only at h
       clear hkk29
       refine aw_show (m := (memOf w0 Z0 [] [(oRow l13v9 4 tyBool l13x9), (oRow v21 4 tyBool j28x11)] [(fPtr (tyList (tyOpt tyS_lumref_mark)) c2_0 a2_0), (fPtr (tyList (tyOpt tyS_lumref_mark)) c3_0 a3_0), (fPtr (tyList tyStr) c3_1 a3_1)])) (S := (tab [(0, (iq a0)), (2, (Value.func (.func 58) #[] #[c2_0])), (3, (Value.func (.func 59) #[] #[c3_0, c3_1])), (9, l13v9), (10, (iq l13i19)), (11, v21), (18, (iq a1)), (19, (iq l13i19)), (26, (iq (wq (a0 + (1 : Int))))), (27, (iq l24i27))])) ?_
       refine aw_region ?_
       refine al_in rfl rfl rfl rfl ?_
       refine al_mv rfl rfl ?_
       refine al_nil ?_
       exact aq_again k25 (j28x11, (wq (l24i27 + (1 : Int)))) (Nat.lt_succ_self _) h (fun w a hm hs => norm hm hs [0, 1] [0, 1, 2] [(0, (iq a0)), (2, (Value.func (.func 58) #[] #[c2_0])), (3, (Value.func (.func 59) #[] #[c3_0, c3_1])), (9, l13v9), (10, (iq l13i19)), (11, v21), (18, (iq a1)), (19, (iq l13i19)), (26, (iq (wq (a0 + (1 : Int))))), (27, (iq (wq (l24i27 + (1 : Int)))))] (by decide) ⟨rfl, rfl, rfl, rfl, rfl, rfl, rfl, rfl, rfl, rfl, trivial⟩)
      ·clear hkk29
       refine aw_block ?_
       refine aw_sr ?_
       refine al_mv rfl rfl ?_
       refine al_as rfl rfl ?_
       refine al_nt ?_
       refine aw_sr ?_
       refine al_mv rfl rfl ?_
       refine al_mv rfl rfl ?_
       obtain ⟨r31, hc30, h⟩ := opt_some h
       refine al_callF (vs := [(iq l13i19)]) (caps := [c2_0]) (f_lumref_Fits_1_ok fu l13i19 c2_0 a2_0 hc30) rfl [] [] [0, 1] (pre_fz 0 rfl pre_nil) rfl (by simp) (by decide) (.inl rfl) rfl rfl Tryd.func58 rfl rfl rfl (fun _ => ?_)
       refine al_nt ?_
       refine aw_cond rfl (fun hb32 => ?_) (fun hb32 => ?_)
       ·replace h := bif_t hb32 h
        refine aw_region ?_
        refine al_mv rfl rfl ?_
        refine al_mv rfl rfl ?_
        refine al_mv rfl rfl ?_
        refine al_mv rfl rfl ?_
        obtain ⟨u33, hu34, h⟩ := opt_some h
        refine al_idxR 0 (at_some hu34).1 (at_some hu34).2.1 rfl rfl rfl Tryd.underlying131 sz4 rfl (fun p35 hp36 => ?_)
        refine al_val (ov_loadR (ds := [(bool u33)]) 0 rfl hp36 (at_some hu34).2.2 (fun h => h) rfl Tryd.underlying4 sz4 rfl rfl rfl) ?_
        refine al_mv rfl rfl ?_
        refine al_caseB 39 rfl (fun hb37 => ?_) (fun hb37 => ?_)
        ·replace h := bif_t hb37 h
         refine al_skip ?_
         refine al_skip ?_
         refine al_skip ?_
         refine al_skip ?_
         refine al_skip ?_
         refine al_skip ?_
         refine al_skip ?_
         refine al_skip ?_
         refine al_skip ?_
         refine al_val (ov_pick_t rfl rfl rfl) ?_
         obtain ⟨u38, hu39, h⟩ := opt_some h
         refine al_idxR 1 (at_some hu39).1 (at_some hu39).2.1 rfl rfl rfl Tryd.underlying131 sz4 rfl (fun p40 hp41 => ?_)
         refine al_storeR (k := (l24i27).toNat) (x := true) (vs := [(bool true)]) 1 rfl hp41 (idx_lt hu39) rfl rfl (cv_rfl rfl) (fun _ => rfl) sz4 rfl ?_
         refine al_nil ?_
         refine aq_block ?_
         exact aq_join (l24x11.set (l24i27).toNat true) h (fun w a hm hs => norm hm hs [0, 1] [0, 1, 2] [(0, (iq a0)), (2, (Value.func (.func 58) #[] #[c2_0])), (3, (Value.func (.func 59) #[] #[c3_0, c3_1])), (9, l13v9), (10, (iq l13i19)), (11, v21), (18, (iq a1)), (19, (iq l13i19)), (26, (iq (wq (a0 + (1 : Int))))), (27, (iq l24i27))] (by decide) ⟨rfl, rfl, rfl, rfl, rfl, rfl, rfl, rfl, rfl, rfl, trivial⟩)
        ·replace h := bif_f hb37 h
         refine al_mv rfl rfl ?_
         refine al_in rfl rfl rfl rfl ?_
         refine al_mv rfl rfl ?_
         refine al_caseB 42 rfl (fun hb42 => ?_) (fun hb42 => ?_)
         ·replace h := bif_t hb42 h
          refine al_mv rfl rfl ?_
          refine al_mv rfl rfl ?_
          refine al_in rfl rfl rfl rfl ?_
          obtain ⟨u43, hu44, h⟩ := opt_some h
          refine al_idxR 1 (at_some hu44).1 (at_some hu44).2.1 rfl rfl rfl Tryd.underlying131 sz4 rfl (fun p45 hp46 => ?_)
          refine al_val (ov_loadR (ds := [(bool u43)]) 1 rfl hp46 (at_some hu44).2.2 (fun h => h) rfl Tryd.underlying4 sz4 rfl rfl rfl) ?_
          refine al_val (ov_pick_t rfl rfl rfl) ?_
          refine al_val (ov_pick_f rfl rfl rfl) ?_
          obtain ⟨u47, hu48, h⟩ := opt_some h
          refine al_idxR 1 (at_some hu48).1 (at_some hu48).2.1 rfl rfl rfl Tryd.underlying131 sz4 rfl (fun p49 hp50 => ?_)
          refine al_storeR (k := (l24i27).toNat) (x := u43) (vs := [(bool u43)]) 1 rfl hp50 (idx_lt hu48) rfl rfl (cv_rfl rfl) (fun _ => rfl) sz4 rfl ?_
          refine al_nil ?_
          refine aq_block ?_
          exact aq_join (l24x11.set (l24i27).toNat u43) h (fun w a hm hs => norm hm hs [0, 1] [0, 1, 2] [(0, (iq a0)), (2, (Value.func (.func 58) #[] #[c2_0])), (3, (Value.func (.func 59) #[] #[c3_0, c3_1])), (9, l13v9), (10, (iq l13i19)), (11, v21), (18, (iq a1)), (19, (iq l13i19)), (26, (iq (wq (a0 + (1 : Int))))), (27, (iq l24i27))] (by decide) ⟨rfl, rfl, rfl, rfl, rfl, rfl, rfl, rfl, rfl, rfl, trivial⟩)
         ·replace h := bif_f hb42 h
          refine al_skip ?_
          refine al_skip ?_
          refine al_skip ?_
          refine al_skip ?_
          refine al_skip ?_
          refine al_val (ov_pick_f rfl rfl rfl) ?_
          refine al_val (ov_pick_f rfl rfl rfl) ?_
          obtain ⟨u51, hu52, h⟩ := opt_some h
          refine al_idxR 1 (at_some hu52).1 (at_some hu52).2.1 rfl rfl rfl Tryd.underlying131 sz4 rfl (fun p53 hp54 => ?_)
          refine al_storeR (k := (l24i27).toNat) (x := false) (vs := [(bool false)]) 1 rfl hp54 (idx_lt hu52) rfl rfl (cv_rfl rfl) (fun _ => rfl) sz4 rfl ?_
          refine al_nil ?_
          refine aq_block ?_
          exact aq_join (l24x11.set (l24i27).toNat false) h (fun w a hm hs => norm hm hs [0, 1] [0, 1, 2] [(0, (iq a0)), (2, (Value.func (.func 58) #[] #[c2_0])), (3, (Value.func (.func 59) #[] #[c3_0, c3_1])), (9, l13v9), (10, (iq l13i19)), (11, v21), (18, (iq a1)), (19, (iq l13i19)), (26, (iq (wq (a0 + (1 : Int))))), (27, (iq l24i27))] (by decide) ⟨rfl, rfl, rfl, rfl, rfl, rfl, rfl, rfl, rfl, rfl, trivial⟩)
       ·replace h := bif_f hb32 h
        refine aw_region ?_
        refine al_mv rfl rfl ?_
        refine al_mv rfl rfl ?_
        refine al_mv rfl rfl ?_
        refine al_in rfl rfl rfl rfl ?_
        refine al_mv rfl rfl ?_
        refine al_caseB 55 rfl (fun hb55 => ?_) (fun hb55 => ?_)
        ·replace h := bif_t hb55 h
         refine al_mv rfl rfl ?_
         refine al_mv rfl rfl ?_
         refine al_in rfl rfl rfl rfl ?_
         obtain ⟨u56, hu57, h⟩ := opt_some h
         refine al_idxR 0 (at_some hu57).1 (at_some hu57).2.1 rfl rfl rfl Tryd.underlying131 sz4 rfl (fun p58 hp59 => ?_)
         refine al_val (ov_loadR (ds := [(bool u56)]) 0 rfl hp59 (at_some hu57).2.2 (fun h => h) rfl Tryd.underlying4 sz4 rfl rfl rfl) ?_
         refine al_val (ov_pick_t rfl rfl rfl) ?_
         refine al_mv rfl rfl ?_
         refine al_caseB 62 rfl (fun hb60 => ?_) (fun hb60 => ?_)
         ·replace h := bif_t hb60 h
          refine al_mv rfl rfl ?_
          refine al_mv rfl rfl ?_
          refine al_mv rfl rfl ?_
          refine al_in rfl rfl rfl rfl ?_
          obtain ⟨r62, hc61, h⟩ := opt_some h
          refine al_callF (vs := [(iq l13i19), (iq (wq (l24i27 - (1 : Int))))]) (caps := [c3_0, c3_1]) (f_lumref_Fits_2_ok fu l13i19 (wq (l24i27 - (1 : Int))) c3_0 a3_0 c3_1 a3_1 hc61) rfl [] [] [0, 1] (pre_fz 1 rfl (pre_fz 2 rfl pre_nil)) rfl (by simp) (by decide) (.inl rfl) rfl rfl Tryd.func59 rfl rfl rfl (fun _ => ?_)
          refine al_val (ov_pick_t rfl rfl rfl) ?_
          obtain ⟨u63, hu64, h⟩ := opt_some h
          refine al_idxR 1 (at_some hu64).1 (at_some hu64).2.1 rfl rfl rfl Tryd.underlying131 sz4 rfl (fun p65 hp66 => ?_)
          refine al_storeR (k := (l24i27).toNat) (x := r62) (vs := [(bool r62)]) 1 rfl hp66 (idx_lt hu64) rfl rfl (cv_rfl rfl) (fun _ => rfl) sz4 rfl ?_
          refine al_nil ?_
          refine aq_block ?_
          exact aq_join (l24x11.set (l24i27).toNat r62) h (fun w a hm hs => norm hm hs [0, 1] [0, 1, 2] [(0, (iq a0)), (2, (Value.func (.func 58) #[] #[c2_0])), (3, (Value.func (.func 59) #[] #[c3_0, c3_1])), (9, l13v9), (10, (iq l13i19)), (11, v21), (18, (iq a1)), (19, (iq l13i19)), (26, (iq (wq (a0 + (1 : Int))))), (27, (iq l24i27))] (by decide) ⟨rfl, rfl, rfl, rfl, rfl, rfl, rfl, rfl, rfl, rfl, trivial⟩)
         ·replace h := bif_f hb60 h
          refine al_skip ?_
          refine al_skip ?_
          refine al_skip ?_
          refine al_skip ?_
          refine al_skip ?_
          refine al_val (ov_pick_f rfl rfl rfl) ?_
          obtain ⟨u67, hu68, h⟩ := opt_some h
          refine al_idxR 1 (at_some hu68).1 (at_some hu68).2.1 rfl rfl rfl Tryd.underlying131 sz4 rfl (fun p69 hp70 => ?_)
          refine al_storeR (k := (l24i27).toNat) (x := false) (vs := [(bool false)]) 1 rfl hp70 (idx_lt hu68) rfl rfl (cv_rfl rfl) (fun _ => rfl) sz4 rfl ?_
          refine al_nil ?_
          refine aq_block ?_
          exact aq_join (l24x11.set (l24i27).toNat false) h (fun w a hm hs => norm hm hs [0, 1] [0, 1, 2] [(0, (iq a0)), (2, (Value.func (.func 58) #[] #[c2_0])), (3, (Value.func (.func 59) #[] #[c3_0, c3_1])), (9, l13v9), (10, (iq l13i19)), (11, v21), (18, (iq a1)), (19, (iq l13i19)), (26, (iq (wq (a0 + (1 : Int))))), (27, (iq l24i27))] (by decide) ⟨rfl, rfl, rfl, rfl, rfl, rfl, rfl, rfl, rfl, rfl, trivial⟩)
        ·replace h := bif_f hb55 h
         refine al_skip ?_
         refine al_skip ?_
         refine al_skip ?_
         refine al_skip ?_
         refine al_skip ?_
         refine al_val (ov_pick_f rfl rfl rfl) ?_
         refine al_mv rfl rfl ?_
         refine al_skip ?_
         refine al_skip ?_
         refine al_skip ?_
         refine al_skip ?_
         refine al_skip ?_
         refine al_val (ov_pick_f rfl rfl rfl) ?_
         obtain ⟨u71, hu72, h⟩ := opt_some h
         refine al_idxR 1 (at_some hu72).1 (at_some hu72).2.1 rfl rfl rfl Tryd.underlying131 sz4 rfl (fun p73 hp74 => ?_)
         refine al_storeR (k := (l24i27).toNat) (x := false) (vs := [(bool false)]) 1 rfl hp74 (idx_lt hu72) rfl rfl (cv_rfl rfl) (fun _ => rfl) sz4 rfl ?_
         refine al_nil ?_
         refine aq_block ?_
         exact aq_join (l24x11.set (l24i27).toNat false) h (fun w a hm hs => norm hm hs [0, 1] [0, 1, 2] [(0, (iq a0)), (2, (Value.func (.func 58) #[] #[c2_0])), (3, (Value.func (.func 59) #[] #[c3_0, c3_1])), (9, l13v9), (10, (iq l13i19)), (11, v21), (18, (iq a1)), (19, (iq l13i19)), (26, (iq (wq (a0 + (1 : Int))))), (27, (iq l24i27))] (by decide) ⟨rfl, rfl, rfl, rfl, rfl, rfl, rfl, rfl, rfl, rfl, trivial⟩)
     ·replace h := bif_f hb27 h
      refine aw_exit ?_
      refine aq_then_exit ?_
      refine aq_then_exit ?_
      refine aq_block_exit ?_
      exact aq_join l24x11 h (fun w a hm hs => norm hm hs [1] [0, 1, 2] [(0, (iq a0)), (2, (Value.func (.func 58) #[] #[c2_0])), (3, (Value.func (.func 59) #[] #[c3_0, c3_1])), (11, v21), (18, (iq a1)), (19, (iq l13i19))] (by decide) ⟨rfl, rfl, rfl, rfl, rfl, rfl, trivial⟩)
  ·replace h := bif_f hb17 h
   refine aw_exit ?_
   refine aq_then_exit ?_
   refine aq_then_exit ?_
   refine aq_block_exit ?_
   exact aq_join (l13v9, l13x9) h (fun w a hm hs => norm hm hs [0] [0, 1, 2] [(0, (iq a0)), (9, l13v9)] (by decide) ⟨rfl, rfl, trivial⟩)
def f_lumref_Fits (fu : Nat) (a0 : (List (Option (List S_lumref_mark)))) (a1 : (List (List UInt8))) : Option Bool := (opt (f_lumref_table_F58_F59 fu (a1.length : Int) (a0.length : Int) a0 a0 a1) fun (r6 : Bool) => (some r6))
set_option maxRecDepth 100000 in
theorem f_lumref_Fits_ok (fu : Nat) (v0_0 : Value) (a0 : (List (Option (List S_lumref_mark)))) (v1_0 : Value) (a1 : (List (List UInt8))) {r : Bool} (h : f_lumref_Fits fu a0 a1 = some r) : FnOk Tryd.prog 28 [v0_0, v1_0] [(fDat (tyList (tyOpt tyS_lumref_mark)) [v0_0] a0), (fDat (tyList tyStr) [v1_0] a1)] [] (fun (i : Unit) => { val := (bool r) }) := by
 unfold f_lumref_Fits at h
 refine fn_enter Tryd.func28 rfl Tryd.ntmps28 rfl (fun w0 Z0 => ?_)
 refine aw_sr ?_
 refine al_box (vs := [v0_0]) rfl (cv_fz 0 rfl) rfl (fun g1 => ?_)
 refine al_box (vs := [v1_0]) rfl (cv_fz 1 rfl) rfl (fun g2 => ?_)
 refine al_as rfl rfl ?_
 refine al_nt ?_
 refine aw_seq ?_
 refine aw_freezeBN (τ := (tyList (tyOpt tyS_lumref_mark))) 1 (a0) rfl rfl (fun hm => fz_at (i := 0) hm rfl) ?_
 refine aw_freezeBN (τ := (tyList tyStr)) 0 (a1) rfl rfl (fun hm => fz_at (i := 2) hm rfl) ?_
 refine aw_region ?_
 refine al_loadP1 0 rfl rfl Tryd.underlying22 sz22 rfl rfl rfl (fun s3 => ?_)
 refine al_val (ov_lenD 0 rfl rfl Tryd.underlying22 rfl) ?_
 refine al_loadP1 2 rfl rfl Tryd.underlying27 sz27 rfl rfl rfl (fun s4 => ?_)
 refine al_val (ov_lenD 0 rfl rfl Tryd.underlying27 rfl) ?_
 refine al_val (ov_makeFunc2 (vs := [(pq g1)]) rfl rfl) ?_
 refine al_val (ov_makeFunc2 (vs := [(pq g1), (pq g2)]) rfl rfl) ?_
 obtain ⟨r6, hc5, h⟩ := opt_some h
 refine al_call (vs := [(iq (a1.length : Int)), (iq (a0.length : Int)), (Value.func (.func 58) #[] #[(pq g1)]), (Value.func (.func 59) #[] #[(pq g1), (pq g2)])]) (f_lumref_table_F58_F59_ok fu (a1.length : Int) (a0.length : Int) (pq g1) a0 (pq g1) a0 (pq g2) a1 hc5) [] [] [] (pre_fz 3 rfl (pre_fz 3 rfl (pre_fz 2 rfl pre_nil))) rfl (by simp) (by decide) (.inl rfl) rfl Tryd.func57 rfl rfl rfl (fun _ => ?_)
 refine al_as rfl rfl ?_
 refine al_nt ?_
 refine aw_ret ?_
 obtain rfl := Option.some.inj h
 exact fn_ret () [] [] rfl rfl rfl rfl (res1 rfl rfl) rfl rfl rfl (by decide)
def f_lumref_skipped_L11 (a0 : (List (List UInt8))) (a1 : (List (List (Option (List S_lumref_mark))))) (a2 : (List (List UInt8))) (kk8 : (Unit → Option Bool)) (fu : Nat) : Nat → Int → Option Bool
  | 0, _ => none
  | k10 + 1, l9i7 => (bif (decide (l9i7 ≥ (0 : Int))) then (opt (at? a1 l9i7) fun (u13 : (List (Option (List S_lumref_mark)))) => (opt (f_lumref_Fits fu u13 a2) fun (r18 : Bool) => (bif r18 then (opt (at? a0 l9i7) fun (u20 : (List UInt8)) => (req (0 ≤ (0 : Int) ∧ (0 : Int) < (u20.length : Int)) (some ((En.bAt u20 (0 : Int)) != (33 : Int))))) else (f_lumref_skipped_L11 a0 a1 a2 kk8 fu k10 (IntKind.i64.wrap (l9i7 - (1 : Int))))))) else (kk8 ()))
def f_lumref_skipped : Nat → (List (List UInt8)) → (List (List (Option (List S_lumref_mark)))) → (List (List UInt8)) → Option Bool
  | 0, _, _, _ => none
  | fu + 1, a0, a1, a2 => (bif ((a2.length : Int) == (0 : Int)) then (some false) else (req (0 ≤ (IntKind.i64.wrap ((a2.length : Int) - (1 : Int))) ∧ (IntKind.i64.wrap ((a2.length : Int) - (1 : Int))) ≤ (a2.length : Int)) (opt (f_lumref_skipped fu a0 a1 (a2.take ((IntKind.i64.wrap ((a2.length : Int) - (1 : Int)))).toNat)) fun (r5 : Bool) => (bif r5 then (some true) else (lt (fun (_ : Unit) => (some false)) fun (kk8 : Unit → Option Bool) => (f_lumref_skipped_L11 a0 a1 a2 kk8 fu fu (IntKind.i64.wrap ((a1.length : Int) - (1 : Int)))))))))
set_option maxHeartbeats 2000000 in
set_option maxRecDepth 100000 in
theorem f_lumref_skipped_ok (fu : Nat) (v0_0 : Value) (a0 : (List (List UInt8))) (v1_0 : Value) (a1 : (List (List (Option (List S_lumref_mark))))) (v2_0 : Value) (a2 : (List (List UInt8))) {r : Bool} (h : f_lumref_skipped fu a0 a1 a2 = some r) : FnOk Tryd.prog 24 [v0_0, v1_0, v2_0] [(fDat (tyList tyStr) [v0_0] a0), (fDat (tyList (tyList (tyOpt tyS_lumref_mark))) [v1_0] a1), (fDat (tyList tyStr) [v2_0] a2)] [] (fun (i : Unit) => { val := (bool r) }) := by
 cases fu with
 | zero => rw [f_lumref_skipped] at h; cases h
 | succ fu =>
  rw [f_lumref_skipped] at h
  refine fn_enter Tryd.func24 rfl Tryd.ntmps24 rfl (fun w0 Z0 => ?_)
  refine aw_sr ?_
  refine al_as rfl rfl ?_
  refine al_nt ?_
  refine aw_seq ?_
  refine aw_sr ?_
  refine al_mv rfl rfl ?_
  refine al_val (ov_lenD 2 rfl rfl Tryd.underlying22 rfl) ?_
  refine al_in rfl rfl rfl rfl ?_
  refine al_nt ?_
  refine aw_cond rfl (fun hb1 => ?_) (fun hb1 => ?_)
  ·replace h := bif_t hb1 h
   refine aw_sr ?_
   refine al_as rfl rfl ?_
   refine al_nt ?_
   refine aw_ret ?_
   refine aq_then_ret ?_
   obtain rfl := Option.some.inj h
   exact fn_ret () [] [] rfl rfl rfl rfl (res1 rfl rfl) rfl rfl rfl (by decide)
  ·replace h := bif_f hb1 h
   refine aw_skip ?_
   refine aq_then ?_
   refine aw_seq ?_
   refine aw_sr ?_
   refine al_mv rfl rfl ?_
   refine al_mv rfl rfl ?_
   refine al_mv rfl rfl ?_
   refine al_mv rfl rfl ?_
   refine al_val (ov_lenD 2 rfl rfl Tryd.underlying22 rfl) ?_
   refine al_in rfl rfl rfl rfl ?_
   obtain ⟨hc2, h⟩ := req_some h
   refine al_sliceDT 2 hc2.1 hc2.2 rfl rfl rfl Tryd.underlying22 sz9 rfl (fun s3 => ?_)
   obtain ⟨r5, hc4, h⟩ := opt_some h
   refine al_call (vs := [v0_0, v1_0, s3]) (f_lumref_skipped_ok fu v0_0 a0 v1_0 a1 s3 (a2.take ((wq ((a2.length : Int) - (1 : Int)))).toNat) hc4) [] [] [] (pre_fz 1 rfl (pre_fz 2 rfl (pre_fz 0 rfl pre_nil))) rfl (by simp) (by decide) (.inl rfl) rfl Tryd.func24 rfl rfl rfl (fun _ => ?_)
   refine al_nt ?_
   refine aw_cond rfl (fun hb6 => ?_) (fun hb6 => ?_)
   ·replace h := bif_t hb6 h
    refine aw_sr ?_
    refine al_as rfl rfl ?_
    refine al_nt ?_
    refine aw_ret ?_
    refine aq_then_ret ?_
    obtain rfl := Option.some.inj h
    exact fn_ret () [] [] rfl rfl rfl rfl (res1 rfl rfl) rfl rfl rfl (by decide)
   ·replace h := bif_f hb6 h
    refine aw_skip ?_
    refine aq_then ?_
    obtain ⟨kk8, hkk8, h⟩ := lt_some h
    refine aw_seq_join (ι := Unit) (fun i => (memOf w0 Z0 [] [] [(fDat (tyList tyStr) [s3] (a2.take ((wq ((a2.length : Int) - (1 : Int)))).toNat)), (fDat (tyList tyStr) [v0_0] a0), (fDat (tyList (tyList (tyOpt tyS_lumref_mark))) [v1_0] a1), (fDat (tyList tyStr) [v2_0] a2)])) (fun i => (tab [])) (fun i => kk8 () = some r) ?_ ?_
    ·rintro _ h
     have h : kk8 () = some r := h
     rw [hkk8] at h
     dsimp only at h
     clear hkk8
     refine aw_show (m := (memOf w0 Z0 [] [] [(fDat (tyList tyStr) [s3] (a2.take ((wq ((a2.length : Int) - (1 : Int)))).toNat)), (fDat (tyList tyStr) [v0_0] a0), (fDat (tyList (tyList (tyOpt tyS_lumref_mark))) [v1_0] a1), (fDat (tyList tyStr) [v2_0] a2)])) (S := (tab [])) ?_
     refine aw_sr ?_
     refine al_as rfl rfl ?_
     refine al_nt ?_
     refine aw_ret ?_
     obtain rfl := Option.some.inj h
     exact fn_ret () [] [] rfl rfl rfl rfl (res1 rfl rfl) rfl rfl rfl (by decide)
    ·clear hkk8
     refine aw_sr ?_
     refine al_mv rfl rfl ?_
     refine al_val (ov_lenD 2 rfl rfl Tryd.underlying50 rfl) ?_
     refine al_in rfl rfl rfl rfl ?_
     refine al_as rfl rfl ?_
     refine al_nt ?_
     refine aw_block ?_
     refine aw_state (aw_loop (ι := Int) (fun i => (memOf w0 Z0 [] [] [(fDat (tyList tyStr) [v0_0] a0), (fDat (tyList (tyList (tyOpt tyS_lumref_mark))) [v1_0] a1), (fDat (tyList tyStr) [v2_0] a2), (fDat (tyList tyStr) [s3] (a2.take ((wq ((a2.length : Int) - (1 : Int)))).toNat))])) (fun i => (tab [(0, v0_0), (1, v1_0), (2, v2_0), (7, (iq i))])) (fun q i => f_lumref_skipped_L11 a0 a1 a2 kk8 fu q i = some r) ?_ fu (wq ((a1.length : Int) - (1 : Int))) h) (fun w a hm hs => norm hm hs [] [1, 2, 3, 0] [(0, v0_0), (1, v1_0), (2, v2_0), (7, (iq (wq ((a1.length : Int) - (1 : Int)))))] (by decide) ⟨rfl, rfl, rfl, rfl, trivial⟩)
     clear h
     rintro k10 l9i7 h
     have h : f_lumref_skipped_L11 a0 a1 a2 kk8 fu k10 l9i7 = some r := h
     obtain _ | k10 := k10
     · rw [f_lumref_skipped_L11] at h; cases h
     rw [f_lumref_skipped_L11] at h
     refine aw_show (m := (memOf w0 Z0 [] [] [(fDat (tyList tyStr) [v0_0] a0), (fDat (tyList (tyList (tyOpt tyS_lumref_mark))) [v1_0] a1), (fDat (tyList tyStr) [v2_0] a2), (fDat (tyList tyStr) [s3] (a2.take ((wq ((a2.length : Int) - (1 : Int)))).toNat))])) (S := (tab [(0, v0_0), (1, v1_0), (2, v2_0), (7, (iq l9i7))])) ?_
     refine aw_seq ?_
     refine aw_sr ?_
     refine al_mv rfl rfl ?_
     refine al_in rfl rfl rfl rfl ?_
     refine al_nt ?_
     refine aw_cond rfl (fun hb12 => ?_) (fun hb12 => ?_)
     ·replace h := bif_t hb12 h
      refine aw_skip ?_
      refine aq_then ?_
      refine aw_seq ?_
      refine aw_block ?_
      refine aw_sr ?_
      refine al_mv rfl rfl ?_
      refine al_mv rfl rfl ?_
      obtain ⟨u13, hu14, h⟩ := opt_some h
      refine al_idxD 1 hu14 rfl rfl rfl Tryd.underlying50 sz27 rfl (fun p15 => ?_)
      refine al_loadP1 0 rfl rfl Tryd.underlying27 sz27 rfl rfl rfl (fun s16 => ?_)
      refine al_mv rfl rfl ?_
      obtain ⟨r18, hc17, h⟩ := opt_some h
      refine al_call (vs := [s16, v2_0]) (f_lumref_Fits_ok fu s16 u13 v2_0 a2 hc17) [] [] [] (pre_fz 0 rfl (pre_fz 4 rfl pre_nil)) rfl (by simp) (by decide) (.inl rfl) rfl Tryd.func28 rfl rfl rfl (fun _ => ?_)
      refine al_nt ?_
      refine aw_cond rfl (fun hb19 => ?_) (fun hb19 => ?_)
      ·replace h := bif_t hb19 h
       refine aw_sr ?_
       refine al_mv rfl rfl ?_
       refine al_mv rfl rfl ?_
       obtain ⟨u20, hu21, h⟩ := opt_some h
       refine al_idxD 2 hu21 rfl rfl rfl Tryd.underlying22 sz9 rfl (fun p22 => ?_)
       refine al_val (ov_loadP (ds := [(str u20)]) 0 rfl (fun h => h) rfl Tryd.underlying9 sz9 rfl rfl rfl) ?_
       obtain ⟨hc23, h⟩ := req_some h
       refine al_val (ov_strIdx hc23.1 hc23.2 Tryd.underlying9 rfl rfl rfl) ?_
       refine al_in rfl rfl rfl rfl ?_
       refine al_as rfl rfl ?_
       refine al_nt ?_
       refine aw_ret ?_
       refine aq_block_ret ?_
       refine aq_then_ret ?_
       refine aq_then_ret ?_
       refine aq_block_ret ?_
       refine aq_then_ret ?_
       obtain rfl := Option.some.inj h
       exact fn_ret () [] [] rfl rfl rfl rfl (res1 rfl rfl) rfl rfl rfl (by decide)
      ·replace h := bif_f hb19 h
       refine aw_skip ?_
       refine aq_block ?_
       refine aq_then ?_
       refine aw_region ?_
       refine al_mv rfl rfl ?_
       refine al_in rfl rfl rfl rfl ?_
       refine al_as rfl rfl ?_
       refine al_nil ?_
       exact aq_again k10 (wq (l9i7 - (1 : Int))) (Nat.lt_succ_self _) h (fun w a hm hs => norm hm hs [] [2, 3, 4, 5] [(0, v0_0), (1, v1_0), (2, v2_0), (7, (iq (wq (l9i7 - (1 : Int)))))] (by decide) ⟨rfl, rfl, rfl, rfl, trivial⟩)
     ·replace h := bif_f hb12 h
      refine aw_exit ?_
      refine aq_then_exit ?_
      refine aq_then_exit ?_
      refine aq_block_exit ?_
      exact aq_join () h (fun w a hm hs => norm hm hs [] [3, 0, 1, 2] [] (by decide) trivial)
def f_lumref_Skips_L12 (a0 : (List (List UInt8))) (kk3 : ((List (List (Option (List S_lumref_mark)))) → Option (Bool × Int))) (fu : Nat) : Nat → (List (List (Option (List S_lumref_mark)))) → Int → Option (Bool × Int)
  | 0, _, _ => none
  | k11 + 1, l10x6, l10i18 => (bif (decide (l10i18 < (a0.length : Int))) then (opt (at? a0 l10i18) fun (u14 : (List UInt8)) => (lt (fun (j17s8 : (List UInt8)) => (opt (f_lumref_Pattern fu j17s8) fun (r20 : ((List (Option (List S_lumref_mark))) × Int)) => (bif (r20.2 != (0 : Int)) then (some (false, r20.2)) else (req (((l10x6.length + ([r20.1]).length) * 24 : Nat) ≤ 140737488355328 ∧ l10x6.length + ([r20.1]).length ≤ 9223372036854775807) (f_lumref_Skips_L12 a0 kk3 fu k11 (l10x6 ++ ([r20.1])) (IntKind.i64.wrap (l10i18 + (1 : Int)))))))) fun (kk18 : (List UInt8) → Option (Bool × Int)) => (lt (fun (j26b28 : Bool) => (bif j26b28 then (req (0 ≤ (1 : Int) ∧ (1 : Int) ≤ (u14.length : Int)) (kk18 (u14.drop ((1 : Int)).toNat))) else (kk18 u14))) fun (kk27 : Bool → Option (Bool × Int)) => (bif (!(u14 == ([] : List UInt8))) then (req (0 ≤ (0 : Int) ∧ (0 : Int) < (u14.length : Int)) (kk27 ((En.bAt u14 (0 : Int)) == (33 : Int)))) else (kk27 false))))) else (kk3 l10x6))
def f_lumref_Skips (fu : Nat) (a0 : (List (List UInt8))) (a1 : (List UInt8)) : Option (Bool × Int) := (bif (decide ((a0.length : Int) > (20 : Int))) then (some (false, (2 : Int))) else (lt (fun (j2x6 : (List (List (Option (List S_lumref_mark))))) => (opt (f_lumref_Split fu a1) fun (r5 : ((List (List UInt8)) × Int)) => (bif (r5.2 != (0 : Int)) then (some (false, r5.2)) else (opt (f_lumref_skipped fu a0 j2x6 r5.1) fun (r9 : Bool) => (some (r9, (0 : Int))))))) fun (kk3 : (List (List (Option (List S_lumref_mark)))) → Option (Bool × Int)) => (f_lumref_Skips_L12 a0 kk3 fu fu ([] : List (List (Option (List S_lumref_mark)))) (0 : Int))))
set_option maxHeartbeats 2000000 in
set_option maxRecDepth 100000 in
theorem f_lumref_Skips_ok (fu : Nat) (v0_0 : Value) (a0 : (List (List UInt8))) (a1 : (List UInt8)) {r : (Bool × Int)} (h : f_lumref_Skips fu a0 a1 = some r) : FnOk Tryd.prog 7 [v0_0, (str a1)] [(fDat (tyList tyStr) [v0_0] a0)] [] (fun (i : Unit) => { val := (Value.tuple #[(bool r.1), (int .i64 r.2)]) }) := by
 unfold f_lumref_Skips at h
 refine fn_enter Tryd.func7 rfl Tryd.ntmps7 rfl (fun w0 Z0 => ?_)
 refine aw_sr ?_
 refine al_as rfl rfl ?_
 refine al_as rfl rfl ?_
 refine al_nt ?_
 refine aw_seq ?_
 refine aw_sr ?_
 refine al_mv rfl rfl ?_
 refine al_val (ov_lenD 0 rfl rfl Tryd.underlying22 rfl) ?_
 refine al_in rfl rfl rfl rfl ?_
 refine al_nt ?_
 refine aw_cond rfl (fun hb1 => ?_) (fun hb1 => ?_)
 ·replace h := bif_t hb1 h
  refine aw_sr ?_
  refine al_as rfl rfl ?_
  refine al_as rfl rfl ?_
  refine al_nt ?_
  refine aw_ret ?_
  refine aq_then_ret ?_
  obtain rfl := Option.some.inj h
  exact fn_ret () [] [] rfl rfl rfl rfl (res2 rfl rfl rfl) rfl rfl rfl (by decide)
 ·replace h := bif_f hb1 h
  refine aw_skip ?_
  refine aq_tr ?_
  refine al_as rfl rfl ?_
  refine al_nt ?_
  obtain ⟨kk3, hkk3, h⟩ := lt_some h
  refine aw_seq_join (ι := Value × (List (List (Option (List S_lumref_mark))))) (fun i => (memOf w0 Z0 [] [(oRow i.1 27 (tyList (tyOpt tyS_lumref_mark)) i.2)] [(fDat (tyList tyStr) [v0_0] a0)])) (fun i => (tab [(0, v0_0), (1, (str a1)), (6, i.1)])) (fun i => kk3 i.2 = some r) ?_ ?_
  ·rintro ⟨j2v6, j2x6⟩ h
   have h : kk3 j2x6 = some r := h
   rw [hkk3] at h
   dsimp only at h
   clear hkk3
   refine aw_show (m := (memOf w0 Z0 [] [(oRow j2v6 27 (tyList (tyOpt tyS_lumref_mark)) j2x6)] [(fDat (tyList tyStr) [v0_0] a0)])) (S := (tab [(0, v0_0), (1, (str a1)), (6, j2v6)])) ?_
   refine aw_sr ?_
   refine al_mv rfl rfl ?_
   obtain ⟨r5, hc4, h⟩ := opt_some h
   refine al_call (vs := [(str a1)]) (f_lumref_Split_ok fu a1 hc4) [] [] [0] pre_nil rfl (by simp) (by decide) (.inl rfl) rfl Tryd.func23 rfl rfl rfl (fun v6 => ?_)
   refine al_mv rfl rfl ?_
   refine al_ex rfl rfl rfl ?_
   refine al_ex rfl rfl rfl ?_
   refine al_as rfl rfl ?_
   refine al_as rfl rfl ?_
   refine al_nt ?_
   refine aw_seq ?_
   refine aw_sr ?_
   refine al_mv rfl rfl ?_
   refine al_in rfl rfl rfl rfl ?_
   refine al_nt ?_
   refine aw_cond rfl (fun hb7 => ?_) (fun hb7 => ?_)
   ·replace h := bif_t hb7 h
    refine aw_sr ?_
    refine al_mv rfl rfl ?_
    refine al_as rfl rfl ?_
    refine al_as rfl rfl ?_
    refine al_nt ?_
    refine aw_ret ?_
    refine aq_then_ret ?_
    obtain rfl := Option.some.inj h
    exact fn_ret () [] [] rfl rfl rfl rfl (res2 rfl rfl rfl) rfl rfl rfl (by decide)
   ·replace h := bif_f hb7 h
    refine aw_skip ?_
    refine aq_tr ?_
    refine al_mv rfl rfl ?_
    refine al_mv rfl rfl ?_
    refine al_mv rfl rfl ?_
    obtain ⟨r9, hc8, h⟩ := opt_some h
    refine al_call (vs := [v0_0, j2v6, v6]) (f_lumref_skipped_ok fu v0_0 a0 j2v6 j2x6 v6 r5.1 hc8) [0, 1] [] [0, 1] (pre_fz 0 rfl (pre_own 1 rfl rfl (pre_own 0 rfl rfl pre_nil))) rfl (by simp) (by decide) (.inr flat_res0) rfl Tryd.func24 rfl rfl rfl (fun _ => ?_)
    refine al_as rfl rfl ?_
    refine al_as rfl rfl ?_
    refine al_nt ?_
    refine aw_ret ?_
    obtain rfl := Option.some.inj h
    exact fn_ret () [] [] rfl rfl rfl rfl (res2 rfl rfl rfl) rfl rfl rfl (by decide)
  ·clear hkk3
   refine aw_sr ?_
   refine al_mv rfl rfl ?_
   refine al_val (ov_lenD 0 rfl rfl Tryd.underlying22 rfl) ?_
   refine al_mv rfl rfl ?_
   refine al_nt ?_
   refine aw_block ?_
   refine aw_nilR 27 (tyList (tyOpt tyS_lumref_mark)) ?_
   refine aw_state (aw_loop (ι := Value × (List (List (Option (List S_lumref_mark)))) × Int) (fun i => (memOf w0 Z0 [] [(oRow i.1 27 (tyList (tyOpt tyS_lumref_mark)) i.2.1)] [(fDat (tyList tyStr) [v0_0] a0)])) (fun i => (tab [(0, v0_0), (1, (str a1)), (6, i.1), (16, v0_0), (17, (iq (a0.length : Int))), (18, (iq i.2.2))])) (fun q i => f_lumref_Skips_L12 a0 kk3 fu q i.2.1 i.2.2 = some r) ?_ fu (nS, ([] : List (List (Option (List S_lumref_mark)))), (0 : Int)) h) (fun w a hm hs => norm hm hs [0] [0] [(0, v0_0), (1, (str a1)), (6, nS), (16, v0_0), (17, (iq (a0.length : Int))), (18, (iq (0 : Int)))] (by decide) ⟨rfl, rfl, rfl, rfl, rfl, rfl, trivial⟩)
   clear h
   rintro k11 ⟨l10v6, l10x6, l10i18⟩ h
   have h : f_lumref_Skips_L12 a0 kk3 fu k11 l10x6 l10i18 = some r := h
   obtain _ | k11 := k11
   · rw [f_lumref_Skips_L12] at h; cases h
   rw [f_lumref_Skips_L12] at h
   refine aw_show (m := (memOf w0 Z0 [] [(oRow l10v6 27 (tyList (tyOpt tyS_lumref_mark)) l10x6)] [(fDat (tyList tyStr) [v0_0] a0)])) (S := (tab [(0, v0_0), (1, (str a1)), (6, l10v6), (16, v0_0), (17, (iq (a0.length : Int))), (18, (iq l10i18))])) ?_
   refine aw_sr ?_
   refine al_in rfl rfl rfl rfl ?_
   refine al_nt ?_
   refine aw_seq ?_
   refine aw_cond rfl (fun hb13 => ?_) (fun hb13 => ?_)
   ·replace h := bif_t hb13 h
    refine aw_skip ?_
    refine aq_then ?_
    refine aw_seq ?_
    refine aw_block ?_
    refine aw_sr ?_
    obtain ⟨u14, hu15, h⟩ := opt_some h
    refine al_idxD 0 hu15 rfl rfl rfl Tryd.underlying22 sz9 rfl (fun p16 => ?_)
    refine al_val (ov_loadP (ds := [(str u14)]) 0 rfl (fun h => h) rfl Tryd.underlying9 sz9 rfl rfl rfl) ?_
    refine al_as rfl rfl ?_
    refine al_nt ?_
    obtain ⟨kk18, hkk18, h⟩ := lt_some h
    refine aw_seq_join (ι := (List UInt8)) (fun i => (memOf w0 Z0 [] [(oRow l10v6 27 (tyList (tyOpt tyS_lumref_mark)) l10x6)] [(fDat (tyList tyStr) [v0_0] a0), (fPtr tyStr p16 u14)])) (fun i => (tab [(0, v0_0), (1, (str a1)), (6, l10v6), (8, (str i)), (16, v0_0), (17, (iq (a0.length : Int))), (18, (iq l10i18))])) (fun i => kk18 i = some r) ?_ ?_
    ·rintro j17s8 h
     have h : kk18 j17s8 = some r := h
     rw [hkk18] at h
     dsimp only at h
     clear hkk18
     refine aw_show (m := (memOf w0 Z0 [] [(oRow l10v6 27 (tyList (tyOpt tyS_lumref_mark)) l10x6)] [(fDat (tyList tyStr) [v0_0] a0), (fPtr tyStr p16 u14)])) (S := (tab [(0, v0_0), (1, (str a1)), (6, l10v6), (8, (str j17s8)), (16, v0_0), (17, (iq (a0.length : Int))), (18, (iq l10i18))])) ?_
     refine aw_sr ?_
     refine al_mv rfl rfl ?_
     obtain ⟨r20, hc19, h⟩ := opt_some h
     refine al_call (vs := [(str j17s8)]) (f_lumref_Pattern_ok fu j17s8 hc19) [] [] [0] pre_nil rfl (by simp) (by decide) (.inl rfl) rfl Tryd.func8 rfl rfl rfl (fun v21 => ?_)
     refine al_mv rfl rfl ?_
     refine al_ex rfl rfl rfl ?_
     refine al_ex rfl rfl rfl ?_
     refine al_as rfl rfl ?_
     refine al_as rfl rfl ?_
     refine al_nt ?_
     refine aw_seq ?_
     refine aw_sr ?_
     refine al_mv rfl rfl ?_
     refine al_in rfl rfl rfl rfl ?_
     refine al_nt ?_
     refine aw_cond rfl (fun hb22 => ?_) (fun hb22 => ?_)
     ·replace h := bif_t hb22 h
      refine aw_sr ?_
      refine al_mv rfl rfl ?_
      refine al_as rfl rfl ?_
      refine al_as rfl rfl ?_
      refine al_nt ?_
      refine aw_ret ?_
      refine aq_then_ret ?_
      refine aq_block_ret ?_
      refine aq_then_ret ?_
      refine aq_then_ret ?_
      refine aq_block_ret ?_
      refine aq_then_ret ?_
      obtain rfl := Option.some.inj h
      exact fn_ret () [] [] rfl rfl rfl rfl (res2 rfl rfl rfl) rfl rfl rfl (by decide)
     ·replace h := bif_f hb22 h
      refine aw_skip ?_
      refine aq_then ?_
      refine aw_region ?_
      refine al_mv rfl rfl ?_
      refine al_mv rfl rfl ?_
      refine al_freeze 0 rfl rfl ?_
      refine al_buildSlice (τ := (tyList (tyOpt tyS_lumref_mark))) (e := 27) (k := 1) (sz := 0) (by_ := 0) (z := undef) (cs := [v21]) (xs := [r20.1]) rfl (by decide) (fun w a hm hs => ⟨([v21]).toArray, rfl, by simp only [List.map_toArray, List.map_cons, List.map_nil, hs.ev (x := .tmp 40) rfl]; exact run_bs [v21] [v21] Tryd.underlying50 to27 rfl rfl (bs_cons (l := [v21]) (cs := []) (cv_fz 0 rfl) rfl bs_nil) hm⟩) (fun hm => ⟨_, _, rfl, (fun hm => fz_at (i := 0) hm rfl) hm, rfl⟩) rfl (fun v23 => ?_)
      obtain ⟨hc24, h⟩ := req_some h
      refine al_append 1 hc24.1 hc24.2 rfl (src_own (i := 1) 0 rfl) rfl rfl Tryd.underlying50 to27 rfl rfl rfl (fun v25 => ?_)
      refine al_as rfl rfl ?_
      refine al_nil ?_
      refine aq_block ?_
      refine aq_then ?_
      refine aw_region ?_
      refine al_in rfl rfl rfl rfl ?_
      refine al_mv rfl rfl ?_
      refine al_nil ?_
      exact aq_again k11 (v25, (l10x6 ++ ([r20.1])), (wq (l10i18 + (1 : Int)))) (Nat.lt_succ_self _) h (fun w a hm hs => norm hm hs [1] [1] [(0, v0_0), (1, (str a1)), (6, v25), (16, v0_0), (17, (iq (a0.length : Int))), (18, (iq (wq (l10i18 + (1 : Int)))))] (by decide) ⟨rfl, rfl, rfl, rfl, rfl, rfl, trivial⟩)
    ·clear hkk18
     obtain ⟨kk27, hkk27, h⟩ := lt_some h
     refine aw_seq_join (ι := Bool) (fun i => (memOf w0 Z0 [] [(oRow l10v6 27 (tyList (tyOpt tyS_lumref_mark)) l10x6)] [(fDat (tyList tyStr) [v0_0] a0), (fPtr tyStr p16 u14)])) (fun i => (tab [(0, v0_0), (1, (str a1)), (6, l10v6), (8, (str u14)), (16, v0_0), (17, (iq (a0.length : Int))), (18, (iq l10i18)), (28, (bool i))])) (fun i => kk27 i = some r) ?_ ?_
     ·rintro j26b28 h
      have h : kk27 j26b28 = some r := h
      rw [hkk27] at h
      dsimp only at h
      clear hkk27
      refine aw_show (m := (memOf w0 Z0 [] [(oRow l10v6 27 (tyList (tyOpt tyS_lumref_mark)) l10x6)] [(fDat (tyList tyStr) [v0_0] a0), (fPtr tyStr p16 u14)])) (S := (tab [(0, v0_0), (1, (str a1)), (6, l10v6), (8, (str u14)), (16, v0_0), (17, (iq (a0.length : Int))), (18, (iq l10i18)), (28, (bool j26b28))])) ?_
      refine aw_cond rfl (fun hb28 => ?_) (fun hb28 => ?_)
      ·replace h := bif_t hb28 h
       refine aw_region ?_
       refine al_mv rfl rfl ?_
       obtain ⟨hc29, h⟩ := req_some h
       refine al_val (ov_strFrom hc29.1 hc29.2 Tryd.underlying9 rfl rfl rfl) ?_
       refine al_as rfl rfl ?_
       refine al_nil ?_
       exact aq_join (u14.drop ((1 : Int)).toNat) h (fun w a hm hs => norm hm hs [0] [0, 1] [(0, v0_0), (1, (str a1)), (6, l10v6), (8, (str (u14.drop ((1 : Int)).toNat))), (16, v0_0), (17, (iq (a0.length : Int))), (18, (iq l10i18))] (by decide) ⟨rfl, rfl, rfl, rfl, rfl, rfl, rfl, trivial⟩)
      ·replace h := bif_f hb28 h
       refine aw_skip ?_
       exact aq_join u14 h (fun w a hm hs => norm hm hs [0] [0, 1] [(0, v0_0), (1, (str a1)), (6, l10v6), (8, (str u14)), (16, v0_0), (17, (iq (a0.length : Int))), (18, (iq l10i18))] (by decide) ⟨rfl, rfl, rfl, rfl, rfl, rfl, rfl, trivial⟩)
     ·clear hkk27
      refine aw_region ?_
      refine al_mv rfl rfl ?_
      refine al_val (ov_strCmp rfl rfl rfl rfl) ?_
      refine al_mv rfl rfl ?_
      refine al_caseB 24 rfl (fun hb30 => ?_) (fun hb30 => ?_)
      ·replace h := bif_t hb30 h
       refine al_mv rfl rfl ?_
       obtain ⟨hc31, h⟩ := req_some h
       refine al_val (ov_strIdx hc31.1 hc31.2 Tryd.underlying9 rfl rfl rfl) ?_
       refine al_in rfl rfl rfl rfl ?_
       refine al_val (ov_pick_t rfl rfl rfl) ?_
       refine al_nil ?_
       exact aq_join ((En.bAt u14 (0 : Int)) == (33 : Int)) h (fun w a hm hs => norm hm hs [0] [1, 0] [(0, v0_0), (1, (str a1)), (6, l10v6), (8, (str u14)), (16, v0_0), (17, (iq (a0.length : Int))), (18, (iq l10i18)), (28, (bool ((En.bAt u14 (0 : Int)) == (33 : Int))))] (by decide) ⟨rfl, rfl, rfl, rfl, rfl, rfl, rfl, rfl, trivial⟩)
      ·replace h := bif_f hb30 h
       refine al_skip ?_
       refine al_skip ?_
       refine al_skip ?_
       refine al_val (ov_pick_f rfl rfl rfl) ?_
       refine al_nil ?_
       exact aq_join false h (fun w a hm hs => norm hm hs [0] [1, 0] [(0, v0_0), (1, (str a1)), (6, l10v6), (8, (str u14)), (16, v0_0), (17, (iq (a0.length : Int))), (18, (iq l10i18)), (28, (bool false))] (by decide) ⟨rfl, rfl, rfl, rfl, rfl, rfl, rfl, rfl, trivial⟩)
   ·replace h := bif_f hb13 h
    refine aw_exit ?_
    refine aq_then_exit ?_
    refine aq_then_exit ?_
    refine aq_block_exit ?_
    exact aq_join (l10v6, l10x6) h (fun w a hm hs => norm hm hs [0] [0] [(0, v0_0), (1, (str a1)), (6, l10v6)] (by decide) ⟨rfl, rfl, rfl, trivial⟩)
def f_lumlaw_GlobSkips (fu : Nat) (a0 : (List (List UInt8))) (a1 : (List UInt8)) : Option Bool := (opt (f_glob_Skips fu a0 a1) fun (r2 : (Bool × Int)) => (opt (f_lumref_Skips fu a0 a1) fun (r4 : (Bool × Int)) => (lt (fun (j5b4 : Bool) => (some j5b4)) fun (kk6 : Bool → Option Bool) => (bif (r2.1 == r4.1) then (kk6 (r2.2 == r4.2)) else (kk6 false)))))
set_option maxHeartbeats 2000000 in
set_option maxRecDepth 100000 in
theorem f_lumlaw_GlobSkips_ok (fu : Nat) (v0_0 : Value) (a0 : (List (List UInt8))) (a1 : (List UInt8)) {r : Bool} (h : f_lumlaw_GlobSkips fu a0 a1 = some r) : FnOk Tryd.prog 3 [v0_0, (str a1)] [(fDat (tyList tyStr) [v0_0] a0), uMax, uTabs] [] (fun (i : Unit) => { val := (bool r) }) := by
 unfold f_lumlaw_GlobSkips at h
 refine fn_enter Tryd.func3 rfl Tryd.ntmps3 rfl (fun w0 Z0 => ?_)
 refine aw_sr ?_
 refine al_as rfl rfl ?_
 refine al_nt ?_
 refine aw_sr ?_
 refine al_mv rfl rfl ?_
 refine al_mv rfl rfl ?_
 obtain ⟨r2, hc1, h⟩ := opt_some h
 refine al_call (vs := [v0_0, (str a1)]) (f_glob_Skips_ok fu v0_0 a0 a1 hc1) [] [] [] (pre_fz 0 rfl (pre_fz 1 rfl (pre_fz 2 rfl pre_nil))) rfl (by simp) (by decide) (.inl rfl) rfl Tryd.func6 rfl rfl rfl (fun _ => ?_)
 refine al_mv rfl rfl ?_
 refine al_ex rfl rfl rfl ?_
 refine al_ex rfl rfl rfl ?_
 refine al_as rfl rfl ?_
 refine al_as rfl rfl ?_
 refine al_nt ?_
 refine aw_sr ?_
 refine al_mv rfl rfl ?_
 refine al_mv rfl rfl ?_
 obtain ⟨r4, hc3, h⟩ := opt_some h
 refine al_call (vs := [v0_0, (str a1)]) (f_lumref_Skips_ok fu v0_0 a0 a1 hc3) [] [] [] (pre_fz 0 rfl pre_nil) rfl (by simp) (by decide) (.inl rfl) rfl Tryd.func7 rfl rfl rfl (fun _ => ?_)
 refine al_mv rfl rfl ?_
 refine al_ex rfl rfl rfl ?_
 refine al_ex rfl rfl rfl ?_
 refine al_as rfl rfl ?_
 refine al_as rfl rfl ?_
 refine al_nt ?_
 obtain ⟨kk6, hkk6, h⟩ := lt_some h
 refine aw_seq_join (ι := Bool) (fun i => (memOf w0 Z0 [] [] [(fDat (tyList tyStr) [v0_0] a0), uMax, uTabs])) (fun i => (tab [(4, (bool i))])) (fun i => kk6 i = some r) ?_ ?_
 ·rintro j5b4 h
  have h : kk6 j5b4 = some r := h
  rw [hkk6] at h
  dsimp only at h
  clear hkk6
  refine aw_show (m := (memOf w0 Z0 [] [] [(fDat (tyList tyStr) [v0_0] a0), uMax, uTabs])) (S := (tab [(4, (bool j5b4))])) ?_
  refine aw_ret ?_
  obtain rfl := Option.some.inj h
  exact fn_ret () [] [] rfl rfl rfl rfl (res1 rfl rfl) rfl rfl rfl (by decide)
 ·clear hkk6
  refine aw_region ?_
  refine al_mv rfl rfl ?_
  refine al_mv rfl rfl ?_
  refine al_val (ov_boolEq Tryd.underlying4 rfl rfl rfl) ?_
  refine al_mv rfl rfl ?_
  refine al_caseB 24 rfl (fun hb7 => ?_) (fun hb7 => ?_)
  ·replace h := bif_t hb7 h
   refine al_mv rfl rfl ?_
   refine al_mv rfl rfl ?_
   refine al_in rfl rfl rfl rfl ?_
   refine al_val (ov_pick_t rfl rfl rfl) ?_
   refine al_as rfl rfl ?_
   refine al_nil ?_
   exact aq_join (r2.2 == r4.2) h (fun w a hm hs => norm hm hs [] [0, 1, 2] [(4, (bool (r2.2 == r4.2)))] (by decide) ⟨rfl, trivial⟩)
  ·replace h := bif_f hb7 h
   refine al_skip ?_
   refine al_skip ?_
   refine al_skip ?_
   refine al_val (ov_pick_f rfl rfl rfl) ?_
   refine al_as rfl rfl ?_
   refine al_nil ?_
   exact aq_join false h (fun w a hm hs => norm hm hs [] [0, 1, 2] [(4, (bool false))] (by decide) ⟨rfl, trivial⟩)
end Go.Proofs.YtpakblkldklbmaaDoor
namespace Go.Proofs.YtpakblkldklbmaaDoor
open Go.RowKit YtpakblkldklbmaaDoor.En
theorem at_nat {α : Type} (xs : List α) (k : Nat) : at? xs (k : Int) = xs[k]? := by unfold at?; rw [if_pos (Int.natCast_nonneg k)]; simp
theorem at_lt {α : Type} {xs : List α} {k : Nat} (h : k < xs.length) : at? xs (k : Int) = some xs[k] := by rw [at_nat, List.getElem?_eq_getElem h]
theorem at_of {α : Type} {xs : List α} {k : Nat} {x : α} (h : xs[k]? = some x) : at? xs (k : Int) = some x := by rw [at_nat, h]
theorem w64 {x : Int} (h0 : -9223372036854775808 ≤ x) (h1 : x ≤ 9223372036854775807) : IntKind.i64.wrap x = x := IntWalk.i64_in x (by omega)
theorem wsucc {k : Nat} (h : k < 9223372036854775807) : IntKind.i64.wrap ((k : Int) + 1) = ((k + 1 : Nat) : Int) := by rw [w64 (by omega) (by omega)]; omega
theorem dlt {a b : Int} (h : a < b) : decide (a < b) = true := decide_eq_true h
theorem dge {a b : Int} (h : b ≤ a) : decide (a < b) = false := decide_eq_false (by omega)
theorem cond_tt {α : Type} {b : Bool} {x y : α} (h : b = true) : (bif b then x else y) = x := by rw [h]; rfl
theorem cond_ff {α : Type} {b : Bool} {x y : α} (h : b = false) : (bif b then x else y) = y := by rw [h]; rfl
end Go.Proofs.YtpakblkldklbmaaDoor
namespace Go.Proofs.YtpakblkldklbmaaDoor.U8
open Go.Lib YtpakblkldklbmaaDoor.En
def C (x : Nat) : Prop := 128 ≤ x ∧ x ≤ 191
instance (x : Nat) : Decidable (C x) := by unfold C; infer_instance
def fin (low n c : Nat) : Nat × Nat := if c < low ∨ 1114111 < c ∨ (55296 ≤ c ∧ c < 57344) then (0, 0) else (c, n)
def refN (n b0 b1 b2 b3 : Nat) : Nat × Nat :=
  if b0 < 128 then (b0, 1)
  else if 194 ≤ b0 ∧ b0 < 224 then (if n < 2 then (0, 0) else if C b1 then fin 128 2 (64 * (b0 - 192) + b1 - 128) else (0, 0))
  else if 224 ≤ b0 ∧ b0 < 240 then (if n < 3 then (0, 0) else if C b1 then (if C b2 then fin 2048 3 (64 * (64 * (b0 - 224) + b1 - 128) + b2 - 128) else (0, 0)) else (0, 0))
  else if 240 ≤ b0 ∧ b0 < 245 then (if n < 4 then (0, 0) else if C b1 then (if C b2 then (if C b3 then fin 65536 4 (64 * (64 * (64 * (b0 - 240) + b1 - 128) + b2 - 128) + b3 - 128) else (0, 0)) else (0, 0)) else (0, 0))
  else (0, 0)
def Fits (d r : Nat × Nat) : Prop := (d = (65533, 1) ∧ r = (0, 0)) ∨ (d = r ∧ 1 ≤ r.2 ∧ ¬ (r.1 = 65533 ∧ r.2 = 1))
theorem fits_bad : Fits (65533, 1) (0, 0) := .inl ⟨rfl, rfl⟩
theorem fits_good {c c' n : Nat} (h : c = c') (hn : 2 ≤ n) : Fits (c, n) (c', n) := .inr ⟨by rw [h], by show 1 ≤ n; omega, fun h' => by have : n = 1 := h'.2; omega⟩
theorem refN_fits (n b0 b1 b2 b3 : Nat) (h0 : b0 < 256) (h1 : b1 < 256) (h2 : b2 < 256) (h3 : b3 < 256) : Fits (decodeN n b0 b1 b2 b3) (refN n b0 b1 b2 b3) := by
  unfold decodeN refN
  by_cases a0 : b0 < 128
  · rw [if_pos a0, if_pos a0]
    exact .inr ⟨rfl, Nat.le_refl _, fun h => by have : b0 = 65533 := h.1; omega⟩
  rw [if_neg a0, if_neg a0]
  by_cases a1 : b0 < 194
  · have e1 : ∀ r : Nat × Nat, (if b0 / 32 = 6 ∧ (1 < n ∧ b1 / 64 = 2) then (if b0 % 32 * 64 + b1 % 64 ≥ 128 then (b0 % 32 * 64 + b1 % 64, 2) else (65533, 1)) else r) = (if b0 / 32 = 6 ∧ (1 < n ∧ b1 / 64 = 2) then ((65533, 1) : Nat × Nat) else r) := fun r => by
      split
      · rw [if_neg (by omega)]
      · rfl
    rw [e1]
    rw [if_neg (c := 194 ≤ b0 ∧ b0 < 224) (by omega), if_neg (c := 224 ≤ b0 ∧ b0 < 240) (by omega), if_neg (c := 240 ≤ b0 ∧ b0 < 245) (by omega), if_neg (c := b0 / 16 = 14 ∧ _) (by omega), if_neg (c := b0 / 8 = 30 ∧ _) (by omega)]
    split <;> exact fits_bad
  by_cases a2 : b0 < 224
  · rw [if_pos (c := 194 ≤ b0 ∧ b0 < 224) (by omega), if_neg (c := b0 / 16 = 14 ∧ _) (by omega), if_neg (c := b0 / 8 = 30 ∧ _) (by omega)]
    by_cases c1 : n < 2
    · rw [if_pos c1, if_neg (by omega)]; exact fits_bad
    rw [if_neg c1]
    by_cases c2 : C b1
    · rw [if_pos c2]
      unfold C at c2
      rw [if_pos (by omega), if_pos (by omega)]
      unfold fin
      rw [if_neg (by omega)]
      exact fits_good (by omega) (by omega)
    · rw [if_neg c2]
      unfold C at c2
      rw [if_neg (by omega)]; exact fits_bad
  rw [if_neg (c := 194 ≤ b0 ∧ b0 < 224) (by omega), if_neg (c := b0 / 32 = 6 ∧ _) (by omega)]
  by_cases a3 : b0 < 240
  · rw [if_pos (c := 224 ≤ b0 ∧ b0 < 240) (by omega), if_neg (c := b0 / 8 = 30 ∧ _) (by omega)]
    by_cases c1 : n < 3
    · rw [if_pos c1, if_neg (by omega)]; exact fits_bad
    rw [if_neg c1]
    by_cases c2 : C b1
    · by_cases c3 : C b2
      · rw [if_pos c2, if_pos c3]
        unfold C at c2 c3
        rw [if_pos (by omega)]
        unfold fin
        by_cases c4 : b0 % 16 * 4096 + b1 % 64 * 64 + b2 % 64 ≥ 2048 ∧ (b0 % 16 * 4096 + b1 % 64 * 64 + b2 % 64 < 55296 ∨ (57344 ≤ b0 % 16 * 4096 + b1 % 64 * 64 + b2 % 64 ∧ b0 % 16 * 4096 + b1 % 64 * 64 + b2 % 64 ≤ 1114111))
        · rw [if_pos c4, if_neg (by omega)]
          exact fits_good (by omega) (by omega)
        · rw [if_neg c4, if_pos (by omega)]; exact fits_bad
      · rw [if_pos c2, if_neg c3]
        unfold C at c3
        rw [if_neg (by omega)]; exact fits_bad
    · rw [if_neg c2]
      unfold C at c2
      rw [if_neg (by omega)]; exact fits_bad
  rw [if_neg (c := 224 ≤ b0 ∧ b0 < 240) (by omega), if_neg (c := b0 / 16 = 14 ∧ _) (by omega)]
  by_cases a4 : b0 < 248
  · by_cases a5 : b0 < 245
    · rw [if_pos (c := 240 ≤ b0 ∧ b0 < 245) (by omega)]
      by_cases c1 : n < 4
      · rw [if_pos c1, if_neg (by omega)]; exact fits_bad
      rw [if_neg c1]
      by_cases c2 : C b1
      · by_cases c3 : C b2
        · by_cases c4 : C b3
          · rw [if_pos c2, if_pos c3, if_pos c4]
            unfold C at c2 c3 c4
            rw [if_pos (by omega)]
            unfold fin
            by_cases c5 : b0 % 8 * 262144 + b1 % 64 * 4096 + b2 % 64 * 64 + b3 % 64 ≥ 65536 ∧ (b0 % 8 * 262144 + b1 % 64 * 4096 + b2 % 64 * 64 + b3 % 64 < 55296 ∨ (57344 ≤ b0 % 8 * 262144 + b1 % 64 * 4096 + b2 % 64 * 64 + b3 % 64 ∧ b0 % 8 * 262144 + b1 % 64 * 4096 + b2 % 64 * 64 + b3 % 64 ≤ 1114111))
            · rw [if_pos c5, if_neg (by omega)]
              exact fits_good (by omega) (by omega)
            · rw [if_neg c5, if_pos (by omega)]; exact fits_bad
          · rw [if_pos c2, if_pos c3, if_neg c4]
            unfold C at c4
            rw [if_neg (by omega)]; exact fits_bad
        · rw [if_pos c2, if_neg c3]
          unfold C at c3
          rw [if_neg (by omega)]; exact fits_bad
      · rw [if_neg c2]
        unfold C at c2
        rw [if_neg (by omega)]; exact fits_bad
    · rw [if_neg (c := 240 ≤ b0 ∧ b0 < 245) (by omega)]
      split
      · split
        · omega
        · exact fits_bad
      · exact fits_bad
  · rw [if_neg (c := 240 ≤ b0 ∧ b0 < 245) (by omega), if_neg (c := b0 / 8 = 30 ∧ _) (by omega)]; exact fits_bad
def by_ (l : List UInt8) (k : Nat) : Nat := (l.getD k 0).toNat
theorem by_lt (l : List UInt8) (k : Nat) : by_ l k < 256 := (l.getD k 0).toNat_lt
def refC (l : List UInt8) : Nat × Nat := refN l.length (by_ l 0) (by_ l 1) (by_ l 2) (by_ l 3)
theorem refC_fits (l : List UInt8) : Fits (decodeL l) (refC l) := by
  rw [decodeL_N]; exact refN_fits _ _ _ _ _ (by_lt l 0) (by_lt l 1) (by_lt l 2) (by_lt l 3)
def R : Nat → List UInt8 → List Int
  | 0, _ => []
  | f + 1, l => if l = [] then [] else ((decodeL l).1 : Int) :: R f (l.drop (decodeL l).2)
theorem drop_lt {l : List UInt8} (h : l ≠ []) : (l.drop (decodeL l).2).length < l.length := by
  have h1 := decodeL_width l
  have h2 : 0 < l.length := List.length_pos_iff.2 h
  rw [List.length_drop]; omega
theorem R_fuel : ∀ (f g : Nat) (l : List UInt8), l.length ≤ f → l.length ≤ g → R f l = R g l
  | 0, 0, _, _, _ => rfl
  | 0, g + 1, l, hf, _ => by rw [List.eq_nil_of_length_eq_zero (show l.length = 0 by omega)]; simp [R]
  | f + 1, 0, l, _, hg => by rw [List.eq_nil_of_length_eq_zero (show l.length = 0 by omega)]; simp [R]
  | f + 1, g + 1, l, hf, hg => by
    rw [R, R]
    split
    · rfl
    · rename_i h
      have := drop_lt h
      rw [R_fuel f g _ (by omega) (by omega)]
theorem V_fuel : ∀ (f g : Nat) (l : List UInt8), l.length ≤ f → l.length ≤ g → validGoD f l = validGoD g l
  | 0, 0, _, _, _ => rfl
  | 0, g + 1, l, hf, _ => by rw [List.eq_nil_of_length_eq_zero (show l.length = 0 by omega)]; simp [validGoD]
  | f + 1, 0, l, _, hg => by rw [List.eq_nil_of_length_eq_zero (show l.length = 0 by omega)]; simp [validGoD]
  | f + 1, g + 1, l, hf, hg => by
    rw [validGoD, validGoD]
    split
    · rfl
    · rename_i h
      have := drop_lt h
      rw [V_fuel f g _ (by omega) (by omega)]
def rns (l : List UInt8) : List Int := R l.length l
theorem rns_nil : rns [] = [] := rfl
theorem rns_step {l : List UInt8} (h : l ≠ []) : rns l = ((decodeL l).1 : Int) :: rns (l.drop (decodeL l).2) := by
  have h1 := drop_lt h
  unfold rns
  obtain ⟨n, hn⟩ : ∃ n, l.length = n + 1 := ⟨l.length - 1, by have := List.length_pos_iff.2 h; omega⟩
  rw [hn, R, if_neg h, R_fuel n _ _ (by omega) (Nat.le_refl _)]
theorem V_nil : validD [] = true := rfl
theorem V_step {l : List UInt8} (h : l ≠ []) : validD l = if (decodeL l).1 = 65533 ∧ (decodeL l).2 = 1 then false else validD (l.drop (decodeL l).2) := by
  have h1 := drop_lt h
  unfold validD
  obtain ⟨n, hn⟩ : ∃ n, l.length = n + 1 := ⟨l.length - 1, by have := List.length_pos_iff.2 h; omega⟩
  rw [hn, validGoD, if_neg h, V_fuel n _ _ (by omega) (Nat.le_refl _)]
theorem rns_len : ∀ (n : Nat) (l : List UInt8), l.length ≤ n → (rns l).length ≤ l.length
  | 0, l, h => by rw [List.eq_nil_of_length_eq_zero (show l.length = 0 by omega)]; simp [rns_nil]
  | n + 1, l, h => by
    by_cases hl : l = []
    · rw [hl]; simp [rns_nil]
    · have h1 := drop_lt hl
      have := rns_len n (l.drop (decodeL l).2) (by omega)
      rw [rns_step hl, List.length_cons]; omega
theorem rns_pos {l : List UInt8} (h : l ≠ []) : rns l ≠ [] := by rw [rns_step h]; simp
theorem dec_drop (s : List UInt8) (p : Nat) : dec s p = decodeL (s.drop p) := (decodeL_drop ⟨s.toArray⟩ p).symm
def bad (c : Int) : Bool := decide (c = 47) || (decide (c < 32) || decide (c = 127))
def nameV (s : List UInt8) : Int := if s = [] ∨ s = [46] ∨ s = [46, 46] ∨ validD s = false then 8 else if (rns s).any bad then 8 else if 24 < (rns s).length then 2 else 0
end Go.Proofs.YtpakblkldklbmaaDoor.U8
namespace Go.Proofs.YtpakblkldklbmaaDoor.PTreeName
open Go.RowKit YtpakblkldklbmaaDoor.En YtpakblkldklbmaaDoor U8 Go.Lib
set_option linter.unusedVariables false
set_option linter.unusedSimpArgs false
theorem iw {n : Nat} (h : n ≤ 9223372036854775807) : IntKind.i64.wrap (n : Int) = (n : Int) := w64 (by omega) (by omega)
theorem ch_step (a : List UInt8) (n : Int) (kk : Int → Option (Int × Int)) (fuel i c : Nat) (b : UInt8) (hi : (cut a 1 n)[i]? = some b) (hc : c < 1000000000) (hi2 : i < 10) :
    f_lumref_char_L20 a n kk (fuel + 1) (c : Int) (i : Int) = if C b.toNat then f_lumref_char_L20 a n kk fuel ((64 * c + b.toNat - 128 : Nat) : Int) ((i + 1 : Nat) : Int) else some (0, 0) := by
  have hlt := (List.getElem?_eq_some_iff.1 hi).1
  have hb := b.toNat_lt
  rw [f_lumref_char_L20, cond_tt (dlt (by omega)), at_of hi, opt_of, lt_of, wsucc (by omega)]
  by_cases h1 : b.toNat < 128
  · rw [cond_tt (dlt (by omega)), if_neg (by unfold C; omega)]; rfl
  · rw [cond_ff (dge (by omega))]
    by_cases h2 : b.toNat > 191
    · rw [decide_eq_true (by omega), if_neg (by unfold C; omega)]; rfl
    · rw [decide_eq_false (by omega), if_pos (by unfold C; omega)]
      dsimp only
      rw [cond_ff rfl]
      have e : IntKind.i64.wrap ((IntKind.i64.wrap ((IntKind.i64.wrap ((64 : Int) * (c : Int))) + (IntKind.i64.wrap (b.toNat : Int)))) - (128 : Int)) = ((64 * c + b.toNat - 128 : Nat) : Int) := by
        rw [w64 (x := 64 * (c : Int)) (by omega) (by omega), iw (n := b.toNat) (by omega), w64 (x := 64 * (c : Int) + (b.toNat : Int)) (by omega) (by omega), w64 (by omega) (by omega)]; omega
      rw [e]
theorem ch_end (a : List UInt8) (n : Int) (kk : Int → Option (Int × Int)) (fuel i c : Nat) (hi : (cut a 1 n).length = i) : f_lumref_char_L20 a n kk (fuel + 1) (c : Int) (i : Int) = kk (c : Int) := by
  rw [f_lumref_char_L20, cond_ff (dge (by omega))]
theorem cut_at (a : List UInt8) (n j : Nat) (h : j + 1 < n) (hn : n ≤ a.length) : (cut a 1 (n : Int))[j]? = some (a.getD (j + 1) 0) := by
  unfold En.cut
  rw [show ((1 : Int)).toNat = 1 from rfl, Int.toNat_natCast, List.getElem?_drop, List.getElem?_take, if_pos (by omega), Nat.add_comm, List.getD_eq_getElem?_getD, List.getElem?_eq_getElem (by omega)]; rfl
theorem cut_len (a : List UInt8) (n : Nat) (h : 1 ≤ n) (hn : n ≤ a.length) : (cut a 1 (n : Int)).length = n - 1 := by
  unfold En.cut
  rw [show ((1 : Int)).toNat = 1 from rfl, Int.toNat_natCast, List.length_drop, List.length_take]; omega
def fin_k (low n : Nat) (c : Int) : Option (Int × Int) := (lt (fun (j9b84 : Bool) => (bif j9b84 then (some ((0 : Int), (0 : Int))) else (some (c, (n : Int))))) fun (kk10 : Bool → Option (Int × Int)) => (bif (decide (c < (low : Int))) then (kk10 true) else (bif (decide (c > (1114111 : Int))) then (kk10 true) else (bif (decide (c ≥ (55296 : Int))) then (kk10 (decide (c < (57344 : Int)))) else (kk10 false)))))
theorem fin_k_ok (low n c : Nat) : fin_k low n (c : Int) = some (((fin low n c).1 : Int), ((fin low n c).2 : Int)) := by
  unfold fin_k fin
  rw [lt_of]
  by_cases h1 : c < low
  · rw [cond_tt (dlt (by omega)), if_pos (.inl h1)]; rfl
  · rw [cond_ff (dge (by omega))]
    by_cases h2 : c > 1114111
    · rw [cond_tt (decide_eq_true (by omega)), if_pos (.inr (.inl h2))]; rfl
    · rw [cond_ff (decide_eq_false (by omega))]
      by_cases h3 : c ≥ 55296
      · rw [cond_tt (decide_eq_true (by omega))]
        by_cases h4 : c < 57344
        · rw [decide_eq_true (by omega), if_pos (by omega)]; rfl
        · rw [decide_eq_false (by omega), if_neg (by omega)]; rfl
      · rw [cond_ff (decide_eq_false (by omega)), if_neg (by omega)]; rfl
def kk5 (a : List UInt8) (fu : Nat) (c : Int) (n : Int) (low : Int) : Option (Int × Int) := (bif (decide ((a.length : Int) < n)) then (some ((0 : Int), (0 : Int))) else (lt (fun (j7i4 : Int) => (lt (fun (j9b84 : Bool) => (bif j9b84 then (some ((0 : Int), (0 : Int))) else (some (j7i4, n)))) fun (kk10 : Bool → Option (Int × Int)) => (bif (decide (j7i4 < low)) then (kk10 true) else (bif (decide (j7i4 > (1114111 : Int))) then (kk10 true) else (bif (decide (j7i4 ≥ (55296 : Int))) then (kk10 (decide (j7i4 < (57344 : Int)))) else (kk10 false)))))) fun (kk8 : Int → Option (Int × Int)) => (req (0 ≤ (1 : Int) ∧ (1 : Int) ≤ n ∧ n ≤ (a.length : Int)) (req ((cut a (1 : Int) n).length ≤ 9223372036854775807) (f_lumref_char_L20 a n kk8 fu c (0 : Int))))))
def out (r : Nat × Nat) : Int × Int := ((r.1 : Int), (r.2 : Int))
theorem out_if {p : Prop} [Decidable p] (x y : Nat × Nat) : some (out (if p then x else y)) = if p then some (out x) else some (out y) := by split <;> rfl
theorem kk5_2 (a : List UInt8) (hl : a.length ≤ 2000000) (fu c low : Nat) (hf : 10 ≤ fu) (hc : c < 1000) : kk5 a fu (c : Int) 2 (low : Int) = some (out (if a.length < 2 then (0, 0) else if C (by_ a 1) then fin low 2 (64 * c + by_ a 1 - 128) else (0, 0))) := by
  unfold kk5
  by_cases h : a.length < 2
  · rw [cond_tt (dlt (by omega)), if_pos h]; rfl
  · rw [cond_ff (dge (by omega)), if_neg h, lt_of, req_pos (by omega), req_pos (by rw [show (2 : Int) = ((2 : Nat) : Int) from rfl, cut_len a 2 (by omega) (by omega)]; omega)]
    obtain ⟨f, rfl⟩ : ∃ f, fu = f + 2 := ⟨fu - 2, by omega⟩
    refine (ch_step a 2 _ (f + 1) 0 c _ (cut_at a 2 0 (by omega) (by omega)) (by omega) (by omega)).trans ?_
    rw [out_if]
    show (if C (by_ a 1) then _ else _) = _
    by_cases h1 : C (by_ a 1)
    · rw [if_pos h1, if_pos h1]
      refine (ch_end a 2 _ f 1 _ (cut_len a 2 (by omega) (by omega))).trans ?_
      exact fin_k_ok low 2 _
    · rw [if_neg h1, if_neg h1]; rfl
theorem kk5_3 (a : List UInt8) (hl : a.length ≤ 2000000) (fu c low : Nat) (hf : 10 ≤ fu) (hc : c < 1000) : kk5 a fu (c : Int) 3 (low : Int) = some (out (if a.length < 3 then (0, 0) else if C (by_ a 1) then (if C (by_ a 2) then fin low 3 (64 * (64 * c + by_ a 1 - 128) + by_ a 2 - 128) else (0, 0)) else (0, 0))) := by
  have l1 := by_lt a 1
  have l2 := by_lt a 2
  unfold kk5
  by_cases h : a.length < 3
  · rw [cond_tt (dlt (by omega)), if_pos h]; rfl
  · rw [cond_ff (dge (by omega)), if_neg h, lt_of, req_pos (by omega), req_pos (by rw [show (3 : Int) = ((3 : Nat) : Int) from rfl, cut_len a 3 (by omega) (by omega)]; omega)]
    obtain ⟨f, rfl⟩ : ∃ f, fu = f + 3 := ⟨fu - 3, by omega⟩
    refine (ch_step a 3 _ (f + 2) 0 c _ (cut_at a 3 0 (by omega) (by omega)) (by omega) (by omega)).trans ?_
    rw [out_if]
    show (if C (by_ a 1) then _ else _) = _
    by_cases h1 : C (by_ a 1)
    · rw [if_pos h1, if_pos h1, out_if]
      refine (ch_step a 3 _ (f + 1) 1 (64 * c + by_ a 1 - 128) _ (cut_at a 3 1 (by omega) (by omega)) (by omega) (by omega)).trans ?_
      show (if C (by_ a 2) then _ else _) = _
      by_cases h2 : C (by_ a 2)
      · rw [if_pos h2, if_pos h2]
        refine (ch_end a 3 _ f 2 _ (cut_len a 3 (by omega) (by omega))).trans ?_
        exact fin_k_ok low 3 _
      · rw [if_neg h2, if_neg h2]; rfl
    · rw [if_neg h1, if_neg h1]; rfl
theorem kk5_4 (a : List UInt8) (hl : a.length ≤ 2000000) (fu c low : Nat) (hf : 10 ≤ fu) (hc : c < 1000) : kk5 a fu (c : Int) 4 (low : Int) = some (out (if a.length < 4 then (0, 0) else if C (by_ a 1) then (if C (by_ a 2) then (if C (by_ a 3) then fin low 4 (64 * (64 * (64 * c + by_ a 1 - 128) + by_ a 2 - 128) + by_ a 3 - 128) else (0, 0)) else (0, 0)) else (0, 0))) := by
  have l1 := by_lt a 1
  have l2 := by_lt a 2
  have l3 := by_lt a 3
  unfold kk5
  by_cases h : a.length < 4
  · rw [cond_tt (dlt (by omega)), if_pos h]; rfl
  · rw [cond_ff (dge (by omega)), if_neg h, lt_of, req_pos (by omega), req_pos (by rw [show (4 : Int) = ((4 : Nat) : Int) from rfl, cut_len a 4 (by omega) (by omega)]; omega)]
    obtain ⟨f, rfl⟩ : ∃ f, fu = f + 4 := ⟨fu - 4, by omega⟩
    refine (ch_step a 4 _ (f + 3) 0 c _ (cut_at a 4 0 (by omega) (by omega)) (by omega) (by omega)).trans ?_
    rw [out_if]
    show (if C (by_ a 1) then _ else _) = _
    by_cases h1 : C (by_ a 1)
    · rw [if_pos h1, if_pos h1, out_if]
      refine (ch_step a 4 _ (f + 2) 1 (64 * c + by_ a 1 - 128) _ (cut_at a 4 1 (by omega) (by omega)) (by omega) (by omega)).trans ?_
      show (if C (by_ a 2) then _ else _) = _
      by_cases h2 : C (by_ a 2)
      · rw [if_pos h2, if_pos h2, out_if]
        refine (ch_step a 4 _ (f + 1) 2 (64 * (64 * c + by_ a 1 - 128) + by_ a 2 - 128) _ (cut_at a 4 2 (by omega) (by omega)) (by omega) (by omega)).trans ?_
        show (if C (by_ a 3) then _ else _) = _
        by_cases h3 : C (by_ a 3)
        · rw [if_pos h3, if_pos h3]
          refine (ch_end a 4 _ f 3 _ (cut_len a 4 (by omega) (by omega))).trans ?_
          exact fin_k_ok low 4 _
        · rw [if_neg h3, if_neg h3]; rfl
      · rw [if_neg h2, if_neg h2]; rfl
    · rw [if_neg h1, if_neg h1]; rfl
theorem char_ok (a : List UInt8) (ha : a ≠ []) (hl : a.length ≤ 2000000) (fu : Nat) (hf : 10 ≤ fu) : f_lumref_char fu a = some (out (refC a)) := by
  have hpos := List.length_pos_iff.2 ha
  have l0 := by_lt a 0
  have e0 : IntKind.i64.wrap (En.bAt a 0) = ((by_ a 0 : Nat) : Int) := by
    rw [show En.bAt a 0 = ((by_ a 0 : Nat) : Int) from rfl, iw (by omega)]
  unfold f_lumref_char refC refN
  rw [cond_ff (by simpa using ha), req_pos (by omega), e0]
  by_cases h1 : by_ a 0 < 128
  · rw [cond_tt (dlt (by omega)), if_pos h1]; rfl
  · rw [cond_ff (dge (by omega)), if_neg h1, lt_of, lt_of]
    have e1 : by_ a 0 < 224 → 194 ≤ by_ a 0 → IntKind.i64.wrap (((by_ a 0 : Nat) : Int) - 192) = ((by_ a 0 - 192 : Nat) : Int) := fun _ _ => by rw [w64 (by omega) (by omega)]; omega
    have e2 : 224 ≤ by_ a 0 → IntKind.i64.wrap (((by_ a 0 : Nat) : Int) - 224) = ((by_ a 0 - 224 : Nat) : Int) := fun _ => by rw [w64 (by omega) (by omega)]; omega
    have e3 : 240 ≤ by_ a 0 → IntKind.i64.wrap (((by_ a 0 : Nat) : Int) - 240) = ((by_ a 0 - 240 : Nat) : Int) := fun _ => by rw [w64 (by omega) (by omega)]; omega
    have ff : ∀ m : Nat, ¬ by_ a 0 < m → decide (((by_ a 0 : Nat) : Int) < (m : Int)) = false := fun m h => decide_eq_false (by omega)
    have ft : ∀ m : Nat, by_ a 0 < m → decide (((by_ a 0 : Nat) : Int) < (m : Int)) = true := fun m h => decide_eq_true (by omega)
    by_cases h2 : 194 ≤ by_ a 0 ∧ by_ a 0 < 224
    · rw [cond_tt (decide_eq_true (show ((by_ a 0 : Nat) : Int) ≥ 194 by omega)), show decide (((by_ a 0 : Nat) : Int) < 224) = true from ft 224 h2.2, if_pos h2]
      dsimp only
      rw [cond_tt rfl, e1 h2.2 h2.1]
      exact kk5_2 a hl fu _ 128 hf (by omega)
    · rw [if_neg h2]
      by_cases h3 : 224 ≤ by_ a 0
      · rw [cond_tt (decide_eq_true (show ((by_ a 0 : Nat) : Int) ≥ 194 by omega)), show decide (((by_ a 0 : Nat) : Int) < 224) = false from ff 224 (by omega)]
        dsimp only
        rw [cond_ff rfl, lt_of]
        by_cases h4 : by_ a 0 < 240
        · rw [cond_tt (decide_eq_true (show ((by_ a 0 : Nat) : Int) ≥ 224 by omega)), show decide (((by_ a 0 : Nat) : Int) < 240) = true from ft 240 h4, if_pos ⟨h3, h4⟩]
          dsimp only
          rw [cond_tt rfl, e2 h3]
          exact kk5_3 a hl fu _ 2048 hf (by omega)
        · rw [cond_tt (decide_eq_true (show ((by_ a 0 : Nat) : Int) ≥ 224 by omega)), show decide (((by_ a 0 : Nat) : Int) < 240) = false from ff 240 h4, if_neg (c := 224 ≤ by_ a 0 ∧ by_ a 0 < 240) (by omega)]
          dsimp only
          rw [cond_ff rfl, lt_of, cond_tt (decide_eq_true (show ((by_ a 0 : Nat) : Int) ≥ 240 by omega))]
          by_cases h5 : by_ a 0 < 245
          · rw [show decide (((by_ a 0 : Nat) : Int) < 245) = true from ft 245 h5, if_pos ⟨by omega, h5⟩]
            dsimp only
            rw [cond_tt rfl, e3 (by omega)]
            exact kk5_4 a hl fu _ 65536 hf (by omega)
          · rw [show decide (((by_ a 0 : Nat) : Int) < 245) = false from ff 245 h5, if_neg (by omega)]
            dsimp only
            rw [cond_ff rfl]; rfl
      · rw [cond_ff (decide_eq_false (show ¬ ((by_ a 0 : Nat) : Int) ≥ 194 by omega)), if_neg (c := 224 ≤ by_ a 0 ∧ by_ a 0 < 240) (by omega), if_neg (c := 240 ≤ by_ a 0 ∧ by_ a 0 < 245) (by omega)]
        dsimp only
        rw [cond_ff rfl, lt_of, cond_ff (decide_eq_false (show ¬ ((by_ a 0 : Nat) : Int) ≥ 224 by omega))]
        dsimp only
        rw [cond_ff rfl, lt_of, cond_ff (decide_eq_false (show ¬ ((by_ a 0 : Nat) : Int) ≥ 240 by omega))]
        dsimp only
        rw [cond_ff rfl]; rfl
theorem chars_loop (fu : Nat) (hf : 10 ≤ fu) : ∀ (fuel : Nat) (s : List UInt8) (o : List Int), s.length < fuel → s.length ≤ 2000000 → o.length + s.length ≤ 2000000 →
    f_lumref_Chars_L5 (fun j => some (j, true)) fu fuel s o = some (if validD s then (o ++ rns s, true) else ([], false))
  | 0, s, _, h, _, _ => absurd h (Nat.not_lt_zero _)
  | fuel + 1, s, o, h, hl, ho => by
    rw [f_lumref_Chars_L5]
    by_cases h0 : s = []
    · subst h0
      rw [cond_ff (by rfl), V_nil, rns_nil, List.append_nil]; rfl
    · have hd := drop_lt h0
      have hle := decodeL_le s h0
      rw [cond_tt (by simpa using h0), char_ok s h0 hl fu hf, opt_of]
      rcases refC_fits s with ⟨h1, h2⟩ | ⟨h1, h2, h3⟩
      · have hv : validD s = false := by rw [V_step h0, h1]; exact if_pos ⟨rfl, rfl⟩
        rw [h2, hv]; rfl
      · rw [V_step h0, rns_step h0]
        rw [h1] at hd hle ⊢
        rw [if_neg h3]
        show (bif (((refC s).2 : Int) == 0) then _ else _) = _
        rw [cond_ff (by rw [beq_eq_false_iff_ne]; omega)]
        show req (((o.length + 1) * 8 : Nat) ≤ 140737488355328 ∧ o.length + 1 ≤ 9223372036854775807) (req (0 ≤ ((refC s).2 : Int) ∧ ((refC s).2 : Int) ≤ (s.length : Int)) (f_lumref_Chars_L5 _ fu fuel (s.drop ((refC s).2 : Int).toNat) (o ++ [((refC s).1 : Int)]))) = _
        have hsl := List.length_pos_iff.2 h0
        rw [req_pos (by omega), req_pos (by omega), Int.toNat_natCast, chars_loop fu hf fuel _ _ (by omega) (by omega) (by simp; omega), List.append_assoc]; rfl
theorem chars_ok (s : List UInt8) (hl : s.length ≤ 1048576) (fu : Nat) (hf : 1048600 ≤ fu) : f_lumref_Chars fu s = some (if validD s then (rns s, true) else ([], false)) := by
  unfold f_lumref_Chars
  rw [lt_of]
  exact chars_loop fu (by omega) fu s [] (by omega) (by omega) (by simp; omega)
theorem name_loop (r : List Int × Bool) (hl : r.1.length ≤ 2000000) (kk : Unit → Option Int) : ∀ (fuel k : Nat), k ≤ r.1.length → r.1.length - k < fuel → f_lumref_Name_L12 r kk fuel (k : Int) = if (r.1.drop k).any bad then some 8 else kk ()
  | 0, k, _, h => absurd h (Nat.not_lt_zero _)
  | fuel + 1, k, hk, hf => by
    rw [f_lumref_Name_L12]
    by_cases hlt : k < r.1.length
    · have key : ∀ b : Bool, b = bad r.1[k] → (bif b then (some (8 : Int)) else f_lumref_Name_L12 r kk fuel (IntKind.i64.wrap ((k : Int) + 1))) = if (r.1.drop k).any bad then some 8 else kk () := fun b hb => by
        rw [List.drop_eq_getElem_cons hlt, List.any_cons, ← hb]
        cases b with
        | true => rfl
        | false => rw [cond_ff rfl, wsucc (by omega), name_loop r hl kk fuel (k + 1) hlt (by omega), Bool.false_or]
      rw [cond_tt (dlt (by omega)), at_lt hlt, opt_of, lt_of]
      unfold bad at key
      generalize r.1[k] = c at key
      by_cases h1 : c = 47
      · rw [cond_tt (by rw [h1]; rfl)]; exact key true (by rw [decide_eq_true h1]; rfl)
      · rw [cond_ff (by rw [beq_eq_false_iff_ne]; exact h1)]
        by_cases h2 : c < 32
        · rw [cond_tt (decide_eq_true h2)]; exact key true (by rw [decide_eq_false h1, decide_eq_true h2]; rfl)
        · rw [cond_ff (decide_eq_false h2)]
          refine key _ ?_
          rw [decide_eq_false h1, decide_eq_false h2]
          by_cases h3 : c = 127
          · rw [h3]; rfl
          · rw [decide_eq_false h3, beq_eq_false_iff_ne.2 h3]; rfl
    · rw [cond_ff (dge (by omega)), List.drop_of_length_le (by omega)]; rfl
theorem name_ok (s : List UInt8) (hl : s.length ≤ 1048576) (fu : Nat) (hf : 1048600 ≤ fu) : f_lumref_Name fu s = some (nameV s) := by
  have hrl := rns_len s.length s (Nat.le_refl _)
  unfold f_lumref_Name nameV
  rw [chars_ok s hl fu hf, opt_of, lt_of]
  cases hv : validD s with
  | false => rw [if_neg (by simp), if_pos (by simp)]; rfl
  | true =>
    rw [if_pos rfl]
    dsimp only
    rw [cond_ff (show (!true) = false from rfl)]
    by_cases h0 : s = []
    · subst h0; rw [if_pos (.inl rfl)]; rfl
    · have := List.length_pos_iff.2 (rns_pos h0)
      rw [cond_ff (by rw [beq_eq_false_iff_ne]; omega)]
      by_cases h1 : s = [46]
      · subst h1; rw [if_pos (.inr (.inl rfl))]; rfl
      · rw [cond_ff (by rw [beq_eq_false_iff_ne]; exact h1)]
        by_cases h2 : s = [46, 46]
        · subst h2; rw [if_pos (.inr (.inr (.inl rfl)))]; rfl
        · rw [beq_eq_false_iff_ne.2 h2, if_neg (by simp [h0, h1, h2])]
          try dsimp only
          rw [cond_ff rfl, lt_of]
          have := name_loop (rns s, true) (by show (rns s).length ≤ _; omega) (fun _ => (bif (decide (((rns s).length : Int) > (24 : Int))) then (some (2 : Int)) else (some (0 : Int)))) fu 0 (by omega) (by show (rns s).length - 0 < fu; omega)
          refine Eq.trans this ?_
          rw [List.drop_zero]
          show (if (rns s).any bad = true then some 8 else _) = _
          split
          · rfl
          · by_cases h4 : 24 < (rns s).length
            · rw [cond_tt (decide_eq_true (by omega)), if_pos h4]
            · rw [cond_ff (decide_eq_false (by omega)), if_neg h4]
theorem check_loop (s : List UInt8) (hl : s.length ≤ 2000000) (kk : Int → Option Int) : ∀ (fuel p n : Nat), s.length - p < fuel → n ≤ p → p ≤ 4000000 → f_names_Check_L10 s kk fuel (n : Int) (p : Int) = if (rns (s.drop p)).any bad then some 8 else kk ((n + (rns (s.drop p)).length : Nat) : Int)
  | 0, p, n, h, _, _ => absurd h (Nat.not_lt_zero _)
  | fuel + 1, p, n, hf, hn, hp => by
    rw [f_names_Check_L10, Int.toNat_natCast]
    by_cases hlt : p < s.length
    · have hne : s.drop p ≠ [] := fun h => by have := congrArg List.length h; rw [List.length_drop] at this; simp at this; omega
      have hw := decodeL_width (s.drop p)
      have hle := decodeL_le (s.drop p) hne
      rw [List.length_drop] at hle
      have key : ∀ b : Bool, b = bad ((decodeL (s.drop p)).1 : Int) → (bif b then (some (8 : Int)) else f_names_Check_L10 s kk fuel (IntKind.i64.wrap ((n : Int) + 1)) ((p + (decodeL (s.drop p)).2 : Nat) : Int)) = if (rns (s.drop p)).any bad then some 8 else kk ((n + (rns (s.drop p)).length : Nat) : Int) := fun b hb => by
        rw [rns_step hne, List.any_cons, ← hb]
        cases b with
        | true => rfl
        | false =>
          rw [cond_ff rfl, wsucc (by omega), check_loop s hl kk fuel _ (n + 1) (by omega) (by omega) (by omega), Bool.false_or, List.drop_drop, List.length_cons]
          rw [show n + 1 + (rns (s.drop (p + (decodeL (s.drop p)).2))).length = n + ((rns (s.drop (p + (decodeL (s.drop p)).2))).length + 1) by omega]
      rw [cond_tt (decide_eq_true hlt), lt_of, dec_drop]
      unfold bad at key
      generalize (((decodeL (s.drop p)).1 : Nat) : Int) = c at key
      by_cases h1 : c = 47
      · rw [cond_tt (by rw [h1]; rfl)]; exact key true (by rw [decide_eq_true h1]; rfl)
      · rw [cond_ff (by rw [beq_eq_false_iff_ne]; exact h1)]
        by_cases h2 : c < 32
        · rw [cond_tt (decide_eq_true h2)]; exact key true (by rw [decide_eq_false h1, decide_eq_true h2]; rfl)
        · rw [cond_ff (decide_eq_false h2)]
          refine key _ ?_
          rw [decide_eq_false h1, decide_eq_false h2]
          by_cases h3 : c = 127
          · rw [h3]; rfl
          · rw [decide_eq_false h3, beq_eq_false_iff_ne.2 h3]; rfl
    · rw [cond_ff (decide_eq_false hlt), List.drop_of_length_le (by omega), rns_nil]; rfl
theorem check_ok (s : List UInt8) (hl : s.length ≤ 1048576) (fu : Nat) (hf : 1048600 ≤ fu) : f_names_Check fu s = some (nameV s) := by
  unfold f_names_Check nameV f_utf8_ValidString
  rw [lt_of]
  by_cases h0 : s = []
  · subst h0; rw [if_pos (.inl rfl)]; rfl
  · rw [cond_ff (by simpa using h0)]
    by_cases h1 : s = [46]
    · subst h1; rw [if_pos (.inr (.inl rfl))]; rfl
    · rw [cond_ff (by rw [beq_eq_false_iff_ne]; exact h1)]
      by_cases h2 : s = [46, 46]
      · subst h2; rw [if_pos (.inr (.inr (.inl rfl)))]; rfl
      · rw [cond_ff (by rw [beq_eq_false_iff_ne]; exact h2), req_pos (by omega), opt_of]
        cases hv : validD s with
        | false => rw [if_pos (by simp)]; rfl
        | true =>
          rw [if_neg (by simp [h0, h1, h2])]
          dsimp only
          rw [cond_ff (show (!true) = false from rfl), lt_of]
          have := check_loop s (by omega) (fun j4i3 => (bif (decide (j4i3 > (24 : Int))) then (some (2 : Int)) else (some (0 : Int)))) fu 0 0 (by omega) (by omega) (by omega)
          refine Eq.trans this ?_
          rw [List.drop_zero, Nat.zero_add]
          split
          · rfl
          · by_cases h4 : 24 < (rns s).length
            · rw [cond_tt (decide_eq_true (by omega)), if_pos h4]
            · rw [cond_ff (decide_eq_false (by omega)), if_neg h4]
end Go.Proofs.YtpakblkldklbmaaDoor.PTreeName
namespace Go.Proofs.YtpakblkldklbmaaDoor.StrOrd
open Go.RowKit YtpakblkldklbmaaDoor.En YtpakblkldklbmaaDoor
theorem u8_trans {a b c : UInt8} (h : a < b) (h' : b < c) : a < c := UInt8.lt_iff_toNat_lt.2 (Nat.lt_trans (UInt8.lt_iff_toNat_lt.1 h) (UInt8.lt_iff_toNat_lt.1 h'))
abbrev L (a b : List UInt8) : Prop := Op.bytesLess a b = true
theorem less_nil (a : List UInt8) : ¬ L a [] := by cases a <;> simp [L, Op.bytesLess]
theorem less_cons {x y : UInt8} {a b : List UInt8} : L (x :: a) (y :: b) ↔ x < y ∨ (x = y ∧ L a b) := by simp [L, Op.bytesLess]
theorem trans : ∀ {a b c : List UInt8}, L a b → L b c → L a c
  | a, [], c, h, _ => absurd h (less_nil a)
  | a, _ :: _, [], _, h => absurd h (less_nil _)
  | [], _ :: _, _ :: _, _, _ => rfl
  | x :: a, y :: b, z :: c, h, h' => by
    rcases less_cons.1 h with k | ⟨e, k⟩
    · rcases less_cons.1 h' with k' | ⟨e', _⟩
      · exact less_cons.2 (.inl (u8_trans k k'))
      · subst e'; exact less_cons.2 (.inl k)
    · subst e
      rcases less_cons.1 h' with k' | ⟨e', k'⟩
      · exact less_cons.2 (.inl k')
      · exact less_cons.2 (.inr ⟨e', trans k k'⟩)
end Go.Proofs.YtpakblkldklbmaaDoor.StrOrd
namespace Go.Proofs.YtpakblkldklbmaaDoor.PNamesSays
open Go.RowKit YtpakblkldklbmaaDoor.En YtpakblkldklbmaaDoor U8
open Go.Lib hiding cut
set_option linter.unusedVariables false
set_option linter.unusedSimpArgs false
abbrev L2 := List (List UInt8)
theorem iw {n : Nat} (h : n ≤ 9223372036854775807) : IntKind.i64.wrap (n : Int) = (n : Int) := w64 (by omega) (by omega)
def Sm (l : L2) : Prop := l.length ≤ 1048577 ∧ ∀ s ∈ l, s.length ≤ 1048576
theorem split_miss {s : List UInt8} (h : indexByte s 47 = -1) : splitV s [47] = [s] := by
  have h2 : index s [47] = -1 := by rw [index_one]; exact h
  unfold splitV
  rw [count_miss h2]; rfl
theorem split_hit {s : List UInt8} {i : Nat} (h : indexByte s 47 = i) : splitV s [47] = s.take i :: splitV (s.drop (i + 1)) [47] := by
  have h2 : index s [47] = i := by rw [index_one]; exact h
  have hn : ¬ (index s [47] == -1) = true := fun e => by have := beq_iff_eq.1 e; omega
  unfold splitV
  rw [count_hit (by simp) h2, Nat.add_comm]
  show (if (index s [47] == -1) = true then [s] else s.take ((index s [47]).toNat + 0) :: splitK [47] 0 (count (s.drop (i + [47].length)) [47]) (s.drop ((index s [47]).toNat + [47].length))) = _
  rw [if_neg hn, h2, Int.toNat_natCast]; rfl
theorem hit_lt {s : List UInt8} {i : Nat} (h : indexByte s 47 = i) : i < s.length := (List.getElem?_eq_some_iff.1 (indexByte_some h).1).1
theorem split_sm : ∀ (n : Nat) (s : List UInt8), s.length ≤ n → (splitV s [47]).length ≤ s.length + 1 ∧ ∀ x ∈ splitV s [47], x.length ≤ s.length
  | n, s, hn => by
    rcases Int.lt_or_le (indexByte s 47) 0 with h | h
    · have hm : indexByte s 47 = -1 := by have := indexByte_ge s 47; omega
      rw [split_miss hm]
      exact ⟨by simp, by simp⟩
    · obtain ⟨i, hi⟩ : ∃ i : Nat, indexByte s 47 = i := ⟨(indexByte s 47).toNat, by omega⟩
      have hlt := hit_lt hi
      rw [split_hit hi]
      match n with
      | 0 => omega
      | n + 1 =>
        obtain ⟨h1, h2⟩ := split_sm n (s.drop (i + 1)) (by rw [List.length_drop]; omega)
        rw [List.length_drop] at h1 h2
        refine ⟨by rw [List.length_cons]; omega, fun x hx => ?_⟩
        rcases List.mem_cons.1 hx with rfl | hx
        · rw [List.length_take]; omega
        · have := h2 x hx; omega
theorem cut_ok : ∀ (fu : Nat) (s : List UInt8), s.length < fu → s.length ≤ 1048576 → f_lumref_cutAt fu s = some (splitV s [47])
  | 0, s, h, _ => absurd h (Nat.not_lt_zero _)
  | fu + 1, s, h, hs => by
    rw [f_lumref_cutAt]
    unfold f_strings_IndexByte
    rw [opt_of, show ((47 : Int)).toNat.toUInt8 = 47 from rfl]
    rcases Int.lt_or_le (indexByte s 47) 0 with h1 | h1
    · have hm : indexByte s 47 = -1 := by have := indexByte_ge s 47; omega
      rw [split_miss hm, hm, cond_tt (decide_eq_true (by decide))]
    · obtain ⟨i, hi⟩ : ∃ i : Nat, indexByte s 47 = i := ⟨(indexByte s 47).toNat, by omega⟩
      have hlt := hit_lt hi
      have hsm := (split_sm _ (s.drop (i + 1)) (Nat.le_refl _)).1
      rw [List.length_drop] at hsm
      rw [split_hit hi, hi, cond_ff (decide_eq_false (by omega)), wsucc (by omega), req_pos (by omega), req_pos (by omega), Int.toNat_natCast, Int.toNat_natCast, cut_ok fu (s.drop (i + 1)) (by rw [List.length_drop]; omega) (by rw [List.length_drop]; omega), opt_of, req_pos (by rw [List.length_singleton]; omega)]; rfl
theorem fsplit_ok (fu : Nat) (s : List UInt8) (hs : s.length ≤ 1048576) : f_strings_Split fu s [47] = some (splitV s [47]) := by
  unfold f_strings_Split
  rw [req_pos ⟨by omega, by simp⟩]
theorem sm_split (s : List UInt8) (hs : s.length ≤ 1048576) : Sm (splitV s [47]) := by
  obtain ⟨h1, h2⟩ := split_sm _ s (Nat.le_refl _)
  exact ⟨by omega, fun x hx => by have := h2 x hx; omega⟩
def chk : Nat → L2 → Int
  | _, [] => 0
  | i, s :: t => if 8 ≤ i then 14 else if nameV s ≠ 0 then nameV s else chk (i + 1) t
theorem chk_cons (i : Nat) (s : List UInt8) (t : L2) : chk i (s :: t) = if 8 ≤ i then 14 else if nameV s ≠ 0 then nameV s else chk (i + 1) t := rfl
theorem all_loop (l : L2) (hl : Sm l) (kk : Unit → Option Int) (g : Nat) (hg : 1048600 ≤ g) : ∀ (d i fu : Nat), l.length - i = d → i ≤ l.length → d < fu →
    f_names_checkAll_L5 l kk g fu (i : Int) = if chk i (l.drop i) = 0 then kk () else some (chk i (l.drop i))
  | _, _, 0, _, _, hf => absurd hf (Nat.not_lt_zero _)
  | 0, i, fu + 1, hd, hi, _ => by
    rw [f_names_checkAll_L5, cond_ff (dge (by omega)), List.drop_of_length_le (by omega)]; rfl
  | d + 1, i, fu + 1, hd, hi, hf => by
    have hlt : i < l.length := by omega
    have hb := hl.1
    rw [f_names_checkAll_L5, cond_tt (dlt (by omega)), at_lt hlt, opt_of, List.drop_eq_getElem_cons hlt, chk_cons]
    by_cases h8 : 8 ≤ i
    · rw [cond_tt (decide_eq_true (by omega)), if_pos h8, if_neg (by decide)]
    · rw [cond_ff (decide_eq_false (by omega)), if_neg h8, PTreeName.check_ok _ (hl.2 _ (List.getElem_mem hlt)) g hg, opt_of]
      by_cases hn : nameV l[i] = 0
      · rw [cond_ff (show (nameV l[i] != 0) = false from by simpa using hn), if_neg (c := nameV l[i] ≠ 0) (by simpa using hn), wsucc (by omega)]
        exact all_loop l hl kk g hg d (i + 1) fu (by omega) (by omega) (by omega)
      · rw [cond_tt (show (nameV l[i] != 0) = true from by simpa using hn), if_pos hn, if_neg hn]
theorem rall_loop (l : L2) (hl : Sm l) (kk : Unit → Option Int) (g : Nat) (hg : 1048600 ≤ g) : ∀ (d i fu : Nat), l.length - i = d → i ≤ l.length → d < fu →
    f_lumref_nameErr_L5 l kk g fu (i : Int) = if chk i (l.drop i) = 0 then kk () else some (chk i (l.drop i))
  | _, _, 0, _, _, hf => absurd hf (Nat.not_lt_zero _)
  | 0, i, fu + 1, hd, hi, _ => by
    rw [f_lumref_nameErr_L5, cond_ff (dge (by omega)), List.drop_of_length_le (by omega)]; rfl
  | d + 1, i, fu + 1, hd, hi, hf => by
    have hlt : i < l.length := by omega
    have hb := hl.1
    rw [f_lumref_nameErr_L5, cond_tt (dlt (by omega)), at_lt hlt, opt_of, List.drop_eq_getElem_cons hlt, chk_cons]
    by_cases h8 : 8 ≤ i
    · rw [cond_tt (decide_eq_true (by omega)), if_pos h8, if_neg (by decide)]
    · rw [cond_ff (decide_eq_false (by omega)), if_neg h8, PTreeName.name_ok _ (hl.2 _ (List.getElem_mem hlt)) g hg, opt_of]
      by_cases hn : nameV l[i] = 0
      · rw [cond_ff (show (nameV l[i] != 0) = false from by simpa using hn), if_neg (c := nameV l[i] ≠ 0) (by simpa using hn), wsucc (by omega)]
        exact rall_loop l hl kk g hg d (i + 1) fu (by omega) (by omega) (by omega)
      · rw [cond_tt (show (nameV l[i] != 0) = true from by simpa using hn), if_pos hn, if_neg hn]
theorem all_ok (l : L2) (hl : Sm l) (fu : Nat) (hf : 2000000 ≤ fu) : f_names_checkAll fu l = some (chk 0 l) ∧ f_lumref_nameErr fu l = some (chk 0 l) := by
  have hb := hl.1
  unfold f_names_checkAll f_lumref_nameErr
  rw [lt_of, lt_of]
  have e1 := all_loop l hl (fun _ => some (0 : Int)) fu (by omega) _ 0 fu rfl (Nat.zero_le _) (by omega)
  have e2 := rall_loop l hl (fun _ => some (0 : Int)) fu (by omega) _ 0 fu rfl (Nat.zero_le _) (by omega)
  rw [List.drop_zero] at e1 e2
  have key : (if chk 0 l = 0 then some (0 : Int) else some (chk 0 l)) = some (chk 0 l) := by
    by_cases h : chk 0 l = 0
    · rw [if_pos h, h]
    · rw [if_neg h]
  exact ⟨e1.trans key, e2.trans key⟩
def sp (p : List UInt8) : L2 × Int := if p.take 1 ≠ [47] then ([], 8) else if p = [47] then ([], 0) else if chk 0 (splitV (p.drop 1) [47]) ≠ 0 then ([], chk 0 (splitV (p.drop 1) [47])) else (splitV (p.drop 1) [47], 0)
theorem sp_tail (r : L2) (e : Int) : (bif (e != (0 : Int)) then (some (([] : List (List UInt8)), e)) else (some (r, (0 : Int)))) = some (if e ≠ 0 then ([], e) else (r, 0)) := by
  by_cases h : e = 0
  · rw [if_neg (by simpa using h), cond_ff (show (e != 0) = false from by simpa using h)]
  · rw [if_pos h, cond_tt (show (e != 0) = true from by simpa using h)]
theorem split1 (p : List UInt8) (hp : p.length ≤ 1048576) (fu : Nat) (hf : 2000000 ≤ fu) : f_names_Split fu p = some (sp p) := by
  unfold f_names_Split f_strings_CutPrefix f_stringslite_CutPrefix f_stringslite_HasPrefix sp
  rw [lt_of]
  cases p with
  | nil => rfl
  | cons b t =>
    rw [cond_tt (decide_eq_true (by rw [List.length_cons]; show ((t.length + 1 : Nat) : Int) ≥ (([47] : List UInt8).length : Int); simp; omega)), req_pos (by simp; omega)]
    rw [show (((([47] : List UInt8).length : Nat) : Int)).toNat = 1 from rfl, opt_of]
    by_cases h1 : (b :: t).take 1 = [47]
    · rw [beq_iff_eq.2 h1, if_neg (by simpa using h1), cond_ff (show (!true) = false from rfl), req_pos (by simp; omega), opt_of, opt_of]
      dsimp only
      rw [cond_ff (show (!true) = false from rfl)]
      have hb : b = 47 := by simpa using h1
      have hd : (b :: t).drop 1 = t := rfl
      have htl : t.length ≤ 1048576 := by rw [List.length_cons] at hp; omega
      rw [hd]
      by_cases h2 : t = []
      · subst h2; subst hb; rw [if_pos rfl]; rfl
      · rw [beq_eq_false_iff_ne.2 h2, if_neg (by rw [hb]; simpa using h2), cond_ff rfl, fsplit_ok fu t htl, opt_of, (all_ok _ (sm_split t htl) fu hf).1, opt_of]
        exact sp_tail _ _
    · rw [beq_eq_false_iff_ne.2 h1, if_pos h1]; rfl
theorem split2 (p : List UInt8) (hp : p.length ≤ 1048576) (fu : Nat) (hf : 2000000 ≤ fu) : f_lumref_Split fu p = some (sp p) := by
  unfold f_lumref_Split sp
  rw [lt_of]
  cases p with
  | nil => rfl
  | cons b t =>
    have hbt := b.toNat_lt
    rw [cond_ff (show ((b :: t) == ([] : List UInt8)) = false from rfl), req_pos (by rw [List.length_cons]; omega)]
    rw [show En.bAt (b :: t) (0 : Int) = ((b.toNat : Nat) : Int) from rfl]
    by_cases h1 : b = 47
    · rw [if_neg (by rw [h1]; simp), show ((((b.toNat : Nat) : Int)) != (47 : Int)) = false from by rw [h1]; rfl]
      dsimp only
      rw [cond_ff rfl]
      have htl : t.length ≤ 1048576 := by rw [List.length_cons] at hp; omega
      by_cases h2 : t = []
      · subst h2; subst h1; rw [if_pos rfl]; rfl
      · rw [beq_eq_false_iff_ne.2 (show b :: t ≠ [47] from by simp [h2]), if_neg (by simp [h2]), cond_ff rfl, req_pos (by rw [List.length_cons]; omega)]
        show (opt (f_lumref_cutAt fu t) _) = _
        rw [cut_ok fu t (by omega) htl, opt_of, (all_ok _ (sm_split t htl) fu hf).2, opt_of]
        exact sp_tail _ _
    · have hne : b.toNat ≠ 47 := fun e => h1 (UInt8.toNat_inj.1 (by rw [e]; rfl))
      rw [if_pos (by simpa using h1), show ((((b.toNat : Nat) : Int)) != (47 : Int)) = true from by rw [bne_iff_ne]; omega]; rfl
theorem sp_sm (p : List UInt8) (hp : p.length ≤ 1048576) : Sm (sp p).1 := by
  have hnil : Sm ([] : L2) := ⟨by simp, by simp⟩
  unfold sp
  split
  · exact hnil
  split
  · exact hnil
  split
  · exact hnil
  · exact sm_split _ (by rw [List.length_drop]; omega)
end Go.Proofs.YtpakblkldklbmaaDoor.PNamesSays
