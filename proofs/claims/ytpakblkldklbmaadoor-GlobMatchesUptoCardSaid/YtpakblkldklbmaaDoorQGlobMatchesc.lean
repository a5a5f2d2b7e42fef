/- What GlobMatches leans on, part 3. No condition. -/
import Derived.Test.YtpakblkldklbmaaDoorQGlobMatchesb
import Derived.Test.YtpakblkldklbmaaDoorChecked
import Derived.WalkKit
import Derived.Lib.Hide
import Derived.IntWalk
import Derived.Lib.MapLaws
import Derived.Lib.ValidU
import Derived.Lib.Bytealg
import Derived.Lib.CountLaws
import Derived.Lib.IndexLaws
import Derived.Lib.IndexMore
import Derived.Lib.Join
namespace Go.Proofs.YtpakblkldklbmaaDoor
open Go.RowKit YtpakblkldklbmaaDoor.En
set_option linter.unusedVariables false
set_option linter.unusedSimpArgs false
open Go.Value (int bool)
def f__glob_element__matches_L7 (a0 : S_glob_element) (a1 : Int) (kk4 : (Bool → Option Bool)) : Nat → Bool → Int → Option Bool
  | 0, _, _ => none
  | k6 + 1, l5b5, l5i14 => (bif (decide (l5i14 < (a0.spans.length : Int))) then (lt (fun (j9b5 : Bool) => (f__glob_element__matches_L7 a0 a1 kk4 k6 j9b5 (IntKind.i64.wrap (l5i14 + (1 : Int))))) fun (kk10 : Bool → Option Bool) => (opt (at? a0.spans l5i14) fun (u11 : S_glob_span) => (bif l5b5 then (kk10 true) else (bif (decide (u11.from_ ≤ a1)) then (kk10 (decide (a1 ≤ u11.to_))) else (kk10 false))))) else (kk4 l5b5))
def f__glob_element__matches (fu : Nat) (a0 : S_glob_element) (a1 : Int) : Option Bool := (bif (a0.kind == (1 : Int)) then (some true) else (lt (fun (j3b5 : Bool) => (some (j3b5 != a0.not))) fun (kk4 : Bool → Option Bool) => (f__glob_element__matches_L7 a0 a1 kk4 fu false (0 : Int))))
set_option maxHeartbeats 2000000 in
set_option maxRecDepth 100000 in
theorem f__glob_element__matches_ok (fu : Nat) (v0_1 : Value) (a0 : S_glob_element) (a1 : Int) {r : Bool} (h : f__glob_element__matches fu a0 a1 = some r) : FnOk Tryd.prog 79 [(ag [(int .i64 a0.kind), v0_1, (bool a0.not)]), (int .i32 a1)] [(fDat (tyList tyS_glob_span) [v0_1] a0.spans)] [] (fun (i : Unit) => { val := (bool r) }) := by
 unfold f__glob_element__matches at h
 refine fn_enter Tryd.func79 rfl Tryd.ntmps79 rfl (fun w0 Z0 => ?_)
 refine aw_sr ?_
 refine al_box (vs := [(iq a0.kind), v0_1, (bool a0.not)]) rfl (cv_rfl rfl) rfl (fun g1 => ?_)
 refine al_as rfl rfl ?_
 refine al_nt ?_
 refine aw_seq ?_
 refine aw_sr ?_
 refine al_val (ov_fieldA (p := 0) rfl Tryd.underlying128 rfl sz3 rfl rfl rfl) ?_
 refine al_val (ov_load (i := 0) (v := (iq a0.kind)) rfl rfl Tryd.underlying3 sz3 rfl rfl rfl rfl) ?_
 refine al_in rfl rfl rfl rfl ?_
 refine al_nt ?_
 refine aw_cond rfl (fun hb2 => ?_) (fun hb2 => ?_)
 ·replace h := bif_t hb2 h
  refine aw_sr ?_
  refine al_as rfl rfl ?_
  refine al_nt ?_
  refine aw_ret ?_
  refine aq_then_ret ?_
  obtain rfl := Option.some.inj h
  exact fn_ret () [] [] rfl rfl rfl rfl (res1 rfl rfl) rfl rfl rfl (by decide)
 ·replace h := bif_f hb2 h
  refine aw_skip ?_
  refine aq_tr ?_
  refine al_as rfl rfl ?_
  refine al_nt ?_
  obtain ⟨kk4, hkk4, h⟩ := lt_some h
  refine aw_seq_join (ι := Bool) (fun i => (memOf w0 Z0 [] [(oBox g1 128 [(iq a0.kind), v0_1, (bool a0.not)])] [(fDat (tyList tyS_glob_span) [v0_1] a0.spans)])) (fun i => (tab [(2, (pq g1)), (5, (bool i))])) (fun i => kk4 i = some r) ?_ ?_
  ·rintro j3b5 h
   have h : kk4 j3b5 = some r := h
   rw [hkk4] at h
   dsimp only at h
   clear hkk4
   refine aw_show (m := (memOf w0 Z0 [] [(oBox g1 128 [(iq a0.kind), v0_1, (bool a0.not)])] [(fDat (tyList tyS_glob_span) [v0_1] a0.spans)])) (S := (tab [(2, (pq g1)), (5, (bool j3b5))])) ?_
   refine aw_sr ?_
   refine al_mv rfl rfl ?_
   refine al_val (ov_fieldA (p := 2) rfl Tryd.underlying128 rfl sz4 rfl rfl rfl) ?_
   refine al_val (ov_load (i := 0) (v := (bool a0.not)) rfl rfl Tryd.underlying4 sz4 rfl rfl rfl rfl) ?_
   refine al_val (ov_boolNe Tryd.underlying4 rfl rfl rfl) ?_
   refine al_as rfl rfl ?_
   refine al_nt ?_
   refine aw_ret ?_
   obtain rfl := Option.some.inj h
   exact fn_ret () [] [] rfl rfl rfl rfl (res1 rfl rfl) rfl rfl rfl (by decide)
  ·clear hkk4
   refine aw_sr ?_
   refine al_val (ov_fieldA (p := 1) rfl Tryd.underlying128 rfl sz126 rfl rfl rfl) ?_
   refine al_val (ov_load (i := 0) (v := v0_1) rfl rfl Tryd.underlying126 sz126 rfl rfl rfl rfl) ?_
   refine al_val (ov_lenD 0 rfl rfl Tryd.underlying126 rfl) ?_
   refine al_mv rfl rfl ?_
   refine al_nt ?_
   refine aw_block ?_
   refine aw_state (aw_loop (ι := Bool × Int) (fun i => (memOf w0 Z0 [] [(oBox g1 128 [(iq a0.kind), v0_1, (bool a0.not)])] [(fDat (tyList tyS_glob_span) [v0_1] a0.spans)])) (fun i => (tab [(1, (int .i32 a1)), (2, (pq g1)), (5, (bool i.1)), (12, v0_1), (13, (iq (a0.spans.length : Int))), (14, (iq i.2))])) (fun q i => f__glob_element__matches_L7 a0 a1 kk4 q i.1 i.2 = some r) ?_ fu (false, (0 : Int)) h) (fun w a hm hs => norm hm hs [0] [0] [(1, (int .i32 a1)), (2, (pq g1)), (5, (bool false)), (12, v0_1), (13, (iq (a0.spans.length : Int))), (14, (iq (0 : Int)))] (by decide) ⟨rfl, rfl, rfl, rfl, rfl, rfl, trivial⟩)
   clear h
   rintro k6 ⟨l5b5, l5i14⟩ h
   have h : f__glob_element__matches_L7 a0 a1 kk4 k6 l5b5 l5i14 = some r := h
   obtain _ | k6 := k6
   · rw [f__glob_element__matches_L7] at h; cases h
   rw [f__glob_element__matches_L7] at h
   refine aw_show (m := (memOf w0 Z0 [] [(oBox g1 128 [(iq a0.kind), v0_1, (bool a0.not)])] [(fDat (tyList tyS_glob_span) [v0_1] a0.spans)])) (S := (tab [(1, (int .i32 a1)), (2, (pq g1)), (5, (bool l5b5)), (12, v0_1), (13, (iq (a0.spans.length : Int))), (14, (iq l5i14))])) ?_
   refine aw_sr ?_
   refine al_in rfl rfl rfl rfl ?_
   refine al_nt ?_
   refine aw_seq ?_
   refine aw_cond rfl (fun hb8 => ?_) (fun hb8 => ?_)
   ·replace h := bif_t hb8 h
    refine aw_skip ?_
    refine aq_then ?_
    obtain ⟨kk10, hkk10, h⟩ := lt_some h
    refine aw_seq_join (ι := Bool) (fun i => (memOf w0 Z0 [] [(oBox g1 128 [(iq a0.kind), v0_1, (bool a0.not)])] [(fDat (tyList tyS_glob_span) [v0_1] a0.spans)])) (fun i => (tab [(1, (int .i32 a1)), (2, (pq g1)), (5, (bool i)), (12, v0_1), (13, (iq (a0.spans.length : Int))), (14, (iq l5i14))])) (fun i => kk10 i = some r) ?_ ?_
    ·rintro j9b5 h
     have h : kk10 j9b5 = some r := h
     rw [hkk10] at h
     dsimp only at h
     clear hkk10
     refine aw_show (m := (memOf w0 Z0 [] [(oBox g1 128 [(iq a0.kind), v0_1, (bool a0.not)])] [(fDat (tyList tyS_glob_span) [v0_1] a0.spans)])) (S := (tab [(1, (int .i32 a1)), (2, (pq g1)), (5, (bool j9b5)), (12, v0_1), (13, (iq (a0.spans.length : Int))), (14, (iq l5i14))])) ?_
     refine aw_region ?_
     refine al_in rfl rfl rfl rfl ?_
     refine al_mv rfl rfl ?_
     refine al_nil ?_
     exact aq_again k6 (j9b5, (wq (l5i14 + (1 : Int)))) (Nat.lt_succ_self _) h (fun w a hm hs => norm hm hs [0] [0] [(1, (int .i32 a1)), (2, (pq g1)), (5, (bool j9b5)), (12, v0_1), (13, (iq (a0.spans.length : Int))), (14, (iq (wq (l5i14 + (1 : Int)))))] (by decide) ⟨rfl, rfl, rfl, rfl, rfl, rfl, trivial⟩)
    ·clear hkk10
     refine aw_block ?_
     refine aw_sr ?_
     obtain ⟨u11, hu12, h⟩ := opt_some h
     refine al_idxD 0 hu12 rfl rfl rfl Tryd.underlying126 sz125 rfl (fun p13 => ?_)
     refine al_val (ov_loadP (ds := [(int .i32 u11.from_), (int .i32 u11.to_)]) 0 rfl encS_glob_span rfl Tryd.underlying125 sz125 rfl rfl rfl) ?_
     refine al_alloc (zs := [(int .i32 (0 : Int)), (int .i32 (0 : Int))]) (zeroOf_to to125) rfl rfl (fun g14 => ?_)
     refine al_store (i := 0) (vs := [(int .i32 u11.from_), (int .i32 u11.to_)]) (cs' := [(int .i32 u11.from_), (int .i32 u11.to_)]) rfl rfl rfl sz125 (cv_rfl rfl) rfl (co_val rfl (co_val rfl co_nil)) (Nat.le_of_ble_eq_true rfl) rfl rfl ?_
     refine al_nt ?_
     refine aw_region ?_
     refine al_mv rfl rfl ?_
     refine al_mv rfl rfl ?_
     refine al_caseB 19 rfl (fun hb15 => ?_) (fun hb15 => ?_)
     ·replace h := bif_t hb15 h
      refine al_skip ?_
      refine al_skip ?_
      refine al_skip ?_
      refine al_skip ?_
      refine al_skip ?_
      refine al_skip ?_
      refine al_skip ?_
      refine al_skip ?_
      refine al_skip ?_
      refine al_skip ?_
      refine al_val (ov_pick_t rfl rfl rfl) ?_
      refine al_as rfl rfl ?_
      refine al_nil ?_
      refine aq_block ?_
      exact aq_join true h (fun w a hm hs => norm hm hs [1] [1] [(1, (int .i32 a1)), (2, (pq g1)), (5, (bool true)), (12, v0_1), (13, (iq (a0.spans.length : Int))), (14, (iq l5i14))] (by decide) ⟨rfl, rfl, rfl, rfl, rfl, rfl, trivial⟩)
     ·replace h := bif_f hb15 h
      refine al_val (ov_fieldA (p := 0) rfl Tryd.underlying125 rfl sz21 rfl rfl rfl) ?_
      refine al_val (ov_load (i := 0) (v := (int .i32 u11.from_)) rfl rfl Tryd.underlying21 sz21 rfl rfl rfl rfl) ?_
      refine al_mv rfl rfl ?_
      refine al_in rfl rfl rfl rfl ?_
      refine al_mv rfl rfl ?_
      refine al_caseB 24 rfl (fun hb16 => ?_) (fun hb16 => ?_)
      ·replace h := bif_t hb16 h
       refine al_mv rfl rfl ?_
       refine al_val (ov_fieldA (p := 1) rfl Tryd.underlying125 rfl sz21 rfl rfl rfl) ?_
       refine al_val (ov_load (i := 0) (v := (int .i32 u11.to_)) rfl rfl Tryd.underlying21 sz21 rfl rfl rfl rfl) ?_
       refine al_in rfl rfl rfl rfl ?_
       refine al_val (ov_pick_t rfl rfl rfl) ?_
       refine al_val (ov_pick_f rfl rfl rfl) ?_
       refine al_as rfl rfl ?_
       refine al_nil ?_
       refine aq_block ?_
       exact aq_join (decide (a1 ≤ u11.to_)) h (fun w a hm hs => norm hm hs [1] [1] [(1, (int .i32 a1)), (2, (pq g1)), (5, (bool (decide (a1 ≤ u11.to_)))), (12, v0_1), (13, (iq (a0.spans.length : Int))), (14, (iq l5i14))] (by decide) ⟨rfl, rfl, rfl, rfl, rfl, rfl, trivial⟩)
      ·replace h := bif_f hb16 h
       refine al_skip ?_
       refine al_skip ?_
       refine al_skip ?_
       refine al_skip ?_
       refine al_val (ov_pick_f rfl rfl rfl) ?_
       refine al_val (ov_pick_f rfl rfl rfl) ?_
       refine al_as rfl rfl ?_
       refine al_nil ?_
       refine aq_block ?_
       exact aq_join false h (fun w a hm hs => norm hm hs [1] [1] [(1, (int .i32 a1)), (2, (pq g1)), (5, (bool false)), (12, v0_1), (13, (iq (a0.spans.length : Int))), (14, (iq l5i14))] (by decide) ⟨rfl, rfl, rfl, rfl, rfl, rfl, trivial⟩)
   ·replace h := bif_f hb8 h
    refine aw_exit ?_
    refine aq_then_exit ?_
    refine aq_then_exit ?_
    refine aq_block_exit ?_
    exact aq_join l5b5 h (fun w a hm hs => norm hm hs [0] [0] [(2, (pq g1)), (5, (bool l5b5))] (by decide) ⟨rfl, rfl, trivial⟩)
def f_glob_name_2 (fu : Nat) (a0 : Int) (a1 : Int) (a2 : (List S_glob_element)) (a3 : (List Int)) : Option Bool := (opt (at? a2 a0) fun (u2 : S_glob_element) => (opt (at? a3 a1) fun (u8 : Int) => (opt (f__glob_element__matches fu u2 u8) fun (r12 : Bool) => (some r12))))
set_option maxHeartbeats 2000000 in
set_option maxRecDepth 100000 in
theorem f_glob_name_2_ok (fu : Nat) (a0 : Int) (a1 : Int) (c2 : Value) (a2 : (List S_glob_element)) (c3 : Value) (a3 : (List Int)) {r : Bool} (h : f_glob_name_2 fu a0 a1 a2 a3 = some r) : FnOk Tryd.prog 78 [(int .i64 a0), (int .i64 a1), c2, c3] [(fPtr (tyList tyS_glob_element) c2 a2), (fPtr (tyList (tyInt .i32)) c3 a3)] [] (fun (i : Unit) => { val := (bool r) }) := by
 unfold f_glob_name_2 at h
 refine fn_enter Tryd.func78 rfl Tryd.ntmps78 rfl (fun w0 Z0 => ?_)
 refine aw_sr ?_
 refine al_as rfl rfl ?_
 refine al_nt ?_
 refine aw_seq ?_
 obtain ⟨u2, hu3, h⟩ := opt_some h
 obtain ⟨u8, hu9, h⟩ := opt_some h
 refine aw_region_open [⟨0, 7, Value, fun (i : Value) => { val := i, fz := [(fDat (tyList tyS_glob_element) [i] a2)] }⟩, ⟨1, 8, Unit, fun _ => { val := (iq a0) }⟩, ⟨2, 9, Value, fun (i : Value) => { val := i, fz := [(fPtr tyS_glob_element i u2)] }⟩, ⟨3, 10, Value, fun (i : Value) => { val := (ag [(iq u2.kind), i, (bool u2.not)]), fz := [(fDat (tyList tyS_glob_span) [i] u2.spans), (fDat tyS_glob_element [(iq u2.kind), i, (bool u2.not)] u2)] }⟩, ⟨4, 11, Value, fun (i : Value) => { val := i, fz := [(fDat (tyList (tyInt .i32)) [i] a3)] }⟩, ⟨5, 12, Unit, fun _ => { val := (iq a1) }⟩, ⟨6, 13, Value, fun (i : Value) => { val := i, fz := [(fPtr (tyInt .i32) i u8)] }⟩, ⟨7, 14, Unit, fun _ => { val := (int .i32 u8) }⟩] (tab [(0, (iq a0)), (1, (iq a1)), (2, c2), (3, c3), (6, (bool false))]) mixed (fun a hs => hs.tab _ (allT_mem ⟨rfl, rfl, rfl, rfl, rfl, trivial⟩)) ?_
 refine ta_show (m := (memOf w0 Z0 [] [] [(fPtr (tyList tyS_glob_element) c2 a2), (fPtr (tyList (tyInt .i32)) c3 a3)])) (S := (tab [(0, (iq a0)), (1, (iq a1)), (2, c2), (3, c3), (6, (bool false))])) ?_
 refine ta_step 8 _ [0, 1, 2, 3, 4, 5, 6, 7] [7, 8, 9, 10, 11, 12, 13, 14] [0, 1, 2, 3, 4, 5, 6, 7] [] [⟨0, 7, Value, fun (i : Value) => { val := i, fz := [(fDat (tyList tyS_glob_element) [i] a2)] }⟩, ⟨1, 8, Unit, fun _ => { val := (iq a0) }⟩, ⟨2, 9, Value, fun (i : Value) => { val := i, fz := [(fPtr tyS_glob_element i u2)] }⟩, ⟨3, 10, Value, fun (i : Value) => { val := (ag [(iq u2.kind), i, (bool u2.not)]), fz := [(fDat (tyList tyS_glob_span) [i] u2.spans), (fDat tyS_glob_element [(iq u2.kind), i, (bool u2.not)] u2)] }⟩, ⟨4, 11, Value, fun (i : Value) => { val := i, fz := [(fDat (tyList (tyInt .i32)) [i] a3)] }⟩, ⟨5, 12, Unit, fun _ => { val := (iq a1) }⟩, ⟨6, 13, Value, fun (i : Value) => { val := i, fz := [(fPtr (tyInt .i32) i u8)] }⟩, ⟨7, 14, Unit, fun _ => { val := (int .i32 u8) }⟩] [] rfl rfl rfl (by kernel_rfl) rfl rfl rfl ⟨⟨_, rfl, [], rfl, by
 intro X_ Y_ F_ K_ hK_
 refine al_show (m := Mem.plus (memOf w0 Z0 [] [] [(fPtr (tyList tyS_glob_element) c2 a2), (fPtr (tyList (tyInt .i32)) c3 a3)]) X_ Y_) (S := over (tab [(0, (iq a0)), (1, (iq a1)), (2, c2), (3, c3), (6, (bool false))]) F_) ?_
 refine al_loadP1 0 rfl rfl Tryd.underlying79 sz79 rfl rfl rfl (fun s1 => ?_)
 refine al_nil ?_
 exact fr_fin hK_ s1⟩, ⟨_, rfl, [], rfl, by
 intro X_ Y_ F_ K_ hK_
 refine al_show (m := Mem.plus (memOf w0 Z0 [] [] [(fPtr (tyList tyS_glob_element) c2 a2), (fPtr (tyList (tyInt .i32)) c3 a3)]) X_ Y_) (S := over (tab [(0, (iq a0)), (1, (iq a1)), (2, c2), (3, c3), (6, (bool false))]) F_) ?_
 refine al_mv rfl rfl ?_
 refine al_nil ?_
 exact fr_fin hK_ ()⟩, ⟨_, rfl, [0, 1], rfl, by
 intro s1
 intro _
 intro X_ Y_ F_ K_ hK_
 refine al_show (m := Mem.plus (memOf w0 Z0 [] [] [(fDat (tyList tyS_glob_element) [s1] a2), (fPtr (tyList tyS_glob_element) c2 a2), (fPtr (tyList (tyInt .i32)) c3 a3)]) X_ Y_) (S := over (put (put (tab [(0, (iq a0)), (1, (iq a1)), (2, c2), (3, c3), (6, (bool false))]) 7 s1) 8 (iq a0)) F_) ?_
 refine al_idxD 0 hu3 rfl rfl rfl Tryd.underlying79 sz128 rfl (fun p4 => ?_)
 refine al_nil ?_
 exact fr_fin hK_ p4⟩, ⟨_, rfl, [2], rfl, by
 intro p4
 intro X_ Y_ F_ K_ hK_
 refine al_show (m := Mem.plus (memOf w0 Z0 [] [] [(fPtr tyS_glob_element p4 u2), (fPtr (tyList tyS_glob_element) c2 a2), (fPtr (tyList (tyInt .i32)) c3 a3)]) X_ Y_) (S := over (put (tab [(0, (iq a0)), (1, (iq a1)), (2, c2), (3, c3), (6, (bool false))]) 9 p4) F_) ?_
 refine al_loadPA 0 rfl rfl Tryd.underlying128 sz128 rfl rfl (fun cs6 => ?_)
 refine al_use (ι := Value) 0 rfl (fun j => cs6 = [(iq u2.kind), j, (bool u2.not)]) (fun j => [(fDat (tyList tyS_glob_span) [j] u2.spans)]) encnS_glob_element (fun s5 hq => ?_)
 subst hq
 refine al_nil ?_
 exact fr_fin hK_ s5⟩, ⟨_, rfl, [], rfl, by
 intro X_ Y_ F_ K_ hK_
 refine al_show (m := Mem.plus (memOf w0 Z0 [] [] [(fPtr (tyList tyS_glob_element) c2 a2), (fPtr (tyList (tyInt .i32)) c3 a3)]) X_ Y_) (S := over (tab [(0, (iq a0)), (1, (iq a1)), (2, c2), (3, c3), (6, (bool false))]) F_) ?_
 refine al_loadP1 1 rfl rfl Tryd.underlying119 sz119 rfl rfl rfl (fun s7 => ?_)
 refine al_nil ?_
 exact fr_fin hK_ s7⟩, ⟨_, rfl, [], rfl, by
 intro X_ Y_ F_ K_ hK_
 refine al_show (m := Mem.plus (memOf w0 Z0 [] [] [(fPtr (tyList tyS_glob_element) c2 a2), (fPtr (tyList (tyInt .i32)) c3 a3)]) X_ Y_) (S := over (tab [(0, (iq a0)), (1, (iq a1)), (2, c2), (3, c3), (6, (bool false))]) F_) ?_
 refine al_mv rfl rfl ?_
 refine al_nil ?_
 exact fr_fin hK_ ()⟩, ⟨_, rfl, [4, 5], rfl, by
 intro s7
 intro _
 intro X_ Y_ F_ K_ hK_
 refine al_show (m := Mem.plus (memOf w0 Z0 [] [] [(fDat (tyList (tyInt .i32)) [s7] a3), (fPtr (tyList tyS_glob_element) c2 a2), (fPtr (tyList (tyInt .i32)) c3 a3)]) X_ Y_) (S := over (put (put (tab [(0, (iq a0)), (1, (iq a1)), (2, c2), (3, c3), (6, (bool false))]) 11 s7) 12 (iq a1)) F_) ?_
 refine al_idxD 0 hu9 rfl rfl rfl Tryd.underlying119 sz21 rfl (fun p10 => ?_)
 refine al_nil ?_
 exact fr_fin hK_ p10⟩, ⟨_, rfl, [6], rfl, by
 intro p10
 intro X_ Y_ F_ K_ hK_
 refine al_show (m := Mem.plus (memOf w0 Z0 [] [] [(fPtr (tyInt .i32) p10 u8), (fPtr (tyList tyS_glob_element) c2 a2), (fPtr (tyList (tyInt .i32)) c3 a3)]) X_ Y_) (S := over (put (tab [(0, (iq a0)), (1, (iq a1)), (2, c2), (3, c3), (6, (bool false))]) 13 p10) F_) ?_
 refine al_val (ov_loadP (ds := [(int .i32 u8)]) 0 rfl (fun h => h) rfl Tryd.underlying21 sz21 rfl rfl rfl) ?_
 refine al_nil ?_
 exact fr_fin hK_ ()⟩, trivial⟩ ?_
 intro s1
 intro _
 intro p4
 intro s5
 intro s7
 intro _
 intro p10
 intro _
 intro X_ Y_ F_ K_ hK_
 refine al_show (m := Mem.plus (memOf w0 Z0 [] [] [(fPtr (tyInt .i32) p10 u8), (fDat (tyList (tyInt .i32)) [s7] a3), (fDat (tyList tyS_glob_span) [s5] u2.spans), (fDat tyS_glob_element [(iq u2.kind), s5, (bool u2.not)] u2), (fPtr tyS_glob_element p4 u2), (fDat (tyList tyS_glob_element) [s1] a2), (fPtr (tyList tyS_glob_element) c2 a2), (fPtr (tyList (tyInt .i32)) c3 a3)]) X_ Y_) (S := over (put (put (put (put (put (put (put (put (tab [(0, (iq a0)), (1, (iq a1)), (2, c2), (3, c3), (6, (bool false))]) 7 s1) 8 (iq a0)) 9 p4) 10 (ag [(iq u2.kind), s5, (bool u2.not)])) 11 s7) 12 (iq a1)) 13 p10) 14 (int .i32 u8)) F_) ?_
 obtain ⟨r12, hc11, h⟩ := opt_some h
 refine al_callX (vs := [(ag [(iq u2.kind), s5, (bool u2.not)]), (int .i32 u8)]) (f__glob_element__matches_ok fu s5 u2 u8 hc11) [] [] [] (pre_fz 2 rfl pre_nil) rfl (by simp) (by decide) rfl (.inl rfl) rfl Tryd.func79 rfl rfl rfl (fun _ => ?_)
 refine al_nil ?_
 refine aq_show (m := Mem.plus (memOf w0 Z0 [] [] [(fPtr (tyInt .i32) p10 u8), (fDat (tyList (tyInt .i32)) [s7] a3), (fDat (tyList tyS_glob_span) [s5] u2.spans), (fDat tyS_glob_element [(iq u2.kind), s5, (bool u2.not)] u2), (fPtr tyS_glob_element p4 u2), (fDat (tyList tyS_glob_element) [s1] a2), (fPtr (tyList tyS_glob_element) c2 a2), (fPtr (tyList (tyInt .i32)) c3 a3)]) X_ Y_) ?_
 refine aq_next hK_ [] [3, 6, 7] [(6, (bool false)), (15, (bool r12))] [] [] rfl rfl (by decide) rfl ⟨rfl, rfl, trivial⟩ trivial ?_
 clear hK_ K_ F_ X_ Y_
 refine ta_show (m := (memOf w0 Z0 [] [] [(fDat tyS_glob_element [(iq u2.kind), s5, (bool u2.not)] u2), (fPtr (tyList tyS_glob_element) c2 a2), (fPtr (tyList (tyInt .i32)) c3 a3)])) (S := (tab [(6, (bool false)), (15, (bool r12))])) ?_
 refine ta_step 9 _ [] [] [] [] [] [] rfl rfl rfl (by kernel_rfl) rfl rfl rfl trivial ?_
 intro X_ Y_ F_ K_ hK_
 refine al_show (m := Mem.plus (memOf w0 Z0 [] [] [(fDat tyS_glob_element [(iq u2.kind), s5, (bool u2.not)] u2), (fPtr (tyList tyS_glob_element) c2 a2), (fPtr (tyList (tyInt .i32)) c3 a3)]) X_ Y_) (S := over (tab [(6, (bool false)), (15, (bool r12))]) F_) ?_
 refine al_as rfl rfl ?_
 refine al_nil ?_
 refine aq_show (m := Mem.plus (memOf w0 Z0 [] [] [(fDat tyS_glob_element [(iq u2.kind), s5, (bool u2.not)] u2), (fPtr (tyList tyS_glob_element) c2 a2), (fPtr (tyList (tyInt .i32)) c3 a3)]) X_ Y_) ?_
 refine aq_next hK_ [] [0, 1, 2] [(6, (bool r12))] [] [] rfl rfl (by decide) rfl ⟨rfl, trivial⟩ trivial ?_
 clear hK_ K_ F_ X_ Y_
 refine ta_show (m := (memOf w0 Z0 [] [] [(fDat tyS_glob_element [(iq u2.kind), s5, (bool u2.not)] u2), (fPtr (tyList tyS_glob_element) c2 a2), (fPtr (tyList (tyInt .i32)) c3 a3)])) (S := (tab [(6, (bool r12))])) ?_
 refine ta_end [] [] rfl rfl (by kernel_rfl) rfl trivial ?_
 refine aq_show (m := (memOf w0 Z0 [] [] [(fDat tyS_glob_element [(iq u2.kind), s5, (bool u2.not)] u2), (fPtr (tyList tyS_glob_element) c2 a2), (fPtr (tyList (tyInt .i32)) c3 a3)])) (S := (tab [(6, (bool r12))])) ?_
 refine aq_then ?_
 refine aw_ret ?_
 obtain rfl := Option.some.inj h
 exact fn_ret () [] [] rfl rfl rfl rfl (res1 rfl rfl) rfl rfl rfl (by decide)
-- STUCK lumberroom/glob.sequence: lty ['func', [3, 3], [4], False]
def f_glob_sequence_F77_F78_L26 (a1 : Int) (a2_0 : (List S_glob_element)) (a3_0 : (List S_glob_element)) (a3_1 : (List Int)) (l13x9 : (List Bool)) (l13i19 : Int) (kk23 : ((List Bool) → Option Bool)) (fu : Nat) : Nat → (List Bool) → Int → Option Bool
  | 0, _, _ => none
  | k25 + 1, l24x11, l24i27 => (bif (decide (l24i27 < (IntKind.i64.wrap (a1 + (1 : Int))))) then (lt (fun (j28x11 : (List Bool)) => (f_glob_sequence_F77_F78_L26 a1 a2_0 a3_0 a3_1 l13x9 l13i19 kk23 fu k25 j28x11 (IntKind.i64.wrap (l24i27 + (1 : Int))))) fun (kk29 : (List Bool) → Option Bool) => (opt (f_glob_name_1 fu l13i19 a2_0) fun (r31 : Bool) => (bif r31 then (opt (at? l13x9 l24i27) fun (u33 : Bool) => (bif u33 then (opt (at? l24x11 l24i27) fun (u38 : Bool) => (kk29 (l24x11.set (l24i27).toNat true))) else (bif (decide (l24i27 > (0 : Int))) then (opt (at? l24x11 (IntKind.i64.wrap (l24i27 - (1 : Int)))) fun (u43 : Bool) => (opt (at? l24x11 l24i27) fun (u47 : Bool) => (kk29 (l24x11.set (l24i27).toNat u43)))) else (opt (at? l24x11 l24i27) fun (u51 : Bool) => (kk29 (l24x11.set (l24i27).toNat false)))))) else (bif (decide (l24i27 > (0 : Int))) then (opt (at? l13x9 (IntKind.i64.wrap (l24i27 - (1 : Int)))) fun (u56 : Bool) => (bif u56 then (opt (f_glob_name_2 fu l13i19 (IntKind.i64.wrap (l24i27 - (1 : Int))) a3_0 a3_1) fun (r62 : Bool) => (opt (at? l24x11 l24i27) fun (u63 : Bool) => (kk29 (l24x11.set (l24i27).toNat r62)))) else (opt (at? l24x11 l24i27) fun (u67 : Bool) => (kk29 (l24x11.set (l24i27).toNat false))))) else (opt (at? l24x11 l24i27) fun (u71 : Bool) => (kk29 (l24x11.set (l24i27).toNat false))))))) else (kk23 l24x11))
def f_glob_sequence_F77_F78_L15 (a0 : Int) (a1 : Int) (a2_0 : (List S_glob_element)) (a3_0 : (List S_glob_element)) (a3_1 : (List Int)) (kk8 : ((List Bool) → Option Bool)) (fu : Nat) : Nat → (List Bool) → Int → Option Bool
  | 0, _, _ => none
  | k14 + 1, l13x9, l13i19 => (lt (fun (l13x9 : (List Bool)) (l13i19 : Int) => (f_glob_sequence_F77_F78_L15 a0 a1 a2_0 a3_0 a3_1 kk8 fu k14 l13x9 l13i19)) fun (kk16 : (List Bool) → Int → Option Bool) => (bif (decide (l13i19 < a0)) then (lt (fun (j18x9 : (List Bool)) => (kk16 j18x9 (IntKind.i64.wrap (l13i19 + (1 : Int))))) fun (kk19 : (List Bool) → Option Bool) => (req (0 ≤ (IntKind.i64.wrap (a1 + (1 : Int))) ∧ 1 * (IntKind.i64.wrap (a1 + (1 : Int))) ≤ 281474976710656 ∧ (IntKind.i64.wrap (a1 + (1 : Int))) ≤ 9223372036854775807) (lt (fun (j22x11 : (List Bool)) => (kk19 j22x11)) fun (kk23 : (List Bool) → Option Bool) => (f_glob_sequence_F77_F78_L26 a1 a2_0 a3_0 a3_1 l13x9 l13i19 kk23 fu fu (List.replicate ((IntKind.i64.wrap (a1 + (1 : Int)))).toNat false) (0 : Int))))) else (kk8 l13x9)))
def f_glob_sequence_F77_F78 (fu : Nat) (a0 : Int) (a1 : Int) (a2_0 : (List S_glob_element)) (a3_0 : (List S_glob_element)) (a3_1 : (List Int)) : Option Bool := (req (0 ≤ (IntKind.i64.wrap (a1 + (1 : Int))) ∧ 1 * (IntKind.i64.wrap (a1 + (1 : Int))) ≤ 281474976710656 ∧ (IntKind.i64.wrap (a1 + (1 : Int))) ≤ 9223372036854775807) (opt (at? (List.replicate ((IntKind.i64.wrap (a1 + (1 : Int)))).toNat false) (0 : Int)) fun (u3 : Bool) => (lt (fun (j7x9 : (List Bool)) => (opt (at? j7x9 a1) fun (u9 : Bool) => (some u9))) fun (kk8 : (List Bool) → Option Bool) => (f_glob_sequence_F77_F78_L15 a0 a1 a2_0 a3_0 a3_1 kk8 fu fu ((List.replicate ((IntKind.i64.wrap (a1 + (1 : Int)))).toNat false).set ((0 : Int)).toNat true) (0 : Int)))))
set_option maxRecDepth 100000 in
set_option maxHeartbeats 2000000 in
set_option maxHeartbeats 2000000 in
theorem f_glob_sequence_F77_F78_ok (fu : Nat) (a0 : Int) (a1 : Int) (c2_0 : Value) (a2_0 : (List S_glob_element)) (c3_0 : Value) (a3_0 : (List S_glob_element)) (c3_1 : Value) (a3_1 : (List Int)) {r : Bool} (h : f_glob_sequence_F77_F78 fu a0 a1 a2_0 a3_0 a3_1 = some r) : FnOk Tryd.prog 45 [(int .i64 a0), (int .i64 a1), (Value.func (.func 77) #[] #[c2_0]), (Value.func (.func 78) #[] #[c3_0, c3_1])] [(fPtr (tyList tyS_glob_element) c2_0 a2_0), (fPtr (tyList tyS_glob_element) c3_0 a3_0), (fPtr (tyList (tyInt .i32)) c3_1 a3_1)] [] (fun (i : Unit) => { val := (bool r) }) := by
 unfold f_glob_sequence_F77_F78 at h
 refine fn_enter Tryd.func45 rfl Tryd.ntmps45 rfl (fun w0 Z0 => ?_)
 refine aw_sr ?_
 refine al_as rfl rfl ?_
 refine al_nt ?_
 refine aw_sr ?_
 refine al_mv rfl rfl ?_
 refine al_in rfl rfl rfl rfl ?_
 obtain ⟨hc1, h⟩ := req_some h
 refine al_make (τ := tyBool) (x0 := false) hc1.1 hc1.2.1 hc1.2.2 rfl rfl Tryd.underlying131 to4 (fun _ _ => rfl) rfl rfl (fun v2 => ?_)
 refine al_as rfl rfl ?_
 refine al_nt ?_
 refine aw_sr ?_
 refine al_mv rfl rfl ?_
 obtain ⟨u3, hu4, h⟩ := opt_some h
 refine al_idxR 0 (at_some hu4).1 (at_some hu4).2.1 rfl rfl rfl Tryd.underlying131 sz4 rfl (fun p5 hp6 => ?_)
 refine al_storeR (k := ((0 : Int)).toNat) (x := true) (vs := [(bool true)]) 0 rfl hp6 (idx_lt hu4) rfl rfl (cv_rfl rfl) (fun _ => rfl) sz4 rfl ?_
 refine al_nt ?_
 obtain ⟨kk8, hkk8, h⟩ := lt_some h
 refine aw_seq_join (ι := Value × (List Bool)) (fun i => (memOf w0 Z0 [] [(oRow i.1 4 tyBool i.2)] [(fPtr (tyList tyS_glob_element) c2_0 a2_0), (fPtr (tyList tyS_glob_element) c3_0 a3_0), (fPtr (tyList (tyInt .i32)) c3_1 a3_1)])) (fun i => (tab [(1, (iq a1)), (9, i.1)])) (fun i => kk8 i.2 = some r) ?_ ?_
 ·rintro ⟨j7v9, j7x9⟩ h
  have h : kk8 j7x9 = some r := h
  rw [hkk8] at h
  dsimp only at h
  clear hkk8
  refine aw_show (m := (memOf w0 Z0 [] [(oRow j7v9 4 tyBool j7x9)] [(fPtr (tyList tyS_glob_element) c2_0 a2_0), (fPtr (tyList tyS_glob_element) c3_0 a3_0), (fPtr (tyList (tyInt .i32)) c3_1 a3_1)])) (S := (tab [(1, (iq a1)), (9, j7v9)])) ?_
  refine aw_sr ?_
  refine al_mv rfl rfl ?_
  refine al_mv rfl rfl ?_
  obtain ⟨u9, hu10, h⟩ := opt_some h
  refine al_idxR 0 (at_some hu10).1 (at_some hu10).2.1 rfl rfl rfl Tryd.underlying131 sz4 rfl (fun p11 hp12 => ?_)
  refine al_val (ov_loadR (ds := [(bool u9)]) 0 rfl hp12 (at_some hu10).2.2 (fun h => h) rfl Tryd.underlying4 sz4 rfl rfl rfl) ?_
  refine al_as rfl rfl ?_
  refine al_nt ?_
  refine aw_ret ?_
  obtain rfl := Option.some.inj h
  exact fn_ret () [] [] rfl rfl rfl rfl (res1 rfl rfl) rfl rfl rfl (by decide)
 ·clear hkk8
  refine aw_sr ?_
  refine al_mv rfl rfl ?_
  refine al_mv rfl rfl ?_
  refine al_nt ?_
  refine aw_block ?_
  refine aw_state (aw_loop (ι := Value × (List Bool) × Int) (fun i => (memOf w0 Z0 [] [(oRow i.1 4 tyBool i.2.1)] [(fPtr (tyList tyS_glob_element) c2_0 a2_0), (fPtr (tyList tyS_glob_element) c3_0 a3_0), (fPtr (tyList (tyInt .i32)) c3_1 a3_1)])) (fun i => (tab [(1, (iq a1)), (2, (Value.func (.func 77) #[] #[c2_0])), (3, (Value.func (.func 78) #[] #[c3_0, c3_1])), (9, i.1), (18, (iq a0)), (19, (iq i.2.2))])) (fun q i => f_glob_sequence_F77_F78_L15 a0 a1 a2_0 a3_0 a3_1 kk8 fu q i.2.1 i.2.2 = some r) ?_ fu (v2, ((List.replicate ((wq (a1 + (1 : Int)))).toNat false).set ((0 : Int)).toNat true), (0 : Int)) h) (fun w a hm hs => norm hm hs [0] [0, 1, 2] [(1, (iq a1)), (2, (Value.func (.func 77) #[] #[c2_0])), (3, (Value.func (.func 78) #[] #[c3_0, c3_1])), (9, v2), (18, (iq a0)), (19, (iq (0 : Int)))] (by decide) ⟨rfl, rfl, rfl, rfl, rfl, rfl, trivial⟩)
  clear h
  rintro k14 ⟨l13v9, l13x9, l13i19⟩ h
  have h : f_glob_sequence_F77_F78_L15 a0 a1 a2_0 a3_0 a3_1 kk8 fu k14 l13x9 l13i19 = some r := h
  obtain _ | k14 := k14
  · rw [f_glob_sequence_F77_F78_L15] at h; cases h
  rw [f_glob_sequence_F77_F78_L15] at h
  refine aw_show (m := (memOf w0 Z0 [] [(oRow l13v9 4 tyBool l13x9)] [(fPtr (tyList tyS_glob_element) c2_0 a2_0), (fPtr (tyList tyS_glob_element) c3_0 a3_0), (fPtr (tyList (tyInt .i32)) c3_1 a3_1)])) (S := (tab [(1, (iq a1)), (2, (Value.func (.func 77) #[] #[c2_0])), (3, (Value.func (.func 78) #[] #[c3_0, c3_1])), (9, l13v9), (18, (iq a0)), (19, (iq l13i19))])) ?_
  obtain ⟨kk16, hkk16, h⟩ := lt_some h
  refine aw_body_join (ι := Value × (List Bool) × Int) (fun i => (memOf w0 Z0 [] [(oRow i.1 4 tyBool i.2.1)] [(fPtr (tyList tyS_glob_element) c2_0 a2_0), (fPtr (tyList tyS_glob_element) c3_0 a3_0), (fPtr (tyList (tyInt .i32)) c3_1 a3_1)])) (fun i => (tab [(1, (iq a1)), (2, (Value.func (.func 77) #[] #[c2_0])), (3, (Value.func (.func 78) #[] #[c3_0, c3_1])), (9, i.1), (18, (iq a0)), (19, (iq i.2.2))])) (fun i => kk16 i.2.1 i.2.2 = some r) (fun i h => aq_again k14 i (Nat.lt_succ_self _) (by rw [hkk16] at h; exact h) (fun w a hm hs => ⟨hm, hs⟩)) ?_
  clear hkk16
  refine aw_sr ?_
  refine al_in rfl rfl rfl rfl ?_
  refine al_nt ?_
  refine aw_seq ?_
  refine aw_cond rfl (fun hb17 => ?_) (fun hb17 => ?_)
  ·replace h := bif_t hb17 h
   refine aw_skip ?_
   refine aq_then ?_
   obtain ⟨kk19, hkk19, h⟩ := lt_some h
   refine aw_seq_join (ι := Value × (List Bool)) (fun i => (memOf w0 Z0 [] [(oRow i.1 4 tyBool i.2)] [(fPtr (tyList tyS_glob_element) c2_0 a2_0), (fPtr (tyList tyS_glob_element) c3_0 a3_0), (fPtr (tyList (tyInt .i32)) c3_1 a3_1)])) (fun i => (tab [(1, (iq a1)), (2, (Value.func (.func 77) #[] #[c2_0])), (3, (Value.func (.func 78) #[] #[c3_0, c3_1])), (9, i.1), (18, (iq a0)), (19, (iq l13i19))])) (fun i => kk19 i.2 = some r) ?_ ?_
   ·rintro ⟨j18v9, j18x9⟩ h
    have h : kk19 j18x9 = some r := h
    rw [hkk19] at h
    dsimp only at h
    clear hkk19
    refine aw_show (m := (memOf w0 Z0 [] [(oRow j18v9 4 tyBool j18x9)] [(fPtr (tyList tyS_glob_element) c2_0 a2_0), (fPtr (tyList tyS_glob_element) c3_0 a3_0), (fPtr (tyList (tyInt .i32)) c3_1 a3_1)])) (S := (tab [(1, (iq a1)), (2, (Value.func (.func 77) #[] #[c2_0])), (3, (Value.func (.func 78) #[] #[c3_0, c3_1])), (9, j18v9), (18, (iq a0)), (19, (iq l13i19))])) ?_
    refine aw_region ?_
    refine al_in rfl rfl rfl rfl ?_
    refine al_mv rfl rfl ?_
    refine al_nil ?_
    exact aq_join (j18v9, j18x9, (wq (l13i19 + (1 : Int)))) h (fun w a hm hs => norm hm hs [0] [0, 1, 2] [(1, (iq a1)), (2, (Value.func (.func 77) #[] #[c2_0])), (3, (Value.func (.func 78) #[] #[c3_0, c3_1])), (9, j18v9), (18, (iq a0)), (19, (iq (wq (l13i19 + (1 : Int)))))] (by decide) ⟨rfl, rfl, rfl, rfl, rfl, rfl, trivial⟩)
   ·clear hkk19
    refine aw_block ?_
    refine aw_sr ?_
    refine al_mv rfl rfl ?_
    refine al_as rfl rfl ?_
    refine al_nt ?_
    refine aw_sr ?_
    refine al_mv rfl rfl ?_
    refine al_in rfl rfl rfl rfl ?_
    obtain ⟨hc20, h⟩ := req_some h
    refine al_make (τ := tyBool) (x0 := false) hc20.1 hc20.2.1 hc20.2.2 rfl rfl Tryd.underlying131 to4 (fun _ _ => rfl) rfl rfl (fun v21 => ?_)
    refine al_as rfl rfl ?_
    refine al_nt ?_
    obtain ⟨kk23, hkk23, h⟩ := lt_some h
    refine aw_seq_join (ι := (List Bool)) (fun i => (memOf w0 Z0 [] [(oRow v21 4 tyBool i)] [(fPtr (tyList tyS_glob_element) c2_0 a2_0), (fPtr (tyList tyS_glob_element) c3_0 a3_0), (fPtr (tyList (tyInt .i32)) c3_1 a3_1)])) (fun i => (tab [(1, (iq a1)), (2, (Value.func (.func 77) #[] #[c2_0])), (3, (Value.func (.func 78) #[] #[c3_0, c3_1])), (11, v21), (18, (iq a0)), (19, (iq l13i19))])) (fun i => kk23 i = some r) ?_ ?_
    ·rintro j22x11 h
     have h : kk23 j22x11 = some r := h
     rw [hkk23] at h
     dsimp only at h
     clear hkk23
     refine aw_show (m := (memOf w0 Z0 [] [(oRow v21 4 tyBool j22x11)] [(fPtr (tyList tyS_glob_element) c2_0 a2_0), (fPtr (tyList tyS_glob_element) c3_0 a3_0), (fPtr (tyList (tyInt .i32)) c3_1 a3_1)])) (S := (tab [(1, (iq a1)), (2, (Value.func (.func 77) #[] #[c2_0])), (3, (Value.func (.func 78) #[] #[c3_0, c3_1])), (11, v21), (18, (iq a0)), (19, (iq l13i19))])) ?_
     refine aw_region ?_
     refine al_mv rfl rfl ?_
     refine al_as rfl rfl ?_
     refine al_nil ?_
     refine aq_block ?_
     exact aq_join (v21, j22x11) h (fun w a hm hs => norm hm hs [0] [0, 1, 2] [(1, (iq a1)), (2, (Value.func (.func 77) #[] #[c2_0])), (3, (Value.func (.func 78) #[] #[c3_0, c3_1])), (9, v21), (18, (iq a0)), (19, (iq l13i19))] (by decide) ⟨rfl, rfl, rfl, rfl, rfl, rfl, trivial⟩)
    ·clear hkk23
     refine aw_sr ?_
     refine al_mv rfl rfl ?_
     refine al_in rfl rfl rfl rfl ?_
     refine al_mv rfl rfl ?_
     refine al_nt ?_
     refine aw_block ?_
     refine aw_state (aw_loop (ι := (List Bool) × Int) (fun i => (memOf w0 Z0 [] [(oRow l13v9 4 tyBool l13x9), (oRow v21 4 tyBool i.1)] [(fPtr (tyList tyS_glob_element) c2_0 a2_0), (fPtr (tyList tyS_glob_element) c3_0 a3_0), (fPtr (tyList (tyInt .i32)) c3_1 a3_1)])) (fun i => (tab [(1, (iq a1)), (2, (Value.func (.func 77) #[] #[c2_0])), (3, (Value.func (.func 78) #[] #[c3_0, c3_1])), (9, l13v9), (10, (iq l13i19)), (11, v21), (18, (iq a0)), (19, (iq l13i19)), (26, (iq (wq (a1 + (1 : Int))))), (27, (iq i.2))])) (fun q i => f_glob_sequence_F77_F78_L26 a1 a2_0 a3_0 a3_1 l13x9 l13i19 kk23 fu q i.1 i.2 = some r) ?_ fu ((List.replicate ((wq (a1 + (1 : Int)))).toNat false), (0 : Int)) h) (fun w a hm hs => norm hm hs [1, 0] [0, 1, 2] [(1, (iq a1)), (2, (Value.func (.func 77) #[] #[c2_0])), (3, (Value.func (.func 78) #[] #[c3_0, c3_1])), (9, l13v9), (10, (iq l13i19)), (11, v21), (18, (iq a0)), (19, (iq l13i19)), (26, (iq (wq (a1 + (1 : Int))))), (27, (iq (0 : Int)))] (by decide) ⟨rfl, rfl, rfl, rfl, rfl, rfl, rfl, rfl, rfl, rfl, trivial⟩)
     clear h
     rintro k25 ⟨l24x11, l24i27⟩ h
     have h : f_glob_sequence_F77_F78_L26 a1 a2_0 a3_0 a3_1 l13x9 l13i19 kk23 fu k25 l24x11 l24i27 = some r := h
     obtain _ | k25 := k25
     · rw [f_glob_sequence_F77_F78_L26] at h; cases h
     rw [f_glob_sequence_F77_F78_L26] at h
     refine aw_show (m := (memOf w0 Z0 [] [(oRow l13v9 4 tyBool l13x9), (oRow v21 4 tyBool l24x11)] [(fPtr (tyList tyS_glob_element) c2_0 a2_0), (fPtr (tyList tyS_glob_element) c3_0 a3_0), (fPtr (tyList (tyInt .i32)) c3_1 a3_1)])) (S := (tab [(1, (iq a1)), (2, (Value.func (.func 77) #[] #[c2_0])), (3, (Value.func (.func 78) #[] #[c3_0, c3_1])), (9, l13v9), (10, (iq l13i19)), (11, v21), (18, (iq a0)), (19, (iq l13i19)), (26, (iq (wq (a1 + (1 : Int))))), (27, (iq l24i27))])) ?_
     refine aw_sr ?_
     refine al_in rfl rfl rfl rfl ?_
     refine al_nt ?_
     refine aw_seq ?_
     refine aw_cond rfl (fun hb27 => ?_) (fun hb27 => ?_)
     ·replace h := bif_t hb27 h
      refine aw_skip ?_
      refine aq_then ?_
      obtain ⟨kk29, hkk29, h⟩ := lt_some h
      refine aw_seq_join (ι := (List Bool)) (fun i => (memOf w0 Z0 [] [(oRow l13v9 4 tyBool l13x9), (oRow v21 4 tyBool i)] [(fPtr (tyList tyS_glob_element) c2_0 a2_0), (fPtr (tyList tyS_glob_element) c3_0 a3_0), (fPtr (tyList (tyInt .i32)) c3_1 a3_1)])) (fun i => (tab [(1, (iq a1)), (2, (Value.func (.func 77) #[] #[c2_0])), (3, (Value.func (.func 78) #[] #[c3_0, c3_1])), (9, l13v9), (10, (iq l13i19)), (11, v21), (18, (iq a0)), (19, (iq l13i19)), (26, (iq (wq (a1 + (1 : Int))))), (27, (iq l24i27))])) (fun i => kk29 i = some r) ?_ ?_
      ·rintro j28x11 h
       have h : kk29 j28x11 = some r := h
       rw [hkk29] at h
       dsimp only at h
       clear hkk29
       refine aw_show (m := (memOf w0 Z0 [] [(oRow l13v9 4 tyBool l13x9), (oRow v21 4 tyBool j28x11)] [(fPtr (tyList tyS_glob_element) c2_0 a2_0), (fPtr (tyList tyS_glob_element) c3_0 a3_0), (fPtr (tyList (tyInt .i32)) c3_1 a3_1)])) (S := (tab [(1, (iq a1)), (2, (Value.func (.func 77) #[] #[c2_0])), (3, (Value.func (.func 78) #[] #[c3_0, c3_1])), (9, l13v9), (10, (iq l13i19)), (11, v21), (18, (iq a0)), (19, (iq l13i19)), (26, (iq (wq (a1 + (1 : Int))))), (27, (iq l24i27))])) ?_
       refine aw_region ?_
       refine al_in rfl rfl rfl rfl ?_
       refine al_mv rfl rfl ?_
       refine al_nil ?_
       exact aq_again k25 (j28x11, (wq (l24i27 + (1 : Int)))) (Nat.lt_succ_self _) h (fun w a hm hs => norm hm hs [0, 1] [0, 1, 2] [(1, (iq a1)), (2, (Value.func (.func 77) #[] #[c2_0])), (3, (Value.func (.func 78) #[] #[c3_0, c3_1])), (9, l13v9), (10, (iq l13i19)), (11, v21), (18, (iq a0)), (19, (iq l13i19)), (26, (iq (wq (a1 + (1 : Int))))), (27, (iq (wq (l24i27 + (1 : Int)))))] (by decide) ⟨rfl, rfl, rfl, rfl, rfl, rfl, rfl, rfl, rfl, rfl, trivial⟩)
      ·clear hkk29
       refine aw_block ?_
       refine aw_sr ?_
       refine al_mv rfl rfl ?_
       refine al_as rfl rfl ?_
       refine al_nt ?_
       refine aw_sr ?_
       refine al_mv rfl rfl ?_
       refine al_mv rfl rfl ?_
       obtain ⟨r31, hc30, h⟩ := opt_some h
       refine al_callF (vs := [(iq l13i19)]) (caps := [c2_0]) (f_glob_name_1_ok fu l13i19 c2_0 a2_0 hc30) rfl [] [] [0, 1] (pre_fz 0 rfl pre_nil) rfl (by simp) (by decide) (.inl rfl) rfl rfl Tryd.func77 rfl rfl rfl (fun _ => ?_)
       refine al_nt ?_
       refine aw_cond rfl (fun hb32 => ?_) (fun hb32 => ?_)
       ·replace h := bif_t hb32 h
        refine aw_region ?_
        refine al_mv rfl rfl ?_
        refine al_mv rfl rfl ?_
        refine al_mv rfl rfl ?_
        refine al_mv rfl rfl ?_
        obtain ⟨u33, hu34, h⟩ := opt_some h
        refine al_idxR 0 (at_some hu34).1 (at_some hu34).2.1 rfl rfl rfl Tryd.underlying131 sz4 rfl (fun p35 hp36 => ?_)
        refine al_val (ov_loadR (ds := [(bool u33)]) 0 rfl hp36 (at_some hu34).2.2 (fun h => h) rfl Tryd.underlying4 sz4 rfl rfl rfl) ?_
        refine al_mv rfl rfl ?_
        refine al_caseB 39 rfl (fun hb37 => ?_) (fun hb37 => ?_)
        ·replace h := bif_t hb37 h
         refine al_skip ?_
         refine al_skip ?_
         refine al_skip ?_
         refine al_skip ?_
         refine al_skip ?_
         refine al_skip ?_
         refine al_skip ?_
         refine al_skip ?_
         refine al_skip ?_
         refine al_val (ov_pick_t rfl rfl rfl) ?_
         obtain ⟨u38, hu39, h⟩ := opt_some h
         refine al_idxR 1 (at_some hu39).1 (at_some hu39).2.1 rfl rfl rfl Tryd.underlying131 sz4 rfl (fun p40 hp41 => ?_)
         refine al_storeR (k := (l24i27).toNat) (x := true) (vs := [(bool true)]) 1 rfl hp41 (idx_lt hu39) rfl rfl (cv_rfl rfl) (fun _ => rfl) sz4 rfl ?_
         refine al_nil ?_
         refine aq_block ?_
         exact aq_join (l24x11.set (l24i27).toNat true) h (fun w a hm hs => norm hm hs [0, 1] [0, 1, 2] [(1, (iq a1)), (2, (Value.func (.func 77) #[] #[c2_0])), (3, (Value.func (.func 78) #[] #[c3_0, c3_1])), (9, l13v9), (10, (iq l13i19)), (11, v21), (18, (iq a0)), (19, (iq l13i19)), (26, (iq (wq (a1 + (1 : Int))))), (27, (iq l24i27))] (by decide) ⟨rfl, rfl, rfl, rfl, rfl, rfl, rfl, rfl, rfl, rfl, trivial⟩)
        ·replace h := bif_f hb37 h
         refine al_mv rfl rfl ?_
         refine al_in rfl rfl rfl rfl ?_
         refine al_mv rfl rfl ?_
         refine al_caseB 42 rfl (fun hb42 => ?_) (fun hb42 => ?_)
         ·replace h := bif_t hb42 h
          refine al_mv rfl rfl ?_
          refine al_mv rfl rfl ?_
          refine al_in rfl rfl rfl rfl ?_
          obtain ⟨u43, hu44, h⟩ := opt_some h
          refine al_idxR 1 (at_some hu44).1 (at_some hu44).2.1 rfl rfl rfl Tryd.underlying131 sz4 rfl (fun p45 hp46 => ?_)
          refine al_val (ov_loadR (ds := [(bool u43)]) 1 rfl hp46 (at_some hu44).2.2 (fun h => h) rfl Tryd.underlying4 sz4 rfl rfl rfl) ?_
          refine al_val (ov_pick_t rfl rfl rfl) ?_
          refine al_val (ov_pick_f rfl rfl rfl) ?_
          obtain ⟨u47, hu48, h⟩ := opt_some h
          refine al_idxR 1 (at_some hu48).1 (at_some hu48).2.1 rfl rfl rfl Tryd.underlying131 sz4 rfl (fun p49 hp50 => ?_)
          refine al_storeR (k := (l24i27).toNat) (x := u43) (vs := [(bool u43)]) 1 rfl hp50 (idx_lt hu48) rfl rfl (cv_rfl rfl) (fun _ => rfl) sz4 rfl ?_
          refine al_nil ?_
          refine aq_block ?_
          exact aq_join (l24x11.set (l24i27).toNat u43) h (fun w a hm hs => norm hm hs [0, 1] [0, 1, 2] [(1, (iq a1)), (2, (Value.func (.func 77) #[] #[c2_0])), (3, (Value.func (.func 78) #[] #[c3_0, c3_1])), (9, l13v9), (10, (iq l13i19)), (11, v21), (18, (iq a0)), (19, (iq l13i19)), (26, (iq (wq (a1 + (1 : Int))))), (27, (iq l24i27))] (by decide) ⟨rfl, rfl, rfl, rfl, rfl, rfl, rfl, rfl, rfl, rfl, trivial⟩)
         ·replace h := bif_f hb42 h
          refine al_skip ?_
          refine al_skip ?_
          refine al_skip ?_
          refine al_skip ?_
          refine al_skip ?_
          refine al_val (ov_pick_f rfl rfl rfl) ?_
          refine al_val (ov_pick_f rfl rfl rfl) ?_
          obtain ⟨u51, hu52, h⟩ := opt_some h
          refine al_idxR 1 (at_some hu52).1 (at_some hu52).2.1 rfl rfl rfl Tryd.underlying131 sz4 rfl (fun p53 hp54 => ?_)
          refine al_storeR (k := (l24i27).toNat) (x := false) (vs := [(bool false)]) 1 rfl hp54 (idx_lt hu52) rfl rfl (cv_rfl rfl) (fun _ => rfl) sz4 rfl ?_
          refine al_nil ?_
          refine aq_block ?_
          exact aq_join (l24x11.set (l24i27).toNat false) h (fun w a hm hs => norm hm hs [0, 1] [0, 1, 2] [(1, (iq a1)), (2, (Value.func (.func 77) #[] #[c2_0])), (3, (Value.func (.func 78) #[] #[c3_0, c3_1])), (9, l13v9), (10, (iq l13i19)), (11, v21), (18, (iq a0)), (19, (iq l13i19)), (26, (iq (wq (a1 + (1 : Int))))), (27, (iq l24i27))] (by decide) ⟨rfl, rfl, rfl, rfl, rfl, rfl, rfl, rfl, rfl, rfl, trivial⟩)
       ·replace h := bif_f hb32 h
        refine aw_region ?_
        refine al_mv rfl rfl ?_
        refine al_mv rfl rfl ?_
        refine al_mv rfl rfl ?_
        refine al_in rfl rfl rfl rfl ?_
        refine al_mv rfl rfl ?_
        refine al_caseB 55 rfl (fun hb55 => ?_) (fun hb55 => ?_)
        ·replace h := bif_t hb55 h
         refine al_mv rfl rfl ?_
         refine al_mv rfl rfl ?_
         refine al_in rfl rfl rfl rfl ?_
         obtain ⟨u56, hu57, h⟩ := opt_some h
         refine al_idxR 0 (at_some hu57).1 (at_some hu57).2.1 rfl rfl rfl Tryd.underlying131 sz4 rfl (fun p58 hp59 => ?_)
         refine al_val (ov_loadR (ds := [(bool u56)]) 0 rfl hp59 (at_some hu57).2.2 (fun h => h) rfl Tryd.underlying4 sz4 rfl rfl rfl) ?_
         refine al_val (ov_pick_t rfl rfl rfl) ?_
         refine al_mv rfl rfl ?_
         refine al_caseB 62 rfl (fun hb60 => ?_) (fun hb60 => ?_)
         ·replace h := bif_t hb60 h
          refine al_mv rfl rfl ?_
          refine al_mv rfl rfl ?_
          refine al_mv rfl rfl ?_
          refine al_in rfl rfl rfl rfl ?_
          obtain ⟨r62, hc61, h⟩ := opt_some h
          refine al_callF (vs := [(iq l13i19), (iq (wq (l24i27 - (1 : Int))))]) (caps := [c3_0, c3_1]) (f_glob_name_2_ok fu l13i19 (wq (l24i27 - (1 : Int))) c3_0 a3_0 c3_1 a3_1 hc61) rfl [] [] [0, 1] (pre_fz 1 rfl (pre_fz 2 rfl pre_nil)) rfl (by simp) (by decide) (.inl rfl) rfl rfl Tryd.func78 rfl rfl rfl (fun _ => ?_)
          refine al_val (ov_pick_t rfl rfl rfl) ?_
          obtain ⟨u63, hu64, h⟩ := opt_some h
          refine al_idxR 1 (at_some hu64).1 (at_some hu64).2.1 rfl rfl rfl Tryd.underlying131 sz4 rfl (fun p65 hp66 => ?_)
          refine al_storeR (k := (l24i27).toNat) (x := r62) (vs := [(bool r62)]) 1 rfl hp66 (idx_lt hu64) rfl rfl (cv_rfl rfl) (fun _ => rfl) sz4 rfl ?_
          refine al_nil ?_
          refine aq_block ?_
          exact aq_join (l24x11.set (l24i27).toNat r62) h (fun w a hm hs => norm hm hs [0, 1] [0, 1, 2] [(1, (iq a1)), (2, (Value.func (.func 77) #[] #[c2_0])), (3, (Value.func (.func 78) #[] #[c3_0, c3_1])), (9, l13v9), (10, (iq l13i19)), (11, v21), (18, (iq a0)), (19, (iq l13i19)), (26, (iq (wq (a1 + (1 : Int))))), (27, (iq l24i27))] (by decide) ⟨rfl, rfl, rfl, rfl, rfl, rfl, rfl, rfl, rfl, rfl, trivial⟩)
         ·replace h := bif_f hb60 h
          refine al_skip ?_
          refine al_skip ?_
          refine al_skip ?_
          refine al_skip ?_
          refine al_skip ?_
          refine al_val (ov_pick_f rfl rfl rfl) ?_
          obtain ⟨u67, hu68, h⟩ := opt_some h
          refine al_idxR 1 (at_some hu68).1 (at_some hu68).2.1 rfl rfl rfl Tryd.underlying131 sz4 rfl (fun p69 hp70 => ?_)
          refine al_storeR (k := (l24i27).toNat) (x := false) (vs := [(bool false)]) 1 rfl hp70 (idx_lt hu68) rfl rfl (cv_rfl rfl) (fun _ => rfl) sz4 rfl ?_
          refine al_nil ?_
          refine aq_block ?_
          exact aq_join (l24x11.set (l24i27).toNat false) h (fun w a hm hs => norm hm hs [0, 1] [0, 1, 2] [(1, (iq a1)), (2, (Value.func (.func 77) #[] #[c2_0])), (3, (Value.func (.func 78) #[] #[c3_0, c3_1])), (9, l13v9), (10, (iq l13i19)), (11, v21), (18, (iq a0)), (19, (iq l13i19)), (26, (iq (wq (a1 + (1 : Int))))), (27, (iq l24i27))] (by decide) ⟨rfl, rfl, rfl, rfl, rfl, rfl, rfl, rfl, rfl, rfl, trivial⟩)
        ·replace h := bif_f hb55 h
         refine al_skip ?_
         refine al_skip ?_
         refine al_skip ?_
         refine al_skip ?_
         refine al_skip ?_
         refine al_val (ov_pick_f rfl rfl rfl) ?_
         refine al_mv rfl rfl ?_
         refine al_skip ?_
         refine al_skip ?_
         refine al_skip ?_
         refine al_skip ?_
         refine al_skip ?_
         refine al_val (ov_pick_f rfl rfl rfl) ?_
         obtain ⟨u71, hu72, h⟩ := opt_some h
         refine al_idxR 1 (at_some hu72).1 (at_some hu72).2.1 rfl rfl rfl Tryd.underlying131 sz4 rfl (fun p73 hp74 => ?_)
         refine al_storeR (k := (l24i27).toNat) (x := false) (vs := [(bool false)]) 1 rfl hp74 (idx_lt hu72) rfl rfl (cv_rfl rfl) (fun _ => rfl) sz4 rfl ?_
         refine al_nil ?_
         refine aq_block ?_
         exact aq_join (l24x11.set (l24i27).toNat false) h (fun w a hm hs => norm hm hs [0, 1] [0, 1, 2] [(1, (iq a1)), (2, (Value.func (.func 77) #[] #[c2_0])), (3, (Value.func (.func 78) #[] #[c3_0, c3_1])), (9, l13v9), (10, (iq l13i19)), (11, v21), (18, (iq a0)), (19, (iq l13i19)), (26, (iq (wq (a1 + (1 : Int))))), (27, (iq l24i27))] (by decide) ⟨rfl, rfl, rfl, rfl, rfl, rfl, rfl, rfl, rfl, rfl, trivial⟩)
     ·replace h := bif_f hb27 h
      refine aw_exit ?_
      refine aq_then_exit ?_
      refine aq_then_exit ?_
      refine aq_block_exit ?_
      exact aq_join l24x11 h (fun w a hm hs => norm hm hs [1] [0, 1, 2] [(1, (iq a1)), (2, (Value.func (.func 77) #[] #[c2_0])), (3, (Value.func (.func 78) #[] #[c3_0, c3_1])), (11, v21), (18, (iq a0)), (19, (iq l13i19))] (by decide) ⟨rfl, rfl, rfl, rfl, rfl, rfl, trivial⟩)
  ·replace h := bif_f hb17 h
   refine aw_exit ?_
   refine aq_then_exit ?_
   refine aq_then_exit ?_
   refine aq_block_exit ?_
   exact aq_join (l13v9, l13x9) h (fun w a hm hs => norm hm hs [0] [0, 1, 2] [(1, (iq a1)), (9, l13v9)] (by decide) ⟨rfl, rfl, trivial⟩)
def f_glob_name (fu : Nat) (a0 : (List S_glob_element)) (a1 : (List UInt8)) : Option Bool := (req (a1.length ≤ 70368744177664) (opt (f_glob_sequence_F77_F78 fu (a0.length : Int) ((runes a1).length : Int) a0 a0 (runes a1)) fun (r8 : Bool) => (some r8)))
set_option maxHeartbeats 2000000 in
set_option maxRecDepth 100000 in
theorem f_glob_name_ok (fu : Nat) (v0_0 : Value) (a0 : (List S_glob_element)) (a1 : (List UInt8)) {r : Bool} (h : f_glob_name fu a0 a1 = some r) : FnOk Tryd.prog 48 [v0_0, (str a1)] [(fDat (tyList tyS_glob_element) [v0_0] a0)] [] (fun (i : Unit) => { val := (bool r) }) := by
 unfold f_glob_name at h
 refine fn_enter Tryd.func48 rfl Tryd.ntmps48 rfl (fun w0 Z0 => ?_)
 refine aw_sr ?_
 refine al_box (vs := [v0_0]) rfl (cv_fz 0 rfl) rfl (fun g1 => ?_)
 refine al_as rfl rfl ?_
 refine al_nt ?_
 refine aw_sr ?_
 refine al_mv rfl rfl ?_
 obtain ⟨hc2, h⟩ := req_some h
 refine al_runes hc2 rfl Tryd.underlying9 Tryd.underlying119 Tryd.underlying21 rfl (fun s3 => ?_)
 refine al_alloc (zs := [nS]) (zeroOf_to to119) rfl rfl (fun g4 => ?_)
 refine al_store (i := 0) (vs := [s3]) (cs' := [s3]) rfl rfl rfl sz119 (cv_fz 0 rfl) rfl (co_fz 0 rfl co_nil) (Nat.le_of_ble_eq_true rfl) rfl rfl ?_
 refine al_nt ?_
 refine aw_seq ?_
 refine aw_freezeBN (τ := (tyList tyS_glob_element)) 1 (a0) rfl rfl (fun hm => fz_at (i := 1) hm rfl) ?_
 refine aw_freezeBN (τ := (tyList (tyInt .i32))) 0 ((runes a1)) rfl rfl (fun hm => fz_at (i := 1) hm rfl) ?_
 refine aw_region ?_
 refine al_loadP1 1 rfl rfl Tryd.underlying79 sz79 rfl rfl rfl (fun s5 => ?_)
 refine al_val (ov_lenD 0 rfl rfl Tryd.underlying79 rfl) ?_
 refine al_loadP1 1 rfl rfl Tryd.underlying119 sz119 rfl rfl rfl (fun s6 => ?_)
 refine al_val (ov_lenD 0 rfl rfl Tryd.underlying119 rfl) ?_
 refine al_val (ov_makeFunc2 (vs := [(pq g1)]) rfl rfl) ?_
 refine al_val (ov_makeFunc2 (vs := [(pq g1), (pq g4)]) rfl rfl) ?_
 obtain ⟨r8, hc7, h⟩ := opt_some h
 refine al_call (vs := [(iq (a0.length : Int)), (iq ((runes a1).length : Int)), (Value.func (.func 77) #[] #[(pq g1)]), (Value.func (.func 78) #[] #[(pq g1), (pq g4)])]) (f_glob_sequence_F77_F78_ok fu (a0.length : Int) ((runes a1).length : Int) (pq g1) a0 (pq g1) a0 (pq g4) (runes a1) hc7) [] [] [] (pre_fz 3 rfl (pre_fz 3 rfl (pre_fz 2 rfl pre_nil))) rfl (by simp) (by decide) (.inl rfl) rfl Tryd.func45 rfl rfl rfl (fun _ => ?_)
 refine al_as rfl rfl ?_
 refine al_nt ?_
 refine aw_ret ?_
 obtain rfl := Option.some.inj h
 exact fn_ret () [] [] rfl rfl rfl rfl (res1 rfl rfl) rfl rfl rfl (by decide)
def f_glob_path_2 (fu : Nat) (a0 : Int) (a1 : Int) (a2 : (List S_glob_part)) (a3 : (List (List UInt8))) : Option Bool := (opt (at? a2 a0) fun (u2 : S_glob_part) => (opt (at? a3 a1) fun (u8 : (List UInt8)) => (opt (f_glob_name fu u2.elements u8) fun (r12 : Bool) => (some r12))))
set_option maxRecDepth 100000 in
theorem f_glob_path_2_ok (fu : Nat) (a0 : Int) (a1 : Int) (c2 : Value) (a2 : (List S_glob_part)) (c3 : Value) (a3 : (List (List UInt8))) {r : Bool} (h : f_glob_path_2 fu a0 a1 a2 a3 = some r) : FnOk Tryd.prog 47 [(int .i64 a0), (int .i64 a1), c2, c3] [(fPtr (tyList tyS_glob_part) c2 a2), (fPtr (tyList tyStr) c3 a3)] [] (fun (i : Unit) => { val := (bool r) }) := by
 unfold f_glob_path_2 at h
 refine fn_enter Tryd.func47 rfl Tryd.ntmps47 rfl (fun w0 Z0 => ?_)
 refine aw_sr ?_
 refine al_as rfl rfl ?_
 refine al_nt ?_
 refine aw_seq ?_
 obtain ⟨u2, hu3, h⟩ := opt_some h
 obtain ⟨u8, hu9, h⟩ := opt_some h
 obtain ⟨r12, hc11, h⟩ := opt_some h
 refine aw_region_draw 10 [(7, (fun s1 => (fDat (tyList tyS_glob_part) [s1] a2))), (8, (fun u => fEq u (iq a0))), (9, (fun p4 => (fPtr tyS_glob_part p4 u2))), (10, (fun p5 => (fPtr (tyList tyS_glob_element) p5 u2.elements))), (11, (fun s6 => (fDat (tyList tyS_glob_element) [s6] u2.elements))), (12, (fun s7 => (fDat (tyList tyStr) [s7] a3))), (13, (fun u => fEq u (iq a1))), (14, (fun p10 => (fPtr tyStr p10 u8))), (15, (fun u => fEq u (str u8))), (16, (fun u => fEq u (bool r12)))] (tab [(0, (iq a0)), (1, (iq a1)), (2, c2), (3, c3), (6, (bool false))]) mixed (by kernel_rfl) rfl rfl rfl (fun a hs => hs.tab _ (allT_mem ⟨rfl, rfl, rfl, rfl, rfl, trivial⟩)) ⟨⟨rfl, ld_of (of_loadP1 0 rfl rfl Tryd.underlying44 sz44 rfl rfl rfl)⟩, ⟨rfl, ld_val (ov_move rfl rfl)⟩, ⟨rfl, ld_fact (j := 0) rfl rfl (fun s1 => ld_eq (j := 1) rfl rfl (ld_of (of_idxD 0 hu3 rfl rfl rfl Tryd.underlying44 sz81 rfl)))⟩, ⟨rfl, ld_fact (j := 2) rfl rfl (fun p4 => ld_of (of_fieldD (pr := fun (y : S_glob_part) => y.elements) 0 rfl subS_glob_part_1 rfl Tryd.underlying81 rfl sz79 rfl rfl))⟩, ⟨rfl, ld_fact (j := 3) rfl rfl (fun p5 => ld_of (of_loadP1 0 rfl rfl Tryd.underlying79 sz79 rfl rfl rfl))⟩, ⟨rfl, ld_of (of_loadP1 1 rfl rfl Tryd.underlying22 sz22 rfl rfl rfl)⟩, ⟨rfl, ld_val (ov_move rfl rfl)⟩, ⟨rfl, ld_fact (j := 5) rfl rfl (fun s7 => ld_eq (j := 6) rfl rfl (ld_of (of_idxD 0 hu9 rfl rfl rfl Tryd.underlying22 sz9 rfl)))⟩, ⟨rfl, ld_fact (j := 7) rfl rfl (fun p10 => ld_val (ov_loadP (ds := [(str u8)]) 0 rfl (fun h => h) rfl Tryd.underlying9 sz9 rfl rfl rfl))⟩, ⟨rfl, ld_fact (j := 4) rfl rfl (fun s6 => ld_eq (j := 8) rfl rfl (ld_callV (vs := [s6, (str u8)]) (f_glob_name_ok fu s6 u2.elements u8 hc11) [] (pre_fz 0 rfl pre_nil) rfl Tryd.func48 rfl rfl rfl))⟩, trivial⟩ ?_
 refine tl_eq 9 rfl ?_
 refine tl_done ?_
 refine al_as rfl rfl ?_
 refine al_nt ?_
 refine aw_ret ?_
 obtain rfl := Option.some.inj h
 exact fn_ret () [] [] rfl rfl rfl rfl (res1 rfl rfl) rfl rfl rfl (by decide)
def f_glob_sequence_F46_F47_L26 (a1 : Int) (a2_0 : (List S_glob_part)) (a3_0 : (List S_glob_part)) (a3_1 : (List (List UInt8))) (l13x9 : (List Bool)) (l13i19 : Int) (kk23 : ((List Bool) → Option Bool)) (fu : Nat) : Nat → (List Bool) → Int → Option Bool
  | 0, _, _ => none
  | k25 + 1, l24x11, l24i27 => (bif (decide (l24i27 < (IntKind.i64.wrap (a1 + (1 : Int))))) then (lt (fun (j28x11 : (List Bool)) => (f_glob_sequence_F46_F47_L26 a1 a2_0 a3_0 a3_1 l13x9 l13i19 kk23 fu k25 j28x11 (IntKind.i64.wrap (l24i27 + (1 : Int))))) fun (kk29 : (List Bool) → Option Bool) => (opt (f_glob_path_1 fu l13i19 a2_0) fun (r31 : Bool) => (bif r31 then (opt (at? l13x9 l24i27) fun (u33 : Bool) => (bif u33 then (opt (at? l24x11 l24i27) fun (u38 : Bool) => (kk29 (l24x11.set (l24i27).toNat true))) else (bif (decide (l24i27 > (0 : Int))) then (opt (at? l24x11 (IntKind.i64.wrap (l24i27 - (1 : Int)))) fun (u43 : Bool) => (opt (at? l24x11 l24i27) fun (u47 : Bool) => (kk29 (l24x11.set (l24i27).toNat u43)))) else (opt (at? l24x11 l24i27) fun (u51 : Bool) => (kk29 (l24x11.set (l24i27).toNat false)))))) else (bif (decide (l24i27 > (0 : Int))) then (opt (at? l13x9 (IntKind.i64.wrap (l24i27 - (1 : Int)))) fun (u56 : Bool) => (bif u56 then (opt (f_glob_path_2 fu l13i19 (IntKind.i64.wrap (l24i27 - (1 : Int))) a3_0 a3_1) fun (r62 : Bool) => (opt (at? l24x11 l24i27) fun (u63 : Bool) => (kk29 (l24x11.set (l24i27).toNat r62)))) else (opt (at? l24x11 l24i27) fun (u67 : Bool) => (kk29 (l24x11.set (l24i27).toNat false))))) else (opt (at? l24x11 l24i27) fun (u71 : Bool) => (kk29 (l24x11.set (l24i27).toNat false))))))) else (kk23 l24x11))
def f_glob_sequence_F46_F47_L15 (a0 : Int) (a1 : Int) (a2_0 : (List S_glob_part)) (a3_0 : (List S_glob_part)) (a3_1 : (List (List UInt8))) (kk8 : ((List Bool) → Option Bool)) (fu : Nat) : Nat → (List Bool) → Int → Option Bool
  | 0, _, _ => none
  | k14 + 1, l13x9, l13i19 => (lt (fun (l13x9 : (List Bool)) (l13i19 : Int) => (f_glob_sequence_F46_F47_L15 a0 a1 a2_0 a3_0 a3_1 kk8 fu k14 l13x9 l13i19)) fun (kk16 : (List Bool) → Int → Option Bool) => (bif (decide (l13i19 < a0)) then (lt (fun (j18x9 : (List Bool)) => (kk16 j18x9 (IntKind.i64.wrap (l13i19 + (1 : Int))))) fun (kk19 : (List Bool) → Option Bool) => (req (0 ≤ (IntKind.i64.wrap (a1 + (1 : Int))) ∧ 1 * (IntKind.i64.wrap (a1 + (1 : Int))) ≤ 281474976710656 ∧ (IntKind.i64.wrap (a1 + (1 : Int))) ≤ 9223372036854775807) (lt (fun (j22x11 : (List Bool)) => (kk19 j22x11)) fun (kk23 : (List Bool) → Option Bool) => (f_glob_sequence_F46_F47_L26 a1 a2_0 a3_0 a3_1 l13x9 l13i19 kk23 fu fu (List.replicate ((IntKind.i64.wrap (a1 + (1 : Int)))).toNat false) (0 : Int))))) else (kk8 l13x9)))
def f_glob_sequence_F46_F47 (fu : Nat) (a0 : Int) (a1 : Int) (a2_0 : (List S_glob_part)) (a3_0 : (List S_glob_part)) (a3_1 : (List (List UInt8))) : Option Bool := (req (0 ≤ (IntKind.i64.wrap (a1 + (1 : Int))) ∧ 1 * (IntKind.i64.wrap (a1 + (1 : Int))) ≤ 281474976710656 ∧ (IntKind.i64.wrap (a1 + (1 : Int))) ≤ 9223372036854775807) (opt (at? (List.replicate ((IntKind.i64.wrap (a1 + (1 : Int)))).toNat false) (0 : Int)) fun (u3 : Bool) => (lt (fun (j7x9 : (List Bool)) => (opt (at? j7x9 a1) fun (u9 : Bool) => (some u9))) fun (kk8 : (List Bool) → Option Bool) => (f_glob_sequence_F46_F47_L15 a0 a1 a2_0 a3_0 a3_1 kk8 fu fu ((List.replicate ((IntKind.i64.wrap (a1 + (1 : Int)))).toNat false).set ((0 : Int)).toNat true) (0 : Int)))))
set_option maxRecDepth 100000 in
set_option maxHeartbeats 2000000 in
set_option maxHeartbeats 2000000 in
theorem f_glob_sequence_F46_F47_ok (fu : Nat) (a0 : Int) (a1 : Int) (c2_0 : Value) (a2_0 : (List S_glob_part)) (c3_0 : Value) (a3_0 : (List S_glob_part)) (c3_1 : Value) (a3_1 : (List (List UInt8))) {r : Bool} (h : f_glob_sequence_F46_F47 fu a0 a1 a2_0 a3_0 a3_1 = some r) : FnOk Tryd.prog 45 [(int .i64 a0), (int .i64 a1), (Value.func (.func 46) #[] #[c2_0]), (Value.func (.func 47) #[] #[c3_0, c3_1])] [(fPtr (tyList tyS_glob_part) c2_0 a2_0), (fPtr (tyList tyS_glob_part) c3_0 a3_0), (fPtr (tyList tyStr) c3_1 a3_1)] [] (fun (i : Unit) => { val := (bool r) }) := by
 unfold f_glob_sequence_F46_F47 at h
 refine fn_enter Tryd.func45 rfl Tryd.ntmps45 rfl (fun w0 Z0 => ?_)
 refine aw_sr ?_
 refine al_as rfl rfl ?_
 refine al_nt ?_
 refine aw_sr ?_
 refine al_mv rfl rfl ?_
 refine al_in rfl rfl rfl rfl ?_
 obtain ⟨hc1, h⟩ := req_some h
 refine al_make (τ := tyBool) (x0 := false) hc1.1 hc1.2.1 hc1.2.2 rfl rfl Tryd.underlying131 to4 (fun _ _ => rfl) rfl rfl (fun v2 => ?_)
 refine al_as rfl rfl ?_
 refine al_nt ?_
 refine aw_sr ?_
 refine al_mv rfl rfl ?_
 obtain ⟨u3, hu4, h⟩ := opt_some h
 refine al_idxR 0 (at_some hu4).1 (at_some hu4).2.1 rfl rfl rfl Tryd.underlying131 sz4 rfl (fun p5 hp6 => ?_)
 refine al_storeR (k := ((0 : Int)).toNat) (x := true) (vs := [(bool true)]) 0 rfl hp6 (idx_lt hu4) rfl rfl (cv_rfl rfl) (fun _ => rfl) sz4 rfl ?_
 refine al_nt ?_
 obtain ⟨kk8, hkk8, h⟩ := lt_some h
 refine aw_seq_join (ι := Value × (List Bool)) (fun i => (memOf w0 Z0 [] [(oRow i.1 4 tyBool i.2)] [(fPtr (tyList tyS_glob_part) c2_0 a2_0), (fPtr (tyList tyS_glob_part) c3_0 a3_0), (fPtr (tyList tyStr) c3_1 a3_1)])) (fun i => (tab [(1, (iq a1)), (9, i.1)])) (fun i => kk8 i.2 = some r) ?_ ?_
 ·rintro ⟨j7v9, j7x9⟩ h
  have h : kk8 j7x9 = some r := h
  rw [hkk8] at h
  dsimp only at h
  clear hkk8
  refine aw_show (m := (memOf w0 Z0 [] [(oRow j7v9 4 tyBool j7x9)] [(fPtr (tyList tyS_glob_part) c2_0 a2_0), (fPtr (tyList tyS_glob_part) c3_0 a3_0), (fPtr (tyList tyStr) c3_1 a3_1)])) (S := (tab [(1, (iq a1)), (9, j7v9)])) ?_
  refine aw_sr ?_
  refine al_mv rfl rfl ?_
  refine al_mv rfl rfl ?_
  obtain ⟨u9, hu10, h⟩ := opt_some h
  refine al_idxR 0 (at_some hu10).1 (at_some hu10).2.1 rfl rfl rfl Tryd.underlying131 sz4 rfl (fun p11 hp12 => ?_)
  refine al_val (ov_loadR (ds := [(bool u9)]) 0 rfl hp12 (at_some hu10).2.2 (fun h => h) rfl Tryd.underlying4 sz4 rfl rfl rfl) ?_
  refine al_as rfl rfl ?_
  refine al_nt ?_
  refine aw_ret ?_
  obtain rfl := Option.some.inj h
  exact fn_ret () [] [] rfl rfl rfl rfl (res1 rfl rfl) rfl rfl rfl (by decide)
 ·clear hkk8
  refine aw_sr ?_
  refine al_mv rfl rfl ?_
  refine al_mv rfl rfl ?_
  refine al_nt ?_
  refine aw_block ?_
  refine aw_state (aw_loop (ι := Value × (List Bool) × Int) (fun i => (memOf w0 Z0 [] [(oRow i.1 4 tyBool i.2.1)] [(fPtr (tyList tyS_glob_part) c2_0 a2_0), (fPtr (tyList tyS_glob_part) c3_0 a3_0), (fPtr (tyList tyStr) c3_1 a3_1)])) (fun i => (tab [(1, (iq a1)), (2, (Value.func (.func 46) #[] #[c2_0])), (3, (Value.func (.func 47) #[] #[c3_0, c3_1])), (9, i.1), (18, (iq a0)), (19, (iq i.2.2))])) (fun q i => f_glob_sequence_F46_F47_L15 a0 a1 a2_0 a3_0 a3_1 kk8 fu q i.2.1 i.2.2 = some r) ?_ fu (v2, ((List.replicate ((wq (a1 + (1 : Int)))).toNat false).set ((0 : Int)).toNat true), (0 : Int)) h) (fun w a hm hs => norm hm hs [0] [0, 1, 2] [(1, (iq a1)), (2, (Value.func (.func 46) #[] #[c2_0])), (3, (Value.func (.func 47) #[] #[c3_0, c3_1])), (9, v2), (18, (iq a0)), (19, (iq (0 : Int)))] (by decide) ⟨rfl, rfl, rfl, rfl, rfl, rfl, trivial⟩)
  clear h
  rintro k14 ⟨l13v9, l13x9, l13i19⟩ h
  have h : f_glob_sequence_F46_F47_L15 a0 a1 a2_0 a3_0 a3_1 kk8 fu k14 l13x9 l13i19 = some r := h
  obtain _ | k14 := k14
  · rw [f_glob_sequence_F46_F47_L15] at h; cases h
  rw [f_glob_sequence_F46_F47_L15] at h
  refine aw_show (m := (memOf w0 Z0 [] [(oRow l13v9 4 tyBool l13x9)] [(fPtr (tyList tyS_glob_part) c2_0 a2_0), (fPtr (tyList tyS_glob_part) c3_0 a3_0), (fPtr (tyList tyStr) c3_1 a3_1)])) (S := (tab [(1, (iq a1)), (2, (Value.func (.func 46) #[] #[c2_0])), (3, (Value.func (.func 47) #[] #[c3_0, c3_1])), (9, l13v9), (18, (iq a0)), (19, (iq l13i19))])) ?_
  obtain ⟨kk16, hkk16, h⟩ := lt_some h
  refine aw_body_join (ι := Value × (List Bool) × Int) (fun i => (memOf w0 Z0 [] [(oRow i.1 4 tyBool i.2.1)] [(fPtr (tyList tyS_glob_part) c2_0 a2_0), (fPtr (tyList tyS_glob_part) c3_0 a3_0), (fPtr (tyList tyStr) c3_1 a3_1)])) (fun i => (tab [(1, (iq a1)), (2, (Value.func (.func 46) #[] #[c2_0])), (3, (Value.func (.func 47) #[] #[c3_0, c3_1])), (9, i.1), (18, (iq a0)), (19, (iq i.2.2))])) (fun i => kk16 i.2.1 i.2.2 = some r) (fun i h => aq_again k14 i (Nat.lt_succ_self _) (by rw [hkk16] at h; exact h) (fun w a hm hs => ⟨hm, hs⟩)) ?_
  clear hkk16
  refine aw_sr ?_
  refine al_in rfl rfl rfl rfl ?_
  refine al_nt ?_
  refine aw_seq ?_
  refine aw_cond rfl (fun hb17 => ?_) (fun hb17 => ?_)
  ·replace h := bif_t hb17 h
   refine aw_skip ?_
   refine aq_then ?_
   obtain ⟨kk19, hkk19, h⟩ := lt_some h
   refine aw_seq_join (ι := Value × (List Bool)) (fun i => (memOf w0 Z0 [] [(oRow i.1 4 tyBool i.2)] [(fPtr (tyList tyS_glob_part) c2_0 a2_0), (fPtr (tyList tyS_glob_part) c3_0 a3_0), (fPtr (tyList tyStr) c3_1 a3_1)])) (fun i => (tab [(1, (iq a1)), (2, (Value.func (.func 46) #[] #[c2_0])), (3, (Value.func (.func 47) #[] #[c3_0, c3_1])), (9, i.1), (18, (iq a0)), (19, (iq l13i19))])) (fun i => kk19 i.2 = some r) ?_ ?_
   ·rintro ⟨j18v9, j18x9⟩ h
    have h : kk19 j18x9 = some r := h
    rw [hkk19] at h
    dsimp only at h
    clear hkk19
    refine aw_show (m := (memOf w0 Z0 [] [(oRow j18v9 4 tyBool j18x9)] [(fPtr (tyList tyS_glob_part) c2_0 a2_0), (fPtr (tyList tyS_glob_part) c3_0 a3_0), (fPtr (tyList tyStr) c3_1 a3_1)])) (S := (tab [(1, (iq a1)), (2, (Value.func (.func 46) #[] #[c2_0])), (3, (Value.func (.func 47) #[] #[c3_0, c3_1])), (9, j18v9), (18, (iq a0)), (19, (iq l13i19))])) ?_
    refine aw_region ?_
    refine al_in rfl rfl rfl rfl ?_
    refine al_mv rfl rfl ?_
    refine al_nil ?_
    exact aq_join (j18v9, j18x9, (wq (l13i19 + (1 : Int)))) h (fun w a hm hs => norm hm hs [0] [0, 1, 2] [(1, (iq a1)), (2, (Value.func (.func 46) #[] #[c2_0])), (3, (Value.func (.func 47) #[] #[c3_0, c3_1])), (9, j18v9), (18, (iq a0)), (19, (iq (wq (l13i19 + (1 : Int)))))] (by decide) ⟨rfl, rfl, rfl, rfl, rfl, rfl, trivial⟩)
   ·clear hkk19
    refine aw_block ?_
    refine aw_sr ?_
    refine al_mv rfl rfl ?_
    refine al_as rfl rfl ?_
    refine al_nt ?_
    refine aw_sr ?_
    refine al_mv rfl rfl ?_
    refine al_in rfl rfl rfl rfl ?_
    obtain ⟨hc20, h⟩ := req_some h
    refine al_make (τ := tyBool) (x0 := false) hc20.1 hc20.2.1 hc20.2.2 rfl rfl Tryd.underlying131 to4 (fun _ _ => rfl) rfl rfl (fun v21 => ?_)
    refine al_as rfl rfl ?_
    refine al_nt ?_
    obtain ⟨kk23, hkk23, h⟩ := lt_some h
    refine aw_seq_join (ι := (List Bool)) (fun i => (memOf w0 Z0 [] [(oRow v21 4 tyBool i)] [(fPtr (tyList tyS_glob_part) c2_0 a2_0), (fPtr (tyList tyS_glob_part) c3_0 a3_0), (fPtr (tyList tyStr) c3_1 a3_1)])) (fun i => (tab [(1, (iq a1)), (2, (Value.func (.func 46) #[] #[c2_0])), (3, (Value.func (.func 47) #[] #[c3_0, c3_1])), (11, v21), (18, (iq a0)), (19, (iq l13i19))])) (fun i => kk23 i = some r) ?_ ?_
    ·rintro j22x11 h
     have h : kk23 j22x11 = some r := h
     rw [hkk23] at h
     dsimp only at h
     clear hkk23
     refine aw_show (m := (memOf w0 Z0 [] [(oRow v21 4 tyBool j22x11)] [(fPtr (tyList tyS_glob_part) c2_0 a2_0), (fPtr (tyList tyS_glob_part) c3_0 a3_0), (fPtr (tyList tyStr) c3_1 a3_1)])) (S := (tab [(1, (iq a1)), (2, (Value.func (.func 46) #[] #[c2_0])), (3, (Value.func (.func 47) #[] #[c3_0, c3_1])), (11, v21), (18, (iq a0)), (19, (iq l13i19))])) ?_
     refine aw_region ?_
     refine al_mv rfl rfl ?_
     refine al_as rfl rfl ?_
     refine al_nil ?_
     refine aq_block ?_
     exact aq_join (v21, j22x11) h (fun w a hm hs => norm hm hs [0] [0, 1, 2] [(1, (iq a1)), (2, (Value.func (.func 46) #[] #[c2_0])), (3, (Value.func (.func 47) #[] #[c3_0, c3_1])), (9, v21), (18, (iq a0)), (19, (iq l13i19))] (by decide) ⟨rfl, rfl, rfl, rfl, rfl, rfl, trivial⟩)
    ·clear hkk23
     refine aw_sr ?_
     refine al_mv rfl rfl ?_
     refine al_in rfl rfl rfl rfl ?_
     refine al_mv rfl rfl ?_
     refine al_nt ?_
     refine aw_block ?_
     refine aw_state (aw_loop (ι := (List Bool) × Int) (fun i => (memOf w0 Z0 [] [(oRow l13v9 4 tyBool l13x9), (oRow v21 4 tyBool i.1)] [(fPtr (tyList tyS_glob_part) c2_0 a2_0), (fPtr (tyList tyS_glob_part) c3_0 a3_0), (fPtr (tyList tyStr) c3_1 a3_1)])) (fun i => (tab [(1, (iq a1)), (2, (Value.func (.func 46) #[] #[c2_0])), (3, (Value.func (.func 47) #[] #[c3_0, c3_1])), (9, l13v9), (10, (iq l13i19)), (11, v21), (18, (iq a0)), (19, (iq l13i19)), (26, (iq (wq (a1 + (1 : Int))))), (27, (iq i.2))])) (fun q i => f_glob_sequence_F46_F47_L26 a1 a2_0 a3_0 a3_1 l13x9 l13i19 kk23 fu q i.1 i.2 = some r) ?_ fu ((List.replicate ((wq (a1 + (1 : Int)))).toNat false), (0 : Int)) h) (fun w a hm hs => norm hm hs [1, 0] [0, 1, 2] [(1, (iq a1)), (2, (Value.func (.func 46) #[] #[c2_0])), (3, (Value.func (.func 47) #[] #[c3_0, c3_1])), (9, l13v9), (10, (iq l13i19)), (11, v21), (18, (iq a0)), (19, (iq l13i19)), (26, (iq (wq (a1 + (1 : Int))))), (27, (iq (0 : Int)))] (by decide) ⟨rfl, rfl, rfl, rfl, rfl, rfl, rfl, rfl, rfl, rfl, trivial⟩)
     clear h
     rintro k25 ⟨l24x11, l24i27⟩ h
     have h : f_glob_sequence_F46_F47_L26 a1 a2_0 a3_0 a3_1 l13x9 l13i19 kk23 fu k25 l24x11 l24i27 = some r := h
     obtain _ | k25 := k25
     · rw [f_glob_sequence_F46_F47_L26] at h; cases h
     rw [f_glob_sequence_F46_F47_L26] at h
     refine aw_show (m := (memOf w0 Z0 [] [(oRow l13v9 4 tyBool l13x9), (oRow v21 4 tyBool l24x11)] [(fPtr (tyList tyS_glob_part) c2_0 a2_0), (fPtr (tyList tyS_glob_part) c3_0 a3_0), (fPtr (tyList tyStr) c3_1 a3_1)])) (S := (tab [(1, (iq a1)), (2, (Value.func (.func 46) #[] #[c2_0])), (3, (Value.func (.func 47) #[] #[c3_0, c3_1])), (9, l13v9), (10, (iq l13i19)), (11, v21), (18, (iq a0)), (19, (iq l13i19)), (26, (iq (wq (a1 + (1 : Int))))), (27, (iq l24i27))])) ?_
     refine aw_sr ?_
     refine al_in rfl rfl rfl rfl ?_
     refine al_nt ?_
     refine aw_seq ?_
     refine aw_cond rfl (fun hb27 => ?_) (fun hb27 => ?_)
     ·replace h := bif_t hb27 h
      refine aw_skip ?_
      refine aq_then ?_
      obtain ⟨kk29, hkk29, h⟩ := lt_some h
      refine aw_seq_join (ι := (List Bool)) (fun i => (memOf w0 Z0 [] [(oRow l13v9 4 tyBool l13x9), (oRow v21 4 tyBool i)] [(fPtr (tyList tyS_glob_part) c2_0 a2_0), (fPtr (tyList tyS_glob_part) c3_0 a3_0), (fPtr (tyList tyStr) c3_1 a3_1)])) (fun i => (tab [(1, (iq a1)), (2, (Value.func (.func 46) #[] #[c2_0])), (3, (Value.func (.func 47) #[] #[c3_0, c3_1])), (9, l13v9), (10, (iq l13i19)), (11, v21), (18, (iq a0)), (19, (iq l13i19)), (26, (iq (wq (a1 + (1 : Int))))), (27, (iq l24i27))])) (fun i => kk29 i = some r) ?_ ?_
      ·rintro j28x11 h
       have h : kk29 j28x11 = some r := h
       rw [hkk29] at h
       dsimp only at h
       clear hkk29
       refine aw_show (m := (memOf w0 Z0 [] [(oRow l13v9 4 tyBool l13x9), (oRow v21 4 tyBool j28x11)] [(fPtr (tyList tyS_glob_part) c2_0 a2_0), (fPtr (tyList tyS_glob_part) c3_0 a3_0), (fPtr (tyList tyStr) c3_1 a3_1)])) (S := (tab [(1, (iq a1)), (2, (Value.func (.func 46) #[] #[c2_0])), (3, (Value.func (.func 47) #[] #[c3_0, c3_1])), (9, l13v9), (10, (iq l13i19)), (11, v21), (18, (iq a0)), (19, (iq l13i19)), (26, (iq (wq (a1 + (1 : Int))))), (27, (iq l24i27))])) ?_
       refine aw_region ?_
       refine al_in rfl rfl rfl rfl ?_
       refine al_mv rfl rfl ?_
       refine al_nil ?_
       exact aq_again k25 (j28x11, (wq (l24i27 + (1 : Int)))) (Nat.lt_succ_self _) h (fun w a hm hs => norm hm hs [0, 1] [0, 1, 2] [(1, (iq a1)), (2, (Value.func (.func 46) #[] #[c2_0])), (3, (Value.func (.func 47) #[] #[c3_0, c3_1])), (9, l13v9), (10, (iq l13i19)), (11, v21), (18, (iq a0)), (19, (iq l13i19)), (26, (iq (wq (a1 + (1 : Int))))), (27, (iq (wq (l24i27 + (1 : Int)))))] (by decide) ⟨rfl, rfl, rfl, rfl, rfl, rfl, rfl, rfl, rfl, rfl, trivial⟩)
      ·clear hkk29
       refine aw_block ?_
       refine aw_sr ?_
       refine al_mv rfl rfl ?_
       refine al_as rfl rfl ?_
       refine al_nt ?_
       refine aw_sr ?_
       refine al_mv rfl rfl ?_
       refine al_mv rfl rfl ?_
       obtain ⟨r31, hc30, h⟩ := opt_some h
       refine al_callF (vs := [(iq l13i19)]) (caps := [c2_0]) (f_glob_path_1_ok fu l13i19 c2_0 a2_0 hc30) rfl [] [] [0, 1] (pre_fz 0 rfl pre_nil) rfl (by simp) (by decide) (.inl rfl) rfl rfl Tryd.func46 rfl rfl rfl (fun _ => ?_)
       refine al_nt ?_
       refine aw_cond rfl (fun hb32 => ?_) (fun hb32 => ?_)
       ·replace h := bif_t hb32 h
        refine aw_region ?_
        refine al_mv rfl rfl ?_
        refine al_mv rfl rfl ?_
        refine al_mv rfl rfl ?_
        refine al_mv rfl rfl ?_
        obtain ⟨u33, hu34, h⟩ := opt_some h
        refine al_idxR 0 (at_some hu34).1 (at_some hu34).2.1 rfl rfl rfl Tryd.underlying131 sz4 rfl (fun p35 hp36 => ?_)
        refine al_val (ov_loadR (ds := [(bool u33)]) 0 rfl hp36 (at_some hu34).2.2 (fun h => h) rfl Tryd.underlying4 sz4 rfl rfl rfl) ?_
        refine al_mv rfl rfl ?_
        refine al_caseB 39 rfl (fun hb37 => ?_) (fun hb37 => ?_)
        ·replace h := bif_t hb37 h
         refine al_skip ?_
         refine al_skip ?_
         refine al_skip ?_
         refine al_skip ?_
         refine al_skip ?_
         refine al_skip ?_
         refine al_skip ?_
         refine al_skip ?_
         refine al_skip ?_
         refine al_val (ov_pick_t rfl rfl rfl) ?_
         obtain ⟨u38, hu39, h⟩ := opt_some h
         refine al_idxR 1 (at_some hu39).1 (at_some hu39).2.1 rfl rfl rfl Tryd.underlying131 sz4 rfl (fun p40 hp41 => ?_)
         refine al_storeR (k := (l24i27).toNat) (x := true) (vs := [(bool true)]) 1 rfl hp41 (idx_lt hu39) rfl rfl (cv_rfl rfl) (fun _ => rfl) sz4 rfl ?_
         refine al_nil ?_
         refine aq_block ?_
         exact aq_join (l24x11.set (l24i27).toNat true) h (fun w a hm hs => norm hm hs [0, 1] [0, 1, 2] [(1, (iq a1)), (2, (Value.func (.func 46) #[] #[c2_0])), (3, (Value.func (.func 47) #[] #[c3_0, c3_1])), (9, l13v9), (10, (iq l13i19)), (11, v21), (18, (iq a0)), (19, (iq l13i19)), (26, (iq (wq (a1 + (1 : Int))))), (27, (iq l24i27))] (by decide) ⟨rfl, rfl, rfl, rfl, rfl, rfl, rfl, rfl, rfl, rfl, trivial⟩)
        ·replace h := bif_f hb37 h
         refine al_mv rfl rfl ?_
         refine al_in rfl rfl rfl rfl ?_
         refine al_mv rfl rfl ?_
         refine al_caseB 42 rfl (fun hb42 => ?_) (fun hb42 => ?_)
         ·replace h := bif_t hb42 h
          refine al_mv rfl rfl ?_
          refine al_mv rfl rfl ?_
          refine al_in rfl rfl rfl rfl ?_
          obtain ⟨u43, hu44, h⟩ := opt_some h
          refine al_idxR 1 (at_some hu44).1 (at_some hu44).2.1 rfl rfl rfl Tryd.underlying131 sz4 rfl (fun p45 hp46 => ?_)
          refine al_val (ov_loadR (ds := [(bool u43)]) 1 rfl hp46 (at_some hu44).2.2 (fun h => h) rfl Tryd.underlying4 sz4 rfl rfl rfl) ?_
          refine al_val (ov_pick_t rfl rfl rfl) ?_
          refine al_val (ov_pick_f rfl rfl rfl) ?_
          obtain ⟨u47, hu48, h⟩ := opt_some h
          refine al_idxR 1 (at_some hu48).1 (at_some hu48).2.1 rfl rfl rfl Tryd.underlying131 sz4 rfl (fun p49 hp50 => ?_)
          refine al_storeR (k := (l24i27).toNat) (x := u43) (vs := [(bool u43)]) 1 rfl hp50 (idx_lt hu48) rfl rfl (cv_rfl rfl) (fun _ => rfl) sz4 rfl ?_
          refine al_nil ?_
          refine aq_block ?_
          exact aq_join (l24x11.set (l24i27).toNat u43) h (fun w a hm hs => norm hm hs [0, 1] [0, 1, 2] [(1, (iq a1)), (2, (Value.func (.func 46) #[] #[c2_0])), (3, (Value.func (.func 47) #[] #[c3_0, c3_1])), (9, l13v9), (10, (iq l13i19)), (11, v21), (18, (iq a0)), (19, (iq l13i19)), (26, (iq (wq (a1 + (1 : Int))))), (27, (iq l24i27))] (by decide) ⟨rfl, rfl, rfl, rfl, rfl, rfl, rfl, rfl, rfl, rfl, trivial⟩)
         ·replace h := bif_f hb42 h
          refine al_skip ?_
          refine al_skip ?_
          refine al_skip ?_
          refine al_skip ?_
          refine al_skip ?_
          refine al_val (ov_pick_f rfl rfl rfl) ?_
          refine al_val (ov_pick_f rfl rfl rfl) ?_
          obtain ⟨u51, hu52, h⟩ := opt_some h
          refine al_idxR 1 (at_some hu52).1 (at_some hu52).2.1 rfl rfl rfl Tryd.underlying131 sz4 rfl (fun p53 hp54 => ?_)
          refine al_storeR (k := (l24i27).toNat) (x := false) (vs := [(bool false)]) 1 rfl hp54 (idx_lt hu52) rfl rfl (cv_rfl rfl) (fun _ => rfl) sz4 rfl ?_
          refine al_nil ?_
          refine aq_block ?_
          exact aq_join (l24x11.set (l24i27).toNat false) h (fun w a hm hs => norm hm hs [0, 1] [0, 1, 2] [(1, (iq a1)), (2, (Value.func (.func 46) #[] #[c2_0])), (3, (Value.func (.func 47) #[] #[c3_0, c3_1])), (9, l13v9), (10, (iq l13i19)), (11, v21), (18, (iq a0)), (19, (iq l13i19)), (26, (iq (wq (a1 + (1 : Int))))), (27, (iq l24i27))] (by decide) ⟨rfl, rfl, rfl, rfl, rfl, rfl, rfl, rfl, rfl, rfl, trivial⟩)
       ·replace h := bif_f hb32 h
        refine aw_region ?_
        refine al_mv rfl rfl ?_
        refine al_mv rfl rfl ?_
        refine al_mv rfl rfl ?_
        refine al_in rfl rfl rfl rfl ?_
        refine al_mv rfl rfl ?_
        refine al_caseB 55 rfl (fun hb55 => ?_) (fun hb55 => ?_)
        ·replace h := bif_t hb55 h
         refine al_mv rfl rfl ?_
         refine al_mv rfl rfl ?_
         refine al_in rfl rfl rfl rfl ?_
         obtain ⟨u56, hu57, h⟩ := opt_some h
         refine al_idxR 0 (at_some hu57).1 (at_some hu57).2.1 rfl rfl rfl Tryd.underlying131 sz4 rfl (fun p58 hp59 => ?_)
         refine al_val (ov_loadR (ds := [(bool u56)]) 0 rfl hp59 (at_some hu57).2.2 (fun h => h) rfl Tryd.underlying4 sz4 rfl rfl rfl) ?_
         refine al_val (ov_pick_t rfl rfl rfl) ?_
         refine al_mv rfl rfl ?_
         refine al_caseB 62 rfl (fun hb60 => ?_) (fun hb60 => ?_)
         ·replace h := bif_t hb60 h
          refine al_mv rfl rfl ?_
          refine al_mv rfl rfl ?_
          refine al_mv rfl rfl ?_
          refine al_in rfl rfl rfl rfl ?_
          obtain ⟨r62, hc61, h⟩ := opt_some h
          refine al_callF (vs := [(iq l13i19), (iq (wq (l24i27 - (1 : Int))))]) (caps := [c3_0, c3_1]) (f_glob_path_2_ok fu l13i19 (wq (l24i27 - (1 : Int))) c3_0 a3_0 c3_1 a3_1 hc61) rfl [] [] [0, 1] (pre_fz 1 rfl (pre_fz 2 rfl pre_nil)) rfl (by simp) (by decide) (.inl rfl) rfl rfl Tryd.func47 rfl rfl rfl (fun _ => ?_)
          refine al_val (ov_pick_t rfl rfl rfl) ?_
          obtain ⟨u63, hu64, h⟩ := opt_some h
          refine al_idxR 1 (at_some hu64).1 (at_some hu64).2.1 rfl rfl rfl Tryd.underlying131 sz4 rfl (fun p65 hp66 => ?_)
          refine al_storeR (k := (l24i27).toNat) (x := r62) (vs := [(bool r62)]) 1 rfl hp66 (idx_lt hu64) rfl rfl (cv_rfl rfl) (fun _ => rfl) sz4 rfl ?_
          refine al_nil ?_
          refine aq_block ?_
          exact aq_join (l24x11.set (l24i27).toNat r62) h (fun w a hm hs => norm hm hs [0, 1] [0, 1, 2] [(1, (iq a1)), (2, (Value.func (.func 46) #[] #[c2_0])), (3, (Value.func (.func 47) #[] #[c3_0, c3_1])), (9, l13v9), (10, (iq l13i19)), (11, v21), (18, (iq a0)), (19, (iq l13i19)), (26, (iq (wq (a1 + (1 : Int))))), (27, (iq l24i27))] (by decide) ⟨rfl, rfl, rfl, rfl, rfl, rfl, rfl, rfl, rfl, rfl, trivial⟩)
         ·replace h := bif_f hb60 h
          refine al_skip ?_
          refine al_skip ?_
          refine al_skip ?_
          refine al_skip ?_
          refine al_skip ?_
          refine al_val (ov_pick_f rfl rfl rfl) ?_
          obtain ⟨u67, hu68, h⟩ := opt_some h
          refine al_idxR 1 (at_some hu68).1 (at_some hu68).2.1 rfl rfl rfl Tryd.underlying131 sz4 rfl (fun p69 hp70 => ?_)
          refine al_storeR (k := (l24i27).toNat) (x := false) (vs := [(bool false)]) 1 rfl hp70 (idx_lt hu68) rfl rfl (cv_rfl rfl) (fun _ => rfl) sz4 rfl ?_
          refine al_nil ?_
          refine aq_block ?_
          exact aq_join (l24x11.set (l24i27).toNat false) h (fun w a hm hs => norm hm hs [0, 1] [0, 1, 2] [(1, (iq a1)), (2, (Value.func (.func 46) #[] #[c2_0])), (3, (Value.func (.func 47) #[] #[c3_0, c3_1])), (9, l13v9), (10, (iq l13i19)), (11, v21), (18, (iq a0)), (19, (iq l13i19)), (26, (iq (wq (a1 + (1 : Int))))), (27, (iq l24i27))] (by decide) ⟨rfl, rfl, rfl, rfl, rfl, rfl, rfl, rfl, rfl, rfl, trivial⟩)
        ·replace h := bif_f hb55 h
         refine al_skip ?_
         refine al_skip ?_
         refine al_skip ?_
         refine al_skip ?_
         refine al_skip ?_
         refine al_val (ov_pick_f rfl rfl rfl) ?_
         refine al_mv rfl rfl ?_
         refine al_skip ?_
         refine al_skip ?_
         refine al_skip ?_
         refine al_skip ?_
         refine al_skip ?_
         refine al_val (ov_pick_f rfl rfl rfl) ?_
         obtain ⟨u71, hu72, h⟩ := opt_some h
         refine al_idxR 1 (at_some hu72).1 (at_some hu72).2.1 rfl rfl rfl Tryd.underlying131 sz4 rfl (fun p73 hp74 => ?_)
         refine al_storeR (k := (l24i27).toNat) (x := false) (vs := [(bool false)]) 1 rfl hp74 (idx_lt hu72) rfl rfl (cv_rfl rfl) (fun _ => rfl) sz4 rfl ?_
         refine al_nil ?_
         refine aq_block ?_
         exact aq_join (l24x11.set (l24i27).toNat false) h (fun w a hm hs => norm hm hs [0, 1] [0, 1, 2] [(1, (iq a1)), (2, (Value.func (.func 46) #[] #[c2_0])), (3, (Value.func (.func 47) #[] #[c3_0, c3_1])), (9, l13v9), (10, (iq l13i19)), (11, v21), (18, (iq a0)), (19, (iq l13i19)), (26, (iq (wq (a1 + (1 : Int))))), (27, (iq l24i27))] (by decide) ⟨rfl, rfl, rfl, rfl, rfl, rfl, rfl, rfl, rfl, rfl, trivial⟩)
     ·replace h := bif_f hb27 h
      refine aw_exit ?_
      refine aq_then_exit ?_
      refine aq_then_exit ?_
      refine aq_block_exit ?_
      exact aq_join l24x11 h (fun w a hm hs => norm hm hs [1] [0, 1, 2] [(1, (iq a1)), (2, (Value.func (.func 46) #[] #[c2_0])), (3, (Value.func (.func 47) #[] #[c3_0, c3_1])), (11, v21), (18, (iq a0)), (19, (iq l13i19))] (by decide) ⟨rfl, rfl, rfl, rfl, rfl, rfl, trivial⟩)
  ·replace h := bif_f hb17 h
   refine aw_exit ?_
   refine aq_then_exit ?_
   refine aq_then_exit ?_
   refine aq_block_exit ?_
   exact aq_join (l13v9, l13x9) h (fun w a hm hs => norm hm hs [0] [0, 1, 2] [(1, (iq a1)), (9, l13v9)] (by decide) ⟨rfl, rfl, trivial⟩)
def f_glob_path (fu : Nat) (a0 : (List S_glob_part)) (a1 : (List (List UInt8))) : Option Bool := (opt (f_glob_sequence_F46_F47 fu (a0.length : Int) (a1.length : Int) a0 a0 a1) fun (r6 : Bool) => (some r6))
set_option maxRecDepth 100000 in
theorem f_glob_path_ok (fu : Nat) (v0_0 : Value) (a0 : (List S_glob_part)) (v1_0 : Value) (a1 : (List (List UInt8))) {r : Bool} (h : f_glob_path fu a0 a1 = some r) : FnOk Tryd.prog 21 [v0_0, v1_0] [(fDat (tyList tyS_glob_part) [v0_0] a0), (fDat (tyList tyStr) [v1_0] a1)] [] (fun (i : Unit) => { val := (bool r) }) := by
 unfold f_glob_path at h
 refine fn_enter Tryd.func21 rfl Tryd.ntmps21 rfl (fun w0 Z0 => ?_)
 refine aw_sr ?_
 refine al_box (vs := [v0_0]) rfl (cv_fz 0 rfl) rfl (fun g1 => ?_)
 refine al_box (vs := [v1_0]) rfl (cv_fz 1 rfl) rfl (fun g2 => ?_)
 refine al_as rfl rfl ?_
 refine al_nt ?_
 refine aw_seq ?_
 refine aw_freezeBN (τ := (tyList tyS_glob_part)) 1 (a0) rfl rfl (fun hm => fz_at (i := 0) hm rfl) ?_
 refine aw_freezeBN (τ := (tyList tyStr)) 0 (a1) rfl rfl (fun hm => fz_at (i := 2) hm rfl) ?_
 refine aw_region ?_
 refine al_loadP1 1 rfl rfl Tryd.underlying44 sz44 rfl rfl rfl (fun s3 => ?_)
 refine al_val (ov_lenD 0 rfl rfl Tryd.underlying44 rfl) ?_
 refine al_loadP1 1 rfl rfl Tryd.underlying22 sz22 rfl rfl rfl (fun s4 => ?_)
 refine al_val (ov_lenD 0 rfl rfl Tryd.underlying22 rfl) ?_
 refine al_val (ov_makeFunc2 (vs := [(pq g1)]) rfl rfl) ?_
 refine al_val (ov_makeFunc2 (vs := [(pq g1), (pq g2)]) rfl rfl) ?_
 obtain ⟨r6, hc5, h⟩ := opt_some h
 refine al_call (vs := [(iq (a0.length : Int)), (iq (a1.length : Int)), (Value.func (.func 46) #[] #[(pq g1)]), (Value.func (.func 47) #[] #[(pq g1), (pq g2)])]) (f_glob_sequence_F46_F47_ok fu (a0.length : Int) (a1.length : Int) (pq g1) a0 (pq g1) a0 (pq g2) a1 hc5) [] [] [] (pre_fz 3 rfl (pre_fz 3 rfl (pre_fz 2 rfl pre_nil))) rfl (by simp) (by decide) (.inl rfl) rfl Tryd.func45 rfl rfl rfl (fun _ => ?_)
 refine al_as rfl rfl ?_
 refine al_nt ?_
 refine aw_ret ?_
 obtain rfl := Option.some.inj h
 exact fn_ret () [] [] rfl rfl rfl rfl (res1 rfl rfl) rfl rfl rfl (by decide)
def f_glob_Match (fu : Nat) (a0 : (List UInt8)) (a1 : (List UInt8)) : Option (Bool × Int) := (opt (f_glob_parse fu a0) fun (r2 : ((List S_glob_part) × Int)) => (bif (r2.2 != (0 : Int)) then (some (false, r2.2)) else (opt (f_names_Split fu a1) fun (r6 : ((List (List UInt8)) × Int)) => (bif (r6.2 != (0 : Int)) then (some (false, r6.2)) else (opt (f_glob_path fu r2.1 r6.1) fun (r10 : Bool) => (some (r10, (0 : Int))))))))
set_option maxHeartbeats 2000000 in
set_option maxRecDepth 100000 in
theorem f_glob_Match_ok (fu : Nat) (a0 : (List UInt8)) (a1 : (List UInt8)) {r : (Bool × Int)} (h : f_glob_Match fu a0 a1 = some r) : FnOk Tryd.prog 9 [(str a0), (str a1)] [uMax, uTabs] [] (fun (i : Unit) => { val := (Value.tuple #[(bool r.1), (int .i64 r.2)]) }) := by
 unfold f_glob_Match at h
 refine fn_enter Tryd.func9 rfl Tryd.ntmps9 rfl (fun w0 Z0 => ?_)
 refine aw_sr ?_
 refine al_as rfl rfl ?_
 refine al_as rfl rfl ?_
 refine al_nt ?_
 refine aw_sr ?_
 refine al_mv rfl rfl ?_
 obtain ⟨r2, hc1, h⟩ := opt_some h
 refine al_call (vs := [(str a0)]) (f_glob_parse_ok fu a0 hc1) [] [] [] (pre_fz 0 rfl (pre_fz 1 rfl pre_nil)) rfl (by simp) (by decide) (.inl rfl) rfl Tryd.func18 rfl rfl rfl (fun v3 => ?_)
 refine al_mv rfl rfl ?_
 refine al_ex rfl rfl rfl ?_
 refine al_ex rfl rfl rfl ?_
 refine al_as rfl rfl ?_
 refine al_as rfl rfl ?_
 refine al_nt ?_
 refine aw_seq ?_
 refine aw_sr ?_
 refine al_mv rfl rfl ?_
 refine al_in rfl rfl rfl rfl ?_
 refine al_nt ?_
 refine aw_cond rfl (fun hb4 => ?_) (fun hb4 => ?_)
 ·replace h := bif_t hb4 h
  refine aw_sr ?_
  refine al_mv rfl rfl ?_
  refine al_as rfl rfl ?_
  refine al_as rfl rfl ?_
  refine al_nt ?_
  refine aw_ret ?_
  refine aq_then_ret ?_
  obtain rfl := Option.some.inj h
  exact fn_ret () [] [] rfl rfl rfl rfl (res2 rfl rfl rfl) rfl rfl rfl (by decide)
 ·replace h := bif_f hb4 h
  refine aw_skip ?_
  refine aq_tr ?_
  refine al_mv rfl rfl ?_
  obtain ⟨r6, hc5, h⟩ := opt_some h
  refine al_call (vs := [(str a1)]) (f_names_Split_ok fu a1 hc5) [] [] [0] (pre_fz 0 rfl (pre_fz 1 rfl pre_nil)) rfl (by simp) (by decide) (.inl rfl) rfl Tryd.func20 rfl rfl rfl (fun v7 => ?_)
  refine al_mv rfl rfl ?_
  refine al_ex rfl rfl rfl ?_
  refine al_ex rfl rfl rfl ?_
  refine al_as rfl rfl ?_
  refine al_as rfl rfl ?_
  refine al_nt ?_
  refine aw_seq ?_
  refine aw_sr ?_
  refine al_mv rfl rfl ?_
  refine al_in rfl rfl rfl rfl ?_
  refine al_nt ?_
  refine aw_cond rfl (fun hb8 => ?_) (fun hb8 => ?_)
  ·replace h := bif_t hb8 h
   refine aw_sr ?_
   refine al_mv rfl rfl ?_
   refine al_as rfl rfl ?_
   refine al_as rfl rfl ?_
   refine al_nt ?_
   refine aw_ret ?_
   refine aq_then_ret ?_
   obtain rfl := Option.some.inj h
   exact fn_ret () [] [] rfl rfl rfl rfl (res2 rfl rfl rfl) rfl rfl rfl (by decide)
  ·replace h := bif_f hb8 h
   refine aw_skip ?_
   refine aq_tr ?_
   refine al_mv rfl rfl ?_
   refine al_mv rfl rfl ?_
   obtain ⟨r10, hc9, h⟩ := opt_some h
   refine al_call (vs := [v3, v7]) (f_glob_path_ok fu v3 r2.1 v7 r6.1 hc9) [0, 1] [] [0, 1] (pre_own 1 rfl rfl (pre_own 0 rfl rfl pre_nil)) rfl (by simp) (by decide) (.inr flat_res0) rfl Tryd.func21 rfl rfl rfl (fun _ => ?_)
   refine al_as rfl rfl ?_
   refine al_as rfl rfl ?_
   refine al_nt ?_
   refine aw_ret ?_
   obtain rfl := Option.some.inj h
   exact fn_ret () [] [] rfl rfl rfl rfl (res2 rfl rfl rfl) rfl rfl rfl (by decide)
def f_lumref_Name_L12 (r2 : ((List Int) × Bool)) (kk8 : (Unit → Option Int)) : Nat → Int → Option Int
  | 0, _ => none
  | k11 + 1, l10i29 => (bif (decide (l10i29 < (r2.1.length : Int))) then (opt (at? r2.1 l10i29) fun (u14 : Int) => (lt (fun (j18b42 : Bool) => (bif j18b42 then (some (8 : Int)) else (f_lumref_Name_L12 r2 kk8 k11 (IntKind.i64.wrap (l10i29 + (1 : Int)))))) fun (kk19 : Bool → Option Int) => (bif (u14 == (47 : Int)) then (kk19 true) else (bif (decide (u14 < (32 : Int))) then (kk19 true) else (kk19 (u14 == (127 : Int))))))) else (kk8 ()))
def f_lumref_Name (fu : Nat) (a0 : (List UInt8)) : Option Int := (opt (f_lumref_Chars fu a0) fun (r2 : ((List Int) × Bool)) => (lt (fun (j4b26 : Bool) => (bif j4b26 then (some (8 : Int)) else (lt (fun (_ : Unit) => (bif (decide ((r2.1.length : Int) > (24 : Int))) then (some (2 : Int)) else (some (0 : Int)))) fun (kk8 : Unit → Option Int) => (f_lumref_Name_L12 r2 kk8 fu (0 : Int))))) fun (kk5 : Bool → Option Int) => (bif (!r2.2) then (kk5 true) else (bif ((r2.1.length : Int) == (0 : Int)) then (kk5 true) else (bif (a0 == ([46] : List UInt8)) then (kk5 true) else (kk5 (a0 == ([46, 46] : List UInt8))))))))
set_option maxHeartbeats 2000000 in
set_option maxRecDepth 100000 in
theorem f_lumref_Name_ok (fu : Nat) (a0 : (List UInt8)) {r : Int} (h : f_lumref_Name fu a0 = some r) : FnOk Tryd.prog 80 [(str a0)] [] [] (fun (i : Unit) => { val := (int .i64 r) }) := by
 unfold f_lumref_Name at h
 refine fn_enter Tryd.func80 rfl Tryd.ntmps80 rfl (fun w0 Z0 => ?_)
 refine aw_sr ?_
 refine al_as rfl rfl ?_
 refine al_nt ?_
 refine aw_sr ?_
 refine al_mv rfl rfl ?_
 obtain ⟨r2, hc1, h⟩ := opt_some h
 refine al_call (vs := [(str a0)]) (f_lumref_Chars_ok fu a0 hc1) [] [] [] pre_nil rfl (by simp) (by decide) (.inl rfl) rfl Tryd.func25 rfl rfl rfl (fun v3 => ?_)
 refine al_mv rfl rfl ?_
 refine al_ex rfl rfl rfl ?_
 refine al_ex rfl rfl rfl ?_
 refine al_as rfl rfl ?_
 refine al_as rfl rfl ?_
 refine al_nt ?_
 refine aw_seq ?_
 obtain ⟨kk5, hkk5, h⟩ := lt_some h
 refine aw_seq_join (ι := Bool) (fun i => (memOf w0 Z0 [] [(oRow v3 3 tq r2.1)] [])) (fun i => (tab [(3, v3), (26, (bool i))])) (fun i => kk5 i = some r) ?_ ?_
 ·rintro j4b26 h
  have h : kk5 j4b26 = some r := h
  rw [hkk5] at h
  dsimp only at h
  clear hkk5
  refine aw_show (m := (memOf w0 Z0 [] [(oRow v3 3 tq r2.1)] [])) (S := (tab [(3, v3), (26, (bool j4b26))])) ?_
  refine aw_cond rfl (fun hb6 => ?_) (fun hb6 => ?_)
  ·replace h := bif_t hb6 h
   refine aw_sr ?_
   refine al_as rfl rfl ?_
   refine al_nt ?_
   refine aw_ret ?_
   refine aq_then_ret ?_
   obtain rfl := Option.some.inj h
   exact fn_ret () [] [] rfl rfl rfl rfl (res1 rfl rfl) rfl rfl rfl (by decide)
  ·replace h := bif_f hb6 h
   refine aw_skip ?_
   refine aq_then ?_
   obtain ⟨kk8, hkk8, h⟩ := lt_some h
   refine aw_seq_join (ι := Unit) (fun i => (memOf w0 Z0 [] [(oRow v3 3 tq r2.1)] [])) (fun i => (tab [(3, v3)])) (fun i => kk8 () = some r) ?_ ?_
   ·rintro _ h
    have h : kk8 () = some r := h
    rw [hkk8] at h
    dsimp only at h
    clear hkk8
    refine aw_show (m := (memOf w0 Z0 [] [(oRow v3 3 tq r2.1)] [])) (S := (tab [(3, v3)])) ?_
    refine aw_seq ?_
    refine aw_sr ?_
    refine al_mv rfl rfl ?_
    refine al_val (ov_lenR 0 rfl rfl Tryd.underlying52 rfl) ?_
    refine al_in rfl rfl rfl rfl ?_
    refine al_nt ?_
    refine aw_cond rfl (fun hb9 => ?_) (fun hb9 => ?_)
    ·replace h := bif_t hb9 h
     refine aw_sr ?_
     refine al_as rfl rfl ?_
     refine al_nt ?_
     refine aw_ret ?_
     refine aq_then_ret ?_
     obtain rfl := Option.some.inj h
     exact fn_ret () [] [] rfl rfl rfl rfl (res1 rfl rfl) rfl rfl rfl (by decide)
    ·replace h := bif_f hb9 h
     refine aw_skip ?_
     refine aq_tr ?_
     refine al_as rfl rfl ?_
     refine al_nt ?_
     refine aw_ret ?_
     obtain rfl := Option.some.inj h
     exact fn_ret () [] [] rfl rfl rfl rfl (res1 rfl rfl) rfl rfl rfl (by decide)
   ·clear hkk8
    refine aw_sr ?_
    refine al_mv rfl rfl ?_
    refine al_val (ov_lenR 0 rfl rfl Tryd.underlying52 rfl) ?_
    refine al_mv rfl rfl ?_
    refine al_nt ?_
    refine aw_block ?_
    refine aw_state (aw_loop (ι := Int) (fun i => (memOf w0 Z0 [] [(oRow v3 3 tq r2.1)] [])) (fun i => (tab [(3, v3), (27, v3), (28, (iq (r2.1.length : Int))), (29, (iq i))])) (fun q i => f_lumref_Name_L12 r2 kk8 q i = some r) ?_ fu (0 : Int) h) (fun w a hm hs => norm hm hs [0] [] [(3, v3), (27, v3), (28, (iq (r2.1.length : Int))), (29, (iq (0 : Int)))] (by decide) ⟨rfl, rfl, rfl, rfl, trivial⟩)
    clear h
    rintro k11 l10i29 h
    have h : f_lumref_Name_L12 r2 kk8 k11 l10i29 = some r := h
    obtain _ | k11 := k11
    · rw [f_lumref_Name_L12] at h; cases h
    rw [f_lumref_Name_L12] at h
    refine aw_show (m := (memOf w0 Z0 [] [(oRow v3 3 tq r2.1)] [])) (S := (tab [(3, v3), (27, v3), (28, (iq (r2.1.length : Int))), (29, (iq l10i29))])) ?_
    refine aw_sr ?_
    refine al_in rfl rfl rfl rfl ?_
    refine al_nt ?_
    refine aw_seq ?_
    refine aw_cond rfl (fun hb13 => ?_) (fun hb13 => ?_)
    ·replace h := bif_t hb13 h
     refine aw_skip ?_
     refine aq_then ?_
     refine aw_seq ?_
     refine aw_block ?_
     refine aw_sr ?_
     obtain ⟨u14, hu15, h⟩ := opt_some h
     refine al_idxR 0 (at_some hu15).1 (at_some hu15).2.1 rfl rfl rfl Tryd.underlying52 sz3 rfl (fun p16 hp17 => ?_)
     refine al_val (ov_loadR (ds := [(iq u14)]) 0 rfl hp17 (at_some hu15).2.2 (fun h => h) rfl Tryd.underlying3 sz3 rfl rfl rfl) ?_
     refine al_as rfl rfl ?_
     refine al_nt ?_
     obtain ⟨kk19, hkk19, h⟩ := lt_some h
     refine aw_seq_join (ι := Bool) (fun i => (memOf w0 Z0 [] [(oRow v3 3 tq r2.1)] [])) (fun i => (tab [(3, v3), (27, v3), (28, (iq (r2.1.length : Int))), (29, (iq l10i29)), (42, (bool i))])) (fun i => kk19 i = some r) ?_ ?_
     ·rintro j18b42 h
      have h : kk19 j18b42 = some r := h
      rw [hkk19] at h
      dsimp only at h
      clear hkk19
      refine aw_show (m := (memOf w0 Z0 [] [(oRow v3 3 tq r2.1)] [])) (S := (tab [(3, v3), (27, v3), (28, (iq (r2.1.length : Int))), (29, (iq l10i29)), (42, (bool j18b42))])) ?_
      refine aw_cond rfl (fun hb20 => ?_) (fun hb20 => ?_)
      ·replace h := bif_t hb20 h
       refine aw_sr ?_
       refine al_as rfl rfl ?_
       refine al_nt ?_
       refine aw_ret ?_
       refine aq_block_ret ?_
       refine aq_then_ret ?_
       refine aq_then_ret ?_
       refine aq_block_ret ?_
       refine aq_then_ret ?_
       obtain rfl := Option.some.inj h
       exact fn_ret () [] [] rfl rfl rfl rfl (res1 rfl rfl) rfl rfl rfl (by decide)
      ·replace h := bif_f hb20 h
       refine aw_skip ?_
       refine aq_block ?_
       refine aq_then ?_
       refine aw_region ?_
       refine al_in rfl rfl rfl rfl ?_
       refine al_mv rfl rfl ?_
       refine al_nil ?_
       exact aq_again k11 (wq (l10i29 + (1 : Int))) (Nat.lt_succ_self _) h (fun w a hm hs => norm hm hs [0] [] [(3, v3), (27, v3), (28, (iq (r2.1.length : Int))), (29, (iq (wq (l10i29 + (1 : Int)))))] (by decide) ⟨rfl, rfl, rfl, rfl, trivial⟩)
     ·clear hkk19
      refine aw_region ?_
      refine al_mv rfl rfl ?_
      refine al_in rfl rfl rfl rfl ?_
      refine al_mv rfl rfl ?_
      refine al_caseB 35 rfl (fun hb21 => ?_) (fun hb21 => ?_)
      ·replace h := bif_t hb21 h
       refine al_skip ?_
       refine al_skip ?_
       refine al_val (ov_pick_t rfl rfl rfl) ?_
       refine al_mv rfl rfl ?_
       refine al_skip ?_
       refine al_skip ?_
       refine al_val (ov_pick_t rfl rfl rfl) ?_
       refine al_nil ?_
       exact aq_join true h (fun w a hm hs => norm hm hs [0] [] [(3, v3), (27, v3), (28, (iq (r2.1.length : Int))), (29, (iq l10i29)), (42, (bool true))] (by decide) ⟨rfl, rfl, rfl, rfl, rfl, trivial⟩)
      ·replace h := bif_f hb21 h
       refine al_mv rfl rfl ?_
       refine al_in rfl rfl rfl rfl ?_
       refine al_val (ov_pick_f rfl rfl rfl) ?_
       refine al_mv rfl rfl ?_
       refine al_caseB 39 rfl (fun hb22 => ?_) (fun hb22 => ?_)
       ·replace h := bif_t hb22 h
        refine al_skip ?_
        refine al_skip ?_
        refine al_val (ov_pick_t rfl rfl rfl) ?_
        refine al_nil ?_
        exact aq_join true h (fun w a hm hs => norm hm hs [0] [] [(3, v3), (27, v3), (28, (iq (r2.1.length : Int))), (29, (iq l10i29)), (42, (bool true))] (by decide) ⟨rfl, rfl, rfl, rfl, rfl, trivial⟩)
       ·replace h := bif_f hb22 h
        refine al_mv rfl rfl ?_
        refine al_in rfl rfl rfl rfl ?_
        refine al_val (ov_pick_f rfl rfl rfl) ?_
        refine al_nil ?_
        exact aq_join (u14 == (127 : Int)) h (fun w a hm hs => norm hm hs [0] [] [(3, v3), (27, v3), (28, (iq (r2.1.length : Int))), (29, (iq l10i29)), (42, (bool (u14 == (127 : Int))))] (by decide) ⟨rfl, rfl, rfl, rfl, rfl, trivial⟩)
    ·replace h := bif_f hb13 h
     refine aw_exit ?_
     refine aq_then_exit ?_
     refine aq_then_exit ?_
     refine aq_block_exit ?_
     exact aq_join () h (fun w a hm hs => norm hm hs [0] [] [(3, v3)] (by decide) ⟨rfl, trivial⟩)
 ·clear hkk5
  refine aw_region ?_
  refine al_mv rfl rfl ?_
  refine al_val (ov_not rfl rfl) ?_
  refine al_mv rfl rfl ?_
  refine al_caseB 14 rfl (fun hb23 => ?_) (fun hb23 => ?_)
  ·replace h := bif_t hb23 h
   refine al_skip ?_
   refine al_skip ?_
   refine al_skip ?_
   refine al_val (ov_pick_t rfl rfl rfl) ?_
   refine al_mv rfl rfl ?_
   refine al_skip ?_
   refine al_skip ?_
   refine al_val (ov_pick_t rfl rfl rfl) ?_
   refine al_mv rfl rfl ?_
   refine al_skip ?_
   refine al_skip ?_
   refine al_val (ov_pick_t rfl rfl rfl) ?_
   refine al_nil ?_
   exact aq_join true h (fun w a hm hs => norm hm hs [0] [] [(3, v3), (26, (bool true))] (by decide) ⟨rfl, rfl, trivial⟩)
  ·replace h := bif_f hb23 h
   refine al_mv rfl rfl ?_
   refine al_val (ov_lenR 0 rfl rfl Tryd.underlying52 rfl) ?_
   refine al_in rfl rfl rfl rfl ?_
   refine al_val (ov_pick_f rfl rfl rfl) ?_
   refine al_mv rfl rfl ?_
   refine al_caseB 19 rfl (fun hb24 => ?_) (fun hb24 => ?_)
   ·replace h := bif_t hb24 h
    refine al_skip ?_
    refine al_skip ?_
    refine al_val (ov_pick_t rfl rfl rfl) ?_
    refine al_mv rfl rfl ?_
    refine al_skip ?_
    refine al_skip ?_
    refine al_val (ov_pick_t rfl rfl rfl) ?_
    refine al_nil ?_
    exact aq_join true h (fun w a hm hs => norm hm hs [0] [] [(3, v3), (26, (bool true))] (by decide) ⟨rfl, rfl, trivial⟩)
   ·replace h := bif_f hb24 h
    refine al_mv rfl rfl ?_
    refine al_val (ov_strCmp rfl rfl rfl rfl) ?_
    refine al_val (ov_pick_f rfl rfl rfl) ?_
    refine al_mv rfl rfl ?_
    refine al_caseB 23 rfl (fun hb25 => ?_) (fun hb25 => ?_)
    ·replace h := bif_t hb25 h
     refine al_skip ?_
     refine al_skip ?_
     refine al_val (ov_pick_t rfl rfl rfl) ?_
     refine al_nil ?_
     exact aq_join true h (fun w a hm hs => norm hm hs [0] [] [(3, v3), (26, (bool true))] (by decide) ⟨rfl, rfl, trivial⟩)
    ·replace h := bif_f hb25 h
     refine al_mv rfl rfl ?_
     refine al_val (ov_strCmp rfl rfl rfl rfl) ?_
     refine al_val (ov_pick_f rfl rfl rfl) ?_
     refine al_nil ?_
     exact aq_join (a0 == ([46, 46] : List UInt8)) h (fun w a hm hs => norm hm hs [0] [] [(3, v3), (26, (bool (a0 == ([46, 46] : List UInt8))))] (by decide) ⟨rfl, rfl, trivial⟩)
def f_lumref_nameErr_L5 (a0 : (List (List UInt8))) (kk2 : (Unit → Option Int)) (fu : Nat) : Nat → Int → Option Int
  | 0, _ => none
  | k4 + 1, l3i8 => (bif (decide (l3i8 < (a0.length : Int))) then (opt (at? a0 l3i8) fun (u7 : (List UInt8)) => (bif (decide (l3i8 ≥ (8 : Int))) then (some (14 : Int)) else (opt (f_lumref_Name fu u7) fun (r12 : Int) => (bif (r12 != (0 : Int)) then (some r12) else (f_lumref_nameErr_L5 a0 kk2 fu k4 (IntKind.i64.wrap (l3i8 + (1 : Int)))))))) else (kk2 ()))
def f_lumref_nameErr (fu : Nat) (a0 : (List (List UInt8))) : Option Int := (lt (fun (_ : Unit) => (some (0 : Int))) fun (kk2 : Unit → Option Int) => (f_lumref_nameErr_L5 a0 kk2 fu fu (0 : Int)))
set_option maxHeartbeats 2000000 in
set_option maxRecDepth 100000 in
theorem f_lumref_nameErr_ok (fu : Nat) (v0_0 : Value) (a0 : (List (List UInt8))) {r : Int} (h : f_lumref_nameErr fu a0 = some r) : FnOk Tryd.prog 50 [v0_0] [(fDat (tyList tyStr) [v0_0] a0)] [] (fun (i : Unit) => { val := (int .i64 r) }) := by
 unfold f_lumref_nameErr at h
 refine fn_enter Tryd.func50 rfl Tryd.ntmps50 rfl (fun w0 Z0 => ?_)
 refine aw_sr ?_
 refine al_as rfl rfl ?_
 refine al_nt ?_
 obtain ⟨kk2, hkk2, h⟩ := lt_some h
 refine aw_seq_join (ι := Unit) (fun i => (memOf w0 Z0 [] [] [(fDat (tyList tyStr) [v0_0] a0)])) (fun i => (tab [])) (fun i => kk2 () = some r) ?_ ?_
 ·rintro _ h
  have h : kk2 () = some r := h
  rw [hkk2] at h
  dsimp only at h
  clear hkk2
  refine aw_show (m := (memOf w0 Z0 [] [] [(fDat (tyList tyStr) [v0_0] a0)])) (S := (tab [])) ?_
  refine aw_sr ?_
  refine al_as rfl rfl ?_
  refine al_nt ?_
  refine aw_ret ?_
  obtain rfl := Option.some.inj h
  exact fn_ret () [] [] rfl rfl rfl rfl (res1 rfl rfl) rfl rfl rfl (by decide)
 ·clear hkk2
  refine aw_sr ?_
  refine al_mv rfl rfl ?_
  refine al_val (ov_lenD 0 rfl rfl Tryd.underlying22 rfl) ?_
  refine al_mv rfl rfl ?_
  refine al_nt ?_
  refine aw_block ?_
  refine aw_state (aw_loop (ι := Int) (fun i => (memOf w0 Z0 [] [] [(fDat (tyList tyStr) [v0_0] a0)])) (fun i => (tab [(6, v0_0), (7, (iq (a0.length : Int))), (8, (iq i))])) (fun q i => f_lumref_nameErr_L5 a0 kk2 fu q i = some r) ?_ fu (0 : Int) h) (fun w a hm hs => norm hm hs [] [0] [(6, v0_0), (7, (iq (a0.length : Int))), (8, (iq (0 : Int)))] (by decide) ⟨rfl, rfl, rfl, trivial⟩)
  clear h
  rintro k4 l3i8 h
  have h : f_lumref_nameErr_L5 a0 kk2 fu k4 l3i8 = some r := h
  obtain _ | k4 := k4
  · rw [f_lumref_nameErr_L5] at h; cases h
  rw [f_lumref_nameErr_L5] at h
  refine aw_show (m := (memOf w0 Z0 [] [] [(fDat (tyList tyStr) [v0_0] a0)])) (S := (tab [(6, v0_0), (7, (iq (a0.length : Int))), (8, (iq l3i8))])) ?_
  refine aw_sr ?_
  refine al_in rfl rfl rfl rfl ?_
  refine al_nt ?_
  refine aw_seq ?_
  refine aw_cond rfl (fun hb6 => ?_) (fun hb6 => ?_)
  ·replace h := bif_t hb6 h
   refine aw_skip ?_
   refine aq_then ?_
   refine aw_seq ?_
   refine aw_block ?_
   refine aw_sr ?_
   refine al_mv rfl rfl ?_
   obtain ⟨u7, hu8, h⟩ := opt_some h
   refine al_idxD 0 hu8 rfl rfl rfl Tryd.underlying22 sz9 rfl (fun p9 => ?_)
   refine al_val (ov_loadP (ds := [(str u7)]) 0 rfl (fun h => h) rfl Tryd.underlying9 sz9 rfl rfl rfl) ?_
   refine al_as rfl rfl ?_
   refine al_as rfl rfl ?_
   refine al_nt ?_
   refine aw_seq ?_
   refine aw_sr ?_
   refine al_mv rfl rfl ?_
   refine al_in rfl rfl rfl rfl ?_
   refine al_nt ?_
   refine aw_cond rfl (fun hb10 => ?_) (fun hb10 => ?_)
   ·replace h := bif_t hb10 h
    refine aw_sr ?_
    refine al_as rfl rfl ?_
    refine al_nt ?_
    refine aw_ret ?_
    refine aq_then_ret ?_
    refine aq_block_ret ?_
    refine aq_then_ret ?_
    refine aq_then_ret ?_
    refine aq_block_ret ?_
    refine aq_then_ret ?_
    obtain rfl := Option.some.inj h
    exact fn_ret () [] [] rfl rfl rfl rfl (res1 rfl rfl) rfl rfl rfl (by decide)
   ·replace h := bif_f hb10 h
    refine aw_skip ?_
    refine aq_tr ?_
    refine al_mv rfl rfl ?_
    obtain ⟨r12, hc11, h⟩ := opt_some h
    refine al_call (vs := [(str u7)]) (f_lumref_Name_ok fu u7 hc11) [] [] [] pre_nil rfl (by simp) (by decide) (.inl rfl) rfl Tryd.func80 rfl rfl rfl (fun _ => ?_)
    refine al_as rfl rfl ?_
    refine al_nt ?_
    refine aw_sr ?_
    refine al_mv rfl rfl ?_
    refine al_in rfl rfl rfl rfl ?_
    refine al_nt ?_
    refine aw_cond rfl (fun hb13 => ?_) (fun hb13 => ?_)
    ·replace h := bif_t hb13 h
     refine aw_sr ?_
     refine al_mv rfl rfl ?_
     refine al_as rfl rfl ?_
     refine al_nt ?_
     refine aw_ret ?_
     refine aq_block_ret ?_
     refine aq_then_ret ?_
     refine aq_then_ret ?_
     refine aq_block_ret ?_
     refine aq_then_ret ?_
     obtain rfl := Option.some.inj h
     exact fn_ret () [] [] rfl rfl rfl rfl (res1 rfl rfl) rfl rfl rfl (by decide)
    ·replace h := bif_f hb13 h
     refine aw_skip ?_
     refine aq_block ?_
     refine aq_then ?_
     refine aw_region ?_
     refine al_in rfl rfl rfl rfl ?_
     refine al_mv rfl rfl ?_
     refine al_nil ?_
     exact aq_again k4 (wq (l3i8 + (1 : Int))) (Nat.lt_succ_self _) h (fun w a hm hs => norm hm hs [] [1] [(6, v0_0), (7, (iq (a0.length : Int))), (8, (iq (wq (l3i8 + (1 : Int)))))] (by decide) ⟨rfl, rfl, rfl, trivial⟩)
  ·replace h := bif_f hb6 h
   refine aw_exit ?_
   refine aq_then_exit ?_
   refine aq_then_exit ?_
   refine aq_block_exit ?_
   exact aq_join () h (fun w a hm hs => norm hm hs [] [0] [] (by decide) trivial)
def f_lumref_Split (fu : Nat) (a0 : (List UInt8)) : Option ((List (List UInt8)) × Int) := (lt (fun (j1b12 : Bool) => (bif j1b12 then (some (([] : List (List UInt8)), (8 : Int))) else (bif (a0 == ([47] : List UInt8)) then (some (([] : List (List UInt8)), (0 : Int))) else (req (0 ≤ (1 : Int) ∧ (1 : Int) ≤ (a0.length : Int)) (opt (f_lumref_cutAt fu (a0.drop ((1 : Int)).toNat)) fun (r7 : (List (List UInt8))) => (opt (f_lumref_nameErr fu r7) fun (r10 : Int) => (bif (r10 != (0 : Int)) then (some (([] : List (List UInt8)), r10)) else (some (r7, (0 : Int)))))))))) fun (kk2 : Bool → Option ((List (List UInt8)) × Int)) => (bif (a0 == ([] : List UInt8)) then (kk2 true) else (req (0 ≤ (0 : Int) ∧ (0 : Int) < (a0.length : Int)) (kk2 ((En.bAt a0 (0 : Int)) != (47 : Int))))))
set_option maxHeartbeats 2000000 in
set_option maxRecDepth 100000 in
theorem f_lumref_Split_ok (fu : Nat) (a0 : (List UInt8)) {r : ((List (List UInt8)) × Int)} (h : f_lumref_Split fu a0 = some r) : FnOk Tryd.prog 23 [(str a0)] [] [] (fun (i : Value) => { val := (Value.tuple #[i, (int .i64 r.2)]), own := [(oRow i 9 tyStr r.1)] }) := by
 unfold f_lumref_Split at h
 refine fn_enter Tryd.func23 rfl Tryd.ntmps23 rfl (fun w0 Z0 => ?_)
 refine aw_sr ?_
 refine al_as rfl rfl ?_
 refine al_as rfl rfl ?_
 refine al_nt ?_
 refine aw_seq ?_
 obtain ⟨kk2, hkk2, h⟩ := lt_some h
 refine aw_seq_join (ι := Bool) (fun i => (memOf w0 Z0 [] [] [])) (fun i => (tab [(0, (str a0)), (12, (bool i))])) (fun i => kk2 i = some r) ?_ ?_
 ·rintro j1b12 h
  have h : kk2 j1b12 = some r := h
  rw [hkk2] at h
  dsimp only at h
  clear hkk2
  refine aw_show (m := (memOf w0 Z0 [] [] [])) (S := (tab [(0, (str a0)), (12, (bool j1b12))])) ?_
  refine aw_cond rfl (fun hb3 => ?_) (fun hb3 => ?_)
  ·replace h := bif_t hb3 h
   refine aw_sr ?_
   refine al_as rfl rfl ?_
   refine al_as rfl rfl ?_
   refine al_nt ?_
   refine aw_ret ?_
   refine aq_then_ret ?_
   refine aq_nilR 9 tyStr ?_
   obtain rfl := Option.some.inj h
   exact fn_ret nS [0] [] rfl rfl rfl rfl (res2 rfl rfl rfl) rfl rfl rfl (by decide)
  ·replace h := bif_f hb3 h
   refine aw_skip ?_
   refine aq_then ?_
   refine aw_seq ?_
   refine aw_sr ?_
   refine al_mv rfl rfl ?_
   refine al_val (ov_strCmp rfl rfl rfl rfl) ?_
   refine al_nt ?_
   refine aw_cond rfl (fun hb4 => ?_) (fun hb4 => ?_)
   ·replace h := bif_t hb4 h
    refine aw_sr ?_
    refine al_as rfl rfl ?_
    refine al_as rfl rfl ?_
    refine al_nt ?_
    refine aw_ret ?_
    refine aq_then_ret ?_
    refine aq_nilR 9 tyStr ?_
    obtain rfl := Option.some.inj h
    exact fn_ret nS [0] [] rfl rfl rfl rfl (res2 rfl rfl rfl) rfl rfl rfl (by decide)
   ·replace h := bif_f hb4 h
    refine aw_skip ?_
    refine aq_tr ?_
    refine al_mv rfl rfl ?_
    obtain ⟨hc5, h⟩ := req_some h
    refine al_val (ov_strFrom hc5.1 hc5.2 Tryd.underlying9 rfl rfl rfl) ?_
    obtain ⟨r7, hc6, h⟩ := opt_some h
    refine al_call (vs := [(str (a0.drop ((1 : Int)).toNat))]) (f_lumref_cutAt_ok fu (a0.drop ((1 : Int)).toNat) hc6) [] [] [] pre_nil rfl (by simp) (by decide) (.inl rfl) rfl Tryd.func26 rfl rfl rfl (fun v8 => ?_)
    refine al_as rfl rfl ?_
    refine al_nt ?_
    refine aw_seq ?_
    refine aw_sr ?_
    refine al_mv rfl rfl ?_
    obtain ⟨r10, hc9, h⟩ := opt_some h
    refine al_call (vs := [v8]) (f_lumref_nameErr_ok fu v8 r7 hc9) [0] [] [0] (pre_own 0 rfl rfl pre_nil) rfl (by simp) (by decide) (.inr flat_res0) rfl Tryd.func50 rfl rfl rfl (fun _ => ?_)
    refine al_as rfl rfl ?_
    refine al_nt ?_
    refine aw_sr ?_
    refine al_mv rfl rfl ?_
    refine al_in rfl rfl rfl rfl ?_
    refine al_nt ?_
    refine aw_cond rfl (fun hb11 => ?_) (fun hb11 => ?_)
    ·replace h := bif_t hb11 h
     refine aw_sr ?_
     refine al_mv rfl rfl ?_
     refine al_as rfl rfl ?_
     refine al_as rfl rfl ?_
     refine al_nt ?_
     refine aw_ret ?_
     refine aq_then_ret ?_
     refine aq_nilR 9 tyStr ?_
     obtain rfl := Option.some.inj h
     exact fn_ret nS [0] [] rfl rfl rfl rfl (res2 rfl rfl rfl) rfl rfl rfl (by decide)
    ·replace h := bif_f hb11 h
     refine aw_skip ?_
     refine aq_tr ?_
     refine al_mv rfl rfl ?_
     refine al_as rfl rfl ?_
     refine al_as rfl rfl ?_
     refine al_nt ?_
     refine aw_ret ?_
     obtain rfl := Option.some.inj h
     exact fn_ret v8 [0] [] rfl rfl rfl rfl (res2 rfl rfl rfl) rfl rfl rfl (by decide)
 ·clear hkk2
  refine aw_region ?_
  refine al_mv rfl rfl ?_
  refine al_val (ov_strCmp rfl rfl rfl rfl) ?_
  refine al_mv rfl rfl ?_
  refine al_caseB 8 rfl (fun hb12 => ?_) (fun hb12 => ?_)
  ·replace h := bif_t hb12 h
   refine al_skip ?_
   refine al_skip ?_
   refine al_skip ?_
   refine al_val (ov_pick_t rfl rfl rfl) ?_
   refine al_nil ?_
   exact aq_join true h (fun w a hm hs => norm hm hs [] [] [(0, (str a0)), (12, (bool true))] (by decide) ⟨rfl, rfl, trivial⟩)
  ·replace h := bif_f hb12 h
   refine al_mv rfl rfl ?_
   obtain ⟨hc13, h⟩ := req_some h
   refine al_val (ov_strIdx hc13.1 hc13.2 Tryd.underlying9 rfl rfl rfl) ?_
   refine al_in rfl rfl rfl rfl ?_
   refine al_val (ov_pick_f rfl rfl rfl) ?_
   refine al_nil ?_
   exact aq_join ((En.bAt a0 (0 : Int)) != (47 : Int)) h (fun w a hm hs => norm hm hs [] [] [(0, (str a0)), (12, (bool ((En.bAt a0 (0 : Int)) != (47 : Int))))] (by decide) ⟨rfl, rfl, trivial⟩)
def f_lumref_Fits_1 (fu : Nat) (a0 : Int) (a1 : (List (Option (List S_lumref_mark)))) : Option Bool := (opt (at? a1 a0) fun (u2 : (Option (List S_lumref_mark))) => (some (Option.isNone u2)))
set_option maxRecDepth 100000 in
theorem f_lumref_Fits_1_ok (fu : Nat) (a0 : Int) (c1 : Value) (a1 : (List (Option (List S_lumref_mark)))) {r : Bool} (h : f_lumref_Fits_1 fu a0 a1 = some r) : FnOk Tryd.prog 58 [(int .i64 a0), c1] [(fPtr (tyList (tyOpt tyS_lumref_mark)) c1 a1)] [] (fun (i : Unit) => { val := (bool r) }) := by
 unfold f_lumref_Fits_1 at h
 refine fn_enter Tryd.func58 rfl Tryd.ntmps58 rfl (fun w0 Z0 => ?_)
 refine aw_sr ?_
 refine al_as rfl rfl ?_
 refine al_nt ?_
 refine aw_sr ?_
 refine al_loadP1 0 rfl rfl Tryd.underlying27 sz27 rfl rfl rfl (fun s1 => ?_)
 refine al_mv rfl rfl ?_
 obtain ⟨u2, hu3, h⟩ := opt_some h
 refine al_idxD 0 hu3 rfl rfl rfl Tryd.underlying27 sz56 rfl (fun p4 => ?_)
 refine al_loadP1 0 rfl rfl Tryd.underlying56 sz56 rfl rfl rfl (fun s5 => ?_)
 refine al_optL 0 rfl ?_
 refine al_val (ov_isNilO 1 rfl rfl rfl Tryd.underlying56 rfl) ?_
 refine al_as rfl rfl ?_
 refine al_nt ?_
 refine aw_ret ?_
 obtain rfl := Option.some.inj h
 exact fn_ret () [] [] rfl rfl rfl rfl (res1 rfl rfl) rfl rfl rfl (by decide)
def f_lumref_partFits_1 (fu : Nat) (a0 : Int) (a1 : (List S_lumref_mark)) : Option Bool := (opt (at? a1 a0) fun (u2 : S_lumref_mark) => (some u2.star))
set_option maxRecDepth 100000 in
theorem f_lumref_partFits_1_ok (fu : Nat) (a0 : Int) (c1 : Value) (a1 : (List S_lumref_mark)) {r : Bool} (h : f_lumref_partFits_1 fu a0 a1 = some r) : FnOk Tryd.prog 84 [(int .i64 a0), c1] [(fPtr (tyList tyS_lumref_mark) c1 a1)] [] (fun (i : Unit) => { val := (bool r) }) := by
 unfold f_lumref_partFits_1 at h
 refine fn_enter Tryd.func84 rfl Tryd.ntmps84 rfl (fun w0 Z0 => ?_)
 refine aw_sr ?_
 refine al_as rfl rfl ?_
 refine al_nt ?_
 refine aw_sr ?_
 refine al_loadP1 0 rfl rfl Tryd.underlying56 sz56 rfl rfl rfl (fun s1 => ?_)
 refine al_mv rfl rfl ?_
 obtain ⟨u2, hu3, h⟩ := opt_some h
 refine al_idxD 0 hu3 rfl rfl rfl Tryd.underlying56 sz92 rfl (fun p4 => ?_)
 refine al_fieldD (pr := fun (y : S_lumref_mark) => y.star) 0 rfl subS_lumref_mark_0 rfl Tryd.underlying92 rfl sz4 rfl rfl (fun p5 => ?_)
 refine al_val (ov_loadP (ds := [(bool u2.star)]) 0 rfl (fun h => h) rfl Tryd.underlying4 sz4 rfl rfl rfl) ?_
 refine al_as rfl rfl ?_
 refine al_nt ?_
 refine aw_ret ?_
 obtain rfl := Option.some.inj h
 exact fn_ret () [] [] rfl rfl rfl rfl (res1 rfl rfl) rfl rfl rfl (by decide)
def f_lumref_partFits_2 (fu : Nat) (a0 : Int) (a1 : Int) (a2 : (List S_lumref_mark)) (a3 : (List Int)) : Option Bool := (opt (at? a2 a0) fun (u2 : S_lumref_mark) => (opt (at? a3 a1) fun (u8 : Int) => (match u2.ok with | .nil => none | .c53 b13 => (opt (f_lumref_marks_1 fu u8 b13) fun (r17 : Bool) => (some r17)) | .c54 => (opt (f_lumref_marks_2 fu u8) fun (r20 : Bool) => (some r20)) | .c56 b21 => (opt (f_lumref_marks_3 fu u8 b21) fun (r25 : Bool) => (some r25)) | .c83 b26 b27 b28 => (opt (f_lumref_class_1 fu u8 b26 b27 b28) fun (r34 : Bool) => (some r34)))))
set_option maxHeartbeats 2000000 in
set_option maxRecDepth 100000 in
theorem f_lumref_partFits_2_ok (fu : Nat) (a0 : Int) (a1 : Int) (c2 : Value) (a2 : (List S_lumref_mark)) (c3 : Value) (a3 : (List Int)) {r : Bool} (h : f_lumref_partFits_2 fu a0 a1 a2 a3 = some r) : FnOk Tryd.prog 85 [(int .i64 a0), (int .i64 a1), c2, c3] [(fPtr (tyList tyS_lumref_mark) c2 a2), (fPtr (tyList (tyInt .i64)) c3 a3)] [] (fun (i : Unit) => { val := (bool r) }) := by
 unfold f_lumref_partFits_2 at h
 refine fn_enter Tryd.func85 rfl Tryd.ntmps85 rfl (fun w0 Z0 => ?_)
 refine aw_sr ?_
 refine al_as rfl rfl ?_
 refine al_nt ?_
 refine aw_seq ?_
 obtain ⟨u2, hu3, h⟩ := opt_some h
 obtain ⟨u8, hu9, h⟩ := opt_some h
 refine aw_region_draw 9 [(7, (fun s1 => (fDat (tyList tyS_lumref_mark) [s1] a2))), (8, (fun u => fEq u (iq a0))), (9, (fun p4 => (fPtr tyS_lumref_mark p4 u2))), (10, (fun p5 => (fPtr tyC74 p5 u2.ok))), (11, (fun s6 => (fDat tyC74 [s6] u2.ok))), (12, (fun s7 => (fDat (tyList tq) [s7] a3))), (13, (fun u => fEq u (iq a1))), (14, (fun p10 => (fPtr tq p10 u8))), (15, (fun u => fEq u (iq u8)))] (tab [(0, (iq a0)), (1, (iq a1)), (2, c2), (3, c3), (6, (bool false))]) mixed (by kernel_rfl) rfl rfl rfl (fun a hs => hs.tab _ (allT_mem ⟨rfl, rfl, rfl, rfl, rfl, trivial⟩)) ⟨⟨rfl, ld_of (of_loadP1 0 rfl rfl Tryd.underlying56 sz56 rfl rfl rfl)⟩, ⟨rfl, ld_val (ov_move rfl rfl)⟩, ⟨rfl, ld_fact (j := 0) rfl rfl (fun s1 => ld_eq (j := 1) rfl rfl (ld_of (of_idxD 0 hu3 rfl rfl rfl Tryd.underlying56 sz92 rfl)))⟩, ⟨rfl, ld_fact (j := 2) rfl rfl (fun p4 => ld_of (of_fieldD (pr := fun (y : S_lumref_mark) => y.ok) 0 rfl subS_lumref_mark_1 rfl Tryd.underlying92 rfl sz74 rfl rfl))⟩, ⟨rfl, ld_fact (j := 3) rfl rfl (fun p5 => ld_of (of_loadP1 0 rfl rfl Tryd.underlying74 sz74 rfl rfl rfl))⟩, ⟨rfl, ld_of (of_loadP1 1 rfl rfl Tryd.underlying52 sz52 rfl rfl rfl)⟩, ⟨rfl, ld_val (ov_move rfl rfl)⟩, ⟨rfl, ld_fact (j := 5) rfl rfl (fun s7 => ld_eq (j := 6) rfl rfl (ld_of (of_idxD 0 hu9 rfl rfl rfl Tryd.underlying52 sz3 rfl)))⟩, ⟨rfl, ld_fact (j := 7) rfl rfl (fun p10 => ld_val (ov_loadP (ds := [(iq u8)]) 0 rfl (fun h => h) rfl Tryd.underlying3 sz3 rfl rfl rfl))⟩, trivial⟩ ?_
 refine tl_fact 4 rfl (fun s6 => ?_)
 refine tl_eq 8 rfl ?_
 refine tl_done ?_
 revert h
 generalize u2.ok = cx11
 intro h
 cases cx11 with
 | nil => cases h
 | c53 b13 =>
   dsimp only at h
   refine al_use 0 rfl _ _ useC74_53 ?_
   rintro p14 hv15
   refine al_recast (d := 11) (v' := (Value.func (.func 53) #[] #[p14])) rfl hv15 ?_
   obtain ⟨r17, hc16, h⟩ := opt_some h
   refine al_callF (vs := [(iq u8)]) (caps := [p14]) (f_lumref_marks_1_ok fu u8 p14 b13 hc16) rfl [] [] [] (pre_fz 0 rfl pre_nil) rfl (by simp) (by decide) (.inl rfl) rfl rfl Tryd.func53 rfl rfl rfl (fun _ => ?_)
   refine al_as rfl rfl ?_
   refine al_nt ?_
   refine aw_ret ?_
   obtain rfl := Option.some.inj h
   exact fn_ret () [] [] rfl rfl rfl rfl (res1 rfl rfl) rfl rfl rfl (by decide)
 | c54 =>
   dsimp only at h
   refine al_use 0 rfl _ _ useC74_54 ?_
   rintro _ hv18
   refine al_recast (d := 11) (v' := (fq 54)) rfl hv18 ?_
   obtain ⟨r20, hc19, h⟩ := opt_some h
   refine al_callF (vs := [(iq u8)]) (caps := []) (f_lumref_marks_2_ok fu u8 hc19) rfl [] [] [] pre_nil rfl (by simp) (by decide) (.inl rfl) rfl rfl Tryd.func54 rfl rfl rfl (fun _ => ?_)
   refine al_as rfl rfl ?_
   refine al_nt ?_
   refine aw_ret ?_
   obtain rfl := Option.some.inj h
   exact fn_ret () [] [] rfl rfl rfl rfl (res1 rfl rfl) rfl rfl rfl (by decide)
 | c56 b21 =>
   dsimp only at h
   refine al_use 0 rfl _ _ useC74_56 ?_
   rintro p22 hv23
   refine al_recast (d := 11) (v' := (Value.func (.func 56) #[] #[p22])) rfl hv23 ?_
   obtain ⟨r25, hc24, h⟩ := opt_some h
   refine al_callF (vs := [(iq u8)]) (caps := [p22]) (f_lumref_marks_3_ok fu u8 p22 b21 hc24) rfl [] [] [] (pre_fz 0 rfl pre_nil) rfl (by simp) (by decide) (.inl rfl) rfl rfl Tryd.func56 rfl rfl rfl (fun _ => ?_)
   refine al_as rfl rfl ?_
   refine al_nt ?_
   refine aw_ret ?_
   obtain rfl := Option.some.inj h
   exact fn_ret () [] [] rfl rfl rfl rfl (res1 rfl rfl) rfl rfl rfl (by decide)
 | c83 b26 b27 b28 =>
   dsimp only at h
   refine al_use 0 rfl _ _ useC74_83 ?_
   rintro ⟨p29, p30, p31⟩ hv32
   refine al_recast (d := 11) (v' := (Value.func (.func 83) #[] #[p29, p30, p31])) rfl hv32 ?_
   obtain ⟨r34, hc33, h⟩ := opt_some h
   refine al_callF (vs := [(iq u8)]) (caps := [p29, p30, p31]) (f_lumref_class_1_ok fu u8 p29 b26 p30 b27 p31 b28 hc33) rfl [] [] [] (pre_fz 0 rfl (pre_fz 1 rfl (pre_fz 2 rfl pre_nil))) rfl (by simp) (by decide) (.inl rfl) rfl rfl Tryd.func83 rfl rfl rfl (fun _ => ?_)
   refine al_as rfl rfl ?_
   refine al_nt ?_
   refine aw_ret ?_
   obtain rfl := Option.some.inj h
   exact fn_ret () [] [] rfl rfl rfl rfl (res1 rfl rfl) rfl rfl rfl (by decide)
-- STUCK lumberroom/lumref.table: lty ['func', [3, 3], [4], False]
def f_lumref_table_F84_F85_L26 (a0 : Int) (a2_0 : (List S_lumref_mark)) (a3_0 : (List S_lumref_mark)) (a3_1 : (List Int)) (l13x9 : (List Bool)) (l13i19 : Int) (kk23 : ((List Bool) → Option Bool)) (fu : Nat) : Nat → (List Bool) → Int → Option Bool
  | 0, _, _ => none
  | k25 + 1, l24x11, l24i27 => (bif (decide (l24i27 < (IntKind.i64.wrap (a0 + (1 : Int))))) then (lt (fun (j28x11 : (List Bool)) => (f_lumref_table_F84_F85_L26 a0 a2_0 a3_0 a3_1 l13x9 l13i19 kk23 fu k25 j28x11 (IntKind.i64.wrap (l24i27 + (1 : Int))))) fun (kk29 : (List Bool) → Option Bool) => (opt (f_lumref_partFits_1 fu l13i19 a2_0) fun (r31 : Bool) => (bif r31 then (opt (at? l13x9 l24i27) fun (u33 : Bool) => (bif u33 then (opt (at? l24x11 l24i27) fun (u38 : Bool) => (kk29 (l24x11.set (l24i27).toNat true))) else (bif (decide (l24i27 > (0 : Int))) then (opt (at? l24x11 (IntKind.i64.wrap (l24i27 - (1 : Int)))) fun (u43 : Bool) => (opt (at? l24x11 l24i27) fun (u47 : Bool) => (kk29 (l24x11.set (l24i27).toNat u43)))) else (opt (at? l24x11 l24i27) fun (u51 : Bool) => (kk29 (l24x11.set (l24i27).toNat false)))))) else (bif (decide (l24i27 > (0 : Int))) then (opt (at? l13x9 (IntKind.i64.wrap (l24i27 - (1 : Int)))) fun (u56 : Bool) => (bif u56 then (opt (f_lumref_partFits_2 fu l13i19 (IntKind.i64.wrap (l24i27 - (1 : Int))) a3_0 a3_1) fun (r62 : Bool) => (opt (at? l24x11 l24i27) fun (u63 : Bool) => (kk29 (l24x11.set (l24i27).toNat r62)))) else (opt (at? l24x11 l24i27) fun (u67 : Bool) => (kk29 (l24x11.set (l24i27).toNat false))))) else (opt (at? l24x11 l24i27) fun (u71 : Bool) => (kk29 (l24x11.set (l24i27).toNat false))))))) else (kk23 l24x11))
def f_lumref_table_F84_F85_L15 (a0 : Int) (a1 : Int) (a2_0 : (List S_lumref_mark)) (a3_0 : (List S_lumref_mark)) (a3_1 : (List Int)) (kk8 : ((List Bool) → Option Bool)) (fu : Nat) : Nat → (List Bool) → Int → Option Bool
  | 0, _, _ => none
  | k14 + 1, l13x9, l13i19 => (lt (fun (l13x9 : (List Bool)) (l13i19 : Int) => (f_lumref_table_F84_F85_L15 a0 a1 a2_0 a3_0 a3_1 kk8 fu k14 l13x9 l13i19)) fun (kk16 : (List Bool) → Int → Option Bool) => (bif (decide (l13i19 < a1)) then (lt (fun (j18x9 : (List Bool)) => (kk16 j18x9 (IntKind.i64.wrap (l13i19 + (1 : Int))))) fun (kk19 : (List Bool) → Option Bool) => (req (0 ≤ (IntKind.i64.wrap (a0 + (1 : Int))) ∧ 1 * (IntKind.i64.wrap (a0 + (1 : Int))) ≤ 281474976710656 ∧ (IntKind.i64.wrap (a0 + (1 : Int))) ≤ 9223372036854775807) (lt (fun (j22x11 : (List Bool)) => (kk19 j22x11)) fun (kk23 : (List Bool) → Option Bool) => (f_lumref_table_F84_F85_L26 a0 a2_0 a3_0 a3_1 l13x9 l13i19 kk23 fu fu (List.replicate ((IntKind.i64.wrap (a0 + (1 : Int)))).toNat false) (0 : Int))))) else (kk8 l13x9)))
def f_lumref_table_F84_F85 (fu : Nat) (a0 : Int) (a1 : Int) (a2_0 : (List S_lumref_mark)) (a3_0 : (List S_lumref_mark)) (a3_1 : (List Int)) : Option Bool := (req (0 ≤ (IntKind.i64.wrap (a0 + (1 : Int))) ∧ 1 * (IntKind.i64.wrap (a0 + (1 : Int))) ≤ 281474976710656 ∧ (IntKind.i64.wrap (a0 + (1 : Int))) ≤ 9223372036854775807) (opt (at? (List.replicate ((IntKind.i64.wrap (a0 + (1 : Int)))).toNat false) (0 : Int)) fun (u3 : Bool) => (lt (fun (j7x9 : (List Bool)) => (opt (at? j7x9 a0) fun (u9 : Bool) => (some u9))) fun (kk8 : (List Bool) → Option Bool) => (f_lumref_table_F84_F85_L15 a0 a1 a2_0 a3_0 a3_1 kk8 fu fu ((List.replicate ((IntKind.i64.wrap (a0 + (1 : Int)))).toNat false).set ((0 : Int)).toNat true) (0 : Int)))))
set_option maxRecDepth 100000 in
set_option maxHeartbeats 2000000 in
set_option maxHeartbeats 2000000 in
theorem f_lumref_table_F84_F85_ok (fu : Nat) (a0 : Int) (a1 : Int) (c2_0 : Value) (a2_0 : (List S_lumref_mark)) (c3_0 : Value) (a3_0 : (List S_lumref_mark)) (c3_1 : Value) (a3_1 : (List Int)) {r : Bool} (h : f_lumref_table_F84_F85 fu a0 a1 a2_0 a3_0 a3_1 = some r) : FnOk Tryd.prog 57 [(int .i64 a0), (int .i64 a1), (Value.func (.func 84) #[] #[c2_0]), (Value.func (.func 85) #[] #[c3_0, c3_1])] [(fPtr (tyList tyS_lumref_mark) c2_0 a2_0), (fPtr (tyList tyS_lumref_mark) c3_0 a3_0), (fPtr (tyList (tyInt .i64)) c3_1 a3_1)] [] (fun (i : Unit) => { val := (bool r) }) := by
 unfold f_lumref_table_F84_F85 at h
 refine fn_enter Tryd.func57 rfl Tryd.ntmps57 rfl (fun w0 Z0 => ?_)
 refine aw_sr ?_
 refine al_as rfl rfl ?_
 refine al_nt ?_
 refine aw_sr ?_
 refine al_mv rfl rfl ?_
 refine al_in rfl rfl rfl rfl ?_
 obtain ⟨hc1, h⟩ := req_some h
 refine al_make (τ := tyBool) (x0 := false) hc1.1 hc1.2.1 hc1.2.2 rfl rfl Tryd.underlying131 to4 (fun _ _ => rfl) rfl rfl (fun v2 => ?_)
 refine al_as rfl rfl ?_
 refine al_nt ?_
 refine aw_sr ?_
 refine al_mv rfl rfl ?_
 obtain ⟨u3, hu4, h⟩ := opt_some h
 refine al_idxR 0 (at_some hu4).1 (at_some hu4).2.1 rfl rfl rfl Tryd.underlying131 sz4 rfl (fun p5 hp6 => ?_)
 refine al_storeR (k := ((0 : Int)).toNat) (x := true) (vs := [(bool true)]) 0 rfl hp6 (idx_lt hu4) rfl rfl (cv_rfl rfl) (fun _ => rfl) sz4 rfl ?_
 refine al_nt ?_
 obtain ⟨kk8, hkk8, h⟩ := lt_some h
 refine aw_seq_join (ι := Value × (List Bool)) (fun i => (memOf w0 Z0 [] [(oRow i.1 4 tyBool i.2)] [(fPtr (tyList tyS_lumref_mark) c2_0 a2_0), (fPtr (tyList tyS_lumref_mark) c3_0 a3_0), (fPtr (tyList tq) c3_1 a3_1)])) (fun i => (tab [(0, (iq a0)), (9, i.1)])) (fun i => kk8 i.2 = some r) ?_ ?_
 ·rintro ⟨j7v9, j7x9⟩ h
  have h : kk8 j7x9 = some r := h
  rw [hkk8] at h
  dsimp only at h
  clear hkk8
  refine aw_show (m := (memOf w0 Z0 [] [(oRow j7v9 4 tyBool j7x9)] [(fPtr (tyList tyS_lumref_mark) c2_0 a2_0), (fPtr (tyList tyS_lumref_mark) c3_0 a3_0), (fPtr (tyList tq) c3_1 a3_1)])) (S := (tab [(0, (iq a0)), (9, j7v9)])) ?_
  refine aw_sr ?_
  refine al_mv rfl rfl ?_
  refine al_mv rfl rfl ?_
  obtain ⟨u9, hu10, h⟩ := opt_some h
  refine al_idxR 0 (at_some hu10).1 (at_some hu10).2.1 rfl rfl rfl Tryd.underlying131 sz4 rfl (fun p11 hp12 => ?_)
  refine al_val (ov_loadR (ds := [(bool u9)]) 0 rfl hp12 (at_some hu10).2.2 (fun h => h) rfl Tryd.underlying4 sz4 rfl rfl rfl) ?_
  refine al_as rfl rfl ?_
  refine al_nt ?_
  refine aw_ret ?_
  obtain rfl := Option.some.inj h
  exact fn_ret () [] [] rfl rfl rfl rfl (res1 rfl rfl) rfl rfl rfl (by decide)
 ·clear hkk8
  refine aw_sr ?_
  refine al_mv rfl rfl ?_
  refine al_mv rfl rfl ?_
  refine al_nt ?_
  refine aw_block ?_
  refine aw_state (aw_loop (ι := Value × (List Bool) × Int) (fun i => (memOf w0 Z0 [] [(oRow i.1 4 tyBool i.2.1)] [(fPtr (tyList tyS_lumref_mark) c2_0 a2_0), (fPtr (tyList tyS_lumref_mark) c3_0 a3_0), (fPtr (tyList tq) c3_1 a3_1)])) (fun i => (tab [(0, (iq a0)), (2, (Value.func (.func 84) #[] #[c2_0])), (3, (Value.func (.func 85) #[] #[c3_0, c3_1])), (9, i.1), (18, (iq a1)), (19, (iq i.2.2))])) (fun q i => f_lumref_table_F84_F85_L15 a0 a1 a2_0 a3_0 a3_1 kk8 fu q i.2.1 i.2.2 = some r) ?_ fu (v2, ((List.replicate ((wq (a0 + (1 : Int)))).toNat false).set ((0 : Int)).toNat true), (0 : Int)) h) (fun w a hm hs => norm hm hs [0] [0, 1, 2] [(0, (iq a0)), (2, (Value.func (.func 84) #[] #[c2_0])), (3, (Value.func (.func 85) #[] #[c3_0, c3_1])), (9, v2), (18, (iq a1)), (19, (iq (0 : Int)))] (by decide) ⟨rfl, rfl, rfl, rfl, rfl, rfl, trivial⟩)
  clear h
  rintro k14 ⟨l13v9, l13x9, l13i19⟩ h
  have h : f_lumref_table_F84_F85_L15 a0 a1 a2_0 a3_0 a3_1 kk8 fu k14 l13x9 l13i19 = some r := h
  obtain _ | k14 := k14
  · rw [f_lumref_table_F84_F85_L15] at h; cases h
  rw [f_lumref_table_F84_F85_L15] at h
  refine aw_show (m := (memOf w0 Z0 [] [(oRow l13v9 4 tyBool l13x9)] [(fPtr (tyList tyS_lumref_mark) c2_0 a2_0), (fPtr (tyList tyS_lumref_mark) c3_0 a3_0), (fPtr (tyList tq) c3_1 a3_1)])) (S := (tab [(0, (iq a0)), (2, (Value.func (.func 84) #[] #[c2_0])), (3, (Value.func (.func 85) #[] #[c3_0, c3_1])), (9, l13v9), (18, (iq a1)), (19, (iq l13i19))])) ?_
  obtain ⟨kk16, hkk16, h⟩ := lt_some h
  refine aw_body_join (ι := Value × (List Bool) × Int) (fun i => (memOf w0 Z0 [] [(oRow i.1 4 tyBool i.2.1)] [(fPtr (tyList tyS_lumref_mark) c2_0 a2_0), (fPtr (tyList tyS_lumref_mark) c3_0 a3_0), (fPtr (tyList tq) c3_1 a3_1)])) (fun i => (tab [(0, (iq a0)), (2, (Value.func (.func 84) #[] #[c2_0])), (3, (Value.func (.func 85) #[] #[c3_0, c3_1])), (9, i.1), (18, (iq a1)), (19, (iq i.2.2))])) (fun i => kk16 i.2.1 i.2.2 = some r) (fun i h => aq_again k14 i (Nat.lt_succ_self _) (by rw [hkk16] at h; exact h) (fun w a hm hs => ⟨hm, hs⟩)) ?_
  clear hkk16
  refine aw_sr ?_
  refine al_in rfl rfl rfl rfl ?_
  refine al_nt ?_
  refine aw_seq ?_
  refine aw_cond rfl (fun hb17 => ?_) (fun hb17 => ?_)
  ·replace h := bif_t hb17 h
   refine aw_skip ?_
   refine aq_then ?_
   obtain ⟨kk19, hkk19, h⟩ := lt_some h
   refine aw_seq_join (ι := Value × (List Bool)) (fun i => (memOf w0 Z0 [] [(oRow i.1 4 tyBool i.2)] [(fPtr (tyList tyS_lumref_mark) c2_0 a2_0), (fPtr (tyList tyS_lumref_mark) c3_0 a3_0), (fPtr (tyList tq) c3_1 a3_1)])) (fun i => (tab [(0, (iq a0)), (2, (Value.func (.func 84) #[] #[c2_0])), (3, (Value.func (.func 85) #[] #[c3_0, c3_1])), (9, i.1), (18, (iq a1)), (19, (iq l13i19))])) (fun i => kk19 i.2 = some r) ?_ ?_
   ·rintro ⟨j18v9, j18x9⟩ h
    have h : kk19 j18x9 = some r := h
    rw [hkk19] at h
    dsimp only at h
    clear hkk19
    refine aw_show (m := (memOf w0 Z0 [] [(oRow j18v9 4 tyBool j18x9)] [(fPtr (tyList tyS_lumref_mark) c2_0 a2_0), (fPtr (tyList tyS_lumref_mark) c3_0 a3_0), (fPtr (tyList tq) c3_1 a3_1)])) (S := (tab [(0, (iq a0)), (2, (Value.func (.func 84) #[] #[c2_0])), (3, (Value.func (.func 85) #[] #[c3_0, c3_1])), (9, j18v9), (18, (iq a1)), (19, (iq l13i19))])) ?_
    refine aw_region ?_
    refine al_in rfl rfl rfl rfl ?_
    refine al_mv rfl rfl ?_
    refine al_nil ?_
    exact aq_join (j18v9, j18x9, (wq (l13i19 + (1 : Int)))) h (fun w a hm hs => norm hm hs [0] [0, 1, 2] [(0, (iq a0)), (2, (Value.func (.func 84) #[] #[c2_0])), (3, (Value.func (.func 85) #[] #[c3_0, c3_1])), (9, j18v9), (18, (iq a1)), (19, (iq (wq (l13i19 + (1 : Int)))))] (by decide) ⟨rfl, rfl, rfl, rfl, rfl, rfl, trivial⟩)
   ·clear hkk19
    refine aw_block ?_
    refine aw_sr ?_
    refine al_mv rfl rfl ?_
    refine al_as rfl rfl ?_
    refine al_nt ?_
    refine aw_sr ?_
    refine al_mv rfl rfl ?_
    refine al_in rfl rfl rfl rfl ?_
    obtain ⟨hc20, h⟩ := req_some h
    refine al_make (τ := tyBool) (x0 := false) hc20.1 hc20.2.1 hc20.2.2 rfl rfl Tryd.underlying131 to4 (fun _ _ => rfl) rfl rfl (fun v21 => ?_)
    refine al_as rfl rfl ?_
    refine al_nt ?_
    obtain ⟨kk23, hkk23, h⟩ := lt_some h
    refine aw_seq_join (ι := (List Bool)) (fun i => (memOf w0 Z0 [] [(oRow v21 4 tyBool i)] [(fPtr (tyList tyS_lumref_mark) c2_0 a2_0), (fPtr (tyList tyS_lumref_mark) c3_0 a3_0), (fPtr (tyList tq) c3_1 a3_1)])) (fun i => (tab [(0, (iq a0)), (2, (Value.func (.func 84) #[] #[c2_0])), (3, (Value.func (.func 85) #[] #[c3_0, c3_1])), (11, v21), (18, (iq a1)), (19, (iq l13i19))])) (fun i => kk23 i = some r) ?_ ?_
    ·rintro j22x11 h
     have h : kk23 j22x11 = some r := h
     rw [hkk23] at h
     dsimp only at h
     clear hkk23
     refine aw_show (m := (memOf w0 Z0 [] [(oRow v21 4 tyBool j22x11)] [(fPtr (tyList tyS_lumref_mark) c2_0 a2_0), (fPtr (tyList tyS_lumref_mark) c3_0 a3_0), (fPtr (tyList tq) c3_1 a3_1)])) (S := (tab [(0, (iq a0)), (2, (Value.func (.func 84) #[] #[c2_0])), (3, (Value.func (.func 85) #[] #[c3_0, c3_1])), (11, v21), (18, (iq a1)), (19, (iq l13i19))])) ?_
     refine aw_region ?_
     refine al_mv rfl rfl ?_
     refine al_as rfl rfl ?_
     refine al_nil ?_
     refine aq_block ?_
     exact aq_join (v21, j22x11) h (fun w a hm hs => norm hm hs [0] [0, 1, 2] [(0, (iq a0)), (2, (Value.func (.func 84) #[] #[c2_0])), (3, (Value.func (.func 85) #[] #[c3_0, c3_1])), (9, v21), (18, (iq a1)), (19, (iq l13i19))] (by decide) ⟨rfl, rfl, rfl, rfl, rfl, rfl, trivial⟩)
    ·clear hkk23
     refine aw_sr ?_
     refine al_mv rfl rfl ?_
     refine al_in rfl rfl rfl rfl ?_
     refine al_mv rfl rfl ?_
     refine al_nt ?_
     refine aw_block ?_
     refine aw_state (aw_loop (ι := (List Bool) × Int) (fun i => (memOf w0 Z0 [] [(oRow l13v9 4 tyBool l13x9), (oRow v21 4 tyBool i.1)] [(fPtr (tyList tyS_lumref_mark) c2_0 a2_0), (fPtr (tyList tyS_lumref_mark) c3_0 a3_0), (fPtr (tyList tq) c3_1 a3_1)])) (fun i => (tab [(0, (iq a0)), (2, (Value.func (.func 84) #[] #[c2_0])), (3, (Value.func (.func 85) #[] #[c3_0, c3_1])), (9, l13v9), (10, (iq l13i19)), (11, v21), (18, (iq a1)), (19, (iq l13i19)), (26, (iq (wq (a0 + (1 : Int))))), (27, (iq i.2))])) (fun q i => f_lumref_table_F84_F85_L26 a0 a2_0 a3_0 a3_1 l13x9 l13i19 kk23 fu q i.1 i.2 = some r) ?_ fu ((List.replicate ((wq (a0 + (1 : Int)))).toNat false), (0 : Int)) h) (fun w a hm hs => norm hm hs [1, 0] [0, 1, 2] [(0, (iq a0)), (2, (Value.func (.func 84) #[] #[c2_0])), (3, (Value.func (.func 85) #[] #[c3_0, c3_1])), (9, l13v9), (10, (iq l13i19)), (11, v21), (18, (iq a1)), (19, (iq l13i19)), (26, (iq (wq (a0 + (1 : Int))))), (27, (iq (0 : Int)))] (by decide) ⟨rfl, rfl, rfl, rfl, rfl, rfl, rfl, rfl, rfl, rfl, trivial⟩)
     clear h
     rintro k25 ⟨l24x11, l24i27⟩ h
     have h : f_lumref_table_F84_F85_L26 a0 a2_0 a3_0 a3_1 l13x9 l13i19 kk23 fu k25 l24x11 l24i27 = some r := h
     obtain _ | k25 := k25
     · rw [f_lumref_table_F84_F85_L26] at h; cases h
     rw [f_lumref_table_F84_F85_L26] at h
     refine aw_show (m := (memOf w0 Z0 [] [(oRow l13v9 4 tyBool l13x9), (oRow v21 4 tyBool l24x11)] [(fPtr (tyList tyS_lumref_mark) c2_0 a2_0), (fPtr (tyList tyS_lumref_mark) c3_0 a3_0), (fPtr (tyList tq) c3_1 a3_1)])) (S := (tab [(0, (iq a0)), (2, (Value.func (.func 84) #[] #[c2_0])), (3, (Value.func (.func 85) #[] #[c3_0, c3_1])), (9, l13v9), (10, (iq l13i19)), (11, v21), (18, (iq a1)), (19, (iq l13i19)), (26, (iq (wq (a0 + (1 : Int))))), (27, (iq l24i27))])) ?_
     refine aw_sr ?_
     refine al_in rfl rfl rfl rfl ?_
     refine al_nt ?_
     refine aw_seq ?_
     refine aw_cond rfl (fun hb27 => ?_) (fun hb27 => ?_)
     ·replace h := bif_t hb27 h
      refine aw_skip ?_
      refine aq_then ?_
      obtain ⟨kk29, hkk29, h⟩ := lt_some h
      refine aw_seq_join (ι := (List Bool)) (fun i => (memOf w0 Z0 [] [(oRow l13v9 4 tyBool l13x9), (oRow v21 4 tyBool i)] [(fPtr (tyList tyS_lumref_mark) c2_0 a2_0), (fPtr (tyList tyS_lumref_mark) c3_0 a3_0), (fPtr (tyList tq) c3_1 a3_1)])) (fun i => (tab [(0, (iq a0)), (2, (Value.func (.func 84) #[] #[c2_0])), (3, (Value.func (.func 85) #[] #[c3_0, c3_1])), (9, l13v9), (10, (iq l13i19)), (11, v21), (18, (iq a1)), (19, (iq l13i19)), (26, (iq (wq (a0 + (1 : Int))))), (27, (iq l24i27))])) (fun i => kk29 i = some r) ?_ ?_
      ·rintro j28x11 h
       have h : kk29 j28x11 = some r := h
       rw [hkk29] at h
       dsimp only at h
       clear hkk29
       refine aw_show (m := (memOf w0 Z0 [] [(oRow l13v9 4 tyBool l13x9), (oRow v21 4 tyBool j28x11)] [(fPtr (tyList tyS_lumref_mark) c2_0 a2_0), (fPtr (tyList tyS_lumref_mark) c3_0 a3_0), (fPtr (tyList tq) c3_1 a3_1)])) (S := (tab [(0, (iq a0)), (2, (Value.func (.func 84) #[] #[c2_0])), (3, (Value.func (.func 85) #[] #[c3_0, c3_1])), (9, l13v9), (10, (iq l13i19)), (11, v21), (18, (iq a1)), (19, (iq l13i19)), (26, (iq (wq (a0 + (1 : Int))))), (27, (iq l24i27))])) ?_
       refine aw_region ?_
       refine al_in rfl rfl rfl rfl ?_
       refine al_mv rfl rfl ?_
       refine al_nil ?_
       exact aq_again k25 (j28x11, (wq (l24i27 + (1 : Int)))) (Nat.lt_succ_self _) h (fun w a hm hs => norm hm hs [0, 1] [0, 1, 2] [(0, (iq a0)), (2, (Value.func (.func 84) #[] #[c2_0])), (3, (Value.func (.func 85) #[] #[c3_0, c3_1])), (9, l13v9), (10, (iq l13i19)), (11, v21), (18, (iq a1)), (19, (iq l13i19)), (26, (iq (wq (a0 + (1 : Int))))), (27, (iq (wq (l24i27 + (1 : Int)))))] (by decide) ⟨rfl, rfl, rfl, rfl, rfl, rfl, rfl, rfl, rfl, rfl, trivial⟩)
      ·clear hkk29
       refine aw_block ?_
       refine aw_sr ?_
       refine al_mv rfl rfl ?_
       refine al_as rfl rfl ?_
       refine al_nt ?_
       refine aw_sr ?_
       refine al_mv rfl rfl ?_
       refine al_mv rfl rfl ?_
       obtain ⟨r31, hc30, h⟩ := opt_some h
       refine al_callF (vs := [(iq l13i19)]) (caps := [c2_0]) (f_lumref_partFits_1_ok fu l13i19 c2_0 a2_0 hc30) rfl [] [] [0, 1] (pre_fz 0 rfl pre_nil) rfl (by simp) (by decide) (.inl rfl) rfl rfl Tryd.func84 rfl rfl rfl (fun _ => ?_)
       refine al_nt ?_
       refine aw_cond rfl (fun hb32 => ?_) (fun hb32 => ?_)
       ·replace h := bif_t hb32 h
        refine aw_region ?_
        refine al_mv rfl rfl ?_
        refine al_mv rfl rfl ?_
        refine al_mv rfl rfl ?_
        refine al_mv rfl rfl ?_
        obtain ⟨u33, hu34, h⟩ := opt_some h
        refine al_idxR 0 (at_some hu34).1 (at_some hu34).2.1 rfl rfl rfl Tryd.underlying131 sz4 rfl (fun p35 hp36 => ?_)
        refine al_val (ov_loadR (ds := [(bool u33)]) 0 rfl hp36 (at_some hu34).2.2 (fun h => h) rfl Tryd.underlying4 sz4 rfl rfl rfl) ?_
        refine al_mv rfl rfl ?_
        refine al_caseB 39 rfl (fun hb37 => ?_) (fun hb37 => ?_)
        ·replace h := bif_t hb37 h
         refine al_skip ?_
         refine al_skip ?_
         refine al_skip ?_
         refine al_skip ?_
         refine al_skip ?_
         refine al_skip ?_
         refine al_skip ?_
         refine al_skip ?_
         refine al_skip ?_
         refine al_val (ov_pick_t rfl rfl rfl) ?_
         obtain ⟨u38, hu39, h⟩ := opt_some h
         refine al_idxR 1 (at_some hu39).1 (at_some hu39).2.1 rfl rfl rfl Tryd.underlying131 sz4 rfl (fun p40 hp41 => ?_)
         refine al_storeR (k := (l24i27).toNat) (x := true) (vs := [(bool true)]) 1 rfl hp41 (idx_lt hu39) rfl rfl (cv_rfl rfl) (fun _ => rfl) sz4 rfl ?_
         refine al_nil ?_
         refine aq_block ?_
         exact aq_join (l24x11.set (l24i27).toNat true) h (fun w a hm hs => norm hm hs [0, 1] [0, 1, 2] [(0, (iq a0)), (2, (Value.func (.func 84) #[] #[c2_0])), (3, (Value.func (.func 85) #[] #[c3_0, c3_1])), (9, l13v9), (10, (iq l13i19)), (11, v21), (18, (iq a1)), (19, (iq l13i19)), (26, (iq (wq (a0 + (1 : Int))))), (27, (iq l24i27))] (by decide) ⟨rfl, rfl, rfl, rfl, rfl, rfl, rfl, rfl, rfl, rfl, trivial⟩)
        ·replace h := bif_f hb37 h
         refine al_mv rfl rfl ?_
         refine al_in rfl rfl rfl rfl ?_
         refine al_mv rfl rfl ?_
         refine al_caseB 42 rfl (fun hb42 => ?_) (fun hb42 => ?_)
         ·replace h := bif_t hb42 h
          refine al_mv rfl rfl ?_
          refine al_mv rfl rfl ?_
          refine al_in rfl rfl rfl rfl ?_
          obtain ⟨u43, hu44, h⟩ := opt_some h
          refine al_idxR 1 (at_some hu44).1 (at_some hu44).2.1 rfl rfl rfl Tryd.underlying131 sz4 rfl (fun p45 hp46 => ?_)
          refine al_val (ov_loadR (ds := [(bool u43)]) 1 rfl hp46 (at_some hu44).2.2 (fun h => h) rfl Tryd.underlying4 sz4 rfl rfl rfl) ?_
          refine al_val (ov_pick_t rfl rfl rfl) ?_
          refine al_val (ov_pick_f rfl rfl rfl) ?_
          obtain ⟨u47, hu48, h⟩ := opt_some h
          refine al_idxR 1 (at_some hu48).1 (at_some hu48).2.1 rfl rfl rfl Tryd.underlying131 sz4 rfl (fun p49 hp50 => ?_)
          refine al_storeR (k := (l24i27).toNat) (x := u43) (vs := [(bool u43)]) 1 rfl hp50 (idx_lt hu48) rfl rfl (cv_rfl rfl) (fun _ => rfl) sz4 rfl ?_
          refine al_nil ?_
          refine aq_block ?_
          exact aq_join (l24x11.set (l24i27).toNat u43) h (fun w a hm hs => norm hm hs [0, 1] [0, 1, 2] [(0, (iq a0)), (2, (Value.func (.func 84) #[] #[c2_0])), (3, (Value.func (.func 85) #[] #[c3_0, c3_1])), (9, l13v9), (10, (iq l13i19)), (11, v21), (18, (iq a1)), (19, (iq l13i19)), (26, (iq (wq (a0 + (1 : Int))))), (27, (iq l24i27))] (by decide) ⟨rfl, rfl, rfl, rfl, rfl, rfl, rfl, rfl, rfl, rfl, trivial⟩)
         ·replace h := bif_f hb42 h
          refine al_skip ?_
          refine al_skip ?_
          refine al_skip ?_
          refine al_skip ?_
          refine al_skip ?_
          refine al_val (ov_pick_f rfl rfl rfl) ?_
          refine al_val (ov_pick_f rfl rfl rfl) ?_
          obtain ⟨u51, hu52, h⟩ := opt_some h
          refine al_idxR 1 (at_some hu52).1 (at_some hu52).2.1 rfl rfl rfl Tryd.underlying131 sz4 rfl (fun p53 hp54 => ?_)
          refine al_storeR (k := (l24i27).toNat) (x := false) (vs := [(bool false)]) 1 rfl hp54 (idx_lt hu52) rfl rfl (cv_rfl rfl) (fun _ => rfl) sz4 rfl ?_
          refine al_nil ?_
          refine aq_block ?_
          exact aq_join (l24x11.set (l24i27).toNat false) h (fun w a hm hs => norm hm hs [0, 1] [0, 1, 2] [(0, (iq a0)), (2, (Value.func (.func 84) #[] #[c2_0])), (3, (Value.func (.func 85) #[] #[c3_0, c3_1])), (9, l13v9), (10, (iq l13i19)), (11, v21), (18, (iq a1)), (19, (iq l13i19)), (26, (iq (wq (a0 + (1 : Int))))), (27, (iq l24i27))] (by decide) ⟨rfl, rfl, rfl, rfl, rfl, rfl, rfl, rfl, rfl, rfl, trivial⟩)
       ·replace h := bif_f hb32 h
        refine aw_region ?_
        refine al_mv rfl rfl ?_
        refine al_mv rfl rfl ?_
        refine al_mv rfl rfl ?_
        refine al_in rfl rfl rfl rfl ?_
        refine al_mv rfl rfl ?_
        refine al_caseB 55 rfl (fun hb55 => ?_) (fun hb55 => ?_)
        ·replace h := bif_t hb55 h
         refine al_mv rfl rfl ?_
         refine al_mv rfl rfl ?_
         refine al_in rfl rfl rfl rfl ?_
         obtain ⟨u56, hu57, h⟩ := opt_some h
         refine al_idxR 0 (at_some hu57).1 (at_some hu57).2.1 rfl rfl rfl Tryd.underlying131 sz4 rfl (fun p58 hp59 => ?_)
         refine al_val (ov_loadR (ds := [(bool u56)]) 0 rfl hp59 (at_some hu57).2.2 (fun h => h) rfl Tryd.underlying4 sz4 rfl rfl rfl) ?_
         refine al_val (ov_pick_t rfl rfl rfl) ?_
         refine al_mv rfl rfl ?_
         refine al_caseB 62 rfl (fun hb60 => ?_) (fun hb60 => ?_)
         ·replace h := bif_t hb60 h
          refine al_mv rfl rfl ?_
          refine al_mv rfl rfl ?_
          refine al_mv rfl rfl ?_
          refine al_in rfl rfl rfl rfl ?_
          obtain ⟨r62, hc61, h⟩ := opt_some h
          refine al_callF (vs := [(iq l13i19), (iq (wq (l24i27 - (1 : Int))))]) (caps := [c3_0, c3_1]) (f_lumref_partFits_2_ok fu l13i19 (wq (l24i27 - (1 : Int))) c3_0 a3_0 c3_1 a3_1 hc61) rfl [] [] [0, 1] (pre_fz 1 rfl (pre_fz 2 rfl pre_nil)) rfl (by simp) (by decide) (.inl rfl) rfl rfl Tryd.func85 rfl rfl rfl (fun _ => ?_)
          refine al_val (ov_pick_t rfl rfl rfl) ?_
          obtain ⟨u63, hu64, h⟩ := opt_some h
          refine al_idxR 1 (at_some hu64).1 (at_some hu64).2.1 rfl rfl rfl Tryd.underlying131 sz4 rfl (fun p65 hp66 => ?_)
          refine al_storeR (k := (l24i27).toNat) (x := r62) (vs := [(bool r62)]) 1 rfl hp66 (idx_lt hu64) rfl rfl (cv_rfl rfl) (fun _ => rfl) sz4 rfl ?_
          refine al_nil ?_
          refine aq_block ?_
          exact aq_join (l24x11.set (l24i27).toNat r62) h (fun w a hm hs => norm hm hs [0, 1] [0, 1, 2] [(0, (iq a0)), (2, (Value.func (.func 84) #[] #[c2_0])), (3, (Value.func (.func 85) #[] #[c3_0, c3_1])), (9, l13v9), (10, (iq l13i19)), (11, v21), (18, (iq a1)), (19, (iq l13i19)), (26, (iq (wq (a0 + (1 : Int))))), (27, (iq l24i27))] (by decide) ⟨rfl, rfl, rfl, rfl, rfl, rfl, rfl, rfl, rfl, rfl, trivial⟩)
         ·replace h := bif_f hb60 h
          refine al_skip ?_
          refine al_skip ?_
          refine al_skip ?_
          refine al_skip ?_
          refine al_skip ?_
          refine al_val (ov_pick_f rfl rfl rfl) ?_
          obtain ⟨u67, hu68, h⟩ := opt_some h
          refine al_idxR 1 (at_some hu68).1 (at_some hu68).2.1 rfl rfl rfl Tryd.underlying131 sz4 rfl (fun p69 hp70 => ?_)
          refine al_storeR (k := (l24i27).toNat) (x := false) (vs := [(bool false)]) 1 rfl hp70 (idx_lt hu68) rfl rfl (cv_rfl rfl) (fun _ => rfl) sz4 rfl ?_
          refine al_nil ?_
          refine aq_block ?_
          exact aq_join (l24x11.set (l24i27).toNat false) h (fun w a hm hs => norm hm hs [0, 1] [0, 1, 2] [(0, (iq a0)), (2, (Value.func (.func 84) #[] #[c2_0])), (3, (Value.func (.func 85) #[] #[c3_0, c3_1])), (9, l13v9), (10, (iq l13i19)), (11, v21), (18, (iq a1)), (19, (iq l13i19)), (26, (iq (wq (a0 + (1 : Int))))), (27, (iq l24i27))] (by decide) ⟨rfl, rfl, rfl, rfl, rfl, rfl, rfl, rfl, rfl, rfl, trivial⟩)
        ·replace h := bif_f hb55 h
         refine al_skip ?_
         refine al_skip ?_
         refine al_skip ?_
         refine al_skip ?_
         refine al_skip ?_
         refine al_val (ov_pick_f rfl rfl rfl) ?_
         refine al_mv rfl rfl ?_
         refine al_skip ?_
         refine al_skip ?_
         refine al_skip ?_
         refine al_skip ?_
         refine al_skip ?_
         refine al_val (ov_pick_f rfl rfl rfl) ?_
         obtain ⟨u71, hu72, h⟩ := opt_some h
         refine al_idxR 1 (at_some hu72).1 (at_some hu72).2.1 rfl rfl rfl Tryd.underlying131 sz4 rfl (fun p73 hp74 => ?_)
         refine al_storeR (k := (l24i27).toNat) (x := false) (vs := [(bool false)]) 1 rfl hp74 (idx_lt hu72) rfl rfl (cv_rfl rfl) (fun _ => rfl) sz4 rfl ?_
         refine al_nil ?_
         refine aq_block ?_
         exact aq_join (l24x11.set (l24i27).toNat false) h (fun w a hm hs => norm hm hs [0, 1] [0, 1, 2] [(0, (iq a0)), (2, (Value.func (.func 84) #[] #[c2_0])), (3, (Value.func (.func 85) #[] #[c3_0, c3_1])), (9, l13v9), (10, (iq l13i19)), (11, v21), (18, (iq a1)), (19, (iq l13i19)), (26, (iq (wq (a0 + (1 : Int))))), (27, (iq l24i27))] (by decide) ⟨rfl, rfl, rfl, rfl, rfl, rfl, rfl, rfl, rfl, rfl, trivial⟩)
     ·replace h := bif_f hb27 h
      refine aw_exit ?_
      refine aq_then_exit ?_
      refine aq_then_exit ?_
      refine aq_block_exit ?_
      exact aq_join l24x11 h (fun w a hm hs => norm hm hs [1] [0, 1, 2] [(0, (iq a0)), (2, (Value.func (.func 84) #[] #[c2_0])), (3, (Value.func (.func 85) #[] #[c3_0, c3_1])), (11, v21), (18, (iq a1)), (19, (iq l13i19))] (by decide) ⟨rfl, rfl, rfl, rfl, rfl, rfl, trivial⟩)
  ·replace h := bif_f hb17 h
   refine aw_exit ?_
   refine aq_then_exit ?_
   refine aq_then_exit ?_
   refine aq_block_exit ?_
   exact aq_join (l13v9, l13x9) h (fun w a hm hs => norm hm hs [0] [0, 1, 2] [(0, (iq a0)), (9, l13v9)] (by decide) ⟨rfl, rfl, trivial⟩)
def f_lumref_partFits (fu : Nat) (a0 : (List S_lumref_mark)) (a1 : (List UInt8)) : Option Bool := (opt (f_lumref_Chars fu a1) fun (r3 : ((List Int) × Bool)) => (opt (f_lumref_table_F84_F85 fu (r3.1.length : Int) (a0.length : Int) a0 a0 r3.1) fun (r9 : Bool) => (some r9)))
set_option maxHeartbeats 2000000 in
set_option maxRecDepth 100000 in
theorem f_lumref_partFits_ok (fu : Nat) (v0_0 : Value) (a0 : (List S_lumref_mark)) (a1 : (List UInt8)) {r : Bool} (h : f_lumref_partFits fu a0 a1 = some r) : FnOk Tryd.prog 60 [v0_0, (str a1)] [(fDat (tyList tyS_lumref_mark) [v0_0] a0)] [] (fun (i : Unit) => { val := (bool r) }) := by
 unfold f_lumref_partFits at h
 refine fn_enter Tryd.func60 rfl Tryd.ntmps60 rfl (fun w0 Z0 => ?_)
 refine aw_sr ?_
 refine al_box (vs := [v0_0]) rfl (cv_fz 0 rfl) rfl (fun g1 => ?_)
 refine al_as rfl rfl ?_
 refine al_nt ?_
 refine aw_sr ?_
 refine al_mv rfl rfl ?_
 obtain ⟨r3, hc2, h⟩ := opt_some h
 refine al_call (vs := [(str a1)]) (f_lumref_Chars_ok fu a1 hc2) [] [] [0] pre_nil rfl (by simp) (by decide) (.inl rfl) rfl Tryd.func25 rfl rfl rfl (fun v4 => ?_)
 refine al_mv rfl rfl ?_
 refine al_ex rfl rfl rfl ?_
 refine al_ex rfl rfl rfl ?_
 refine al_alloc (zs := [nS]) (zeroOf_to to52) rfl rfl (fun g5 => ?_)
 refine al_store (i := 0) (vs := [v4]) (cs' := [v4]) rfl rfl rfl sz52 (cv_own 1 rfl) rfl (co_own 1 rfl co_nil) (Nat.le_of_ble_eq_true rfl) rfl rfl ?_
 refine al_as rfl rfl ?_
 refine al_nt ?_
 refine aw_seq ?_
 refine aw_freezeBN (τ := (tyList tyS_lumref_mark)) 2 (a0) rfl rfl (fun hm => fz_at (i := 0) hm rfl) ?_
 refine aw_freeze 1 rfl rfl ?_
 refine aw_freezeBN (τ := (tyList tq)) 0 (r3.1) rfl rfl (fun hm => fz_at (i := 0) hm rfl) ?_
 refine aw_region ?_
 refine al_loadP1 0 rfl rfl Tryd.underlying52 sz52 rfl rfl rfl (fun s6 => ?_)
 refine al_val (ov_lenD 0 rfl rfl Tryd.underlying52 rfl) ?_
 refine al_loadP1 3 rfl rfl Tryd.underlying56 sz56 rfl rfl rfl (fun s7 => ?_)
 refine al_val (ov_lenD 0 rfl rfl Tryd.underlying56 rfl) ?_
 refine al_val (ov_makeFunc2 (vs := [(pq g1)]) rfl rfl) ?_
 refine al_val (ov_makeFunc2 (vs := [(pq g1), (pq g5)]) rfl rfl) ?_
 obtain ⟨r9, hc8, h⟩ := opt_some h
 refine al_call (vs := [(iq (r3.1.length : Int)), (iq (a0.length : Int)), (Value.func (.func 84) #[] #[(pq g1)]), (Value.func (.func 85) #[] #[(pq g1), (pq g5)])]) (f_lumref_table_F84_F85_ok fu (r3.1.length : Int) (a0.length : Int) (pq g1) a0 (pq g1) a0 (pq g5) r3.1 hc8) [] [] [] (pre_fz 4 rfl (pre_fz 4 rfl (pre_fz 2 rfl pre_nil))) rfl (by simp) (by decide) (.inl rfl) rfl Tryd.func57 rfl rfl rfl (fun _ => ?_)
 refine al_as rfl rfl ?_
 refine al_nt ?_
 refine aw_ret ?_
 obtain rfl := Option.some.inj h
 exact fn_ret () [] [] rfl rfl rfl rfl (res1 rfl rfl) rfl rfl rfl (by decide)
def f_lumref_Fits_2 (fu : Nat) (a0 : Int) (a1 : Int) (a2 : (List (Option (List S_lumref_mark)))) (a3 : (List (List UInt8))) : Option Bool := (opt (at? a2 a0) fun (u2 : (Option (List S_lumref_mark))) => (opt (at? a3 a1) fun (u7 : (List UInt8)) => (opt (f_lumref_partFits fu (u2.getD []) u7) fun (r11 : Bool) => (some r11))))
set_option maxHeartbeats 2000000 in
set_option maxRecDepth 100000 in
theorem f_lumref_Fits_2_ok (fu : Nat) (a0 : Int) (a1 : Int) (c2 : Value) (a2 : (List (Option (List S_lumref_mark)))) (c3 : Value) (a3 : (List (List UInt8))) {r : Bool} (h : f_lumref_Fits_2 fu a0 a1 a2 a3 = some r) : FnOk Tryd.prog 59 [(int .i64 a0), (int .i64 a1), c2, c3] [(fPtr (tyList (tyOpt tyS_lumref_mark)) c2 a2), (fPtr (tyList tyStr) c3 a3)] [] (fun (i : Unit) => { val := (bool r) }) := by
 unfold f_lumref_Fits_2 at h
 refine fn_enter Tryd.func59 rfl Tryd.ntmps59 rfl (fun w0 Z0 => ?_)
 refine aw_sr ?_
 refine al_as rfl rfl ?_
 refine al_nt ?_
 refine aw_seq ?_
 obtain ⟨u2, hu3, h⟩ := opt_some h
 obtain ⟨u7, hu8, h⟩ := opt_some h
 refine aw_region_open [⟨0, 7, Value, fun (i : Value) => { val := i, fz := [(fDat (tyList (tyOpt tyS_lumref_mark)) [i] a2)] }⟩, ⟨1, 8, Unit, fun _ => { val := (iq a0) }⟩, ⟨2, 9, Value, fun (i : Value) => { val := i, fz := [(fPtr (tyOpt tyS_lumref_mark) i u2)] }⟩, ⟨3, 10, Value, fun (i : Value) => { val := i, fz := [(fDat (tyList tyS_lumref_mark) [i] (u2.getD [])), (fDat (tyOpt tyS_lumref_mark) [i] u2)] }⟩, ⟨4, 11, Value, fun (i : Value) => { val := i, fz := [(fDat (tyList tyStr) [i] a3)] }⟩, ⟨5, 12, Unit, fun _ => { val := (iq a1) }⟩, ⟨6, 13, Value, fun (i : Value) => { val := i, fz := [(fPtr tyStr i u7)] }⟩, ⟨7, 14, Unit, fun _ => { val := (str u7) }⟩] (tab [(0, (iq a0)), (1, (iq a1)), (2, c2), (3, c3), (6, (bool false))]) mixed (fun a hs => hs.tab _ (allT_mem ⟨rfl, rfl, rfl, rfl, rfl, trivial⟩)) ?_
 refine ta_show (m := (memOf w0 Z0 [] [] [(fPtr (tyList (tyOpt tyS_lumref_mark)) c2 a2), (fPtr (tyList tyStr) c3 a3)])) (S := (tab [(0, (iq a0)), (1, (iq a1)), (2, c2), (3, c3), (6, (bool false))])) ?_
 refine ta_step 8 _ [0, 1, 2, 3, 4, 5, 6, 7] [7, 8, 9, 10, 11, 12, 13, 14] [0, 1, 2, 3, 4, 5, 6, 7] [] [⟨0, 7, Value, fun (i : Value) => { val := i, fz := [(fDat (tyList (tyOpt tyS_lumref_mark)) [i] a2)] }⟩, ⟨1, 8, Unit, fun _ => { val := (iq a0) }⟩, ⟨2, 9, Value, fun (i : Value) => { val := i, fz := [(fPtr (tyOpt tyS_lumref_mark) i u2)] }⟩, ⟨3, 10, Value, fun (i : Value) => { val := i, fz := [(fDat (tyList tyS_lumref_mark) [i] (u2.getD [])), (fDat (tyOpt tyS_lumref_mark) [i] u2)] }⟩, ⟨4, 11, Value, fun (i : Value) => { val := i, fz := [(fDat (tyList tyStr) [i] a3)] }⟩, ⟨5, 12, Unit, fun _ => { val := (iq a1) }⟩, ⟨6, 13, Value, fun (i : Value) => { val := i, fz := [(fPtr tyStr i u7)] }⟩, ⟨7, 14, Unit, fun _ => { val := (str u7) }⟩] [] rfl rfl rfl (by kernel_rfl) rfl rfl rfl ⟨⟨_, rfl, [], rfl, by
 intro X_ Y_ F_ K_ hK_
 refine al_show (m := Mem.plus (memOf w0 Z0 [] [] [(fPtr (tyList (tyOpt tyS_lumref_mark)) c2 a2), (fPtr (tyList tyStr) c3 a3)]) X_ Y_) (S := over (tab [(0, (iq a0)), (1, (iq a1)), (2, c2), (3, c3), (6, (bool false))]) F_) ?_
 refine al_loadP1 0 rfl rfl Tryd.underlying27 sz27 rfl rfl rfl (fun s1 => ?_)
 refine al_nil ?_
 exact fr_fin hK_ s1⟩, ⟨_, rfl, [], rfl, by
 intro X_ Y_ F_ K_ hK_
 refine al_show (m := Mem.plus (memOf w0 Z0 [] [] [(fPtr (tyList (tyOpt tyS_lumref_mark)) c2 a2), (fPtr (tyList tyStr) c3 a3)]) X_ Y_) (S := over (tab [(0, (iq a0)), (1, (iq a1)), (2, c2), (3, c3), (6, (bool false))]) F_) ?_
 refine al_mv rfl rfl ?_
 refine al_nil ?_
 exact fr_fin hK_ ()⟩, ⟨_, rfl, [0, 1], rfl, by
 intro s1
 intro _
 intro X_ Y_ F_ K_ hK_
 refine al_show (m := Mem.plus (memOf w0 Z0 [] [] [(fDat (tyList (tyOpt tyS_lumref_mark)) [s1] a2), (fPtr (tyList (tyOpt tyS_lumref_mark)) c2 a2), (fPtr (tyList tyStr) c3 a3)]) X_ Y_) (S := over (put (put (tab [(0, (iq a0)), (1, (iq a1)), (2, c2), (3, c3), (6, (bool false))]) 7 s1) 8 (iq a0)) F_) ?_
 refine al_idxD 0 hu3 rfl rfl rfl Tryd.underlying27 sz56 rfl (fun p4 => ?_)
 refine al_nil ?_
 exact fr_fin hK_ p4⟩, ⟨_, rfl, [2], rfl, by
 intro p4
 intro X_ Y_ F_ K_ hK_
 refine al_show (m := Mem.plus (memOf w0 Z0 [] [] [(fPtr (tyOpt tyS_lumref_mark) p4 u2), (fPtr (tyList (tyOpt tyS_lumref_mark)) c2 a2), (fPtr (tyList tyStr) c3 a3)]) X_ Y_) (S := over (put (tab [(0, (iq a0)), (1, (iq a1)), (2, c2), (3, c3), (6, (bool false))]) 9 p4) F_) ?_
 refine al_loadP1 0 rfl rfl Tryd.underlying56 sz56 rfl rfl rfl (fun s5 => ?_)
 refine al_optL 0 rfl ?_
 refine al_nil ?_
 exact fr_fin hK_ s5⟩, ⟨_, rfl, [], rfl, by
 intro X_ Y_ F_ K_ hK_
 refine al_show (m := Mem.plus (memOf w0 Z0 [] [] [(fPtr (tyList (tyOpt tyS_lumref_mark)) c2 a2), (fPtr (tyList tyStr) c3 a3)]) X_ Y_) (S := over (tab [(0, (iq a0)), (1, (iq a1)), (2, c2), (3, c3), (6, (bool false))]) F_) ?_
 refine al_loadP1 1 rfl rfl Tryd.underlying22 sz22 rfl rfl rfl (fun s6 => ?_)
 refine al_nil ?_
 exact fr_fin hK_ s6⟩, ⟨_, rfl, [], rfl, by
 intro X_ Y_ F_ K_ hK_
 refine al_show (m := Mem.plus (memOf w0 Z0 [] [] [(fPtr (tyList (tyOpt tyS_lumref_mark)) c2 a2), (fPtr (tyList tyStr) c3 a3)]) X_ Y_) (S := over (tab [(0, (iq a0)), (1, (iq a1)), (2, c2), (3, c3), (6, (bool false))]) F_) ?_
 refine al_mv rfl rfl ?_
 refine al_nil ?_
 exact fr_fin hK_ ()⟩, ⟨_, rfl, [4, 5], rfl, by
 intro s6
 intro _
 intro X_ Y_ F_ K_ hK_
 refine al_show (m := Mem.plus (memOf w0 Z0 [] [] [(fDat (tyList tyStr) [s6] a3), (fPtr (tyList (tyOpt tyS_lumref_mark)) c2 a2), (fPtr (tyList tyStr) c3 a3)]) X_ Y_) (S := over (put (put (tab [(0, (iq a0)), (1, (iq a1)), (2, c2), (3, c3), (6, (bool false))]) 11 s6) 12 (iq a1)) F_) ?_
 refine al_idxD 0 hu8 rfl rfl rfl Tryd.underlying22 sz9 rfl (fun p9 => ?_)
 refine al_nil ?_
 exact fr_fin hK_ p9⟩, ⟨_, rfl, [6], rfl, by
 intro p9
 intro X_ Y_ F_ K_ hK_
 refine al_show (m := Mem.plus (memOf w0 Z0 [] [] [(fPtr tyStr p9 u7), (fPtr (tyList (tyOpt tyS_lumref_mark)) c2 a2), (fPtr (tyList tyStr) c3 a3)]) X_ Y_) (S := over (put (tab [(0, (iq a0)), (1, (iq a1)), (2, c2), (3, c3), (6, (bool false))]) 13 p9) F_) ?_
 refine al_val (ov_loadP (ds := [(str u7)]) 0 rfl (fun h => h) rfl Tryd.underlying9 sz9 rfl rfl rfl) ?_
 refine al_nil ?_
 exact fr_fin hK_ ()⟩, trivial⟩ ?_
 intro s1
 intro _
 intro p4
 intro s5
 intro s6
 intro _
 intro p9
 intro _
 intro X_ Y_ F_ K_ hK_
 refine al_show (m := Mem.plus (memOf w0 Z0 [] [] [(fPtr tyStr p9 u7), (fDat (tyList tyStr) [s6] a3), (fDat (tyList tyS_lumref_mark) [s5] (u2.getD [])), (fDat (tyOpt tyS_lumref_mark) [s5] u2), (fPtr (tyOpt tyS_lumref_mark) p4 u2), (fDat (tyList (tyOpt tyS_lumref_mark)) [s1] a2), (fPtr (tyList (tyOpt tyS_lumref_mark)) c2 a2), (fPtr (tyList tyStr) c3 a3)]) X_ Y_) (S := over (put (put (put (put (put (put (put (put (tab [(0, (iq a0)), (1, (iq a1)), (2, c2), (3, c3), (6, (bool false))]) 7 s1) 8 (iq a0)) 9 p4) 10 s5) 11 s6) 12 (iq a1)) 13 p9) 14 (str u7)) F_) ?_
 obtain ⟨r11, hc10, h⟩ := opt_some h
 refine al_callX (vs := [s5, (str u7)]) (f_lumref_partFits_ok fu s5 (u2.getD []) u7 hc10) [] [] [] (pre_fz 2 rfl pre_nil) rfl (by simp) (by decide) rfl (.inl rfl) rfl Tryd.func60 rfl rfl rfl (fun _ => ?_)
 refine al_nil ?_
 refine aq_show (m := Mem.plus (memOf w0 Z0 [] [] [(fPtr tyStr p9 u7), (fDat (tyList tyStr) [s6] a3), (fDat (tyList tyS_lumref_mark) [s5] (u2.getD [])), (fDat (tyOpt tyS_lumref_mark) [s5] u2), (fPtr (tyOpt tyS_lumref_mark) p4 u2), (fDat (tyList (tyOpt tyS_lumref_mark)) [s1] a2), (fPtr (tyList (tyOpt tyS_lumref_mark)) c2 a2), (fPtr (tyList tyStr) c3 a3)]) X_ Y_) ?_
 refine aq_next hK_ [] [6, 7] [(6, (bool false)), (15, (bool r11))] [] [] rfl rfl (by decide) rfl ⟨rfl, rfl, trivial⟩ trivial ?_
 clear hK_ K_ F_ X_ Y_
 refine ta_show (m := (memOf w0 Z0 [] [] [(fPtr (tyList (tyOpt tyS_lumref_mark)) c2 a2), (fPtr (tyList tyStr) c3 a3)])) (S := (tab [(6, (bool false)), (15, (bool r11))])) ?_
 refine ta_step 9 _ [] [] [] [] [] [] rfl rfl rfl (by kernel_rfl) rfl rfl rfl trivial ?_
 intro X_ Y_ F_ K_ hK_
 refine al_show (m := Mem.plus (memOf w0 Z0 [] [] [(fPtr (tyList (tyOpt tyS_lumref_mark)) c2 a2), (fPtr (tyList tyStr) c3 a3)]) X_ Y_) (S := over (tab [(6, (bool false)), (15, (bool r11))]) F_) ?_
 refine al_as rfl rfl ?_
 refine al_nil ?_
 refine aq_show (m := Mem.plus (memOf w0 Z0 [] [] [(fPtr (tyList (tyOpt tyS_lumref_mark)) c2 a2), (fPtr (tyList tyStr) c3 a3)]) X_ Y_) ?_
 refine aq_next hK_ [] [0, 1] [(6, (bool r11))] [] [] rfl rfl (by decide) rfl ⟨rfl, trivial⟩ trivial ?_
 clear hK_ K_ F_ X_ Y_
 refine ta_show (m := (memOf w0 Z0 [] [] [(fPtr (tyList (tyOpt tyS_lumref_mark)) c2 a2), (fPtr (tyList tyStr) c3 a3)])) (S := (tab [(6, (bool r11))])) ?_
 refine ta_end [] [] rfl rfl (by kernel_rfl) rfl trivial ?_
 refine aq_show (m := (memOf w0 Z0 [] [] [(fPtr (tyList (tyOpt tyS_lumref_mark)) c2 a2), (fPtr (tyList tyStr) c3 a3)])) (S := (tab [(6, (bool r11))])) ?_
 refine aq_then ?_
 refine aw_ret ?_
 obtain rfl := Option.some.inj h
 exact fn_ret () [] [] rfl rfl rfl rfl (res1 rfl rfl) rfl rfl rfl (by decide)
def f_lumref_table_F58_F59_L26 (a0 : Int) (a2_0 : (List (Option (List S_lumref_mark)))) (a3_0 : (List (Option (List S_lumref_mark)))) (a3_1 : (List (List UInt8))) (l13x9 : (List Bool)) (l13i19 : Int) (kk23 : ((List Bool) → Option Bool)) (fu : Nat) : Nat → (List Bool) → Int → Option Bool
  | 0, _, _ => none
  | k25 + 1, l24x11, l24i27 => (bif (decide (l24i27 < (IntKind.i64.wrap (a0 + (1 : Int))))) then (lt (fun (j28x11 : (List Bool)) => (f_lumref_table_F58_F59_L26 a0 a2_0 a3_0 a3_1 l13x9 l13i19 kk23 fu k25 j28x11 (IntKind.i64.wrap (l24i27 + (1 : Int))))) fun (kk29 : (List Bool) → Option Bool) => (opt (f_lumref_Fits_1 fu l13i19 a2_0) fun (r31 : Bool) => (bif r31 then (opt (at? l13x9 l24i27) fun (u33 : Bool) => (bif u33 then (opt (at? l24x11 l24i27) fun (u38 : Bool) => (kk29 (l24x11.set (l24i27).toNat true))) else (bif (decide (l24i27 > (0 : Int))) then (opt (at? l24x11 (IntKind.i64.wrap (l24i27 - (1 : Int)))) fun (u43 : Bool) => (opt (at? l24x11 l24i27) fun (u47 : Bool) => (kk29 (l24x11.set (l24i27).toNat u43)))) else (opt (at? l24x11 l24i27) fun (u51 : Bool) => (kk29 (l24x11.set (l24i27).toNat false)))))) else (bif (decide (l24i27 > (0 : Int))) then (opt (at? l13x9 (IntKind.i64.wrap (l24i27 - (1 : Int)))) fun (u56 : Bool) => (bif u56 then (opt (f_lumref_Fits_2 fu l13i19 (IntKind.i64.wrap (l24i27 - (1 : Int))) a3_0 a3_1) fun (r62 : Bool) => (opt (at? l24x11 l24i27) fun (u63 : Bool) => (kk29 (l24x11.set (l24i27).toNat r62)))) else (opt (at? l24x11 l24i27) fun (u67 : Bool) => (kk29 (l24x11.set (l24i27).toNat false))))) else (opt (at? l24x11 l24i27) fun (u71 : Bool) => (kk29 (l24x11.set (l24i27).toNat false))))))) else (kk23 l24x11))
def f_lumref_table_F58_F59_L15 (a0 : Int) (a1 : Int) (a2_0 : (List (Option (List S_lumref_mark)))) (a3_0 : (List (Option (List S_lumref_mark)))) (a3_1 : (List (List UInt8))) (kk8 : ((List Bool) → Option Bool)) (fu : Nat) : Nat → (List Bool) → Int → Option Bool
  | 0, _, _ => none
  | k14 + 1, l13x9, l13i19 => (lt (fun (l13x9 : (List Bool)) (l13i19 : Int) => (f_lumref_table_F58_F59_L15 a0 a1 a2_0 a3_0 a3_1 kk8 fu k14 l13x9 l13i19)) fun (kk16 : (List Bool) → Int → Option Bool) => (bif (decide (l13i19 < a1)) then (lt (fun (j18x9 : (List Bool)) => (kk16 j18x9 (IntKind.i64.wrap (l13i19 + (1 : Int))))) fun (kk19 : (List Bool) → Option Bool) => (req (0 ≤ (IntKind.i64.wrap (a0 + (1 : Int))) ∧ 1 * (IntKind.i64.wrap (a0 + (1 : Int))) ≤ 281474976710656 ∧ (IntKind.i64.wrap (a0 + (1 : Int))) ≤ 9223372036854775807) (lt (fun (j22x11 : (List Bool)) => (kk19 j22x11)) fun (kk23 : (List Bool) → Option Bool) => (f_lumref_table_F58_F59_L26 a0 a2_0 a3_0 a3_1 l13x9 l13i19 kk23 fu fu (List.replicate ((IntKind.i64.wrap (a0 + (1 : Int)))).toNat false) (0 : Int))))) else (kk8 l13x9)))
def f_lumref_table_F58_F59 (fu : Nat) (a0 : Int) (a1 : Int) (a2_0 : (List (Option (List S_lumref_mark)))) (a3_0 : (List (Option (List S_lumref_mark)))) (a3_1 : (List (List UInt8))) : Option Bool := (req (0 ≤ (IntKind.i64.wrap (a0 + (1 : Int))) ∧ 1 * (IntKind.i64.wrap (a0 + (1 : Int))) ≤ 281474976710656 ∧ (IntKind.i64.wrap (a0 + (1 : Int))) ≤ 9223372036854775807) (opt (at? (List.replicate ((IntKind.i64.wrap (a0 + (1 : Int)))).toNat false) (0 : Int)) fun (u3 : Bool) => (lt (fun (j7x9 : (List Bool)) => (opt (at? j7x9 a0) fun (u9 : Bool) => (some u9))) fun (kk8 : (List Bool) → Option Bool) => (f_lumref_table_F58_F59_L15 a0 a1 a2_0 a3_0 a3_1 kk8 fu fu ((List.replicate ((IntKind.i64.wrap (a0 + (1 : Int)))).toNat false).set ((0 : Int)).toNat true) (0 : Int)))))
set_option maxRecDepth 100000 in
set_option maxHeartbeats 2000000 in
set_option maxHeartbeats 2000000 in
theorem f_lumref_table_F58_F59_ok (fu : Nat) (a0 : Int) (a1 : Int) (c2_0 : Value) (a2_0 : (List (Option (List S_lumref_mark)))) (c3_0 : Value) (a3_0 : (List (Option (List S_lumref_mark)))) (c3_1 : Value) (a3_1 : (List (List UInt8))) {r : Bool} (h : f_lumref_table_F58_F59 fu a0 a1 a2_0 a3_0 a3_1 = some r) : FnOk Tryd.prog 57 [(int .i64 a0), (int .i64 a1), (Value.func (.func 58) #[] #[c2_0]), (Value.func (.func 59) #[] #[c3_0, c3_1])] [(fPtr (tyList (tyOpt tyS_lumref_mark)) c2_0 a2_0), (fPtr (tyList (tyOpt tyS_lumref_mark)) c3_0 a3_0), (fPtr (tyList tyStr) c3_1 a3_1)] [] (fun (i : Unit) => { val := (bool r) }) := by
 unfold f_lumref_table_F58_F59 at h
 refine fn_enter Tryd.func57 rfl Tryd.ntmps57 rfl (fun w0 Z0 => ?_)
 refine aw_sr ?_
 refine al_as rfl rfl ?_
 refine al_nt ?_
 refine aw_sr ?_
 refine al_mv rfl rfl ?_
 refine al_in rfl rfl rfl rfl ?_
 obtain ⟨hc1, h⟩ := req_some h
 refine al_make (τ := tyBool) (x0 := false) hc1.1 hc1.2.1 hc1.2.2 rfl rfl Tryd.underlying131 to4 (fun _ _ => rfl) rfl rfl (fun v2 => ?_)
 refine al_as rfl rfl ?_
 refine al_nt ?_
 refine aw_sr ?_
 refine al_mv rfl rfl ?_
 obtain ⟨u3, hu4, h⟩ := opt_some h
 refine al_idxR 0 (at_some hu4).1 (at_some hu4).2.1 rfl rfl rfl Tryd.underlying131 sz4 rfl (fun p5 hp6 => ?_)
 refine al_storeR (k := ((0 : Int)).toNat) (x := true) (vs := [(bool true)]) 0 rfl hp6 (idx_lt hu4) rfl rfl (cv_rfl rfl) (fun _ => rfl) sz4 rfl ?_
 refine al_nt ?_
 obtain ⟨kk8, hkk8, h⟩ := lt_some h
 refine aw_seq_join (ι := Value × (List Bool)) (fun i => (memOf w0 Z0 [] [(oRow i.1 4 tyBool i.2)] [(fPtr (tyList (tyOpt tyS_lumref_mark)) c2_0 a2_0), (fPtr (tyList (tyOpt tyS_lumref_mark)) c3_0 a3_0), (fPtr (tyList tyStr) c3_1 a3_1)])) (fun i => (tab [(0, (iq a0)), (9, i.1)])) (fun i => kk8 i.2 = some r) ?_ ?_
 ·rintro ⟨j7v9, j7x9⟩ h
  have h : kk8 j7x9 = some r := h
  rw [hkk8] at h
  dsimp only at h
  clear hkk8
  refine aw_show (m := (memOf w0 Z0 [] [(oRow j7v9 4 tyBool j7x9)] [(fPtr (tyList (tyOpt tyS_lumref_mark)) c2_0 a2_0), (fPtr (tyList (tyOpt tyS_lumref_mark)) c3_0 a3_0), (fPtr (tyList tyStr) c3_1 a3_1)])) (S := (tab [(0, (iq a0)), (9, j7v9)])) ?_
  refine aw_sr ?_
  refine al_mv rfl rfl ?_
  refine al_mv rfl rfl ?_
  obtain ⟨u9, hu10, h⟩ := opt_some h
  refine al_idxR 0 (at_some hu10).1 (at_some hu10).2.1 rfl rfl rfl Tryd.underlying131 sz4 rfl (fun p11 hp12 => ?_)
  refine al_val (ov_loadR (ds := [(bool u9)]) 0 rfl hp12 (at_some hu10).2.2 (fun h => h) rfl Tryd.underlying4 sz4 rfl rfl rfl) ?_
  refine al_as rfl rfl ?_
  refine al_nt ?_
  refine aw_ret ?_
  obtain rfl := Option.some.inj h
  exact fn_ret () [] [] rfl rfl rfl rfl (res1 rfl rfl) rfl rfl rfl (by decide)
 ·clear hkk8
  refine aw_sr ?_
  refine al_mv rfl rfl ?_
  refine al_mv rfl rfl ?_
  refine al_nt ?_
  refine aw_block ?_
  refine aw_state (aw_loop (ι := Value × (List Bool) × Int) (fun i => (memOf w0 Z0 [] [(oRow i.1 4 tyBool i.2.1)] [(fPtr (tyList (tyOpt tyS_lumref_mark)) c2_0 a2_0), (fPtr (tyList (tyOpt tyS_lumref_mark)) c3_0 a3_0), (fPtr (tyList tyStr) c3_1 a3_1)])) (fun i => (tab [(0, (iq a0)), (2, (Value.func (.func 58) #[] #[c2_0])), (3, (Value.func (.func 59) #[] #[c3_0, c3_1])), (9, i.1), (18, (iq a1)), (19, (iq i.2.2))])) (fun q i => f_lumref_table_F58_F59_L15 a0 a1 a2_0 a3_0 a3_1 kk8 fu q i.2.1 i.2.2 = some r) ?_ fu (v2, ((List.replicate ((wq (a0 + (1 : Int)))).toNat false).set ((0 : Int)).toNat true), (0 : Int)) h) (fun w a hm hs => norm hm hs [0] [0, 1, 2] [(0, (iq a0)), (2, (Value.func (.func 58) #[] #[c2_0])), (3, (Value.func (.func 59) #[] #[c3_0, c3_1])), (9, v2), (18, (iq a1)), (19, (iq (0 : Int)))] (by decide) ⟨rfl, rfl, rfl, rfl, rfl, rfl, trivial⟩)
  clear h
  rintro k14 ⟨l13v9, l13x9, l13i19⟩ h
  have h : f_lumref_table_F58_F59_L15 a0 a1 a2_0 a3_0 a3_1 kk8 fu k14 l13x9 l13i19 = some r := h
  obtain _ | k14 := k14
  · rw [f_lumref_table_F58_F59_L15] at h; cases h
  rw [f_lumref_table_F58_F59_L15] at h
  refine aw_show (m := (memOf w0 Z0 [] [(oRow l13v9 4 tyBool l13x9)] [(fPtr (tyList (tyOpt tyS_lumref_mark)) c2_0 a2_0), (fPtr (tyList (tyOpt tyS_lumref_mark)) c3_0 a3_0), (fPtr (tyList tyStr) c3_1 a3_1)])) (S := (tab [(0, (iq a0)), (2, (Value.func (.func 58) #[] #[c2_0])), (3, (Value.func (.func 59) #[] #[c3_0, c3_1])), (9, l13v9), (18, (iq a1)), (19, (iq l13i19))])) ?_
  obtain ⟨kk16, hkk16, h⟩ := lt_some h
  refine aw_body_join (ι := Value × (List Bool) × Int) (fun i => (memOf w0 Z0 [] [(oRow i.1 4 tyBool i.2.1)] [(fPtr (tyList (tyOpt tyS_lumref_mark)) c2_0 a2_0), (fPtr (tyList (tyOpt tyS_lumref_mark)) c3_0 a3_0), (fPtr (tyList tyStr) c3_1 a3_1)])) (fun i => (tab [(0, (iq a0)), (2, (Value.func (.func 58) #[] #[c2_0])), (3, (Value.func (.func 59) #[] #[c3_0, c3_1])), (9, i.1), (18, (iq a1)), (19, (iq i.2.2))])) (fun i => kk16 i.2.1 i.2.2 = some r) (fun i h => aq_again k14 i (Nat.lt_succ_self _) (by rw [hkk16] at h; exact h) (fun w a hm hs => ⟨hm, hs⟩)) ?_
  clear hkk16
  refine aw_sr ?_
  refine al_in rfl rfl rfl rfl ?_
  refine al_nt ?_
  refine aw_seq ?_
  refine aw_cond rfl (fun hb17 => ?_) (fun hb17 => ?_)
  ·replace h := bif_t hb17 h
   refine aw_skip ?_
   refine aq_then ?_
   obtain ⟨kk19, hkk19, h⟩ := lt_some h
   refine aw_seq_join (ι := Value × (List Bool)) (fun i => (memOf w0 Z0 [] [(oRow i.1 4 tyBool i.2)] [(fPtr (tyList (tyOpt tyS_lumref_mark)) c2_0 a2_0), (fPtr (tyList (tyOpt tyS_lumref_mark)) c3_0 a3_0), (fPtr (tyList tyStr) c3_1 a3_1)])) (fun i => (tab [(0, (iq a0)), (2, (Value.func (.func 58) #[] #[c2_0])), (3, (Value.func (.func 59) #[] #[c3_0, c3_1])), (9, i.1), (18, (iq a1)), (19, (iq l13i19))])) (fun i => kk19 i.2 = some r) ?_ ?_
   ·rintro ⟨j18v9, j18x9⟩ h
    have h : kk19 j18x9 = some r := h
    rw [hkk19] at h
    dsimp only at h
    clear hkk19
    refine aw_show (m := (memOf w0 Z0 [] [(oRow j18v9 4 tyBool j18x9)] [(fPtr (tyList (tyOpt tyS_lumref_mark)) c2_0 a2_0), (fPtr (tyList (tyOpt tyS_lumref_mark)) c3_0 a3_0), (fPtr (tyList tyStr) c3_1 a3_1)])) (S := (tab [(0, (iq a0)), (2, (Value.func (.func 58) #[] #[c2_0])), (3, (Value.func (.func 59) #[] #[c3_0, c3_1])), (9, j18v9), (18, (iq a1)), (19, (iq l13i19))])) ?_
    refine aw_region ?_
    refine al_in rfl rfl rfl rfl ?_
    refine al_mv rfl rfl ?_
    refine al_nil ?_
    exact aq_join (j18v9, j18x9, (wq (l13i19 + (1 : Int)))) h (fun w a hm hs => norm hm hs [0] [0, 1, 2] [(0, (iq a0)), (2, (Value.func (.func 58) #[] #[c2_0])), (3, (Value.func (.func 59) #[] #[c3_0, c3_1])), (9, j18v9), (18, (iq a1)), (19, (iq (wq (l13i19 + (1 : Int)))))] (by decide) ⟨rfl, rfl, rfl, rfl, rfl, rfl, trivial⟩)
   ·clear hkk19
    refine aw_block ?_
    refine aw_sr ?_
    refine al_mv rfl rfl ?_
    refine al_as rfl rfl ?_
    refine al_nt ?_
    refine aw_sr ?_
    refine al_mv rfl rfl ?_
    refine al_in rfl rfl rfl rfl ?_
    obtain ⟨hc20, h⟩ := req_some h
    refine al_make (τ := tyBool) (x0 := false) hc20.1 hc20.2.1 hc20.2.2 rfl rfl Tryd.underlying131 to4 (fun _ _ => rfl) rfl rfl (fun v21 => ?_)
    refine al_as rfl rfl ?_
    refine al_nt ?_
    obtain ⟨kk23, hkk23, h⟩ := lt_some h
    refine aw_seq_join (ι := (List Bool)) (fun i => (memOf w0 Z0 [] [(oRow v21 4 tyBool i)] [(fPtr (tyList (tyOpt tyS_lumref_mark)) c2_0 a2_0), (fPtr (tyList (tyOpt tyS_lumref_mark)) c3_0 a3_0), (fPtr (tyList tyStr) c3_1 a3_1)])) (fun i => (tab [(0, (iq a0)), (2, (Value.func (.func 58) #[] #[c2_0])), (3, (Value.func (.func 59) #[] #[c3_0, c3_1])), (11, v21), (18, (iq a1)), (19, (iq l13i19))])) (fun i => kk23 i = some r) ?_ ?_
    ·rintro j22x11 h
     have h : kk23 j22x11 = some r := h
     rw [hkk23] at h
     dsimp only at h
     clear hkk23
     refine aw_show (m := (memOf w0 Z0 [] [(oRow v21 4 tyBool j22x11)] [(fPtr (tyList (tyOpt tyS_lumref_mark)) c2_0 a2_0), (fPtr (tyList (tyOpt tyS_lumref_mark)) c3_0 a3_0), (fPtr (tyList tyStr) c3_1 a3_1)])) (S := (tab [(0, (iq a0)), (2, (Value.func (.func 58) #[] #[c2_0])), (3, (Value.func (.func 59) #[] #[c3_0, c3_1])), (11, v21), (18, (iq a1)), (19, (iq l13i19))])) ?_
     refine aw_region ?_
     refine al_mv rfl rfl ?_
     refine al_as rfl rfl ?_
     refine al_nil ?_
     refine aq_block ?_
     exact aq_join (v21, j22x11) h (fun w a hm hs => norm hm hs [0] [0, 1, 2] [(0, (iq a0)), (2, (Value.func (.func 58) #[] #[c2_0])), (3, (Value.func (.func 59) #[] #[c3_0, c3_1])), (9, v21), (18, (iq a1)), (19, (iq l13i19))] (by decide) ⟨rfl, rfl, rfl, rfl, rfl, rfl, trivial⟩)
    ·clear hkk23
     refine aw_sr ?_
     refine al_mv rfl rfl ?_
     refine al_in rfl rfl rfl rfl ?_
     refine al_mv rfl rfl ?_
     refine al_nt ?_
     refine aw_block ?_
     refine aw_state (aw_loop (ι := (List Bool) × Int) (fun i => (memOf w0 Z0 [] [(oRow l13v9 4 tyBool l13x9), (oRow v21 4 tyBool i.1)] [(fPtr (tyList (tyOpt tyS_lumref_mark)) c2_0 a2_0), (fPtr (tyList (tyOpt tyS_lumref_mark)) c3_0 a3_0), (fPtr (tyList tyStr) c3_1 a3_1)])) (fun i => (tab [(0, (iq a0)), (2, (Value.func (.func 58) #[] #[c2_0])), (3, (Value.func (.func 59) #[] #[c3_0, c3_1])), (9, l13v9), (10, (iq l13i19)), (11, v21), (18, (iq a1)), (19, (iq l13i19)), (26, (iq (wq (a0 + (1 : Int))))), (27, (iq i.2))])) (fun q i => f_lumref_table_F58_F59_L26 a0 a2_0 a3_0 a3_1 l13x9 l13i19 kk23 fu q i.1 i.2 = some r) ?_ fu ((List.replicate ((wq (a0 + (1 : Int)))).toNat false), (0 : Int)) h) (fun w a hm hs => norm hm hs [1, 0] [0, 1, 2] [(0, (iq a0)), (2, (Value.func (.func 58) #[] #[c2_0])), (3, (Value.func (.func 59) #[] #[c3_0, c3_1])), (9, l13v9), (10, (iq l13i19)), (11, v21), (18, (iq a1)), (19, (iq l13i19)), (26, (iq (wq (a0 + (1 : Int))))), (27, (iq (0 : Int)))] (by decide) ⟨rfl, rfl, rfl, rfl, rfl, rfl, rfl, rfl, rfl, rfl, trivial⟩)
     clear h
     rintro k25 ⟨l24x11, l24i27⟩ h
     have h : f_lumref_table_F58_F59_L26 a0 a2_0 a3_0 a3_1 l13x9 l13i19 kk23 fu k25 l24x11 l24i27 = some r := h
     obtain _ | k25 := k25
     · rw [f_lumref_table_F58_F59_L26] at h; cases h
     rw [f_lumref_table_F58_F59_L26] at h
     refine aw_show (m := (memOf w0 Z0 [] [(oRow l13v9 4 tyBool l13x9), (oRow v21 4 tyBool l24x11)] [(fPtr (tyList (tyOpt tyS_lumref_mark)) c2_0 a2_0), (fPtr (tyList (tyOpt tyS_lumref_mark)) c3_0 a3_0), (fPtr (tyList tyStr) c3_1 a3_1)])) (S := (tab [(0, (iq a0)), (2, (Value.func (.func 58) #[] #[c2_0])), (3, (Value.func (.func 59) #[] #[c3_0, c3_1])), (9, l13v9), (10, (iq l13i19)), (11, v21), (18, (iq a1)), (19, (iq l13i19)), (26, (iq (wq (a0 + (1 : Int))))), (27, (iq l24i27))])) ?_
     refine aw_sr ?_
     refine al_in rfl rfl rfl rfl ?_
     refine al_nt ?_
     refine aw_seq ?_
     refine aw_cond rfl (fun hb27 => ?_) (fun hb27 => ?_)
     ·replace h := bif_t hb27 h
      refine aw_skip ?_
      refine aq_then ?_
      obtain ⟨kk29, hkk29, h⟩ := lt_some h
      refine aw_seq_join (ι := (List Bool)) (fun i => (memOf w0 Z0 [] [(oRow l13v9 4 tyBool l13x9), (oRow v21 4 tyBool i)] [(fPtr (tyList (tyOpt tyS_lumref_mark)) c2_0 a2_0), (fPtr (tyList (tyOpt tyS_lumref_mark)) c3_0 a3_0), (fPtr (tyList tyStr) c3_1 a3_1)])) (fun i => (tab [(0, (iq a0)), (2, (Value.func (.func 58) #[] #[c2_0])), (3, (Value.func (.func 59) #[] #[c3_0, c3_1])), (9, l13v9), (10, (iq l13i19)), (11, v21), (18, (iq a1)), (19, (iq l13i19)), (26, (iq (wq (a0 + (1 : Int))))), (27, (iq l24i27))])) (fun i => kk29 i = some r) ?_ ?_
      ·rintro j28x11 h
       have h : kk29 j28x11 = some r := h
       rw [hkk29] at h
       dsimp only at h
       clear hkk29
       refine aw_show (m := (memOf w0 Z0 [] [(oRow l13v9 4 tyBool l13x9), (oRow v21 4 tyBool j28x11)] [(fPtr (tyList (tyOpt tyS_lumref_mark)) c2_0 a2_0), (fPtr (tyList (tyOpt tyS_lumref_mark)) c3_0 a3_0), (fPtr (tyList tyStr) c3_1 a3_1)])) (S := (tab [(0, (iq a0)), (2, (Value.func (.func 58) #[] #[c2_0])), (3, (Value.func (.func 59) #[] #[c3_0, c3_1])), (9, l13v9), (10, (iq l13i19)), (11, v21), (18, (iq a1)), (19, (iq l13i19)), (26, (iq (wq (a0 + (1 : Int))))), (27, (iq l24i27))])) ?_
       refine aw_region ?_
       refine al_in rfl rfl rfl rfl ?_
       refine al_mv rfl rfl ?_
       refine al_nil ?_
       exact aq_again k25 (j28x11, (wq (l24i27 + (1 : Int)))) (Nat.lt_succ_self _) h (fun w a hm hs => norm hm hs [0, 1] [0, 1, 2] [(0, (iq a0)), (2, (Value.func (.func 58) #[] #[c2_0])), (3, (Value.func (.func 59) #[] #[c3_0, c3_1])), (9, l13v9), (10, (iq l13i19)), (11, v21), (18, (iq a1)), (19, (iq l13i19)), (26, (iq (wq (a0 + (1 : Int))))), (27, (iq (wq (l24i27 + (1 : Int)))))] (by decide) ⟨rfl, rfl, rfl, rfl, rfl, rfl, rfl, rfl, rfl, rfl, trivial⟩)
      ·clear hkk29
       refine aw_block ?_
       refine aw_sr ?_
       refine al_mv rfl rfl ?_
       refine al_as rfl rfl ?_
       refine al_nt ?_
       refine aw_sr ?_
       refine al_mv rfl rfl ?_
       refine al_mv rfl rfl ?_
       obtain ⟨r31, hc30, h⟩ := opt_some h
       refine al_callF (vs := [(iq l13i19)]) (caps := [c2_0]) (f_lumref_Fits_1_ok fu l13i19 c2_0 a2_0 hc30) rfl [] [] [0, 1] (pre_fz 0 rfl pre_nil) rfl (by simp) (by decide) (.inl rfl) rfl rfl Tryd.func58 rfl rfl rfl (fun _ => ?_)
       refine al_nt ?_
       refine aw_cond rfl (fun hb32 => ?_) (fun hb32 => ?_)
       ·replace h := bif_t hb32 h
        refine aw_region ?_
        refine al_mv rfl rfl ?_
        refine al_mv rfl rfl ?_
        refine al_mv rfl rfl ?_
        refine al_mv rfl rfl ?_
        obtain ⟨u33, hu34, h⟩ := opt_some h
        refine al_idxR 0 (at_some hu34).1 (at_some hu34).2.1 rfl rfl rfl Tryd.underlying131 sz4 rfl (fun p35 hp36 => ?_)
        refine al_val (ov_loadR (ds := [(bool u33)]) 0 rfl hp36 (at_some hu34).2.2 (fun h => h) rfl Tryd.underlying4 sz4 rfl rfl rfl) ?_
        refine al_mv rfl rfl ?_
        refine al_caseB 39 rfl (fun hb37 => ?_) (fun hb37 => ?_)
        ·replace h := bif_t hb37 h
         refine al_skip ?_
         refine al_skip ?_
         refine al_skip ?_
         refine al_skip ?_
         refine al_skip ?_
         refine al_skip ?_
         refine al_skip ?_
         refine al_skip ?_
         refine al_skip ?_
         refine al_val (ov_pick_t rfl rfl rfl) ?_
         obtain ⟨u38, hu39, h⟩ := opt_some h
         refine al_idxR 1 (at_some hu39).1 (at_some hu39).2.1 rfl rfl rfl Tryd.underlying131 sz4 rfl (fun p40 hp41 => ?_)
         refine al_storeR (k := (l24i27).toNat) (x := true) (vs := [(bool true)]) 1 rfl hp41 (idx_lt hu39) rfl rfl (cv_rfl rfl) (fun _ => rfl) sz4 rfl ?_
         refine al_nil ?_
         refine aq_block ?_
         exact aq_join (l24x11.set (l24i27).toNat true) h (fun w a hm hs => norm hm hs [0, 1] [0, 1, 2] [(0, (iq a0)), (2, (Value.func (.func 58) #[] #[c2_0])), (3, (Value.func (.func 59) #[] #[c3_0, c3_1])), (9, l13v9), (10, (iq l13i19)), (11, v21), (18, (iq a1)), (19, (iq l13i19)), (26, (iq (wq (a0 + (1 : Int))))), (27, (iq l24i27))] (by decide) ⟨rfl, rfl, rfl, rfl, rfl, rfl, rfl, rfl, rfl, rfl, trivial⟩)
        ·replace h := bif_f hb37 h
         refine al_mv rfl rfl ?_
         refine al_in rfl rfl rfl rfl ?_
         refine al_mv rfl rfl ?_
         refine al_caseB 42 rfl (fun hb42 => ?_) (fun hb42 => ?_)
         ·replace h := bif_t hb42 h
          refine al_mv rfl rfl ?_
          refine al_mv rfl rfl ?_
          refine al_in rfl rfl rfl rfl ?_
          obtain ⟨u43, hu44, h⟩ := opt_some h
          refine al_idxR 1 (at_some hu44).1 (at_some hu44).2.1 rfl rfl rfl Tryd.underlying131 sz4 rfl (fun p45 hp46 => ?_)
          refine al_val (ov_loadR (ds := [(bool u43)]) 1 rfl hp46 (at_some hu44).2.2 (fun h => h) rfl Tryd.underlying4 sz4 rfl rfl rfl) ?_
          refine al_val (ov_pick_t rfl rfl rfl) ?_
          refine al_val (ov_pick_f rfl rfl rfl) ?_
          obtain ⟨u47, hu48, h⟩ := opt_some h
          refine al_idxR 1 (at_some hu48).1 (at_some hu48).2.1 rfl rfl rfl Tryd.underlying131 sz4 rfl (fun p49 hp50 => ?_)
          refine al_storeR (k := (l24i27).toNat) (x := u43) (vs := [(bool u43)]) 1 rfl hp50 (idx_lt hu48) rfl rfl (cv_rfl rfl) (fun _ => rfl) sz4 rfl ?_
          refine al_nil ?_
          refine aq_block ?_
          exact aq_join (l24x11.set (l24i27).toNat u43) h (fun w a hm hs => norm hm hs [0, 1] [0, 1, 2] [(0, (iq a0)), (2, (Value.func (.func 58) #[] #[c2_0])), (3, (Value.func (.func 59) #[] #[c3_0, c3_1])), (9, l13v9), (10, (iq l13i19)), (11, v21), (18, (iq a1)), (19, (iq l13i19)), (26, (iq (wq (a0 + (1 : Int))))), (27, (iq l24i27))] (by decide) ⟨rfl, rfl, rfl, rfl, rfl, rfl, rfl, rfl, rfl, rfl, trivial⟩)
         ·replace h := bif_f hb42 h
          refine al_skip ?_
          refine al_skip ?_
          refine al_skip ?_
          refine al_skip ?_
          refine al_skip ?_
          refine al_val (ov_pick_f rfl rfl rfl) ?_
          refine al_val (ov_pick_f rfl rfl rfl) ?_
          obtain ⟨u51, hu52, h⟩ := opt_some h
          refine al_idxR 1 (at_some hu52).1 (at_some hu52).2.1 rfl rfl rfl Tryd.underlying131 sz4 rfl (fun p53 hp54 => ?_)
          refine al_storeR (k := (l24i27).toNat) (x := false) (vs := [(bool false)]) 1 rfl hp54 (idx_lt hu52) rfl rfl (cv_rfl rfl) (fun _ => rfl) sz4 rfl ?_
          refine al_nil ?_
          refine aq_block ?_
          exact aq_join (l24x11.set (l24i27).toNat false) h (fun w a hm hs => norm hm hs [0, 1] [0, 1, 2] [(0, (iq a0)), (2, (Value.func (.func 58) #[] #[c2_0])), (3, (Value.func (.func 59) #[] #[c3_0, c3_1])), (9, l13v9), (10, (iq l13i19)), (11, v21), (18, (iq a1)), (19, (iq l13i19)), (26, (iq (wq (a0 + (1 : Int))))), (27, (iq l24i27))] (by decide) ⟨rfl, rfl, rfl, rfl, rfl, rfl, rfl, rfl, rfl, rfl, trivial⟩)
       ·replace h := bif_f hb32 h
        refine aw_region ?_
        refine al_mv rfl rfl ?_
        refine al_mv rfl rfl ?_
        refine al_mv rfl rfl ?_
        refine al_in rfl rfl rfl rfl ?_
        refine al_mv rfl rfl ?_
        refine al_caseB 55 rfl (fun hb55 => ?_) (fun hb55 => ?_)
        ·replace h := bif_t hb55 h
         refine al_mv rfl rfl ?_
         refine al_mv rfl rfl ?_
         refine al_in rfl rfl rfl rfl ?_
         obtain ⟨u56, hu57, h⟩ := opt_some h
         refine al_idxR 0 (at_some hu57).1 (at_some hu57).2.1 rfl rfl rfl Tryd.underlying131 sz4 rfl (fun p58 hp59 => ?_)
         refine al_val (ov_loadR (ds := [(bool u56)]) 0 rfl hp59 (at_some hu57).2.2 (fun h => h) rfl Tryd.underlying4 sz4 rfl rfl rfl) ?_
         refine al_val (ov_pick_t rfl rfl rfl) ?_
         refine al_mv rfl rfl ?_
         refine al_caseB 62 rfl (fun hb60 => ?_) (fun hb60 => ?_)
         ·replace h := bif_t hb60 h
          refine al_mv rfl rfl ?_
          refine al_mv rfl rfl ?_
          refine al_mv rfl rfl ?_
          refine al_in rfl rfl rfl rfl ?_
          obtain ⟨r62, hc61, h⟩ := opt_some h
          refine al_callF (vs := [(iq l13i19), (iq (wq (l24i27 - (1 : Int))))]) (caps := [c3_0, c3_1]) (f_lumref_Fits_2_ok fu l13i19 (wq (l24i27 - (1 : Int))) c3_0 a3_0 c3_1 a3_1 hc61) rfl [] [] [0, 1] (pre_fz 1 rfl (pre_fz 2 rfl pre_nil)) rfl (by simp) (by decide) (.inl rfl) rfl rfl Tryd.func59 rfl rfl rfl (fun _ => ?_)
          refine al_val (ov_pick_t rfl rfl rfl) ?_
          obtain ⟨u63, hu64, h⟩ := opt_some h
          refine al_idxR 1 (at_some hu64).1 (at_some hu64).2.1 rfl rfl rfl Tryd.underlying131 sz4 rfl (fun p65 hp66 => ?_)
          refine al_storeR (k := (l24i27).toNat) (x := r62) (vs := [(bool r62)]) 1 rfl hp66 (idx_lt hu64) rfl rfl (cv_rfl rfl) (fun _ => rfl) sz4 rfl ?_
          refine al_nil ?_
          refine aq_block ?_
          exact aq_join (l24x11.set (l24i27).toNat r62) h (fun w a hm hs => norm hm hs [0, 1] [0, 1, 2] [(0, (iq a0)), (2, (Value.func (.func 58) #[] #[c2_0])), (3, (Value.func (.func 59) #[] #[c3_0, c3_1])), (9, l13v9), (10, (iq l13i19)), (11, v21), (18, (iq a1)), (19, (iq l13i19)), (26, (iq (wq (a0 + (1 : Int))))), (27, (iq l24i27))] (by decide) ⟨rfl, rfl, rfl, rfl, rfl, rfl, rfl, rfl, rfl, rfl, trivial⟩)
         ·replace h := bif_f hb60 h
          refine al_skip ?_
          refine al_skip ?_
          refine al_skip ?_
          refine al_skip ?_
          refine al_skip ?_
          refine al_val (ov_pick_f rfl rfl rfl) ?_
          obtain ⟨u67, hu68, h⟩ := opt_some h
          refine al_idxR 1 (at_some hu68).1 (at_some hu68).2.1 rfl rfl rfl Tryd.underlying131 sz4 rfl (fun p69 hp70 => ?_)
          refine al_storeR (k := (l24i27).toNat) (x := false) (vs := [(bool false)]) 1 rfl hp70 (idx_lt hu68) rfl rfl (cv_rfl rfl) (fun _ => rfl) sz4 rfl ?_
          refine al_nil ?_
          refine aq_block ?_
          exact aq_join (l24x11.set (l24i27).toNat false) h (fun w a hm hs => norm hm hs [0, 1] [0, 1, 2] [(0, (iq a0)), (2, (Value.func (.func 58) #[] #[c2_0])), (3, (Value.func (.func 59) #[] #[c3_0, c3_1])), (9, l13v9), (10, (iq l13i19)), (11, v21), (18, (iq a1)), (19, (iq l13i19)), (26, (iq (wq (a0 + (1 : Int))))), (27, (iq l24i27))] (by decide) ⟨rfl, rfl, rfl, rfl, rfl, rfl, rfl, rfl, rfl, rfl, trivial⟩)
        ·replace h := bif_f hb55 h
         refine al_skip ?_
         refine al_skip ?_
         refine al_skip ?_
         refine al_skip ?_
         refine al_skip ?_
         refine al_val (ov_pick_f rfl rfl rfl) ?_
         refine al_mv rfl rfl ?_
         refine al_skip ?_
         refine al_skip ?_
         refine al_skip ?_
         refine al_skip ?_
         refine al_skip ?_
         refine al_val (ov_pick_f rfl rfl rfl) ?_
         obtain ⟨u71, hu72, h⟩ := opt_some h
         refine al_idxR 1 (at_some hu72).1 (at_some hu72).2.1 rfl rfl rfl Tryd.underlying131 sz4 rfl (fun p73 hp74 => ?_)
         refine al_storeR (k := (l24i27).toNat) (x := false) (vs := [(bool false)]) 1 rfl hp74 (idx_lt hu72) rfl rfl (cv_rfl rfl) (fun _ => rfl) sz4 rfl ?_
         refine al_nil ?_
         refine aq_block ?_
         exact aq_join (l24x11.set (l24i27).toNat false) h (fun w a hm hs => norm hm hs [0, 1] [0, 1, 2] [(0, (iq a0)), (2, (Value.func (.func 58) #[] #[c2_0])), (3, (Value.func (.func 59) #[] #[c3_0, c3_1])), (9, l13v9), (10, (iq l13i19)), (11, v21), (18, (iq a1)), (19, (iq l13i19)), (26, (iq (wq (a0 + (1 : Int))))), (27, (iq l24i27))] (by decide) ⟨rfl, rfl, rfl, rfl, rfl, rfl, rfl, rfl, rfl, rfl, trivial⟩)
     ·replace h := bif_f hb27 h
      refine aw_exit ?_
      refine aq_then_exit ?_
      refine aq_then_exit ?_
      refine aq_block_exit ?_
      exact aq_join l24x11 h (fun w a hm hs => norm hm hs [1] [0, 1, 2] [(0, (iq a0)), (2, (Value.func (.func 58) #[] #[c2_0])), (3, (Value.func (.func 59) #[] #[c3_0, c3_1])), (11, v21), (18, (iq a1)), (19, (iq l13i19))] (by decide) ⟨rfl, rfl, rfl, rfl, rfl, rfl, trivial⟩)
  ·replace h := bif_f hb17 h
   refine aw_exit ?_
   refine aq_then_exit ?_
   refine aq_then_exit ?_
   refine aq_block_exit ?_
   exact aq_join (l13v9, l13x9) h (fun w a hm hs => norm hm hs [0] [0, 1, 2] [(0, (iq a0)), (9, l13v9)] (by decide) ⟨rfl, rfl, trivial⟩)
def f_lumref_Fits (fu : Nat) (a0 : (List (Option (List S_lumref_mark)))) (a1 : (List (List UInt8))) : Option Bool := (opt (f_lumref_table_F58_F59 fu (a1.length : Int) (a0.length : Int) a0 a0 a1) fun (r6 : Bool) => (some r6))
set_option maxRecDepth 100000 in
theorem f_lumref_Fits_ok (fu : Nat) (v0_0 : Value) (a0 : (List (Option (List S_lumref_mark)))) (v1_0 : Value) (a1 : (List (List UInt8))) {r : Bool} (h : f_lumref_Fits fu a0 a1 = some r) : FnOk Tryd.prog 28 [v0_0, v1_0] [(fDat (tyList (tyOpt tyS_lumref_mark)) [v0_0] a0), (fDat (tyList tyStr) [v1_0] a1)] [] (fun (i : Unit) => { val := (bool r) }) := by
 unfold f_lumref_Fits at h
 refine fn_enter Tryd.func28 rfl Tryd.ntmps28 rfl (fun w0 Z0 => ?_)
 refine aw_sr ?_
 refine al_box (vs := [v0_0]) rfl (cv_fz 0 rfl) rfl (fun g1 => ?_)
 refine al_box (vs := [v1_0]) rfl (cv_fz 1 rfl) rfl (fun g2 => ?_)
 refine al_as rfl rfl ?_
 refine al_nt ?_
 refine aw_seq ?_
 refine aw_freezeBN (τ := (tyList (tyOpt tyS_lumref_mark))) 1 (a0) rfl rfl (fun hm => fz_at (i := 0) hm rfl) ?_
 refine aw_freezeBN (τ := (tyList tyStr)) 0 (a1) rfl rfl (fun hm => fz_at (i := 2) hm rfl) ?_
 refine aw_region ?_
 refine al_loadP1 0 rfl rfl Tryd.underlying22 sz22 rfl rfl rfl (fun s3 => ?_)
 refine al_val (ov_lenD 0 rfl rfl Tryd.underlying22 rfl) ?_
 refine al_loadP1 2 rfl rfl Tryd.underlying27 sz27 rfl rfl rfl (fun s4 => ?_)
 refine al_val (ov_lenD 0 rfl rfl Tryd.underlying27 rfl) ?_
 refine al_val (ov_makeFunc2 (vs := [(pq g1)]) rfl rfl) ?_
 refine al_val (ov_makeFunc2 (vs := [(pq g1), (pq g2)]) rfl rfl) ?_
 obtain ⟨r6, hc5, h⟩ := opt_some h
 refine al_call (vs := [(iq (a1.length : Int)), (iq (a0.length : Int)), (Value.func (.func 58) #[] #[(pq g1)]), (Value.func (.func 59) #[] #[(pq g1), (pq g2)])]) (f_lumref_table_F58_F59_ok fu (a1.length : Int) (a0.length : Int) (pq g1) a0 (pq g1) a0 (pq g2) a1 hc5) [] [] [] (pre_fz 3 rfl (pre_fz 3 rfl (pre_fz 2 rfl pre_nil))) rfl (by simp) (by decide) (.inl rfl) rfl Tryd.func57 rfl rfl rfl (fun _ => ?_)
 refine al_as rfl rfl ?_
 refine al_nt ?_
 refine aw_ret ?_
 obtain rfl := Option.some.inj h
 exact fn_ret () [] [] rfl rfl rfl rfl (res1 rfl rfl) rfl rfl rfl (by decide)
def f_lumref_Match (fu : Nat) (a0 : (List UInt8)) (a1 : (List UInt8)) : Option (Bool × Int) := (opt (f_lumref_Pattern fu a0) fun (r2 : ((List (Option (List S_lumref_mark))) × Int)) => (bif (r2.2 != (0 : Int)) then (some (false, r2.2)) else (opt (f_lumref_Split fu a1) fun (r6 : ((List (List UInt8)) × Int)) => (bif (r6.2 != (0 : Int)) then (some (false, r6.2)) else (opt (f_lumref_Fits fu r2.1 r6.1) fun (r10 : Bool) => (some (r10, (0 : Int))))))))
set_option maxHeartbeats 2000000 in
set_option maxRecDepth 100000 in
theorem f_lumref_Match_ok (fu : Nat) (a0 : (List UInt8)) (a1 : (List UInt8)) {r : (Bool × Int)} (h : f_lumref_Match fu a0 a1 = some r) : FnOk Tryd.prog 10 [(str a0), (str a1)] [] [] (fun (i : Unit) => { val := (Value.tuple #[(bool r.1), (int .i64 r.2)]) }) := by
 unfold f_lumref_Match at h
 refine fn_enter Tryd.func10 rfl Tryd.ntmps10 rfl (fun w0 Z0 => ?_)
 refine aw_sr ?_
 refine al_as rfl rfl ?_
 refine al_as rfl rfl ?_
 refine al_nt ?_
 refine aw_sr ?_
 refine al_mv rfl rfl ?_
 obtain ⟨r2, hc1, h⟩ := opt_some h
 refine al_call (vs := [(str a0)]) (f_lumref_Pattern_ok fu a0 hc1) [] [] [] pre_nil rfl (by simp) (by decide) (.inl rfl) rfl Tryd.func8 rfl rfl rfl (fun v3 => ?_)
 refine al_mv rfl rfl ?_
 refine al_ex rfl rfl rfl ?_
 refine al_ex rfl rfl rfl ?_
 refine al_as rfl rfl ?_
 refine al_as rfl rfl ?_
 refine al_nt ?_
 refine aw_seq ?_
 refine aw_sr ?_
 refine al_mv rfl rfl ?_
 refine al_in rfl rfl rfl rfl ?_
 refine al_nt ?_
 refine aw_cond rfl (fun hb4 => ?_) (fun hb4 => ?_)
 ·replace h := bif_t hb4 h
  refine aw_sr ?_
  refine al_mv rfl rfl ?_
  refine al_as rfl rfl ?_
  refine al_as rfl rfl ?_
  refine al_nt ?_
  refine aw_ret ?_
  refine aq_then_ret ?_
  obtain rfl := Option.some.inj h
  exact fn_ret () [] [] rfl rfl rfl rfl (res2 rfl rfl rfl) rfl rfl rfl (by decide)
 ·replace h := bif_f hb4 h
  refine aw_skip ?_
  refine aq_tr ?_
  refine al_mv rfl rfl ?_
  obtain ⟨r6, hc5, h⟩ := opt_some h
  refine al_call (vs := [(str a1)]) (f_lumref_Split_ok fu a1 hc5) [] [] [0] pre_nil rfl (by simp) (by decide) (.inl rfl) rfl Tryd.func23 rfl rfl rfl (fun v7 => ?_)
  refine al_mv rfl rfl ?_
  refine al_ex rfl rfl rfl ?_
  refine al_ex rfl rfl rfl ?_
  refine al_as rfl rfl ?_
  refine al_as rfl rfl ?_
  refine al_nt ?_
  refine aw_seq ?_
  refine aw_sr ?_
  refine al_mv rfl rfl ?_
  refine al_in rfl rfl rfl rfl ?_
  refine al_nt ?_
  refine aw_cond rfl (fun hb8 => ?_) (fun hb8 => ?_)
  ·replace h := bif_t hb8 h
   refine aw_sr ?_
   refine al_mv rfl rfl ?_
   refine al_as rfl rfl ?_
   refine al_as rfl rfl ?_
   refine al_nt ?_
   refine aw_ret ?_
   refine aq_then_ret ?_
   obtain rfl := Option.some.inj h
   exact fn_ret () [] [] rfl rfl rfl rfl (res2 rfl rfl rfl) rfl rfl rfl (by decide)
  ·replace h := bif_f hb8 h
   refine aw_skip ?_
   refine aq_tr ?_
   refine al_mv rfl rfl ?_
   refine al_mv rfl rfl ?_
   obtain ⟨r10, hc9, h⟩ := opt_some h
   refine al_call (vs := [v3, v7]) (f_lumref_Fits_ok fu v3 r2.1 v7 r6.1 hc9) [0, 1] [] [0, 1] (pre_own 1 rfl rfl (pre_own 0 rfl rfl pre_nil)) rfl (by simp) (by decide) (.inr flat_res0) rfl Tryd.func28 rfl rfl rfl (fun _ => ?_)
   refine al_as rfl rfl ?_
   refine al_as rfl rfl ?_
   refine al_nt ?_
   refine aw_ret ?_
   obtain rfl := Option.some.inj h
   exact fn_ret () [] [] rfl rfl rfl rfl (res2 rfl rfl rfl) rfl rfl rfl (by decide)
def f_glob_Check (fu : Nat) (a0 : (List UInt8)) : Option Int := (opt (f_glob_parse fu a0) fun (r2 : ((List S_glob_part) × Int)) => (some r2.2))
set_option maxRecDepth 100000 in
theorem f_glob_Check_ok (fu : Nat) (a0 : (List UInt8)) {r : Int} (h : f_glob_Check fu a0 = some r) : FnOk Tryd.prog 11 [(str a0)] [uMax, uTabs] [] (fun (i : Unit) => { val := (int .i64 r) }) := by
 unfold f_glob_Check at h
 refine fn_enter Tryd.func11 rfl Tryd.ntmps11 rfl (fun w0 Z0 => ?_)
 refine aw_sr ?_
 refine al_as rfl rfl ?_
 refine al_nt ?_
 refine aw_sr ?_
 refine al_mv rfl rfl ?_
 obtain ⟨r2, hc1, h⟩ := opt_some h
 refine al_call (vs := [(str a0)]) (f_glob_parse_ok fu a0 hc1) [] [] [] (pre_fz 0 rfl (pre_fz 1 rfl pre_nil)) rfl (by simp) (by decide) (.inl rfl) rfl Tryd.func18 rfl rfl rfl (fun v3 => ?_)
 refine al_mv rfl rfl ?_
 refine al_ex rfl rfl rfl ?_
 refine al_ex rfl rfl rfl ?_
 refine al_as rfl rfl ?_
 refine al_as rfl rfl ?_
 refine al_nt ?_
 refine aw_sr ?_
 refine al_mv rfl rfl ?_
 refine al_as rfl rfl ?_
 refine al_nt ?_
 refine aw_ret ?_
 obtain rfl := Option.some.inj h
 exact fn_ret () [] [] rfl rfl rfl rfl (res1 rfl rfl) rfl rfl rfl (by decide)
def f_lumlaw_GlobMatches (fu : Nat) (a0 : (List UInt8)) (a1 : (List UInt8)) : Option Bool := (opt (f_lumref_Pattern fu a0) fun (r2 : ((List (Option (List S_lumref_mark))) × Int)) => (opt (f_glob_Match fu a0 a1) fun (r5 : (Bool × Int)) => (opt (f_lumref_Match fu a0 a1) fun (r7 : (Bool × Int)) => (lt (fun (j8b4 : Bool) => (some j8b4)) fun (kk9 : Bool → Option Bool) => (opt (f_glob_Check fu a0) fun (r11 : Int) => (bif (r11 == r2.2) then (bif (r5.1 == r7.1) then (kk9 (r5.2 == r7.2)) else (kk9 false)) else (kk9 false)))))))
set_option maxHeartbeats 2000000 in
set_option maxRecDepth 100000 in
theorem f_lumlaw_GlobMatches_ok (fu : Nat) (a0 : (List UInt8)) (a1 : (List UInt8)) {r : Bool} (h : f_lumlaw_GlobMatches fu a0 a1 = some r) : FnOk Tryd.prog 4 [(str a0), (str a1)] [uMax, uTabs] [] (fun (i : Unit) => { val := (bool r) }) := by
 unfold f_lumlaw_GlobMatches at h
 refine fn_enter Tryd.func4 rfl Tryd.ntmps4 rfl (fun w0 Z0 => ?_)
 refine aw_sr ?_
 refine al_as rfl rfl ?_
 refine al_nt ?_
 refine aw_sr ?_
 refine al_mv rfl rfl ?_
 obtain ⟨r2, hc1, h⟩ := opt_some h
 refine al_call (vs := [(str a0)]) (f_lumref_Pattern_ok fu a0 hc1) [] [] [] pre_nil rfl (by simp) (by decide) (.inl rfl) rfl Tryd.func8 rfl rfl rfl (fun v3 => ?_)
 refine al_mv rfl rfl ?_
 refine al_ex rfl rfl rfl ?_
 refine al_ex rfl rfl rfl ?_
 refine al_as rfl rfl ?_
 refine al_as rfl rfl ?_
 refine al_nt ?_
 refine aw_sr ?_
 refine al_mv rfl rfl ?_
 refine al_mv rfl rfl ?_
 obtain ⟨r5, hc4, h⟩ := opt_some h
 refine al_call (vs := [(str a0), (str a1)]) (f_glob_Match_ok fu a0 a1 hc4) [] [] [0] (pre_fz 0 rfl (pre_fz 1 rfl pre_nil)) rfl (by simp) (by decide) (.inl rfl) rfl Tryd.func9 rfl rfl rfl (fun _ => ?_)
 refine al_mv rfl rfl ?_
 refine al_ex rfl rfl rfl ?_
 refine al_ex rfl rfl rfl ?_
 refine al_as rfl rfl ?_
 refine al_as rfl rfl ?_
 refine al_nt ?_
 refine aw_sr ?_
 refine al_mv rfl rfl ?_
 refine al_mv rfl rfl ?_
 obtain ⟨r7, hc6, h⟩ := opt_some h
 refine al_call (vs := [(str a0), (str a1)]) (f_lumref_Match_ok fu a0 a1 hc6) [] [] [0] pre_nil rfl (by simp) (by decide) (.inl rfl) rfl Tryd.func10 rfl rfl rfl (fun _ => ?_)
 refine al_mv rfl rfl ?_
 refine al_ex rfl rfl rfl ?_
 refine al_ex rfl rfl rfl ?_
 refine al_as rfl rfl ?_
 refine al_as rfl rfl ?_
 refine al_nt ?_
 obtain ⟨kk9, hkk9, h⟩ := lt_some h
 refine aw_seq_join (ι := Bool) (fun i => (memOf w0 Z0 [] [] [uMax, uTabs])) (fun i => (tab [(4, (bool i))])) (fun i => kk9 i = some r) ?_ ?_
 ·rintro j8b4 h
  have h : kk9 j8b4 = some r := h
  rw [hkk9] at h
  dsimp only at h
  clear hkk9
  refine aw_show (m := (memOf w0 Z0 [] [] [uMax, uTabs])) (S := (tab [(4, (bool j8b4))])) ?_
  refine aw_ret ?_
  obtain rfl := Option.some.inj h
  exact fn_ret () [] [] rfl rfl rfl rfl (res1 rfl rfl) rfl rfl rfl (by decide)
 ·clear hkk9
  refine aw_region ?_
  refine al_mv rfl rfl ?_
  obtain ⟨r11, hc10, h⟩ := opt_some h
  refine al_call (vs := [(str a0)]) (f_glob_Check_ok fu a0 hc10) [] [] [0] (pre_fz 0 rfl (pre_fz 1 rfl pre_nil)) rfl (by simp) (by decide) (.inl rfl) rfl Tryd.func11 rfl rfl rfl (fun _ => ?_)
  refine al_mv rfl rfl ?_
  refine al_in rfl rfl rfl rfl ?_
  refine al_mv rfl rfl ?_
  refine al_caseB 32 rfl (fun hb12 => ?_) (fun hb12 => ?_)
  ·replace h := bif_t hb12 h
   refine al_mv rfl rfl ?_
   refine al_mv rfl rfl ?_
   refine al_val (ov_boolEq Tryd.underlying4 rfl rfl rfl) ?_
   refine al_val (ov_pick_t rfl rfl rfl) ?_
   refine al_mv rfl rfl ?_
   refine al_caseB 37 rfl (fun hb13 => ?_) (fun hb13 => ?_)
   ·replace h := bif_t hb13 h
    refine al_mv rfl rfl ?_
    refine al_mv rfl rfl ?_
    refine al_in rfl rfl rfl rfl ?_
    refine al_val (ov_pick_t rfl rfl rfl) ?_
    refine al_as rfl rfl ?_
    refine al_nil ?_
    exact aq_join (r5.2 == r7.2) h (fun w a hm hs => norm hm hs [] [0, 1] [(4, (bool (r5.2 == r7.2)))] (by decide) ⟨rfl, trivial⟩)
   ·replace h := bif_f hb13 h
    refine al_skip ?_
    refine al_skip ?_
    refine al_skip ?_
    refine al_val (ov_pick_f rfl rfl rfl) ?_
    refine al_as rfl rfl ?_
    refine al_nil ?_
    exact aq_join false h (fun w a hm hs => norm hm hs [] [0, 1] [(4, (bool false))] (by decide) ⟨rfl, trivial⟩)
  ·replace h := bif_f hb12 h
   refine al_skip ?_
   refine al_skip ?_
   refine al_skip ?_
   refine al_val (ov_pick_f rfl rfl rfl) ?_
   refine al_mv rfl rfl ?_
   refine al_skip ?_
   refine al_skip ?_
   refine al_skip ?_
   refine al_val (ov_pick_f rfl rfl rfl) ?_
   refine al_as rfl rfl ?_
   refine al_nil ?_
   exact aq_join false h (fun w a hm hs => norm hm hs [] [0, 1] [(4, (bool false))] (by decide) ⟨rfl, trivial⟩)
end Go.Proofs.YtpakblkldklbmaaDoor
namespace Go.Proofs.YtpakblkldklbmaaDoor
open Go.RowKit YtpakblkldklbmaaDoor.En
theorem at_nat {α : Type} (xs : List α) (k : Nat) : at? xs (k : Int) = xs[k]? := by unfold at?; rw [if_pos (Int.natCast_nonneg k)]; simp
theorem at_lt {α : Type} {xs : List α} {k : Nat} (h : k < xs.length) : at? xs (k : Int) = some xs[k] := by rw [at_nat, List.getElem?_eq_getElem h]
theorem at_of {α : Type} {xs : List α} {k : Nat} {x : α} (h : xs[k]? = some x) : at? xs (k : Int) = some x := by rw [at_nat, h]
theorem w64 {x : Int} (h0 : -9223372036854775808 ≤ x) (h1 : x ≤ 9223372036854775807) : IntKind.i64.wrap x = x := IntWalk.i64_in x (by omega)
theorem wsucc {k : Nat} (h : k < 9223372036854775807) : IntKind.i64.wrap ((k : Int) + 1) = ((k + 1 : Nat) : Int) := by rw [w64 (by omega) (by omega)]; omega
theorem dlt {a b : Int} (h : a < b) : decide (a < b) = true := decide_eq_true h
theorem dge {a b : Int} (h : b ≤ a) : decide (a < b) = false := decide_eq_false (by omega)
theorem cond_tt {α : Type} {b : Bool} {x y : α} (h : b = true) : (bif b then x else y) = x := by rw [h]; rfl
theorem cond_ff {α : Type} {b : Bool} {x y : α} (h : b = false) : (bif b then x else y) = y := by rw [h]; rfl
end Go.Proofs.YtpakblkldklbmaaDoor
namespace Go.Proofs.YtpakblkldklbmaaDoor.U8
open Go.Lib YtpakblkldklbmaaDoor.En
def C (x : Nat) : Prop := 128 ≤ x ∧ x ≤ 191
instance (x : Nat) : Decidable (C x) := by unfold C; infer_instance
def fin (low n c : Nat) : Nat × Nat := if c < low ∨ 1114111 < c ∨ (55296 ≤ c ∧ c < 57344) then (0, 0) else (c, n)
def refN (n b0 b1 b2 b3 : Nat) : Nat × Nat :=
  if b0 < 128 then (b0, 1)
  else if 194 ≤ b0 ∧ b0 < 224 then (if n < 2 then (0, 0) else if C b1 then fin 128 2 (64 * (b0 - 192) + b1 - 128) else (0, 0))
  else if 224 ≤ b0 ∧ b0 < 240 then (if n < 3 then (0, 0) else if C b1 then (if C b2 then fin 2048 3 (64 * (64 * (b0 - 224) + b1 - 128) + b2 - 128) else (0, 0)) else (0, 0))
  else if 240 ≤ b0 ∧ b0 < 245 then (if n < 4 then (0, 0) else if C b1 then (if C b2 then (if C b3 then fin 65536 4 (64 * (64 * (64 * (b0 - 240) + b1 - 128) + b2 - 128) + b3 - 128) else (0, 0)) else (0, 0)) else (0, 0))
  else (0, 0)
def Fits (d r : Nat × Nat) : Prop := (d = (65533, 1) ∧ r = (0, 0)) ∨ (d = r ∧ 1 ≤ r.2 ∧ ¬ (r.1 = 65533 ∧ r.2 = 1))
theorem fits_bad : Fits (65533, 1) (0, 0) := .inl ⟨rfl, rfl⟩
theorem fits_good {c c' n : Nat} (h : c = c') (hn : 2 ≤ n) : Fits (c, n) (c', n) := .inr ⟨by rw [h], by show 1 ≤ n; omega, fun h' => by have : n = 1 := h'.2; omega⟩
theorem refN_fits (n b0 b1 b2 b3 : Nat) (h0 : b0 < 256) (h1 : b1 < 256) (h2 : b2 < 256) (h3 : b3 < 256) : Fits (decodeN n b0 b1 b2 b3) (refN n b0 b1 b2 b3) := by
  unfold decodeN refN
  by_cases a0 : b0 < 128
  · rw [if_pos a0, if_pos a0]
    exact .inr ⟨rfl, Nat.le_refl _, fun h => by have : b0 = 65533 := h.1; omega⟩
  rw [if_neg a0, if_neg a0]
  by_cases a1 : b0 < 194
  · have e1 : ∀ r : Nat × Nat, (if b0 / 32 = 6 ∧ (1 < n ∧ b1 / 64 = 2) then (if b0 % 32 * 64 + b1 % 64 ≥ 128 then (b0 % 32 * 64 + b1 % 64, 2) else (65533, 1)) else r) = (if b0 / 32 = 6 ∧ (1 < n ∧ b1 / 64 = 2) then ((65533, 1) : Nat × Nat) else r) := fun r => by
      split
      · rw [if_neg (by omega)]
      · rfl
    rw [e1]
    rw [if_neg (c := 194 ≤ b0 ∧ b0 < 224) (by omega), if_neg (c := 224 ≤ b0 ∧ b0 < 240) (by omega), if_neg (c := 240 ≤ b0 ∧ b0 < 245) (by omega), if_neg (c := b0 / 16 = 14 ∧ _) (by omega), if_neg (c := b0 / 8 = 30 ∧ _) (by omega)]
    split <;> exact fits_bad
  by_cases a2 : b0 < 224
  · rw [if_pos (c := 194 ≤ b0 ∧ b0 < 224) (by omega), if_neg (c := b0 / 16 = 14 ∧ _) (by omega), if_neg (c := b0 / 8 = 30 ∧ _) (by omega)]
    by_cases c1 : n < 2
    · rw [if_pos c1, if_neg (by omega)]; exact fits_bad
    rw [if_neg c1]
    by_cases c2 : C b1
    · rw [if_pos c2]
      unfold C at c2
      rw [if_pos (by omega), if_pos (by omega)]
      unfold fin
      rw [if_neg (by omega)]
      exact fits_good (by omega) (by omega)
    · rw [if_neg c2]
      unfold C at c2
      rw [if_neg (by omega)]; exact fits_bad
  rw [if_neg (c := 194 ≤ b0 ∧ b0 < 224) (by omega), if_neg (c := b0 / 32 = 6 ∧ _) (by omega)]
  by_cases a3 : b0 < 240
  · rw [if_pos (c := 224 ≤ b0 ∧ b0 < 240) (by omega), if_neg (c := b0 / 8 = 30 ∧ _) (by omega)]
    by_cases c1 : n < 3
    · rw [if_pos c1, if_neg (by omega)]; exact fits_bad
    rw [if_neg c1]
    by_cases c2 : C b1
    · by_cases c3 : C b2
      · rw [if_pos c2, if_pos c3]
        unfold C at c2 c3
        rw [if_pos (by omega)]
        unfold fin
        by_cases c4 : b0 % 16 * 4096 + b1 % 64 * 64 + b2 % 64 ≥ 2048 ∧ (b0 % 16 * 4096 + b1 % 64 * 64 + b2 % 64 < 55296 ∨ (57344 ≤ b0 % 16 * 4096 + b1 % 64 * 64 + b2 % 64 ∧ b0 % 16 * 4096 + b1 % 64 * 64 + b2 % 64 ≤ 1114111))
        · rw [if_pos c4, if_neg (by omega)]
          exact fits_good (by omega) (by omega)
        · rw [if_neg c4, if_pos (by omega)]; exact fits_bad
      · rw [if_pos c2, if_neg c3]
        unfold C at c3
        rw [if_neg (by omega)]; exact fits_bad
    · rw [if_neg c2]
      unfold C at c2
      rw [if_neg (by omega)]; exact fits_bad
  rw [if_neg (c := 224 ≤ b0 ∧ b0 < 240) (by omega), if_neg (c := b0 / 16 = 14 ∧ _) (by omega)]
  by_cases a4 : b0 < 248
  · by_cases a5 : b0 < 245
    · rw [if_pos (c := 240 ≤ b0 ∧ b0 < 245) (by omega)]
      by_cases c1 : n < 4
      · rw [if_pos c1, if_neg (by omega)]; exact fits_bad
      rw [if_neg c1]
      by_cases c2 : C b1
      · by_cases c3 : C b2
        · by_cases c4 : C b3
          · rw [if_pos c2, if_pos c3, if_pos c4]
            unfold C at c2 c3 c4
            rw [if_pos (by omega)]
            unfold fin
            by_cases c5 : b0 % 8 * 262144 + b1 % 64 * 4096 + b2 % 64 * 64 + b3 % 64 ≥ 65536 ∧ (b0 % 8 * 262144 + b1 % 64 * 4096 + b2 % 64 * 64 + b3 % 64 < 55296 ∨ (57344 ≤ b0 % 8 * 262144 + b1 % 64 * 4096 + b2 % 64 * 64 + b3 % 64 ∧ b0 % 8 * 262144 + b1 % 64 * 4096 + b2 % 64 * 64 + b3 % 64 ≤ 1114111))
            · rw [if_pos c5, if_neg (by omega)]
              exact fits_good (by omega) (by omega)
            · rw [if_neg c5, if_pos (by omega)]; exact fits_bad
          · rw [if_pos c2, if_pos c3, if_neg c4]
            unfold C at c4
            rw [if_neg (by omega)]; exact fits_bad
        · rw [if_pos c2, if_neg c3]
          unfold C at c3
          rw [if_neg (by omega)]; exact fits_bad
      · rw [if_neg c2]
        unfold C at c2
        rw [if_neg (by omega)]; exact fits_bad
    · rw [if_neg (c := 240 ≤ b0 ∧ b0 < 245) (by omega)]
      split
      · split
        · omega
        · exact fits_bad
      · exact fits_bad
  · rw [if_neg (c := 240 ≤ b0 ∧ b0 < 245) (by omega), if_neg (c := b0 / 8 = 30 ∧ _) (by omega)]; exact fits_bad
def by_ (l : List UInt8) (k : Nat) : Nat := (l.getD k 0).toNat
theorem by_lt (l : List UInt8) (k : Nat) : by_ l k < 256 := (l.getD k 0).toNat_lt
def refC (l : List UInt8) : Nat × Nat := refN l.length (by_ l 0) (by_ l 1) (by_ l 2) (by_ l 3)
theorem refC_fits (l : List UInt8) : Fits (decodeL l) (refC l) := by
  rw [decodeL_N]; exact refN_fits _ _ _ _ _ (by_lt l 0) (by_lt l 1) (by_lt l 2) (by_lt l 3)
def R : Nat → List UInt8 → List Int
  | 0, _ => []
  | f + 1, l => if l = [] then [] else ((decodeL l).1 : Int) :: R f (l.drop (decodeL l).2)
theorem drop_lt {l : List UInt8} (h : l ≠ []) : (l.drop (decodeL l).2).length < l.length := by
  have h1 := decodeL_width l
  have h2 : 0 < l.length := List.length_pos_iff.2 h
  rw [List.length_drop]; omega
theorem R_fuel : ∀ (f g : Nat) (l : List UInt8), l.length ≤ f → l.length ≤ g → R f l = R g l
  | 0, 0, _, _, _ => rfl
  | 0, g + 1, l, hf, _ => by rw [List.eq_nil_of_length_eq_zero (show l.length = 0 by omega)]; simp [R]
  | f + 1, 0, l, _, hg => by rw [List.eq_nil_of_length_eq_zero (show l.length = 0 by omega)]; simp [R]
  | f + 1, g + 1, l, hf, hg => by
    rw [R, R]
    split
    · rfl
    · rename_i h
      have := drop_lt h
      rw [R_fuel f g _ (by omega) (by omega)]
theorem V_fuel : ∀ (f g : Nat) (l : List UInt8), l.length ≤ f → l.length ≤ g → validGoD f l = validGoD g l
  | 0, 0, _, _, _ => rfl
  | 0, g + 1, l, hf, _ => by rw [List.eq_nil_of_length_eq_zero (show l.length = 0 by omega)]; simp [validGoD]
  | f + 1, 0, l, _, hg => by rw [List.eq_nil_of_length_eq_zero (show l.length = 0 by omega)]; simp [validGoD]
  | f + 1, g + 1, l, hf, hg => by
    rw [validGoD, validGoD]
    split
    · rfl
    · rename_i h
      have := drop_lt h
      rw [V_fuel f g _ (by omega) (by omega)]
def rns (l : List UInt8) : List Int := R l.length l
theorem rns_nil : rns [] = [] := rfl
theorem rns_step {l : List UInt8} (h : l ≠ []) : rns l = ((decodeL l).1 : Int) :: rns (l.drop (decodeL l).2) := by
  have h1 := drop_lt h
  unfold rns
  obtain ⟨n, hn⟩ : ∃ n, l.length = n + 1 := ⟨l.length - 1, by have := List.length_pos_iff.2 h; omega⟩
  rw [hn, R, if_neg h, R_fuel n _ _ (by omega) (Nat.le_refl _)]
theorem V_nil : validD [] = true := rfl
theorem V_step {l : List UInt8} (h : l ≠ []) : validD l = if (decodeL l).1 = 65533 ∧ (decodeL l).2 = 1 then false else validD (l.drop (decodeL l).2) := by
  have h1 := drop_lt h
  unfold validD
  obtain ⟨n, hn⟩ : ∃ n, l.length = n + 1 := ⟨l.length - 1, by have := List.length_pos_iff.2 h; omega⟩
  rw [hn, validGoD, if_neg h, V_fuel n _ _ (by omega) (Nat.le_refl _)]
theorem rns_len : ∀ (n : Nat) (l : List UInt8), l.length ≤ n → (rns l).length ≤ l.length
  | 0, l, h => by rw [List.eq_nil_of_length_eq_zero (show l.length = 0 by omega)]; simp [rns_nil]
  | n + 1, l, h => by
    by_cases hl : l = []
    · rw [hl]; simp [rns_nil]
    · have h1 := drop_lt hl
      have := rns_len n (l.drop (decodeL l).2) (by omega)
      rw [rns_step hl, List.length_cons]; omega
theorem rns_pos {l : List UInt8} (h : l ≠ []) : rns l ≠ [] := by rw [rns_step h]; simp
theorem dec_drop (s : List UInt8) (p : Nat) : dec s p = decodeL (s.drop p) := (decodeL_drop ⟨s.toArray⟩ p).symm
def bad (c : Int) : Bool := decide (c = 47) || (decide (c < 32) || decide (c = 127))
def nameV (s : List UInt8) : Int := if s = [] ∨ s = [46] ∨ s = [46, 46] ∨ validD s = false then 8 else if (rns s).any bad then 8 else if 24 < (rns s).length then 2 else 0
end Go.Proofs.YtpakblkldklbmaaDoor.U8
namespace Go.Proofs.YtpakblkldklbmaaDoor.PTreeName
open Go.RowKit YtpakblkldklbmaaDoor.En YtpakblkldklbmaaDoor U8 Go.Lib
set_option linter.unusedVariables false
set_option linter.unusedSimpArgs false
theorem iw {n : Nat} (h : n ≤ 9223372036854775807) : IntKind.i64.wrap (n : Int) = (n : Int) := w64 (by omega) (by omega)
theorem ch_step (a : List UInt8) (n : Int) (kk : Int → Option (Int × Int)) (fuel i c : Nat) (b : UInt8) (hi : (cut a 1 n)[i]? = some b) (hc : c < 1000000000) (hi2 : i < 10) :
    f_lumref_char_L20 a n kk (fuel + 1) (c : Int) (i : Int) = if C b.toNat then f_lumref_char_L20 a n kk fuel ((64 * c + b.toNat - 128 : Nat) : Int) ((i + 1 : Nat) : Int) else some (0, 0) := by
  have hlt := (List.getElem?_eq_some_iff.1 hi).1
  have hb := b.toNat_lt
  rw [f_lumref_char_L20, cond_tt (dlt (by omega)), at_of hi, opt_of, lt_of, wsucc (by omega)]
  by_cases h1 : b.toNat < 128
  · rw [cond_tt (dlt (by omega)), if_neg (by unfold C; omega)]; rfl
  · rw [cond_ff (dge (by omega))]
    by_cases h2 : b.toNat > 191
    · rw [decide_eq_true (by omega), if_neg (by unfold C; omega)]; rfl
    · rw [decide_eq_false (by omega), if_pos (by unfold C; omega)]
      dsimp only
      rw [cond_ff rfl]
      have e : IntKind.i64.wrap ((IntKind.i64.wrap ((IntKind.i64.wrap ((64 : Int) * (c : Int))) + (IntKind.i64.wrap (b.toNat : Int)))) - (128 : Int)) = ((64 * c + b.toNat - 128 : Nat) : Int) := by
        rw [w64 (x := 64 * (c : Int)) (by omega) (by omega), iw (n := b.toNat) (by omega), w64 (x := 64 * (c : Int) + (b.toNat : Int)) (by omega) (by omega), w64 (by omega) (by omega)]; omega
      rw [e]
theorem ch_end (a : List UInt8) (n : Int) (kk : Int → Option (Int × Int)) (fuel i c : Nat) (hi : (cut a 1 n).length = i) : f_lumref_char_L20 a n kk (fuel + 1) (c : Int) (i : Int) = kk (c : Int) := by
  rw [f_lumref_char_L20, cond_ff (dge (by omega))]
theorem cut_at (a : List UInt8) (n j : Nat) (h : j + 1 < n) (hn : n ≤ a.length) : (cut a 1 (n : Int))[j]? = some (a.getD (j + 1) 0) := by
  unfold En.cut
  rw [show ((1 : Int)).toNat = 1 from rfl, Int.toNat_natCast, List.getElem?_drop, List.getElem?_take, if_pos (by omega), Nat.add_comm, List.getD_eq_getElem?_getD, List.getElem?_eq_getElem (by omega)]; rfl
theorem cut_len (a : List UInt8) (n : Nat) (h : 1 ≤ n) (hn : n ≤ a.length) : (cut a 1 (n : Int)).length = n - 1 := by
  unfold En.cut
  rw [show ((1 : Int)).toNat = 1 from rfl, Int.toNat_natCast, List.length_drop, List.length_take]; omega
def fin_k (low n : Nat) (c : Int) : Option (Int × Int) := (lt (fun (j9b84 : Bool) => (bif j9b84 then (some ((0 : Int), (0 : Int))) else (some (c, (n : Int))))) fun (kk10 : Bool → Option (Int × Int)) => (bif (decide (c < (low : Int))) then (kk10 true) else (bif (decide (c > (1114111 : Int))) then (kk10 true) else (bif (decide (c ≥ (55296 : Int))) then (kk10 (decide (c < (57344 : Int)))) else (kk10 false)))))
theorem fin_k_ok (low n c : Nat) : fin_k low n (c : Int) = some (((fin low n c).1 : Int), ((fin low n c).2 : Int)) := by
  unfold fin_k fin
  rw [lt_of]
  by_cases h1 : c < low
  · rw [cond_tt (dlt (by omega)), if_pos (.inl h1)]; rfl
  · rw [cond_ff (dge (by omega))]
    by_cases h2 : c > 1114111
    · rw [cond_tt (decide_eq_true (by omega)), if_pos (.inr (.inl h2))]; rfl
    · rw [cond_ff (decide_eq_false (by omega))]
      by_cases h3 : c ≥ 55296
      · rw [cond_tt (decide_eq_true (by omega))]
        by_cases h4 : c < 57344
        · rw [decide_eq_true (by omega), if_pos (by omega)]; rfl
        · rw [decide_eq_false (by omega), if_neg (by omega)]; rfl
      · rw [cond_ff (decide_eq_false (by omega)), if_neg (by omega)]; rfl
def kk5 (a : List UInt8) (fu : Nat) (c : Int) (n : Int) (low : Int) : Option (Int × Int) := (bif (decide ((a.length : Int) < n)) then (some ((0 : Int), (0 : Int))) else (lt (fun (j7i4 : Int) => (lt (fun (j9b84 : Bool) => (bif j9b84 then (some ((0 : Int), (0 : Int))) else (some (j7i4, n)))) fun (kk10 : Bool → Option (Int × Int)) => (bif (decide (j7i4 < low)) then (kk10 true) else (bif (decide (j7i4 > (1114111 : Int))) then (kk10 true) else (bif (decide (j7i4 ≥ (55296 : Int))) then (kk10 (decide (j7i4 < (57344 : Int)))) else (kk10 false)))))) fun (kk8 : Int → Option (Int × Int)) => (req (0 ≤ (1 : Int) ∧ (1 : Int) ≤ n ∧ n ≤ (a.length : Int)) (req ((cut a (1 : Int) n).length ≤ 9223372036854775807) (f_lumref_char_L20 a n kk8 fu c (0 : Int))))))
def out (r : Nat × Nat) : Int × Int := ((r.1 : Int), (r.2 : Int))
theorem out_if {p : Prop} [Decidable p] (x y : Nat × Nat) : some (out (if p then x else y)) = if p then some (out x) else some (out y) := by split <;> rfl
theorem kk5_2 (a : List UInt8) (hl : a.length ≤ 2000000) (fu c low : Nat) (hf : 10 ≤ fu) (hc : c < 1000) : kk5 a fu (c : Int) 2 (low : Int) = some (out (if a.length < 2 then (0, 0) else if C (by_ a 1) then fin low 2 (64 * c + by_ a 1 - 128) else (0, 0))) := by
  unfold kk5
  by_cases h : a.length < 2
  · rw [cond_tt (dlt (by omega)), if_pos h]; rfl
  · rw [cond_ff (dge (by omega)), if_neg h, lt_of, req_pos (by omega), req_pos (by rw [show (2 : Int) = ((2 : Nat) : Int) from rfl, cut_len a 2 (by omega) (by omega)]; omega)]
    obtain ⟨f, rfl⟩ : ∃ f, fu = f + 2 := ⟨fu - 2, by omega⟩
    refine (ch_step a 2 _ (f + 1) 0 c _ (cut_at a 2 0 (by omega) (by omega)) (by omega) (by omega)).trans ?_
    rw [out_if]
    show (if C (by_ a 1) then _ else _) = _
    by_cases h1 : C (by_ a 1)
    · rw [if_pos h1, if_pos h1]
      refine (ch_end a 2 _ f 1 _ (cut_len a 2 (by omega) (by omega))).trans ?_
      exact fin_k_ok low 2 _
    · rw [if_neg h1, if_neg h1]; rfl
theorem kk5_3 (a : List UInt8) (hl : a.length ≤ 2000000) (fu c low : Nat) (hf : 10 ≤ fu) (hc : c < 1000) : kk5 a fu (c : Int) 3 (low : Int) = some (out (if a.length < 3 then (0, 0) else if C (by_ a 1) then (if C (by_ a 2) then fin low 3 (64 * (64 * c + by_ a 1 - 128) + by_ a 2 - 128) else (0, 0)) else (0, 0))) := by
  have l1 := by_lt a 1
  have l2 := by_lt a 2
  unfold kk5
  by_cases h : a.length < 3
  · rw [cond_tt (dlt (by omega)), if_pos h]; rfl
  · rw [cond_ff (dge (by omega)), if_neg h, lt_of, req_pos (by omega), req_pos (by rw [show (3 : Int) = ((3 : Nat) : Int) from rfl, cut_len a 3 (by omega) (by omega)]; omega)]
    obtain ⟨f, rfl⟩ : ∃ f, fu = f + 3 := ⟨fu - 3, by omega⟩
    refine (ch_step a 3 _ (f + 2) 0 c _ (cut_at a 3 0 (by omega) (by omega)) (by omega) (by omega)).trans ?_
    rw [out_if]
    show (if C (by_ a 1) then _ else _) = _
    by_cases h1 : C (by_ a 1)
    · rw [if_pos h1, if_pos h1, out_if]
      refine (ch_step a 3 _ (f + 1) 1 (64 * c + by_ a 1 - 128) _ (cut_at a 3 1 (by omega) (by omega)) (by omega) (by omega)).trans ?_
      show (if C (by_ a 2) then _ else _) = _
      by_cases h2 : C (by_ a 2)
      · rw [if_pos h2, if_pos h2]
        refine (ch_end a 3 _ f 2 _ (cut_len a 3 (by omega) (by omega))).trans ?_
        exact fin_k_ok low 3 _
      · rw [if_neg h2, if_neg h2]; rfl
    · rw [if_neg h1, if_neg h1]; rfl
theorem kk5_4 (a : List UInt8) (hl : a.length ≤ 2000000) (fu c low : Nat) (hf : 10 ≤ fu) (hc : c < 1000) : kk5 a fu (c : Int) 4 (low : Int) = some (out (if a.length < 4 then (0, 0) else if C (by_ a 1) then (if C (by_ a 2) then (if C (by_ a 3) then fin low 4 (64 * (64 * (64 * c + by_ a 1 - 128) + by_ a 2 - 128) + by_ a 3 - 128) else (0, 0)) else (0, 0)) else (0, 0))) := by
  have l1 := by_lt a 1
  have l2 := by_lt a 2
  have l3 := by_lt a 3
  unfold kk5
  by_cases h : a.length < 4
  · rw [cond_tt (dlt (by omega)), if_pos h]; rfl
  · rw [cond_ff (dge (by omega)), if_neg h, lt_of, req_pos (by omega), req_pos (by rw [show (4 : Int) = ((4 : Nat) : Int) from rfl, cut_len a 4 (by omega) (by omega)]; omega)]
    obtain ⟨f, rfl⟩ : ∃ f, fu = f + 4 := ⟨fu - 4, by omega⟩
    refine (ch_step a 4 _ (f + 3) 0 c _ (cut_at a 4 0 (by omega) (by omega)) (by omega) (by omega)).trans ?_
    rw [out_if]
    show (if C (by_ a 1) then _ else _) = _
    by_cases h1 : C (by_ a 1)
    · rw [if_pos h1, if_pos h1, out_if]
      refine (ch_step a 4 _ (f + 2) 1 (64 * c + by_ a 1 - 128) _ (cut_at a 4 1 (by omega) (by omega)) (by omega) (by omega)).trans ?_
      show (if C (by_ a 2) then _ else _) = _
      by_cases h2 : C (by_ a 2)
      · rw [if_pos h2, if_pos h2, out_if]
        refine (ch_step a 4 _ (f + 1) 2 (64 * (64 * c + by_ a 1 - 128) + by_ a 2 - 128) _ (cut_at a 4 2 (by omega) (by omega)) (by omega) (by omega)).trans ?_
        show (if C (by_ a 3) then _ else _) = _
        by_cases h3 : C (by_ a 3)
        · rw [if_pos h3, if_pos h3]
          refine (ch_end a 4 _ f 3 _ (cut_len a 4 (by omega) (by omega))).trans ?_
          exact fin_k_ok low 4 _
        · rw [if_neg h3, if_neg h3]; rfl
      · rw [if_neg h2, if_neg h2]; rfl
    · rw [if_neg h1, if_neg h1]; rfl
theorem char_ok (a : List UInt8) (ha : a ≠ []) (hl : a.length ≤ 2000000) (fu : Nat) (hf : 10 ≤ fu) : f_lumref_char fu a = some (out (refC a)) := by
  have hpos := List.length_pos_iff.2 ha
  have l0 := by_lt a 0
  have e0 : IntKind.i64.wrap (En.bAt a 0) = ((by_ a 0 : Nat) : Int) := by
    rw [show En.bAt a 0 = ((by_ a 0 : Nat) : Int) from rfl, iw (by omega)]
  unfold f_lumref_char refC refN
  rw [cond_ff (by simpa using ha), req_pos (by omega), e0]
  by_cases h1 : by_ a 0 < 128
  · rw [cond_tt (dlt (by omega)), if_pos h1]; rfl
  · rw [cond_ff (dge (by omega)), if_neg h1, lt_of, lt_of]
    have e1 : by_ a 0 < 224 → 194 ≤ by_ a 0 → IntKind.i64.wrap (((by_ a 0 : Nat) : Int) - 192) = ((by_ a 0 - 192 : Nat) : Int) := fun _ _ => by rw [w64 (by omega) (by omega)]; omega
    have e2 : 224 ≤ by_ a 0 → IntKind.i64.wrap (((by_ a 0 : Nat) : Int) - 224) = ((by_ a 0 - 224 : Nat) : Int) := fun _ => by rw [w64 (by omega) (by omega)]; omega
    have e3 : 240 ≤ by_ a 0 → IntKind.i64.wrap (((by_ a 0 : Nat) : Int) - 240) = ((by_ a 0 - 240 : Nat) : Int) := fun _ => by rw [w64 (by omega) (by omega)]; omega
    have ff : ∀ m : Nat, ¬ by_ a 0 < m → decide (((by_ a 0 : Nat) : Int) < (m : Int)) = false := fun m h => decide_eq_false (by omega)
    have ft : ∀ m : Nat, by_ a 0 < m → decide (((by_ a 0 : Nat) : Int) < (m : Int)) = true := fun m h => decide_eq_true (by omega)
    by_cases h2 : 194 ≤ by_ a 0 ∧ by_ a 0 < 224
    · rw [cond_tt (decide_eq_true (show ((by_ a 0 : Nat) : Int) ≥ 194 by omega)), show decide (((by_ a 0 : Nat) : Int) < 224) = true from ft 224 h2.2, if_pos h2]
      dsimp only
      rw [cond_tt rfl, e1 h2.2 h2.1]
      exact kk5_2 a hl fu _ 128 hf (by omega)
    · rw [if_neg h2]
      by_cases h3 : 224 ≤ by_ a 0
      · rw [cond_tt (decide_eq_true (show ((by_ a 0 : Nat) : Int) ≥ 194 by omega)), show decide (((by_ a 0 : Nat) : Int) < 224) = false from ff 224 (by omega)]
        dsimp only
        rw [cond_ff rfl, lt_of]
        by_cases h4 : by_ a 0 < 240
        · rw [cond_tt (decide_eq_true (show ((by_ a 0 : Nat) : Int) ≥ 224 by omega)), show decide (((by_ a 0 : Nat) : Int) < 240) = true from ft 240 h4, if_pos ⟨h3, h4⟩]
          dsimp only
          rw [cond_tt rfl, e2 h3]
          exact kk5_3 a hl fu _ 2048 hf (by omega)
        · rw [cond_tt (decide_eq_true (show ((by_ a 0 : Nat) : Int) ≥ 224 by omega)), show decide (((by_ a 0 : Nat) : Int) < 240) = false from ff 240 h4, if_neg (c := 224 ≤ by_ a 0 ∧ by_ a 0 < 240) (by omega)]
          dsimp only
          rw [cond_ff rfl, lt_of, cond_tt (decide_eq_true (show ((by_ a 0 : Nat) : Int) ≥ 240 by omega))]
          by_cases h5 : by_ a 0 < 245
          · rw [show decide (((by_ a 0 : Nat) : Int) < 245) = true from ft 245 h5, if_pos ⟨by omega, h5⟩]
            dsimp only
            rw [cond_tt rfl, e3 (by omega)]
            exact kk5_4 a hl fu _ 65536 hf (by omega)
          · rw [show decide (((by_ a 0 : Nat) : Int) < 245) = false from ff 245 h5, if_neg (by omega)]
            dsimp only
            rw [cond_ff rfl]; rfl
      · rw [cond_ff (decide_eq_false (show ¬ ((by_ a 0 : Nat) : Int) ≥ 194 by omega)), if_neg (c := 224 ≤ by_ a 0 ∧ by_ a 0 < 240) (by omega), if_neg (c := 240 ≤ by_ a 0 ∧ by_ a 0 < 245) (by omega)]
        dsimp only
        rw [cond_ff rfl, lt_of, cond_ff (decide_eq_false (show ¬ ((by_ a 0 : Nat) : Int) ≥ 224 by omega))]
        dsimp only
        rw [cond_ff rfl, lt_of, cond_ff (decide_eq_false (show ¬ ((by_ a 0 : Nat) : Int) ≥ 240 by omega))]
        dsimp only
        rw [cond_ff rfl]; rfl
theorem chars_loop (fu : Nat) (hf : 10 ≤ fu) : ∀ (fuel : Nat) (s : List UInt8) (o : List Int), s.length < fuel → s.length ≤ 2000000 → o.length + s.length ≤ 2000000 →
    f_lumref_Chars_L5 (fun j => some (j, true)) fu fuel s o = some (if validD s then (o ++ rns s, true) else ([], false))
  | 0, s, _, h, _, _ => absurd h (Nat.not_lt_zero _)
  | fuel + 1, s, o, h, hl, ho => by
    rw [f_lumref_Chars_L5]
    by_cases h0 : s = []
    · subst h0
      rw [cond_ff (by rfl), V_nil, rns_nil, List.append_nil]; rfl
    · have hd := drop_lt h0
      have hle := decodeL_le s h0
      rw [cond_tt (by simpa using h0), char_ok s h0 hl fu hf, opt_of]
      rcases refC_fits s with ⟨h1, h2⟩ | ⟨h1, h2, h3⟩
      · have hv : validD s = false := by rw [V_step h0, h1]; exact if_pos ⟨rfl, rfl⟩
        rw [h2, hv]; rfl
      · rw [V_step h0, rns_step h0]
        rw [h1] at hd hle ⊢
        rw [if_neg h3]
        show (bif (((refC s).2 : Int) == 0) then _ else _) = _
        rw [cond_ff (by rw [beq_eq_false_iff_ne]; omega)]
        show req (((o.length + 1) * 8 : Nat) ≤ 140737488355328 ∧ o.length + 1 ≤ 9223372036854775807) (req (0 ≤ ((refC s).2 : Int) ∧ ((refC s).2 : Int) ≤ (s.length : Int)) (f_lumref_Chars_L5 _ fu fuel (s.drop ((refC s).2 : Int).toNat) (o ++ [((refC s).1 : Int)]))) = _
        have hsl := List.length_pos_iff.2 h0
        rw [req_pos (by omega), req_pos (by omega), Int.toNat_natCast, chars_loop fu hf fuel _ _ (by omega) (by omega) (by simp; omega), List.append_assoc]; rfl
theorem chars_ok (s : List UInt8) (hl : s.length ≤ 1048576) (fu : Nat) (hf : 1048600 ≤ fu) : f_lumref_Chars fu s = some (if validD s then (rns s, true) else ([], false)) := by
  unfold f_lumref_Chars
  rw [lt_of]
  exact chars_loop fu (by omega) fu s [] (by omega) (by omega) (by simp; omega)
theorem name_loop (r : List Int × Bool) (hl : r.1.length ≤ 2000000) (kk : Unit → Option Int) : ∀ (fuel k : Nat), k ≤ r.1.length → r.1.length - k < fuel → f_lumref_Name_L12 r kk fuel (k : Int) = if (r.1.drop k).any bad then some 8 else kk ()
  | 0, k, _, h => absurd h (Nat.not_lt_zero _)
  | fuel + 1, k, hk, hf => by
    rw [f_lumref_Name_L12]
    by_cases hlt : k < r.1.length
    · have key : ∀ b : Bool, b = bad r.1[k] → (bif b then (some (8 : Int)) else f_lumref_Name_L12 r kk fuel (IntKind.i64.wrap ((k : Int) + 1))) = if (r.1.drop k).any bad then some 8 else kk () := fun b hb => by
        rw [List.drop_eq_getElem_cons hlt, List.any_cons, ← hb]
        cases b with
        | true => rfl
        | false => rw [cond_ff rfl, wsucc (by omega), name_loop r hl kk fuel (k + 1) hlt (by omega), Bool.false_or]
      rw [cond_tt (dlt (by omega)), at_lt hlt, opt_of, lt_of]
      unfold bad at key
      generalize r.1[k] = c at key
      by_cases h1 : c = 47
      · rw [cond_tt (by rw [h1]; rfl)]; exact key true (by rw [decide_eq_true h1]; rfl)
      · rw [cond_ff (by rw [beq_eq_false_iff_ne]; exact h1)]
        by_cases h2 : c < 32
        · rw [cond_tt (decide_eq_true h2)]; exact key true (by rw [decide_eq_false h1, decide_eq_true h2]; rfl)
        · rw [cond_ff (decide_eq_false h2)]
          refine key _ ?_
          rw [decide_eq_false h1, decide_eq_false h2]
          by_cases h3 : c = 127
          · rw [h3]; rfl
          · rw [decide_eq_false h3, beq_eq_false_iff_ne.2 h3]; rfl
    · rw [cond_ff (dge (by omega)), List.drop_of_length_le (by omega)]; rfl
theorem name_ok (s : List UInt8) (hl : s.length ≤ 1048576) (fu : Nat) (hf : 1048600 ≤ fu) : f_lumref_Name fu s = some (nameV s) := by
  have hrl := rns_len s.length s (Nat.le_refl _)
  unfold f_lumref_Name nameV
  rw [chars_ok s hl fu hf, opt_of, lt_of]
  cases hv : validD s with
  | false => rw [if_neg (by simp), if_pos (by simp)]; rfl
  | true =>
    rw [if_pos rfl]
    dsimp only
    rw [cond_ff (show (!true) = false from rfl)]
    by_cases h0 : s = []
    · subst h0; rw [if_pos (.inl rfl)]; rfl
    · have := List.length_pos_iff.2 (rns_pos h0)
      rw [cond_ff (by rw [beq_eq_false_iff_ne]; omega)]
      by_cases h1 : s = [46]
      · subst h1; rw [if_pos (.inr (.inl rfl))]; rfl
      · rw [cond_ff (by rw [beq_eq_false_iff_ne]; exact h1)]
        by_cases h2 : s = [46, 46]
        · subst h2; rw [if_pos (.inr (.inr (.inl rfl)))]; rfl
        · rw [beq_eq_false_iff_ne.2 h2, if_neg (by simp [h0, h1, h2])]
          try dsimp only
          rw [cond_ff rfl, lt_of]
          have := name_loop (rns s, true) (by show (rns s).length ≤ _; omega) (fun _ => (bif (decide (((rns s).length : Int) > (24 : Int))) then (some (2 : Int)) else (some (0 : Int)))) fu 0 (by omega) (by show (rns s).length - 0 < fu; omega)
          refine Eq.trans this ?_
          rw [List.drop_zero]
          show (if (rns s).any bad = true then some 8 else _) = _
          split
          · rfl
          · by_cases h4 : 24 < (rns s).length
            · rw [cond_tt (decide_eq_true (by omega)), if_pos h4]
            · rw [cond_ff (decide_eq_false (by omega)), if_neg h4]
theorem check_loop (s : List UInt8) (hl : s.length ≤ 2000000) (kk : Int → Option Int) : ∀ (fuel p n : Nat), s.length - p < fuel → n ≤ p → p ≤ 4000000 → f_names_Check_L10 s kk fuel (n : Int) (p : Int) = if (rns (s.drop p)).any bad then some 8 else kk ((n + (rns (s.drop p)).length : Nat) : Int)
  | 0, p, n, h, _, _ => absurd h (Nat.not_lt_zero _)
  | fuel + 1, p, n, hf, hn, hp => by
    rw [f_names_Check_L10, Int.toNat_natCast]
    by_cases hlt : p < s.length
    · have hne : s.drop p ≠ [] := fun h => by have := congrArg List.length h; rw [List.length_drop] at this; simp at this; omega
      have hw := decodeL_width (s.drop p)
      have hle := decodeL_le (s.drop p) hne
      rw [List.length_drop] at hle
      have key : ∀ b : Bool, b = bad ((decodeL (s.drop p)).1 : Int) → (bif b then (some (8 : Int)) else f_names_Check_L10 s kk fuel (IntKind.i64.wrap ((n : Int) + 1)) ((p + (decodeL (s.drop p)).2 : Nat) : Int)) = if (rns (s.drop p)).any bad then some 8 else kk ((n + (rns (s.drop p)).length : Nat) : Int) := fun b hb => by
        rw [rns_step hne, List.any_cons, ← hb]
        cases b with
        | true => rfl
        | false =>
          rw [cond_ff rfl, wsucc (by omega), check_loop s hl kk fuel _ (n + 1) (by omega) (by omega) (by omega), Bool.false_or, List.drop_drop, List.length_cons]
          rw [show n + 1 + (rns (s.drop (p + (decodeL (s.drop p)).2))).length = n + ((rns (s.drop (p + (decodeL (s.drop p)).2))).length + 1) by omega]
      rw [cond_tt (decide_eq_true hlt), lt_of, dec_drop]
      unfold bad at key
      generalize (((decodeL (s.drop p)).1 : Nat) : Int) = c at key
      by_cases h1 : c = 47
      · rw [cond_tt (by rw [h1]; rfl)]; exact key true (by rw [decide_eq_true h1]; rfl)
      · rw [cond_ff (by rw [beq_eq_false_iff_ne]; exact h1)]
        by_cases h2 : c < 32
        · rw [cond_tt (decide_eq_true h2)]; exact key true (by rw [decide_eq_false h1, decide_eq_true h2]; rfl)
        · rw [cond_ff (decide_eq_false h2)]
          refine key _ ?_
          rw [decide_eq_false h1, decide_eq_false h2]
          by_cases h3 : c = 127
          · rw [h3]; rfl
          · rw [decide_eq_false h3, beq_eq_false_iff_ne.2 h3]; rfl
    · rw [cond_ff (decide_eq_false hlt), List.drop_of_length_le (by omega), rns_nil]; rfl
theorem check_ok (s : List UInt8) (hl : s.length ≤ 1048576) (fu : Nat) (hf : 1048600 ≤ fu) : f_names_Check fu s = some (nameV s) := by
  unfold f_names_Check nameV f_utf8_ValidString
  rw [lt_of]
  by_cases h0 : s = []
  · subst h0; rw [if_pos (.inl rfl)]; rfl
  · rw [cond_ff (by simpa using h0)]
    by_cases h1 : s = [46]
    · subst h1; rw [if_pos (.inr (.inl rfl))]; rfl
    · rw [cond_ff (by rw [beq_eq_false_iff_ne]; exact h1)]
      by_cases h2 : s = [46, 46]
      · subst h2; rw [if_pos (.inr (.inr (.inl rfl)))]; rfl
      · rw [cond_ff (by rw [beq_eq_false_iff_ne]; exact h2), req_pos (by omega), opt_of]
        cases hv : validD s with
        | false => rw [if_pos (by simp)]; rfl
        | true =>
          rw [if_neg (by simp [h0, h1, h2])]
          dsimp only
          rw [cond_ff (show (!true) = false from rfl), lt_of]
          have := check_loop s (by omega) (fun j4i3 => (bif (decide (j4i3 > (24 : Int))) then (some (2 : Int)) else (some (0 : Int)))) fu 0 0 (by omega) (by omega) (by omega)
          refine Eq.trans this ?_
          rw [List.drop_zero, Nat.zero_add]
          split
          · rfl
          · by_cases h4 : 24 < (rns s).length
            · rw [cond_tt (decide_eq_true (by omega)), if_pos h4]
            · rw [cond_ff (decide_eq_false (by omega)), if_neg h4]
end Go.Proofs.YtpakblkldklbmaaDoor.PTreeName
namespace Go.Proofs.YtpakblkldklbmaaDoor.StrOrd
open Go.RowKit YtpakblkldklbmaaDoor.En YtpakblkldklbmaaDoor
theorem u8_trans {a b c : UInt8} (h : a < b) (h' : b < c) : a < c := UInt8.lt_iff_toNat_lt.2 (Nat.lt_trans (UInt8.lt_iff_toNat_lt.1 h) (UInt8.lt_iff_toNat_lt.1 h'))
abbrev L (a b : List UInt8) : Prop := Op.bytesLess a b = true
theorem less_nil (a : List UInt8) : ¬ L a [] := by cases a <;> simp [L, Op.bytesLess]
theorem less_cons {x y : UInt8} {a b : List UInt8} : L (x :: a) (y :: b) ↔ x < y ∨ (x = y ∧ L a b) := by simp [L, Op.bytesLess]
theorem trans : ∀ {a b c : List UInt8}, L a b → L b c → L a c
  | a, [], c, h, _ => absurd h (less_nil a)
  | a, _ :: _, [], _, h => absurd h (less_nil _)
  | [], _ :: _, _ :: _, _, _ => rfl
  | x :: a, y :: b, z :: c, h, h' => by
    rcases less_cons.1 h with k | ⟨e, k⟩
    · rcases less_cons.1 h' with k' | ⟨e', _⟩
      · exact less_cons.2 (.inl (u8_trans k k'))
      · subst e'; exact less_cons.2 (.inl k)
    · subst e
      rcases less_cons.1 h' with k' | ⟨e', k'⟩
      · exact less_cons.2 (.inl k')
      · exact less_cons.2 (.inr ⟨e', trans k k'⟩)
end Go.Proofs.YtpakblkldklbmaaDoor.StrOrd
namespace Go.Proofs.YtpakblkldklbmaaDoor.PNamesSays
open Go.RowKit YtpakblkldklbmaaDoor.En YtpakblkldklbmaaDoor U8
open Go.Lib hiding cut
set_option linter.unusedVariables false
set_option linter.unusedSimpArgs false
abbrev L2 := List (List UInt8)
theorem iw {n : Nat} (h : n ≤ 9223372036854775807) : IntKind.i64.wrap (n : Int) = (n : Int) := w64 (by omega) (by omega)
def Sm (l : L2) : Prop := l.length ≤ 1048577 ∧ ∀ s ∈ l, s.length ≤ 1048576
theorem split_miss {s : List UInt8} (h : indexByte s 47 = -1) : splitV s [47] = [s] := by
  have h2 : index s [47] = -1 := by rw [index_one]; exact h
  unfold splitV
  rw [count_miss h2]; rfl
theorem split_hit {s : List UInt8} {i : Nat} (h : indexByte s 47 = i) : splitV s [47] = s.take i :: splitV (s.drop (i + 1)) [47] := by
  have h2 : index s [47] = i := by rw [index_one]; exact h
  have hn : ¬ (index s [47] == -1) = true := fun e => by have := beq_iff_eq.1 e; omega
  unfold splitV
  rw [count_hit (by simp) h2, Nat.add_comm]
  show (if (index s [47] == -1) = true then [s] else s.take ((index s [47]).toNat + 0) :: splitK [47] 0 (count (s.drop (i + [47].length)) [47]) (s.drop ((index s [47]).toNat + [47].length))) = _
  rw [if_neg hn, h2, Int.toNat_natCast]; rfl
theorem hit_lt {s : List UInt8} {i : Nat} (h : indexByte s 47 = i) : i < s.length := (List.getElem?_eq_some_iff.1 (indexByte_some h).1).1
theorem split_sm : ∀ (n : Nat) (s : List UInt8), s.length ≤ n → (splitV s [47]).length ≤ s.length + 1 ∧ ∀ x ∈ splitV s [47], x.length ≤ s.length
  | n, s, hn => by
    rcases Int.lt_or_le (indexByte s 47) 0 with h | h
    · have hm : indexByte s 47 = -1 := by have := indexByte_ge s 47; omega
      rw [split_miss hm]
      exact ⟨by simp, by simp⟩
    · obtain ⟨i, hi⟩ : ∃ i : Nat, indexByte s 47 = i := ⟨(indexByte s 47).toNat, by omega⟩
      have hlt := hit_lt hi
      rw [split_hit hi]
      match n with
      | 0 => omega
      | n + 1 =>
        obtain ⟨h1, h2⟩ := split_sm n (s.drop (i + 1)) (by rw [List.length_drop]; omega)
        rw [List.length_drop] at h1 h2
        refine ⟨by rw [List.length_cons]; omega, fun x hx => ?_⟩
        rcases List.mem_cons.1 hx with rfl | hx
        · rw [List.length_take]; omega
        · have := h2 x hx; omega
theorem cut_ok : ∀ (fu : Nat) (s : List UInt8), s.length < fu → s.length ≤ 1048576 → f_lumref_cutAt fu s = some (splitV s [47])
  | 0, s, h, _ => absurd h (Nat.not_lt_zero _)
  | fu + 1, s, h, hs => by
    rw [f_lumref_cutAt]
    unfold f_strings_IndexByte
    rw [opt_of, show ((47 : Int)).toNat.toUInt8 = 47 from rfl]
    rcases Int.lt_or_le (indexByte s 47) 0 with h1 | h1
    · have hm : indexByte s 47 = -1 := by have := indexByte_ge s 47; omega
      rw [split_miss hm, hm, cond_tt (decide_eq_true (by decide))]
    · obtain ⟨i, hi⟩ : ∃ i : Nat, indexByte s 47 = i := ⟨(indexByte s 47).toNat, by omega⟩
      have hlt := hit_lt hi
      have hsm := (split_sm _ (s.drop (i + 1)) (Nat.le_refl _)).1
      rw [List.length_drop] at hsm
      rw [split_hit hi, hi, cond_ff (decide_eq_false (by omega)), wsucc (by omega), req_pos (by omega), req_pos (by omega), Int.toNat_natCast, Int.toNat_natCast, cut_ok fu (s.drop (i + 1)) (by rw [List.length_drop]; omega) (by rw [List.length_drop]; omega), opt_of, req_pos (by rw [List.length_singleton]; omega)]; rfl
theorem fsplit_ok (fu : Nat) (s : List UInt8) (hs : s.length ≤ 1048576) : f_strings_Split fu s [47] = some (splitV s [47]) := by
  unfold f_strings_Split
  rw [req_pos ⟨by omega, by simp⟩]
theorem sm_split (s : List UInt8) (hs : s.length ≤ 1048576) : Sm (splitV s [47]) := by
  obtain ⟨h1, h2⟩ := split_sm _ s (Nat.le_refl _)
  exact ⟨by omega, fun x hx => by have := h2 x hx; omega⟩
def chk : Nat → L2 → Int
  | _, [] => 0
  | i, s :: t => if 8 ≤ i then 14 else if nameV s ≠ 0 then nameV s else chk (i + 1) t
theorem chk_cons (i : Nat) (s : List UInt8) (t : L2) : chk i (s :: t) = if 8 ≤ i then 14 else if nameV s ≠ 0 then nameV s else chk (i + 1) t := rfl
theorem all_loop (l : L2) (hl : Sm l) (kk : Unit → Option Int) (g : Nat) (hg : 1048600 ≤ g) : ∀ (d i fu : Nat), l.length - i = d → i ≤ l.length → d < fu →
    f_names_checkAll_L5 l kk g fu (i : Int) = if chk i (l.drop i) = 0 then kk () else some (chk i (l.drop i))
  | _, _, 0, _, _, hf => absurd hf (Nat.not_lt_zero _)
  | 0, i, fu + 1, hd, hi, _ => by
    rw [f_names_checkAll_L5, cond_ff (dge (by omega)), List.drop_of_length_le (by omega)]; rfl
  | d + 1, i, fu + 1, hd, hi, hf => by
    have hlt : i < l.length := by omega
    have hb := hl.1
    rw [f_names_checkAll_L5, cond_tt (dlt (by omega)), at_lt hlt, opt_of, List.drop_eq_getElem_cons hlt, chk_cons]
    by_cases h8 : 8 ≤ i
    · rw [cond_tt (decide_eq_true (by omega)), if_pos h8, if_neg (by decide)]
    · rw [cond_ff (decide_eq_false (by omega)), if_neg h8, PTreeName.check_ok _ (hl.2 _ (List.getElem_mem hlt)) g hg, opt_of]
      by_cases hn : nameV l[i] = 0
      · rw [cond_ff (show (nameV l[i] != 0) = false from by simpa using hn), if_neg (c := nameV l[i] ≠ 0) (by simpa using hn), wsucc (by omega)]
        exact all_loop l hl kk g hg d (i + 1) fu (by omega) (by omega) (by omega)
      · rw [cond_tt (show (nameV l[i] != 0) = true from by simpa using hn), if_pos hn, if_neg hn]
theorem rall_loop (l : L2) (hl : Sm l) (kk : Unit → Option Int) (g : Nat) (hg : 1048600 ≤ g) : ∀ (d i fu : Nat), l.length - i = d → i ≤ l.length → d < fu →
    f_lumref_nameErr_L5 l kk g fu (i : Int) = if chk i (l.drop i) = 0 then kk () else some (chk i (l.drop i))
  | _, _, 0, _, _, hf => absurd hf (Nat.not_lt_zero _)
  | 0, i, fu + 1, hd, hi, _ => by
    rw [f_lumref_nameErr_L5, cond_ff (dge (by omega)), List.drop_of_length_le (by omega)]; rfl
  | d + 1, i, fu + 1, hd, hi, hf => by
    have hlt : i < l.length := by omega
    have hb := hl.1
    rw [f_lumref_nameErr_L5, cond_tt (dlt (by omega)), at_lt hlt, opt_of, List.drop_eq_getElem_cons hlt, chk_cons]
    by_cases h8 : 8 ≤ i
    · rw [cond_tt (decide_eq_true (by omega)), if_pos h8, if_neg (by decide)]
    · rw [cond_ff (decide_eq_false (by omega)), if_neg h8, PTreeName.name_ok _ (hl.2 _ (List.getElem_mem hlt)) g hg, opt_of]
      by_cases hn : nameV l[i] = 0
      · rw [cond_ff (show (nameV l[i] != 0) = false from by simpa using hn), if_neg (c := nameV l[i] ≠ 0) (by simpa using hn), wsucc (by omega)]
        exact rall_loop l hl kk g hg d (i + 1) fu (by omega) (by omega) (by omega)
      · rw [cond_tt (show (nameV l[i] != 0) = true from by simpa using hn), if_pos hn, if_neg hn]
theorem all_ok (l : L2) (hl : Sm l) (fu : Nat) (hf : 2000000 ≤ fu) : f_names_checkAll fu l = some (chk 0 l) ∧ f_lumref_nameErr fu l = some (chk 0 l) := by
  have hb := hl.1
  unfold f_names_checkAll f_lumref_nameErr
  rw [lt_of, lt_of]
  have e1 := all_loop l hl (fun _ => some (0 : Int)) fu (by omega) _ 0 fu rfl (Nat.zero_le _) (by omega)
  have e2 := rall_loop l hl (fun _ => some (0 : Int)) fu (by omega) _ 0 fu rfl (Nat.zero_le _) (by omega)
  rw [List.drop_zero] at e1 e2
  have key : (if chk 0 l = 0 then some (0 : Int) else some (chk 0 l)) = some (chk 0 l) := by
    by_cases h : chk 0 l = 0
    · rw [if_pos h, h]
    · rw [if_neg h]
  exact ⟨e1.trans key, e2.trans key⟩
def sp (p : List UInt8) : L2 × Int := if p.take 1 ≠ [47] then ([], 8) else if p = [47] then ([], 0) else if chk 0 (splitV (p.drop 1) [47]) ≠ 0 then ([], chk 0 (splitV (p.drop 1) [47])) else (splitV (p.drop 1) [47], 0)
theorem sp_tail (r : L2) (e : Int) : (bif (e != (0 : Int)) then (some (([] : List (List UInt8)), e)) else (some (r, (0 : Int)))) = some (if e ≠ 0 then ([], e) else (r, 0)) := by
  by_cases h : e = 0
  · rw [if_neg (by simpa using h), cond_ff (show (e != 0) = false from by simpa using h)]
  · rw [if_pos h, cond_tt (show (e != 0) = true from by simpa using h)]
theorem split1 (p : List UInt8) (hp : p.length ≤ 1048576) (fu : Nat) (hf : 2000000 ≤ fu) : f_names_Split fu p = some (sp p) := by
  unfold f_names_Split f_strings_CutPrefix f_stringslite_CutPrefix f_stringslite_HasPrefix sp
  rw [lt_of]
  cases p with
  | nil => rfl
  | cons b t =>
    rw [cond_tt (decide_eq_true (by rw [List.length_cons]; show ((t.length + 1 : Nat) : Int) ≥ (([47] : List UInt8).length : Int); simp; omega)), req_pos (by simp; omega)]
    rw [show (((([47] : List UInt8).length : Nat) : Int)).toNat = 1 from rfl, opt_of]
    by_cases h1 : (b :: t).take 1 = [47]
    · rw [beq_iff_eq.2 h1, if_neg (by simpa using h1), cond_ff (show (!true) = false from rfl), req_pos (by simp; omega), opt_of, opt_of]
      dsimp only
      rw [cond_ff (show (!true) = false from rfl)]
      have hb : b = 47 := by simpa using h1
      have hd : (b :: t).drop 1 = t := rfl
      have htl : t.length ≤ 1048576 := by rw [List.length_cons] at hp; omega
      rw [hd]
      by_cases h2 : t = []
      · subst h2; subst hb; rw [if_pos rfl]; rfl
      · rw [beq_eq_false_iff_ne.2 h2, if_neg (by rw [hb]; simpa using h2), cond_ff rfl, fsplit_ok fu t htl, opt_of, (all_ok _ (sm_split t htl) fu hf).1, opt_of]
        exact sp_tail _ _
    · rw [beq_eq_false_iff_ne.2 h1, if_pos h1]; rfl
theorem split2 (p : List UInt8) (hp : p.length ≤ 1048576) (fu : Nat) (hf : 2000000 ≤ fu) : f_lumref_Split fu p = some (sp p) := by
  unfold f_lumref_Split sp
  rw [lt_of]
  cases p with
  | nil => rfl
  | cons b t =>
    have hbt := b.toNat_lt
    rw [cond_ff (show ((b :: t) == ([] : List UInt8)) = false from rfl), req_pos (by rw [List.length_cons]; omega)]
    rw [show En.bAt (b :: t) (0 : Int) = ((b.toNat : Nat) : Int) from rfl]
    by_cases h1 : b = 47
    · rw [if_neg (by rw [h1]; simp), show ((((b.toNat : Nat) : Int)) != (47 : Int)) = false from by rw [h1]; rfl]
      dsimp only
      rw [cond_ff rfl]
      have htl : t.length ≤ 1048576 := by rw [List.length_cons] at hp; omega
      by_cases h2 : t = []
      · subst h2; subst h1; rw [if_pos rfl]; rfl
      · rw [beq_eq_false_iff_ne.2 (show b :: t ≠ [47] from by simp [h2]), if_neg (by simp [h2]), cond_ff rfl, req_pos (by rw [List.length_cons]; omega)]
        show (opt (f_lumref_cutAt fu t) _) = _
        rw [cut_ok fu t (by omega) htl, opt_of, (all_ok _ (sm_split t htl) fu hf).2, opt_of]
        exact sp_tail _ _
    · have hne : b.toNat ≠ 47 := fun e => h1 (UInt8.toNat_inj.1 (by rw [e]; rfl))
      rw [if_pos (by simpa using h1), show ((((b.toNat : Nat) : Int)) != (47 : Int)) = true from by rw [bne_iff_ne]; omega]; rfl
theorem sp_sm (p : List UInt8) (hp : p.length ≤ 1048576) : Sm (sp p).1 := by
  have hnil : Sm ([] : L2) := ⟨by simp, by simp⟩
  unfold sp
  split
  · exact hnil
  split
  · exact hnil
  split
  · exact hnil
  · exact sm_split _ (by rw [List.length_drop]; omega)
end Go.Proofs.YtpakblkldklbmaaDoor.PNamesSays
namespace Go.Proofs.YtpakblkldklbmaaDoor.PGlob
open Go.RowKit YtpakblkldklbmaaDoor.En YtpakblkldklbmaaDoor
set_option linter.unusedVariables false
set_option linter.unusedSimpArgs false
def nx (av : Bool) (mv now : Nat → Bool) : Nat → Bool
  | 0 => av && now 0
  | k + 1 => bif av then now (k + 1) || nx av mv now k else now k && mv k
def dpR (A : Nat → Bool) (M : Nat → Nat → Bool) : Nat → Nat → Bool
  | 0 => fun k => k == 0
  | i + 1 => nx (A i) (M i) (dpR A M i)
structure Row (n : Nat) (l : List Bool) (f : Nat → Bool) : Prop where
  len : l.length = n + 1
  get : ∀ k, k ≤ n → l[k]? = some (f k)
theorem row0 (n : Nat) : Row n ((List.replicate (n + 1) false).set 0 true) (fun k => k == 0) := ⟨by simp, fun k hk => by
  rw [List.getElem?_set]
  by_cases h : 0 = k
  · subst h; simp
  · rw [if_neg h, List.getElem?_replicate, if_pos (by omega)]
    have : (k == 0) = false := by simpa using fun e => h e.symm
    rw [this]⟩
theorem get_set_lt {x : List Bool} {k j : Nat} {v : Bool} (h : j < k) : (x.set k v)[j]? = x[j]? := by rw [List.getElem?_set, if_neg (by omega)]
theorem get_set_eq {x : List Bool} {k : Nat} {v : Bool} (h : k < x.length) : (x.set k v)[k]? = some v := by rw [List.getElem?_set, if_pos rfl, if_pos h]
theorem ex_at {x : List Bool} {k : Nat} (h : k < x.length) : ∃ v, at? x (k : Int) = some v := ⟨x[k], at_lt h⟩
section
variable (a2 a3 : List S_glob_element) (a4 : List Int) (n : Nat) (hn : n ≤ 2000000) (fu : Nat)
include hn
theorem nm_in (av : Bool) (mv now : Nat → Bool) (nl : List Bool) (i : Nat) (hnow : Row n nl now) (hA : f_glob_name_1 fu (i : Int) a2 = some av) (hM : ∀ k, k < n → av = false → f_glob_name_2 fu (i : Int) (k : Int) a3 a4 = some (mv k)) (kk : List Bool → Option Bool) :
    ∀ (d k fuel : Nat) (x : List Bool), n + 1 - k = d → k ≤ n + 1 → x.length = n + 1 → (∀ j, j < k → x[j]? = some (nx av mv now j)) → d < fuel → ∃ x', Row n x' (nx av mv now) ∧ f_glob_sequence_F77_F78_L26 (n : Int) a2 a3 a4 nl (i : Int) kk fu fuel x (k : Int) = kk x'
  | _, _, 0, _, _, _, _, _, hf => absurd hf (Nat.not_lt_zero _)
  | 0, k, fuel + 1, x, hd, hk, hx, hp, _ => by
    rw [f_glob_sequence_F77_F78_L26, w64 (by omega) (by omega), cond_ff (dge (by omega))]
    exact ⟨x, ⟨hx, fun j hj => hp j (by omega)⟩, rfl⟩
  | d + 1, k, fuel + 1, x, hd, hk, hx, hp, hf => by
    have hkn : k ≤ n := by omega
    have go : ∀ v : Bool, v = nx av mv now k → ∃ x', Row n x' (nx av mv now) ∧ f_glob_sequence_F77_F78_L26 (n : Int) a2 a3 a4 nl (i : Int) kk fu fuel (x.set k v) (IntKind.i64.wrap ((k : Int) + 1)) = kk x' := fun v hv => by
      rw [wsucc (by omega)]
      refine nm_in av mv now nl i hnow hA hM kk d (k + 1) fuel (x.set k v) (by omega) (by omega) (by rw [List.length_set]; exact hx) (fun j hj => ?_) (by omega)
      by_cases hjk : j = k
      · subst hjk; rw [get_set_eq (by omega), hv]
      · rw [get_set_lt (by omega)]; exact hp j (by omega)
    obtain ⟨u, hu⟩ := ex_at (x := x) (k := k) (by omega)
    rw [f_glob_sequence_F77_F78_L26, w64 (by omega) (by omega), cond_tt (dlt (by omega)), lt_of, hA, opt_of]
    cases av with
    | true =>
      rw [cond_tt rfl, at_of (hnow.get k hkn), opt_of]
      cases hnk : now k with
      | true =>
        rw [cond_tt rfl, hu, opt_of, Int.toNat_natCast]
        exact go true (by cases k <;> simp [nx, hnk])
      | false =>
        rw [cond_ff rfl]
        by_cases h0 : k = 0
        · subst h0
          rw [cond_ff (by simp), hu, opt_of]
          exact go false (by simp [nx, hnk])
        · obtain ⟨j, rfl⟩ : ∃ j, k = j + 1 := ⟨k - 1, by omega⟩
          rw [cond_tt (decide_eq_true (by omega)), show (((j + 1 : Nat) : Int) - 1) = (j : Int) by omega, w64 (by omega) (by omega), at_of (hp j (by omega)), opt_of, hu, opt_of, Int.toNat_natCast]
          exact go _ (by simp [nx, hnk])
    | false =>
      rw [cond_ff rfl]
      by_cases h0 : k = 0
      · subst h0
        rw [cond_ff (by simp), hu, opt_of]
        exact go false (by simp [nx])
      · obtain ⟨j, rfl⟩ : ∃ j, k = j + 1 := ⟨k - 1, by omega⟩
        rw [cond_tt (decide_eq_true (by omega)), show (((j + 1 : Nat) : Int) - 1) = (j : Int) by omega, w64 (by omega) (by omega), at_of (hnow.get j (by omega)), opt_of]
        cases hnj : now j with
        | true =>
          rw [cond_tt rfl, hM j (by omega) rfl, opt_of, hu, opt_of, Int.toNat_natCast]
          exact go _ (by simp [nx, hnj])
        | false =>
          rw [cond_ff rfl, hu, opt_of, Int.toNat_natCast]
          exact go false (by simp [nx, hnj])
theorem nm_out (A : Nat → Bool) (M : Nat → Nat → Bool) (items : Nat) (hi : items ≤ 2000000) (hfu : 2000010 ≤ fu) (hA : ∀ i, i < items → f_glob_name_1 fu (i : Int) a2 = some (A i)) (hM : ∀ i k, i < items → k < n → A i = false → f_glob_name_2 fu (i : Int) (k : Int) a3 a4 = some (M i k)) (kk : List Bool → Option Bool) :
    ∀ (d i fuel : Nat) (l : List Bool), items - i = d → i ≤ items → Row n l (dpR A M i) → d < fuel → ∃ l', Row n l' (dpR A M items) ∧ f_glob_sequence_F77_F78_L15 (items : Int) (n : Int) a2 a3 a4 kk fu fuel l (i : Int) = kk l'
  | _, _, 0, _, _, _, _, hf => absurd hf (Nat.not_lt_zero _)
  | 0, i, fuel + 1, l, hd, hii, hl, _ => by
    rw [f_glob_sequence_F77_F78_L15, lt_of, cond_ff (dge (by omega))]
    obtain rfl : i = items := by omega
    exact ⟨l, hl, rfl⟩
  | d + 1, i, fuel + 1, l, hd, hii, hl, hf => by
    rw [f_glob_sequence_F77_F78_L15, lt_of, cond_tt (dlt (by omega)), lt_of]
    have hw : IntKind.i64.wrap ((n : Int) + 1) = ((n + 1 : Nat) : Int) := by rw [w64 (by omega) (by omega)]; omega
    rw [hw, req_pos ⟨by omega, by omega, by omega⟩, lt_of, Int.toNat_natCast]
    obtain ⟨x', hx', he⟩ := nm_in a2 a3 a4 n hn fu (A i) (M i) (dpR A M i) l i hl (hA i (by omega)) (fun k hk h => hM i k (by omega) hk h) (fun j22x11 => f_glob_sequence_F77_F78_L15 (items : Int) (n : Int) a2 a3 a4 kk fu fuel j22x11 (IntKind.i64.wrap ((i : Int) + 1))) (n + 1) 0 fu (List.replicate (n + 1) false) (by omega) (by omega) (by simp) (fun j hj => absurd hj (Nat.not_lt_zero _)) (by omega)
    obtain ⟨l', hl', he'⟩ := nm_out A M items hi hfu hA hM kk d (i + 1) fuel x' (by omega) (by omega) hx' (by omega)
    refine ⟨l', hl', he.trans ?_⟩
    rw [wsucc (by omega)]
    exact he'
theorem nm_ok (A : Nat → Bool) (M : Nat → Nat → Bool) (items : Nat) (hi : items ≤ 2000000) (hfu : 2000010 ≤ fu) (hA : ∀ i, i < items → f_glob_name_1 fu (i : Int) a2 = some (A i)) (hM : ∀ i k, i < items → k < n → A i = false → f_glob_name_2 fu (i : Int) (k : Int) a3 a4 = some (M i k)) :
    f_glob_sequence_F77_F78 fu (items : Int) (n : Int) a2 a3 a4 = some (dpR A M items n) := by
  unfold f_glob_sequence_F77_F78
  have hw : IntKind.i64.wrap ((n : Int) + 1) = ((n + 1 : Nat) : Int) := by rw [w64 (by omega) (by omega)]; omega
  obtain ⟨u, hu⟩ := ex_at (x := List.replicate (n + 1) false) (k := 0) (by simp)
  rw [hw, req_pos ⟨by omega, by omega, by omega⟩, Int.toNat_natCast, show at? (List.replicate (n + 1) false) 0 = some u from hu, opt_of, lt_of]
  obtain ⟨l', hl', he⟩ := nm_out a2 a3 a4 n hn fu A M items hi hfu hA hM (fun j7x9 => opt (at? j7x9 (n : Int)) fun u9 => some u9) items 0 fu ((List.replicate (n + 1) false).set 0 true) (by omega) (by omega) (row0 n) (by omega)
  refine he.trans ?_
  rw [at_of (hl'.get n (Nat.le_refl _)), opt_of]
end
section
variable (a2 a3 : List S_lumref_mark) (a4 : List Int) (n : Nat) (hn : n ≤ 2000000) (fu : Nat)
include hn
theorem pf_in (av : Bool) (mv now : Nat → Bool) (nl : List Bool) (i : Nat) (hnow : Row n nl now) (hA : f_lumref_partFits_1 fu (i : Int) a2 = some av) (hM : ∀ k, k < n → av = false → f_lumref_partFits_2 fu (i : Int) (k : Int) a3 a4 = some (mv k)) (kk : List Bool → Option Bool) :
    ∀ (d k fuel : Nat) (x : List Bool), n + 1 - k = d → k ≤ n + 1 → x.length = n + 1 → (∀ j, j < k → x[j]? = some (nx av mv now j)) → d < fuel → ∃ x', Row n x' (nx av mv now) ∧ f_lumref_table_F84_F85_L26 (n : Int) a2 a3 a4 nl (i : Int) kk fu fuel x (k : Int) = kk x'
  | _, _, 0, _, _, _, _, _, hf => absurd hf (Nat.not_lt_zero _)
  | 0, k, fuel + 1, x, hd, hk, hx, hp, _ => by
    rw [f_lumref_table_F84_F85_L26, w64 (by omega) (by omega), cond_ff (dge (by omega))]
    exact ⟨x, ⟨hx, fun j hj => hp j (by omega)⟩, rfl⟩
  | d + 1, k, fuel + 1, x, hd, hk, hx, hp, hf => by
    have hkn : k ≤ n := by omega
    have go : ∀ v : Bool, v = nx av mv now k → ∃ x', Row n x' (nx av mv now) ∧ f_lumref_table_F84_F85_L26 (n : Int) a2 a3 a4 nl (i : Int) kk fu fuel (x.set k v) (IntKind.i64.wrap ((k : Int) + 1)) = kk x' := fun v hv => by
      rw [wsucc (by omega)]
      refine pf_in av mv now nl i hnow hA hM kk d (k + 1) fuel (x.set k v) (by omega) (by omega) (by rw [List.length_set]; exact hx) (fun j hj => ?_) (by omega)
      by_cases hjk : j = k
      · subst hjk; rw [get_set_eq (by omega), hv]
      · rw [get_set_lt (by omega)]; exact hp j (by omega)
    obtain ⟨u, hu⟩ := ex_at (x := x) (k := k) (by omega)
    rw [f_lumref_table_F84_F85_L26, w64 (by omega) (by omega), cond_tt (dlt (by omega)), lt_of, hA, opt_of]
    cases av with
    | true =>
      rw [cond_tt rfl, at_of (hnow.get k hkn), opt_of]
      cases hnk : now k with
      | true =>
        rw [cond_tt rfl, hu, opt_of, Int.toNat_natCast]
        exact go true (by cases k <;> simp [nx, hnk])
      | false =>
        rw [cond_ff rfl]
        by_cases h0 : k = 0
        · subst h0
          rw [cond_ff (by simp), hu, opt_of]
          exact go false (by simp [nx, hnk])
        · obtain ⟨j, rfl⟩ : ∃ j, k = j + 1 := ⟨k - 1, by omega⟩
          rw [cond_tt (decide_eq_true (by omega)), show (((j + 1 : Nat) : Int) - 1) = (j : Int) by omega, w64 (by omega) (by omega), at_of (hp j (by omega)), opt_of, hu, opt_of, Int.toNat_natCast]
          exact go _ (by simp [nx, hnk])
    | false =>
      rw [cond_ff rfl]
      by_cases h0 : k = 0
      · subst h0
        rw [cond_ff (by simp), hu, opt_of]
        exact go false (by simp [nx])
      · obtain ⟨j, rfl⟩ : ∃ j, k = j + 1 := ⟨k - 1, by omega⟩
        rw [cond_tt (decide_eq_true (by omega)), show (((j + 1 : Nat) : Int) - 1) = (j : Int) by omega, w64 (by omega) (by omega), at_of (hnow.get j (by omega)), opt_of]
        cases hnj : now j with
        | true =>
          rw [cond_tt rfl, hM j (by omega) rfl, opt_of, hu, opt_of, Int.toNat_natCast]
          exact go _ (by simp [nx, hnj])
        | false =>
          rw [cond_ff rfl, hu, opt_of, Int.toNat_natCast]
          exact go false (by simp [nx, hnj])
theorem pf_out (A : Nat → Bool) (M : Nat → Nat → Bool) (items : Nat) (hi : items ≤ 2000000) (hfu : 2000010 ≤ fu) (hA : ∀ i, i < items → f_lumref_partFits_1 fu (i : Int) a2 = some (A i)) (hM : ∀ i k, i < items → k < n → A i = false → f_lumref_partFits_2 fu (i : Int) (k : Int) a3 a4 = some (M i k)) (kk : List Bool → Option Bool) :
    ∀ (d i fuel : Nat) (l : List Bool), items - i = d → i ≤ items → Row n l (dpR A M i) → d < fuel → ∃ l', Row n l' (dpR A M items) ∧ f_lumref_table_F84_F85_L15 (n : Int) (items : Int) a2 a3 a4 kk fu fuel l (i : Int) = kk l'
  | _, _, 0, _, _, _, _, hf => absurd hf (Nat.not_lt_zero _)
  | 0, i, fuel + 1, l, hd, hii, hl, _ => by
    rw [f_lumref_table_F84_F85_L15, lt_of, cond_ff (dge (by omega))]
    obtain rfl : i = items := by omega
    exact ⟨l, hl, rfl⟩
  | d + 1, i, fuel + 1, l, hd, hii, hl, hf => by
    rw [f_lumref_table_F84_F85_L15, lt_of, cond_tt (dlt (by omega)), lt_of]
    have hw : IntKind.i64.wrap ((n : Int) + 1) = ((n + 1 : Nat) : Int) := by rw [w64 (by omega) (by omega)]; omega
    rw [hw, req_pos ⟨by omega, by omega, by omega⟩, lt_of, Int.toNat_natCast]
    obtain ⟨x', hx', he⟩ := pf_in a2 a3 a4 n hn fu (A i) (M i) (dpR A M i) l i hl (hA i (by omega)) (fun k hk h => hM i k (by omega) hk h) (fun j22x11 => f_lumref_table_F84_F85_L15 (n : Int) (items : Int) a2 a3 a4 kk fu fuel j22x11 (IntKind.i64.wrap ((i : Int) + 1))) (n + 1) 0 fu (List.replicate (n + 1) false) (by omega) (by omega) (by simp) (fun j hj => absurd hj (Nat.not_lt_zero _)) (by omega)
    obtain ⟨l', hl', he'⟩ := pf_out A M items hi hfu hA hM kk d (i + 1) fuel x' (by omega) (by omega) hx' (by omega)
    refine ⟨l', hl', he.trans ?_⟩
    rw [wsucc (by omega)]
    exact he'
theorem pf_ok (A : Nat → Bool) (M : Nat → Nat → Bool) (items : Nat) (hi : items ≤ 2000000) (hfu : 2000010 ≤ fu) (hA : ∀ i, i < items → f_lumref_partFits_1 fu (i : Int) a2 = some (A i)) (hM : ∀ i k, i < items → k < n → A i = false → f_lumref_partFits_2 fu (i : Int) (k : Int) a3 a4 = some (M i k)) :
    f_lumref_table_F84_F85 fu (n : Int) (items : Int) a2 a3 a4 = some (dpR A M items n) := by
  unfold f_lumref_table_F84_F85
  have hw : IntKind.i64.wrap ((n : Int) + 1) = ((n + 1 : Nat) : Int) := by rw [w64 (by omega) (by omega)]; omega
  obtain ⟨u, hu⟩ := ex_at (x := List.replicate (n + 1) false) (k := 0) (by simp)
  rw [hw, req_pos ⟨by omega, by omega, by omega⟩, Int.toNat_natCast, show at? (List.replicate (n + 1) false) 0 = some u from hu, opt_of, lt_of]
  obtain ⟨l', hl', he⟩ := pf_out a2 a3 a4 n hn fu A M items hi hfu hA hM (fun j7x9 => opt (at? j7x9 (n : Int)) fun u9 => some u9) items 0 fu ((List.replicate (n + 1) false).set 0 true) (by omega) (by omega) (row0 n) (by omega)
  refine he.trans ?_
  rw [at_of (hl'.get n (Nat.le_refl _)), opt_of]
end
section
variable (a2 a3 : List S_glob_part) (a4 : List (List UInt8)) (n : Nat) (hn : n ≤ 2000000) (fu : Nat)
include hn
theorem pa_in (av : Bool) (mv now : Nat → Bool) (nl : List Bool) (i : Nat) (hnow : Row n nl now) (hA : f_glob_path_1 fu (i : Int) a2 = some av) (hM : ∀ k, k < n → av = false → f_glob_path_2 fu (i : Int) (k : Int) a3 a4 = some (mv k)) (kk : List Bool → Option Bool) :
    ∀ (d k fuel : Nat) (x : List Bool), n + 1 - k = d → k ≤ n + 1 → x.length = n + 1 → (∀ j, j < k → x[j]? = some (nx av mv now j)) → d < fuel → ∃ x', Row n x' (nx av mv now) ∧ f_glob_sequence_F46_F47_L26 (n : Int) a2 a3 a4 nl (i : Int) kk fu fuel x (k : Int) = kk x'
  | _, _, 0, _, _, _, _, _, hf => absurd hf (Nat.not_lt_zero _)
  | 0, k, fuel + 1, x, hd, hk, hx, hp, _ => by
    rw [f_glob_sequence_F46_F47_L26, w64 (by omega) (by omega), cond_ff (dge (by omega))]
    exact ⟨x, ⟨hx, fun j hj => hp j (by omega)⟩, rfl⟩
  | d + 1, k, fuel + 1, x, hd, hk, hx, hp, hf => by
    have hkn : k ≤ n := by omega
    have go : ∀ v : Bool, v = nx av mv now k → ∃ x', Row n x' (nx av mv now) ∧ f_glob_sequence_F46_F47_L26 (n : Int) a2 a3 a4 nl (i : Int) kk fu fuel (x.set k v) (IntKind.i64.wrap ((k : Int) + 1)) = kk x' := fun v hv => by
      rw [wsucc (by omega)]
      refine pa_in av mv now nl i hnow hA hM kk d (k + 1) fuel (x.set k v) (by omega) (by omega) (by rw [List.length_set]; exact hx) (fun j hj => ?_) (by omega)
      by_cases hjk : j = k
      · subst hjk; rw [get_set_eq (by omega), hv]
      · rw [get_set_lt (by omega)]; exact hp j (by omega)
    obtain ⟨u, hu⟩ := ex_at (x := x) (k := k) (by omega)
    rw [f_glob_sequence_F46_F47_L26, w64 (by omega) (by omega), cond_tt (dlt (by omega)), lt_of, hA, opt_of]
    cases av with
    | true =>
      rw [cond_tt rfl, at_of (hnow.get k hkn), opt_of]
      cases hnk : now k with
      | true =>
        rw [cond_tt rfl, hu, opt_of, Int.toNat_natCast]
        exact go true (by cases k <;> simp [nx, hnk])
      | false =>
        rw [cond_ff rfl]
        by_cases h0 : k = 0
        · subst h0
          rw [cond_ff (by simp), hu, opt_of]
          exact go false (by simp [nx, hnk])
        · obtain ⟨j, rfl⟩ : ∃ j, k = j + 1 := ⟨k - 1, by omega⟩
          rw [cond_tt (decide_eq_true (by omega)), show (((j + 1 : Nat) : Int) - 1) = (j : Int) by omega, w64 (by omega) (by omega), at_of (hp j (by omega)), opt_of, hu, opt_of, Int.toNat_natCast]
          exact go _ (by simp [nx, hnk])
    | false =>
      rw [cond_ff rfl]
      by_cases h0 : k = 0
      · subst h0
        rw [cond_ff (by simp), hu, opt_of]
        exact go false (by simp [nx])
      · obtain ⟨j, rfl⟩ : ∃ j, k = j + 1 := ⟨k - 1, by omega⟩
        rw [cond_tt (decide_eq_true (by omega)), show (((j + 1 : Nat) : Int) - 1) = (j : Int) by omega, w64 (by omega) (by omega), at_of (hnow.get j (by omega)), opt_of]
        cases hnj : now j with
        | true =>
          rw [cond_tt rfl, hM j (by omega) rfl, opt_of, hu, opt_of, Int.toNat_natCast]
          exact go _ (by simp [nx, hnj])
        | false =>
          rw [cond_ff rfl, hu, opt_of, Int.toNat_natCast]
          exact go false (by simp [nx, hnj])
theorem pa_out (A : Nat → Bool) (M : Nat → Nat → Bool) (items : Nat) (hi : items ≤ 2000000) (hfu : 2000010 ≤ fu) (hA : ∀ i, i < items → f_glob_path_1 fu (i : Int) a2 = some (A i)) (hM : ∀ i k, i < items → k < n → A i = false → f_glob_path_2 fu (i : Int) (k : Int) a3 a4 = some (M i k)) (kk : List Bool → Option Bool) :
    ∀ (d i fuel : Nat) (l : List Bool), items - i = d → i ≤ items → Row n l (dpR A M i) → d < fuel → ∃ l', Row n l' (dpR A M items) ∧ f_glob_sequence_F46_F47_L15 (items : Int) (n : Int) a2 a3 a4 kk fu fuel l (i : Int) = kk l'
  | _, _, 0, _, _, _, _, hf => absurd hf (Nat.not_lt_zero _)
  | 0, i, fuel + 1, l, hd, hii, hl, _ => by
    rw [f_glob_sequence_F46_F47_L15, lt_of, cond_ff (dge (by omega))]
    obtain rfl : i = items := by omega
    exact ⟨l, hl, rfl⟩
  | d + 1, i, fuel + 1, l, hd, hii, hl, hf => by
    rw [f_glob_sequence_F46_F47_L15, lt_of, cond_tt (dlt (by omega)), lt_of]
    have hw : IntKind.i64.wrap ((n : Int) + 1) = ((n + 1 : Nat) : Int) := by rw [w64 (by omega) (by omega)]; omega
    rw [hw, req_pos ⟨by omega, by omega, by omega⟩, lt_of, Int.toNat_natCast]
    obtain ⟨x', hx', he⟩ := pa_in a2 a3 a4 n hn fu (A i) (M i) (dpR A M i) l i hl (hA i (by omega)) (fun k hk h => hM i k (by omega) hk h) (fun j22x11 => f_glob_sequence_F46_F47_L15 (items : Int) (n : Int) a2 a3 a4 kk fu fuel j22x11 (IntKind.i64.wrap ((i : Int) + 1))) (n + 1) 0 fu (List.replicate (n + 1) false) (by omega) (by omega) (by simp) (fun j hj => absurd hj (Nat.not_lt_zero _)) (by omega)
    obtain ⟨l', hl', he'⟩ := pa_out A M items hi hfu hA hM kk d (i + 1) fuel x' (by omega) (by omega) hx' (by omega)
    refine ⟨l', hl', he.trans ?_⟩
    rw [wsucc (by omega)]
    exact he'
theorem pa_ok (A : Nat → Bool) (M : Nat → Nat → Bool) (items : Nat) (hi : items ≤ 2000000) (hfu : 2000010 ≤ fu) (hA : ∀ i, i < items → f_glob_path_1 fu (i : Int) a2 = some (A i)) (hM : ∀ i k, i < items → k < n → A i = false → f_glob_path_2 fu (i : Int) (k : Int) a3 a4 = some (M i k)) :
    f_glob_sequence_F46_F47 fu (items : Int) (n : Int) a2 a3 a4 = some (dpR A M items n) := by
  unfold f_glob_sequence_F46_F47
  have hw : IntKind.i64.wrap ((n : Int) + 1) = ((n + 1 : Nat) : Int) := by rw [w64 (by omega) (by omega)]; omega
  obtain ⟨u, hu⟩ := ex_at (x := List.replicate (n + 1) false) (k := 0) (by simp)
  rw [hw, req_pos ⟨by omega, by omega, by omega⟩, Int.toNat_natCast, show at? (List.replicate (n + 1) false) 0 = some u from hu, opt_of, lt_of]
  obtain ⟨l', hl', he⟩ := pa_out a2 a3 a4 n hn fu A M items hi hfu hA hM (fun j7x9 => opt (at? j7x9 (n : Int)) fun u9 => some u9) items 0 fu ((List.replicate (n + 1) false).set 0 true) (by omega) (by omega) (row0 n) (by omega)
  refine he.trans ?_
  rw [at_of (hl'.get n (Nat.le_refl _)), opt_of]
end
section
variable (a2 a3 : List (Option (List S_lumref_mark))) (a4 : List (List UInt8)) (n : Nat) (hn : n ≤ 2000000) (fu : Nat)
include hn
theorem fi_in (av : Bool) (mv now : Nat → Bool) (nl : List Bool) (i : Nat) (hnow : Row n nl now) (hA : f_lumref_Fits_1 fu (i : Int) a2 = some av) (hM : ∀ k, k < n → av = false → f_lumref_Fits_2 fu (i : Int) (k : Int) a3 a4 = some (mv k)) (kk : List Bool → Option Bool) :
    ∀ (d k fuel : Nat) (x : List Bool), n + 1 - k = d → k ≤ n + 1 → x.length = n + 1 → (∀ j, j < k → x[j]? = some (nx av mv now j)) → d < fuel → ∃ x', Row n x' (nx av mv now) ∧ f_lumref_table_F58_F59_L26 (n : Int) a2 a3 a4 nl (i : Int) kk fu fuel x (k : Int) = kk x'
  | _, _, 0, _, _, _, _, _, hf => absurd hf (Nat.not_lt_zero _)
  | 0, k, fuel + 1, x, hd, hk, hx, hp, _ => by
    rw [f_lumref_table_F58_F59_L26, w64 (by omega) (by omega), cond_ff (dge (by omega))]
    exact ⟨x, ⟨hx, fun j hj => hp j (by omega)⟩, rfl⟩
  | d + 1, k, fuel + 1, x, hd, hk, hx, hp, hf => by
    have hkn : k ≤ n := by omega
    have go : ∀ v : Bool, v = nx av mv now k → ∃ x', Row n x' (nx av mv now) ∧ f_lumref_table_F58_F59_L26 (n : Int) a2 a3 a4 nl (i : Int) kk fu fuel (x.set k v) (IntKind.i64.wrap ((k : Int) + 1)) = kk x' := fun v hv => by
      rw [wsucc (by omega)]
      refine fi_in av mv now nl i hnow hA hM kk d (k + 1) fuel (x.set k v) (by omega) (by omega) (by rw [List.length_set]; exact hx) (fun j hj => ?_) (by omega)
      by_cases hjk : j = k
      · subst hjk; rw [get_set_eq (by omega), hv]
      · rw [get_set_lt (by omega)]; exact hp j (by omega)
    obtain ⟨u, hu⟩ := ex_at (x := x) (k := k) (by omega)
    rw [f_lumref_table_F58_F59_L26, w64 (by omega) (by omega), cond_tt (dlt (by omega)), lt_of, hA, opt_of]
    cases av with
    | true =>
      rw [cond_tt rfl, at_of (hnow.get k hkn), opt_of]
      cases hnk : now k with
      | true =>
        rw [cond_tt rfl, hu, opt_of, Int.toNat_natCast]
        exact go true (by cases k <;> simp [nx, hnk])
      | false =>
        rw [cond_ff rfl]
        by_cases h0 : k = 0
        · subst h0
          rw [cond_ff (by simp), hu, opt_of]
          exact go false (by simp [nx, hnk])
        · obtain ⟨j, rfl⟩ : ∃ j, k = j + 1 := ⟨k - 1, by omega⟩
          rw [cond_tt (decide_eq_true (by omega)), show (((j + 1 : Nat) : Int) - 1) = (j : Int) by omega, w64 (by omega) (by omega), at_of (hp j (by omega)), opt_of, hu, opt_of, Int.toNat_natCast]
          exact go _ (by simp [nx, hnk])
    | false =>
      rw [cond_ff rfl]
      by_cases h0 : k = 0
      · subst h0
        rw [cond_ff (by simp), hu, opt_of]
        exact go false (by simp [nx])
      · obtain ⟨j, rfl⟩ : ∃ j, k = j + 1 := ⟨k - 1, by omega⟩
        rw [cond_tt (decide_eq_true (by omega)), show (((j + 1 : Nat) : Int) - 1) = (j : Int) by omega, w64 (by omega) (by omega), at_of (hnow.get j (by omega)), opt_of]
        cases hnj : now j with
        | true =>
          rw [cond_tt rfl, hM j (by omega) rfl, opt_of, hu, opt_of, Int.toNat_natCast]
          exact go _ (by simp [nx, hnj])
        | false =>
          rw [cond_ff rfl, hu, opt_of, Int.toNat_natCast]
          exact go false (by simp [nx, hnj])
theorem fi_out (A : Nat → Bool) (M : Nat → Nat → Bool) (items : Nat) (hi : items ≤ 2000000) (hfu : 2000010 ≤ fu) (hA : ∀ i, i < items → f_lumref_Fits_1 fu (i : Int) a2 = some (A i)) (hM : ∀ i k, i < items → k < n → A i = false → f_lumref_Fits_2 fu (i : Int) (k : Int) a3 a4 = some (M i k)) (kk : List Bool → Option Bool) :
    ∀ (d i fuel : Nat) (l : List Bool), items - i = d → i ≤ items → Row n l (dpR A M i) → d < fuel → ∃ l', Row n l' (dpR A M items) ∧ f_lumref_table_F58_F59_L15 (n : Int) (items : Int) a2 a3 a4 kk fu fuel l (i : Int) = kk l'
  | _, _, 0, _, _, _, _, hf => absurd hf (Nat.not_lt_zero _)
  | 0, i, fuel + 1, l, hd, hii, hl, _ => by
    rw [f_lumref_table_F58_F59_L15, lt_of, cond_ff (dge (by omega))]
    obtain rfl : i = items := by omega
    exact ⟨l, hl, rfl⟩
  | d + 1, i, fuel + 1, l, hd, hii, hl, hf => by
    rw [f_lumref_table_F58_F59_L15, lt_of, cond_tt (dlt (by omega)), lt_of]
    have hw : IntKind.i64.wrap ((n : Int) + 1) = ((n + 1 : Nat) : Int) := by rw [w64 (by omega) (by omega)]; omega
    rw [hw, req_pos ⟨by omega, by omega, by omega⟩, lt_of, Int.toNat_natCast]
    obtain ⟨x', hx', he⟩ := fi_in a2 a3 a4 n hn fu (A i) (M i) (dpR A M i) l i hl (hA i (by omega)) (fun k hk h => hM i k (by omega) hk h) (fun j22x11 => f_lumref_table_F58_F59_L15 (n : Int) (items : Int) a2 a3 a4 kk fu fuel j22x11 (IntKind.i64.wrap ((i : Int) + 1))) (n + 1) 0 fu (List.replicate (n + 1) false) (by omega) (by omega) (by simp) (fun j hj => absurd hj (Nat.not_lt_zero _)) (by omega)
    obtain ⟨l', hl', he'⟩ := fi_out A M items hi hfu hA hM kk d (i + 1) fuel x' (by omega) (by omega) hx' (by omega)
    refine ⟨l', hl', he.trans ?_⟩
    rw [wsucc (by omega)]
    exact he'
theorem fi_ok (A : Nat → Bool) (M : Nat → Nat → Bool) (items : Nat) (hi : items ≤ 2000000) (hfu : 2000010 ≤ fu) (hA : ∀ i, i < items → f_lumref_Fits_1 fu (i : Int) a2 = some (A i)) (hM : ∀ i k, i < items → k < n → A i = false → f_lumref_Fits_2 fu (i : Int) (k : Int) a3 a4 = some (M i k)) :
    f_lumref_table_F58_F59 fu (n : Int) (items : Int) a2 a3 a4 = some (dpR A M items n) := by
  unfold f_lumref_table_F58_F59
  have hw : IntKind.i64.wrap ((n : Int) + 1) = ((n + 1 : Nat) : Int) := by rw [w64 (by omega) (by omega)]; omega
  obtain ⟨u, hu⟩ := ex_at (x := List.replicate (n + 1) false) (k := 0) (by simp)
  rw [hw, req_pos ⟨by omega, by omega, by omega⟩, Int.toNat_natCast, show at? (List.replicate (n + 1) false) 0 = some u from hu, opt_of, lt_of]
  obtain ⟨l', hl', he⟩ := fi_out a2 a3 a4 n hn fu A M items hi hfu hA hM (fun j7x9 => opt (at? j7x9 (n : Int)) fun u9 => some u9) items 0 fu ((List.replicate (n + 1) false).set 0 true) (by omega) (by omega) (row0 n) (by omega)
  refine he.trans ?_
  rw [at_of (hl'.get n (Nat.le_refl _)), opt_of]
end
end Go.Proofs.YtpakblkldklbmaaDoor.PGlob
namespace Go.Proofs.YtpakblkldklbmaaDoor.PGlob
open Go.RowKit YtpakblkldklbmaaDoor.En YtpakblkldklbmaaDoor
set_option linter.unusedVariables false
set_option linter.unusedSimpArgs false
theorem at0 {α : Type} (c : α) (l : List α) : at? (c :: l) (0 : Int) = some c := at_of (k := 0) rfl
theorem at1 {α : Type} (c d : α) (l : List α) : at? (c :: d :: l) (1 : Int) = some d := at_of (k := 1) rfl
theorem len0 {α : Type} (c : α) (l : List α) : (((c :: l).length : Int) == (0 : Int)) = false := by rw [beq_eq_false_iff_ne]; simp only [List.length_cons]; omega
def esc : List Int → Option (Int × List Int)
  | [] => none
  | d :: l => some (d, l)
def item : List Int → Option (Int × List Int)
  | [] => none
  | c :: l => if c = 93 then none else if c = 92 then esc l else some (c, l)
theorem item_cons (c : Int) (l : List Int) : item (c :: l) = if c = 93 then none else if c = 92 then esc l else some (c, l) := rfl
theorem item_lt {l l' : List Int} {c : Int} (h : item l = some (c, l')) : l'.length < l.length := by
  cases l with
  | nil => cases h
  | cons x l =>
    rw [item_cons] at h
    split at h
    · cases h
    · split at h
      · cases l with
        | nil => cases h
        | cons d l2 => obtain ⟨rfl, rfl⟩ := Prod.mk.inj (Option.some.inj h); simp only [List.length_cons]; omega
      · obtain ⟨rfl, rfl⟩ := Prod.mk.inj (Option.some.inj h); simp only [List.length_cons]; omega
theorem next_nil (fu : Nat) : f___glob_reader__next fu ⟨[]⟩ = some (0, false, ⟨[]⟩) := rfl
theorem next_cons (fu : Nat) (c : Int) (l : List Int) : f___glob_reader__next fu ⟨c :: l⟩ = some (c, true, ⟨l⟩) := by
  unfold f___glob_reader__next
  dsimp only
  rw [len0, cond_ff rfl, at0, opt_of, req_pos ⟨by omega, by simp only [List.length_cons]; omega⟩]
  rfl
theorem take_nil (fu : Nat) (x : Int) : f___glob_reader__take fu ⟨[]⟩ x = some (false, ⟨[]⟩) := rfl
theorem take_cons (fu : Nat) (c x : Int) (l : List Int) : f___glob_reader__take fu ⟨c :: l⟩ x = some (if c = x then (true, ⟨l⟩) else (false, ⟨c :: l⟩)) := by
  unfold f___glob_reader__take
  dsimp only
  rw [lt_of, len0, cond_ff rfl, at0, opt_of]
  by_cases h : c = x
  · rw [if_pos h, show (c != x) = false from by simpa using h]
    dsimp only
    rw [cond_ff rfl, req_pos ⟨by omega, by simp only [List.length_cons]; omega⟩]
    rfl
  · rw [if_neg h, show (c != x) = true from by simpa using h]
    rfl
theorem item_ok (fu : Nat) (l : List Int) : (∀ c l', item l = some (c, l') → f___glob_reader__item fu ⟨l⟩ = some (c, true, ⟨l'⟩)) ∧ (item l = none → ∃ x r, f___glob_reader__item fu ⟨l⟩ = some (x, false, r)) := by
  unfold f___glob_reader__item
  cases l with
  | nil => exact ⟨fun c l' h => by (cases h), fun _ => ⟨_, _, rfl⟩⟩
  | cons c l =>
    rw [next_cons, opt_of, lt_of, item_cons]
    by_cases h1 : c = 93
    · rw [if_pos h1, h1]
      exact ⟨fun c l' h => by (cases h), fun _ => ⟨_, _, rfl⟩⟩
    · rw [if_neg h1]
      have e1 : (c == 93) = false := by simpa using h1
      by_cases h2 : c = 92
      · have e2 : (c == 92) = true := by simpa using h2
        simp only [Bool.not_true, e1, e2, cond_false, cond_true]
        rw [if_pos h2]
        cases l with
        | nil => exact ⟨fun c l' h => by (cases h), fun _ => ⟨_, _, rfl⟩⟩
        | cons d l =>
          rw [next_cons, opt_of]
          exact ⟨fun c l' h => by obtain ⟨rfl, rfl⟩ := Prod.mk.inj (Option.some.inj h); rfl, fun h => by (cases h)⟩
      · have e2 : (c == 92) = false := by simpa using h2
        simp only [Bool.not_true, e1, e2, cond_false, cond_true]
        rw [if_neg h2]
        exact ⟨fun c l' h => by obtain ⟨rfl, rfl⟩ := Prod.mk.inj (Option.some.inj h); rfl, fun h => by (cases h)⟩
theorem plain_ok (fu : Nat) (l : List Int) : f_lumref_plain fu l = some (match item l with | some (c, l') => (c, l', true) | none => (0, [], false)) := by
  unfold f_lumref_plain
  rw [lt_of]
  cases l with
  | nil => rfl
  | cons c l =>
    rw [len0, cond_ff rfl, at0, opt_of, item_cons]
    by_cases h1 : c = 93
    · rw [if_pos h1, h1]; rfl
    · rw [if_neg h1, show (c == 93) = false from by simpa using h1]
      dsimp only
      rw [cond_ff rfl, opt_of]
      by_cases h2 : c = 92
      · rw [if_pos h2, cond_ff (by simpa using h2)]
        cases l with
        | nil => rfl
        | cons d l =>
          rw [cond_ff (by rw [beq_eq_false_iff_ne]; simp only [List.length_cons]; omega), at1, opt_of, req_pos ⟨by omega, by simp only [List.length_cons]; omega⟩]
          rfl
      · rw [if_neg h2, cond_tt (by simpa using h2), opt_of, req_pos ⟨by omega, by simp only [List.length_cons]; omega⟩]
        rfl
abbrev Sp := List (Int × Int)
def clsC (rec : List Int → Sp → Option (Sp × List Int)) (sp : Sp) (c : Int) : Option (Int × List Int) → Option (Sp × List Int)
  | none => none
  | some (d, l3) => if d < c then none else rec l3 (sp ++ [(c, d)])
def clsB (rec : List Int → Sp → Option (Sp × List Int)) (sp : Sp) : Option (Int × List Int) → Option (Sp × List Int)
  | none => none
  | some (c, l1) => if l1.head? = some 45 then clsC rec sp c (item (l1.drop 1)) else rec l1 (sp ++ [(c, c)])
def cls : Nat → List Int → Sp → Option (Sp × List Int)
  | 0, _, _ => none
  | f + 1, l, sp => if sp ≠ [] ∧ l.head? = some 93 then some (sp, l.drop 1) else clsB (cls f) sp (item l)
def spans (sp : Sp) : List S_glob_span := sp.map fun p => ⟨p.1, p.2⟩
def los (sp : Sp) : List Int := sp.map (·.1)
def his (sp : Sp) : List Int := sp.map (·.2)
theorem spans_snoc (sp : Sp) (c d : Int) : spans sp ++ [S_glob_span.mk c d] = spans (sp ++ [(c, d)]) := by simp [spans]
theorem los_snoc (sp : Sp) (c d : Int) : los sp ++ [c] = los (sp ++ [(c, d)]) := by simp [los]
theorem his_snoc (sp : Sp) (c d : Int) : his sp ++ [d] = his (sp ++ [(c, d)]) := by simp [his]
theorem spans_len (sp : Sp) : (spans sp).length = sp.length := by simp [spans]
theorem los_len (sp : Sp) : (los sp).length = sp.length := by simp [los]
theorem his_len (sp : Sp) : (his sp).length = sp.length := by simp [his]
abbrev RC := S_glob_element × Bool × S_glob_reader
def CS (kk : List Int → List S_glob_span → Option RC) (v : Option RC) (c : Option (Sp × List Int)) : Prop := (∀ sp' r, c = some (sp', r) → v = kk r (spans sp')) ∧ (c = none → ∃ e x, v = some (e, false, x))
section
variable (r3 : Bool × S_glob_reader) (kk : List Int → List S_glob_span → Option RC) (fu : Nat)
def cbody (f : Nat) (sp : Sp) (l : List Int) : Option RC := (opt (f___glob_reader__item fu (S_glob_reader.mk l)) fun (r15 : (Int × Bool × S_glob_reader)) => (bif (!r15.2.1) then (some ((S_glob_element.mk (0 : Int) (spans sp) r3.1), false, (S_glob_reader.mk r15.2.2.left))) else (lt (fun (j18x0_0 : (List Int)) (j18i7 : Int) => (req ((((spans sp).length + ([(S_glob_span.mk r15.1 j18i7)]).length) * 8 : Nat) ≤ 140737488355328 ∧ (spans sp).length + ([(S_glob_span.mk r15.1 j18i7)]).length ≤ 9223372036854775807) (f___glob_reader__class_L10 r3 kk fu f j18x0_0 ((spans sp) ++ ([(S_glob_span.mk r15.1 j18i7)]))))) fun (kk19 : (List Int) → Int → Option (S_glob_element × Bool × S_glob_reader)) => (opt (f___glob_reader__take fu (S_glob_reader.mk r15.2.2.left) (45 : Int)) fun (r24 : (Bool × S_glob_reader)) => (bif r24.1 then (opt (f___glob_reader__item fu (S_glob_reader.mk r24.2.left)) fun (r28 : (Int × Bool × S_glob_reader)) => (lt (fun (j30b42 : Bool) => (bif j30b42 then (some ((S_glob_element.mk (0 : Int) (spans sp) r3.1), false, (S_glob_reader.mk r28.2.2.left))) else (kk19 r28.2.2.left r28.1))) fun (kk31 : Bool → Option (S_glob_element × Bool × S_glob_reader)) => (bif (!r28.2.1) then (kk31 true) else (kk31 (decide (r15.1 > r28.1)))))) else (kk19 r24.2.left r15.1))))))
theorem cbody_ok (f : Nat) (sp : Sp) (l : List Int) (hl : sp.length + l.length ≤ 1048576) (ih : ∀ l' sp', l'.length < l.length → sp'.length + l'.length ≤ 1048576 → CS kk (f___glob_reader__class_L10 r3 kk fu f l' (spans sp')) (cls f l' sp')) : CS kk (cbody r3 kk fu f sp l) (clsB (cls f) sp (item l)) := by
  unfold cbody
  have hs := spans_len sp
  obtain ⟨i1, i2⟩ := item_ok fu l
  cases hi : item l with
  | none =>
    obtain ⟨x, r, e⟩ := i2 hi
    rw [e, opt_of]
    exact ⟨fun sp' r h => by (cases h), fun _ => ⟨_, _, rfl⟩⟩
  | some p =>
    obtain ⟨c, l1⟩ := p
    have hlt := item_lt hi
    rw [i1 c l1 hi, opt_of, lt_of]
    simp only [Bool.not_true, cond_false, clsB]
    have step : ∀ (d : Int) (l' : List Int), l'.length ≤ l1.length → CS kk (req (((spans sp).length + ([S_glob_span.mk c d]).length) * 8 ≤ 140737488355328 ∧ (spans sp).length + ([S_glob_span.mk c d]).length ≤ 9223372036854775807) (f___glob_reader__class_L10 r3 kk fu f l' (spans sp ++ [S_glob_span.mk c d]))) (cls f l' (sp ++ [(c, d)])) := fun d l' hl' => by
      rw [req_pos ⟨by simp only [List.length_singleton]; omega, by simp only [List.length_singleton]; omega⟩, spans_snoc]
      exact ih l' _ (by omega) (by simp only [List.length_append, List.length_singleton]; omega)
    cases l1 with
    | nil =>
      rw [take_nil, opt_of, if_neg (show ¬ ([] : List Int).head? = some 45 from fun e => by cases e)]
      simp only [cond_false]
      exact step c [] (Nat.le_refl _)
    | cons x l2 =>
      rw [take_cons, opt_of]
      by_cases hx : x = 45
      · rw [if_pos hx, if_pos (show (x :: l2).head? = some 45 by rw [hx]; rfl), show (x :: l2).drop 1 = l2 from rfl]
        simp only [cond_true]
        obtain ⟨j1, j2⟩ := item_ok fu l2
        cases hj : item l2 with
        | none =>
          obtain ⟨y, r, e⟩ := j2 hj
          rw [e, opt_of, lt_of]
          exact ⟨fun sp' r h => by (cases h), fun _ => ⟨_, _, rfl⟩⟩
        | some q =>
          obtain ⟨d, l3⟩ := q
          have hlt2 := item_lt hj
          rw [j1 d l3 hj, opt_of, lt_of]
          simp only [Bool.not_true, cond_false, clsC]
          by_cases hd : d < c
          · rw [if_pos hd, decide_eq_true (show c > d from hd)]
            exact ⟨fun sp' r h => by (cases h), fun _ => ⟨_, _, rfl⟩⟩
          · rw [if_neg hd, decide_eq_false (show ¬ c > d from hd)]
            exact step d l3 (by simp only [List.length_cons]; omega)
      · rw [if_neg hx, if_neg (show ¬ (x :: l2).head? = some 45 from fun e => hx (Option.some.inj e))]
        simp only [cond_false]
        exact step c (x :: l2) (Nat.le_refl _)
theorem ccls_ok : ∀ (f : Nat) (l : List Int) (sp : Sp), l.length < f → sp.length + l.length ≤ 1048576 → CS kk (f___glob_reader__class_L10 r3 kk fu f l (spans sp)) (cls f l sp)
  | 0, l, sp, h, _ => absurd h (Nat.not_lt_zero _)
  | f + 1, l, sp, h, hl => by
    have hb := cbody_ok r3 kk fu f sp l hl (fun l' sp' h1 h2 => ccls_ok f l' sp' (by omega) h2)
    have hs := spans_len sp
    rw [f___glob_reader__class_L10, lt_of, cls]
    by_cases h0 : sp = []
    · rw [if_neg (fun e => e.1 h0), cond_tt (by rw [h0]; rfl)]
      exact hb
    · have hp : 0 < sp.length := List.length_pos_iff.2 h0
      rw [cond_ff (by rw [beq_eq_false_iff_ne]; omega)]
      cases l with
      | nil =>
        rw [take_nil, opt_of, if_neg (by simp)]
        exact hb
      | cons x l2 =>
        rw [take_cons, opt_of]
        by_cases hx : x = 93
        · rw [if_pos hx, if_pos ⟨h0, by rw [hx]; rfl⟩]
          refine ⟨fun sp' r h => ?_, fun h => by (cases h)⟩
          obtain ⟨rfl, rfl⟩ := Prod.mk.inj (Option.some.inj h)
          rfl
        · rw [if_neg hx, if_neg (fun e => hx (Option.some.inj e.2))]
          exact hb
end
abbrev RM := S_lumref_mark × (List Int) × Bool
def RS (kk : List Int → List Int → List Int → Option RM) (v : Option RM) (c : Option (Sp × List Int)) : Prop := (∀ sp' r, c = some (sp', r) → v = kk (93 :: r) (los sp') (his sp')) ∧ (c = none → (∃ m x, v = some (m, x, false)) ∨ ∃ lo hi, v = kk [] lo hi)
section
variable (kk : List Int → List Int → List Int → Option RM) (fu : Nat)
def rbody (f : Nat) (sp : Sp) (l : List Int) : Option RM := (opt (f_lumref_plain fu l) fun (r20 : (Int × (List Int) × Bool)) => (bif (!r20.2.2) then (some ((S_lumref_mark.mk false C74.nil), ([] : (List Int)), false)) else (lt (fun (j23x0 : (List Int)) (j23i11 : Int) => (req ((((los sp).length + ([r20.1]).length) * 8 : Nat) ≤ 140737488355328 ∧ (los sp).length + ([r20.1]).length ≤ 9223372036854775807) (req ((((his sp).length + ([j23i11]).length) * 8 : Nat) ≤ 140737488355328 ∧ (his sp).length + ([j23i11]).length ≤ 9223372036854775807) (f_lumref_class_L15 kk fu f j23x0 ((los sp) ++ ([r20.1])) ((his sp) ++ ([j23i11])))))) fun (kk24 : (List Int) → Int → Option (S_lumref_mark × (List Int) × Bool)) => (lt (fun (j31b57 : Bool) => (bif j31b57 then (req (0 ≤ (1 : Int) ∧ (1 : Int) ≤ (r20.2.1.length : Int)) (opt (f_lumref_plain fu (r20.2.1.drop ((1 : Int)).toNat)) fun (r37 : (Int × (List Int) × Bool)) => (lt (fun (j39b71 : Bool) => (bif j39b71 then (some ((S_lumref_mark.mk false C74.nil), ([] : (List Int)), false)) else (kk24 r37.2.1 r37.1))) fun (kk40 : Bool → Option (S_lumref_mark × (List Int) × Bool)) => (bif (!r37.2.2) then (kk40 true) else (kk40 (decide (r37.1 < r20.1))))))) else (kk24 r20.2.1 r20.1))) fun (kk32 : Bool → Option (S_lumref_mark × (List Int) × Bool)) => (bif (decide ((r20.2.1.length : Int) > (0 : Int))) then (opt (at? r20.2.1 (0 : Int)) fun (u44 : Int) => (kk32 (u44 == (45 : Int)))) else (kk32 false))))))
theorem rbody_ok (f : Nat) (sp : Sp) (l : List Int) (hl : sp.length + l.length ≤ 1048576) (ih : ∀ l' sp', l'.length < l.length → sp'.length + l'.length ≤ 1048576 → RS kk (f_lumref_class_L15 kk fu f l' (los sp') (his sp')) (cls f l' sp')) : RS kk (rbody kk fu f sp l) (clsB (cls f) sp (item l)) := by
  unfold rbody
  have hs := los_len sp
  have hs2 := his_len sp
  rw [plain_ok, opt_of]
  cases hi : item l with
  | none => exact ⟨fun sp' r h => by (cases h), fun _ => .inl ⟨_, _, rfl⟩⟩
  | some p =>
    obtain ⟨c, l1⟩ := p
    have hlt := item_lt hi
    simp only [Bool.not_true, cond_false, clsB]
    rw [lt_of, lt_of]
    have step : ∀ (d : Int) (l' : List Int), l'.length ≤ l1.length → RS kk (req (((los sp).length + ([c]).length) * 8 ≤ 140737488355328 ∧ (los sp).length + ([c]).length ≤ 9223372036854775807) (req (((his sp).length + ([d]).length) * 8 ≤ 140737488355328 ∧ (his sp).length + ([d]).length ≤ 9223372036854775807) (f_lumref_class_L15 kk fu f l' (los sp ++ [c]) (his sp ++ [d])))) (cls f l' (sp ++ [(c, d)])) := fun d l' hl' => by
      rw [req_pos ⟨by simp only [List.length_singleton]; omega, by simp only [List.length_singleton]; omega⟩, req_pos ⟨by simp only [List.length_singleton]; omega, by simp only [List.length_singleton]; omega⟩, los_snoc, his_snoc]
      exact ih l' _ (by omega) (by simp only [List.length_append, List.length_singleton]; omega)
    cases l1 with
    | nil =>
      rw [if_neg (show ¬ ([] : List Int).head? = some 45 from fun e => by cases e)]
      exact step c [] (Nat.le_refl _)
    | cons x l2 =>
      rw [cond_tt (decide_eq_true (show (((x :: l2).length : Nat) : Int) > 0 by simp only [List.length_cons]; omega)), at0, opt_of]
      by_cases hx : x = 45
      · rw [if_pos (show (x :: l2).head? = some 45 by rw [hx]; rfl), show (x :: l2).drop 1 = l2 from rfl, show (x == 45) = true from by simpa using hx]
        simp only [cond_true]
        rw [req_pos ⟨by omega, by simp only [List.length_cons]; omega⟩, show (x :: l2).drop ((1 : Int)).toNat = l2 from rfl, plain_ok, opt_of, lt_of]
        cases hj : item l2 with
        | none => exact ⟨fun sp' r h => by (cases h), fun _ => .inl ⟨_, _, rfl⟩⟩
        | some q =>
          obtain ⟨d, l3⟩ := q
          have hlt2 := item_lt hj
          simp only [Bool.not_true, cond_false, clsC]
          by_cases hd : d < c
          · rw [if_pos hd, decide_eq_true hd]
            exact ⟨fun sp' r h => by (cases h), fun _ => .inl ⟨_, _, rfl⟩⟩
          · rw [if_neg hd, decide_eq_false hd]
            exact step d l3 (by simp only [List.length_cons]; omega)
      · rw [if_neg (show ¬ (x :: l2).head? = some 45 from fun e => hx (Option.some.inj e)), show (x == 45) = false from by simpa using hx]
        simp only [cond_false]
        exact step c (x :: l2) (Nat.le_refl _)
theorem rcls_ok : ∀ (f : Nat) (l : List Int) (sp : Sp), l.length < f → sp.length + l.length ≤ 1048576 → RS kk (f_lumref_class_L15 kk fu f l (los sp) (his sp)) (cls f l sp)
  | 0, l, sp, h, _ => absurd h (Nat.not_lt_zero _)
  | f + 1, l, sp, h, hl => by
    have hb := rbody_ok kk fu f sp l hl (fun l' sp' h1 h2 => rcls_ok f l' sp' (by omega) h2)
    have hs := los_len sp
    rw [f_lumref_class_L15, lt_of, cls]
    by_cases h0 : sp = []
    · rw [if_neg (fun e => e.1 h0), cond_tt (by rw [h0]; rfl)]
      exact hb
    · have hp : 0 < sp.length := List.length_pos_iff.2 h0
      rw [cond_ff (by rw [beq_eq_false_iff_ne]; omega)]
      cases l with
      | nil =>
        rw [if_neg (by simp)]
        refine ⟨fun sp' r h => ?_, fun _ => .inr ⟨_, _, rfl⟩⟩
        cases h
      | cons x l2 =>
        rw [cond_tt (decide_eq_true (show (((x :: l2).length : Nat) : Int) > 0 by simp only [List.length_cons]; omega)), at0, opt_of]
        by_cases hx : x = 93
        · rw [if_pos ⟨h0, by rw [hx]; rfl⟩, show (x != 93) = false from by simpa using hx]
          refine ⟨fun sp' r h => ?_, fun h => by (cases h)⟩
          obtain ⟨rfl, rfl⟩ := Prod.mk.inj (Option.some.inj h)
          rw [hx]; rfl
        · rw [if_neg (fun e => hx (Option.some.inj e.2)), show (x != 93) = true from by simpa using hx]
          exact hb
end
end Go.Proofs.YtpakblkldklbmaaDoor.PGlob
