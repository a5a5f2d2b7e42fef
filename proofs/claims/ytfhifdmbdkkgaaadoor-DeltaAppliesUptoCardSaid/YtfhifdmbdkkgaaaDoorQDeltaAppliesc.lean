/- What DeltaApplies leans on, part 3. No condition. -/
import Derived.Test.YtfhifdmbdkkgaaaDoorQDeltaAppliesb
import Derived.Test.YtfhifdmbdkkgaaaDoorChecked
namespace Go.Proofs.YtfhifdmbdkkgaaaDoor
open Go.RowKit YtfhifdmbdkkgaaaDoor.En
set_option linter.unusedVariables false
set_option linter.unusedSimpArgs false
open Go.Value (int bool)
set_option maxHeartbeats 2000000 in
set_option maxRecDepth 100000 in
theorem f_lumref_Name_ok (fu : Nat) (a0 : (List UInt8)) {r : Int} (h : f_lumref_Name fu a0 = some r) : FnOk Tryd.prog 165 [(str a0)] [] [] (fun (i : Unit) => { val := (int .i64 r) }) := by
 unfold f_lumref_Name at h
 refine fn_enter Tryd.func165 rfl Tryd.ntmps165 rfl (fun w0 Z0 => ?_)
 refine aw_sr ?_
 refine al_as rfl rfl ?_
 refine al_nt ?_
 refine aw_sr ?_
 refine al_mv rfl rfl ?_
 obtain ⟨r2, hc1, h⟩ := opt_some h
 refine al_call (vs := [(str a0)]) (f_lumref_Chars_ok fu a0 hc1) [] [] [] pre_nil rfl (by simp) (by decide) (.inl rfl) rfl Tryd.func74 rfl rfl rfl (fun v3 => ?_)
 refine al_mv rfl rfl ?_
 refine al_ex rfl rfl rfl ?_
 refine al_ex rfl rfl rfl ?_
 refine al_as rfl rfl ?_
 refine al_as rfl rfl ?_
 refine al_nt ?_
 refine aw_seq ?_
 obtain ⟨kk5, hkk5, h⟩ := lt_some h
 refine aw_seq_join (ι := Bool) (fun i => (memOf w0 Z0 [] [(oRow v3 3 tq r2.1)] [])) (fun i => (tab [(3, v3), (26, (bool i))])) (fun i => kk5 i = some r) ?_ ?_
 ·rintro j4b26 h
  have h : kk5 j4b26 = some r := h
  rw [hkk5] at h
  dsimp only at h
  clear hkk5
  refine aw_show (m := (memOf w0 Z0 [] [(oRow v3 3 tq r2.1)] [])) (S := (tab [(3, v3), (26, (bool j4b26))])) ?_
  refine aw_cond rfl (fun hb6 => ?_) (fun hb6 => ?_)
  ·replace h := bif_t hb6 h
   refine aw_sr ?_
   refine al_as rfl rfl ?_
   refine al_nt ?_
   refine aw_ret ?_
   refine aq_then_ret ?_
   obtain rfl := Option.some.inj h
   exact fn_ret () [] [] rfl rfl rfl rfl (res1 rfl rfl) rfl rfl rfl (by decide)
  ·replace h := bif_f hb6 h
   refine aw_skip ?_
   refine aq_then ?_
   obtain ⟨kk8, hkk8, h⟩ := lt_some h
   refine aw_seq_join (ι := Unit) (fun i => (memOf w0 Z0 [] [(oRow v3 3 tq r2.1)] [])) (fun i => (tab [(3, v3)])) (fun i => kk8 () = some r) ?_ ?_
   ·rintro _ h
    have h : kk8 () = some r := h
    rw [hkk8] at h
    dsimp only at h
    clear hkk8
    refine aw_show (m := (memOf w0 Z0 [] [(oRow v3 3 tq r2.1)] [])) (S := (tab [(3, v3)])) ?_
    refine aw_seq ?_
    refine aw_sr ?_
    refine al_mv rfl rfl ?_
    refine al_val (ov_lenR 0 rfl rfl Tryd.underlying71 rfl) ?_
    refine al_in rfl rfl rfl rfl ?_
    refine al_nt ?_
    refine aw_cond rfl (fun hb9 => ?_) (fun hb9 => ?_)
    ·replace h := bif_t hb9 h
     refine aw_sr ?_
     refine al_as rfl rfl ?_
     refine al_nt ?_
     refine aw_ret ?_
     refine aq_then_ret ?_
     obtain rfl := Option.some.inj h
     exact fn_ret () [] [] rfl rfl rfl rfl (res1 rfl rfl) rfl rfl rfl (by decide)
    ·replace h := bif_f hb9 h
     refine aw_skip ?_
     refine aq_tr ?_
     refine al_as rfl rfl ?_
     refine al_nt ?_
     refine aw_ret ?_
     obtain rfl := Option.some.inj h
     exact fn_ret () [] [] rfl rfl rfl rfl (res1 rfl rfl) rfl rfl rfl (by decide)
   ·clear hkk8
    refine aw_sr ?_
    refine al_mv rfl rfl ?_
    refine al_val (ov_lenR 0 rfl rfl Tryd.underlying71 rfl) ?_
    refine al_mv rfl rfl ?_
    refine al_nt ?_
    refine aw_block ?_
    refine aw_state (aw_loop (ι := Int) (fun i => (memOf w0 Z0 [] [(oRow v3 3 tq r2.1)] [])) (fun i => (tab [(3, v3), (27, v3), (28, (iq (r2.1.length : Int))), (29, (iq i))])) (fun q i => f_lumref_Name_L12 r2 kk8 q i = some r) ?_ fu (0 : Int) h) (fun w a hm hs => norm hm hs [0] [] [(3, v3), (27, v3), (28, (iq (r2.1.length : Int))), (29, (iq (0 : Int)))] (by decide) ⟨rfl, rfl, rfl, rfl, trivial⟩)
    clear h
    rintro k11 l10i29 h
    have h : f_lumref_Name_L12 r2 kk8 k11 l10i29 = some r := h
    obtain _ | k11 := k11
    · rw [f_lumref_Name_L12] at h; cases h
    rw [f_lumref_Name_L12] at h
    refine aw_show (m := (memOf w0 Z0 [] [(oRow v3 3 tq r2.1)] [])) (S := (tab [(3, v3), (27, v3), (28, (iq (r2.1.length : Int))), (29, (iq l10i29))])) ?_
    refine aw_sr ?_
    refine al_in rfl rfl rfl rfl ?_
    refine al_nt ?_
    refine aw_seq ?_
    refine aw_cond rfl (fun hb13 => ?_) (fun hb13 => ?_)
    ·replace h := bif_t hb13 h
     refine aw_skip ?_
     refine aq_then ?_
     refine aw_seq ?_
     refine aw_block ?_
     refine aw_sr ?_
     obtain ⟨u14, hu15, h⟩ := opt_some h
     refine al_idxR 0 (at_some hu15).1 (at_some hu15).2.1 rfl rfl rfl Tryd.underlying71 sz3 rfl (fun p16 hp17 => ?_)
     refine al_val (ov_loadR (ds := [(iq u14)]) 0 rfl hp17 (at_some hu15).2.2 (fun h => h) rfl Tryd.underlying3 sz3 rfl rfl rfl) ?_
     refine al_as rfl rfl ?_
     refine al_nt ?_
     obtain ⟨kk19, hkk19, h⟩ := lt_some h
     refine aw_seq_join (ι := Bool) (fun i => (memOf w0 Z0 [] [(oRow v3 3 tq r2.1)] [])) (fun i => (tab [(3, v3), (27, v3), (28, (iq (r2.1.length : Int))), (29, (iq l10i29)), (42, (bool i))])) (fun i => kk19 i = some r) ?_ ?_
     ·rintro j18b42 h
      have h : kk19 j18b42 = some r := h
      rw [hkk19] at h
      dsimp only at h
      clear hkk19
      refine aw_show (m := (memOf w0 Z0 [] [(oRow v3 3 tq r2.1)] [])) (S := (tab [(3, v3), (27, v3), (28, (iq (r2.1.length : Int))), (29, (iq l10i29)), (42, (bool j18b42))])) ?_
      refine aw_cond rfl (fun hb20 => ?_) (fun hb20 => ?_)
      ·replace h := bif_t hb20 h
       refine aw_sr ?_
       refine al_as rfl rfl ?_
       refine al_nt ?_
       refine aw_ret ?_
       refine aq_block_ret ?_
       refine aq_then_ret ?_
       refine aq_then_ret ?_
       refine aq_block_ret ?_
       refine aq_then_ret ?_
       obtain rfl := Option.some.inj h
       exact fn_ret () [] [] rfl rfl rfl rfl (res1 rfl rfl) rfl rfl rfl (by decide)
      ·replace h := bif_f hb20 h
       refine aw_skip ?_
       refine aq_block ?_
       refine aq_then ?_
       refine aw_region ?_
       refine al_in rfl rfl rfl rfl ?_
       refine al_mv rfl rfl ?_
       refine al_nil ?_
       exact aq_again k11 (wq (l10i29 + (1 : Int))) (Nat.lt_succ_self _) h (fun w a hm hs => norm hm hs [0] [] [(3, v3), (27, v3), (28, (iq (r2.1.length : Int))), (29, (iq (wq (l10i29 + (1 : Int)))))] (by decide) ⟨rfl, rfl, rfl, rfl, trivial⟩)
     ·clear hkk19
      refine aw_region ?_
      refine al_mv rfl rfl ?_
      refine al_in rfl rfl rfl rfl ?_
      refine al_mv rfl rfl ?_
      refine al_caseB 35 rfl (fun hb21 => ?_) (fun hb21 => ?_)
      ·replace h := bif_t hb21 h
       refine al_skip ?_
       refine al_skip ?_
       refine al_val (ov_pick_t rfl rfl rfl) ?_
       refine al_mv rfl rfl ?_
       refine al_skip ?_
       refine al_skip ?_
       refine al_val (ov_pick_t rfl rfl rfl) ?_
       refine al_nil ?_
       exact aq_join true h (fun w a hm hs => norm hm hs [0] [] [(3, v3), (27, v3), (28, (iq (r2.1.length : Int))), (29, (iq l10i29)), (42, (bool true))] (by decide) ⟨rfl, rfl, rfl, rfl, rfl, trivial⟩)
      ·replace h := bif_f hb21 h
       refine al_mv rfl rfl ?_
       refine al_in rfl rfl rfl rfl ?_
       refine al_val (ov_pick_f rfl rfl rfl) ?_
       refine al_mv rfl rfl ?_
       refine al_caseB 39 rfl (fun hb22 => ?_) (fun hb22 => ?_)
       ·replace h := bif_t hb22 h
        refine al_skip ?_
        refine al_skip ?_
        refine al_val (ov_pick_t rfl rfl rfl) ?_
        refine al_nil ?_
        exact aq_join true h (fun w a hm hs => norm hm hs [0] [] [(3, v3), (27, v3), (28, (iq (r2.1.length : Int))), (29, (iq l10i29)), (42, (bool true))] (by decide) ⟨rfl, rfl, rfl, rfl, rfl, trivial⟩)
       ·replace h := bif_f hb22 h
        refine al_mv rfl rfl ?_
        refine al_in rfl rfl rfl rfl ?_
        refine al_val (ov_pick_f rfl rfl rfl) ?_
        refine al_nil ?_
        exact aq_join (u14 == (127 : Int)) h (fun w a hm hs => norm hm hs [0] [] [(3, v3), (27, v3), (28, (iq (r2.1.length : Int))), (29, (iq l10i29)), (42, (bool (u14 == (127 : Int))))] (by decide) ⟨rfl, rfl, rfl, rfl, rfl, trivial⟩)
    ·replace h := bif_f hb13 h
     refine aw_exit ?_
     refine aq_then_exit ?_
     refine aq_then_exit ?_
     refine aq_block_exit ?_
     exact aq_join () h (fun w a hm hs => norm hm hs [0] [] [(3, v3)] (by decide) ⟨rfl, trivial⟩)
 ·clear hkk5
  refine aw_region ?_
  refine al_mv rfl rfl ?_
  refine al_val (ov_not rfl rfl) ?_
  refine al_mv rfl rfl ?_
  refine al_caseB 14 rfl (fun hb23 => ?_) (fun hb23 => ?_)
  ·replace h := bif_t hb23 h
   refine al_skip ?_
   refine al_skip ?_
   refine al_skip ?_
   refine al_val (ov_pick_t rfl rfl rfl) ?_
   refine al_mv rfl rfl ?_
   refine al_skip ?_
   refine al_skip ?_
   refine al_val (ov_pick_t rfl rfl rfl) ?_
   refine al_mv rfl rfl ?_
   refine al_skip ?_
   refine al_skip ?_
   refine al_val (ov_pick_t rfl rfl rfl) ?_
   refine al_nil ?_
   exact aq_join true h (fun w a hm hs => norm hm hs [0] [] [(3, v3), (26, (bool true))] (by decide) ⟨rfl, rfl, trivial⟩)
  ·replace h := bif_f hb23 h
   refine al_mv rfl rfl ?_
   refine al_val (ov_lenR 0 rfl rfl Tryd.underlying71 rfl) ?_
   refine al_in rfl rfl rfl rfl ?_
   refine al_val (ov_pick_f rfl rfl rfl) ?_
   refine al_mv rfl rfl ?_
   refine al_caseB 19 rfl (fun hb24 => ?_) (fun hb24 => ?_)
   ·replace h := bif_t hb24 h
    refine al_skip ?_
    refine al_skip ?_
    refine al_val (ov_pick_t rfl rfl rfl) ?_
    refine al_mv rfl rfl ?_
    refine al_skip ?_
    refine al_skip ?_
    refine al_val (ov_pick_t rfl rfl rfl) ?_
    refine al_nil ?_
    exact aq_join true h (fun w a hm hs => norm hm hs [0] [] [(3, v3), (26, (bool true))] (by decide) ⟨rfl, rfl, trivial⟩)
   ·replace h := bif_f hb24 h
    refine al_mv rfl rfl ?_
    refine al_val (ov_strCmp rfl rfl rfl rfl) ?_
    refine al_val (ov_pick_f rfl rfl rfl) ?_
    refine al_mv rfl rfl ?_
    refine al_caseB 23 rfl (fun hb25 => ?_) (fun hb25 => ?_)
    ·replace h := bif_t hb25 h
     refine al_skip ?_
     refine al_skip ?_
     refine al_val (ov_pick_t rfl rfl rfl) ?_
     refine al_nil ?_
     exact aq_join true h (fun w a hm hs => norm hm hs [0] [] [(3, v3), (26, (bool true))] (by decide) ⟨rfl, rfl, trivial⟩)
    ·replace h := bif_f hb25 h
     refine al_mv rfl rfl ?_
     refine al_val (ov_strCmp rfl rfl rfl rfl) ?_
     refine al_val (ov_pick_f rfl rfl rfl) ?_
     refine al_nil ?_
     exact aq_join (a0 == ([46, 46] : List UInt8)) h (fun w a hm hs => norm hm hs [0] [] [(3, v3), (26, (bool (a0 == ([46, 46] : List UInt8))))] (by decide) ⟨rfl, rfl, trivial⟩)
def f_lumref_nameErr_L5 (a0 : (List (List UInt8))) (kk2 : (Unit → Option Int)) (fu : Nat) : Nat → Int → Option Int
  | 0, _ => none
  | k4 + 1, l3i8 => (bif (decide (l3i8 < (a0.length : Int))) then (opt (at? a0 l3i8) fun (u7 : (List UInt8)) => (bif (decide (l3i8 ≥ (8 : Int))) then (some (14 : Int)) else (opt (f_lumref_Name fu u7) fun (r12 : Int) => (bif (r12 != (0 : Int)) then (some r12) else (f_lumref_nameErr_L5 a0 kk2 fu k4 (IntKind.i64.wrap (l3i8 + (1 : Int)))))))) else (kk2 ()))
def f_lumref_nameErr (fu : Nat) (a0 : (List (List UInt8))) : Option Int := (lt (fun (_ : Unit) => (some (0 : Int))) fun (kk2 : Unit → Option Int) => (f_lumref_nameErr_L5 a0 kk2 fu fu (0 : Int)))
set_option maxHeartbeats 2000000 in
set_option maxRecDepth 100000 in
theorem f_lumref_nameErr_ok (fu : Nat) (v0_0 : Value) (a0 : (List (List UInt8))) {r : Int} (h : f_lumref_nameErr fu a0 = some r) : FnOk Tryd.prog 117 [v0_0] [(fDat (tyList tyStr) [v0_0] a0)] [] (fun (i : Unit) => { val := (int .i64 r) }) := by
 unfold f_lumref_nameErr at h
 refine fn_enter Tryd.func117 rfl Tryd.ntmps117 rfl (fun w0 Z0 => ?_)
 refine aw_sr ?_
 refine al_as rfl rfl ?_
 refine al_nt ?_
 obtain ⟨kk2, hkk2, h⟩ := lt_some h
 refine aw_seq_join (ι := Unit) (fun i => (memOf w0 Z0 [] [] [(fDat (tyList tyStr) [v0_0] a0)])) (fun i => (tab [])) (fun i => kk2 () = some r) ?_ ?_
 ·rintro _ h
  have h : kk2 () = some r := h
  rw [hkk2] at h
  dsimp only at h
  clear hkk2
  refine aw_show (m := (memOf w0 Z0 [] [] [(fDat (tyList tyStr) [v0_0] a0)])) (S := (tab [])) ?_
  refine aw_sr ?_
  refine al_as rfl rfl ?_
  refine al_nt ?_
  refine aw_ret ?_
  obtain rfl := Option.some.inj h
  exact fn_ret () [] [] rfl rfl rfl rfl (res1 rfl rfl) rfl rfl rfl (by decide)
 ·clear hkk2
  refine aw_sr ?_
  refine al_mv rfl rfl ?_
  refine al_val (ov_lenD 0 rfl rfl Tryd.underlying50 rfl) ?_
  refine al_mv rfl rfl ?_
  refine al_nt ?_
  refine aw_block ?_
  refine aw_state (aw_loop (ι := Int) (fun i => (memOf w0 Z0 [] [] [(fDat (tyList tyStr) [v0_0] a0)])) (fun i => (tab [(6, v0_0), (7, (iq (a0.length : Int))), (8, (iq i))])) (fun q i => f_lumref_nameErr_L5 a0 kk2 fu q i = some r) ?_ fu (0 : Int) h) (fun w a hm hs => norm hm hs [] [0] [(6, v0_0), (7, (iq (a0.length : Int))), (8, (iq (0 : Int)))] (by decide) ⟨rfl, rfl, rfl, trivial⟩)
  clear h
  rintro k4 l3i8 h
  have h : f_lumref_nameErr_L5 a0 kk2 fu k4 l3i8 = some r := h
  obtain _ | k4 := k4
  · rw [f_lumref_nameErr_L5] at h; cases h
  rw [f_lumref_nameErr_L5] at h
  refine aw_show (m := (memOf w0 Z0 [] [] [(fDat (tyList tyStr) [v0_0] a0)])) (S := (tab [(6, v0_0), (7, (iq (a0.length : Int))), (8, (iq l3i8))])) ?_
  refine aw_sr ?_
  refine al_in rfl rfl rfl rfl ?_
  refine al_nt ?_
  refine aw_seq ?_
  refine aw_cond rfl (fun hb6 => ?_) (fun hb6 => ?_)
  ·replace h := bif_t hb6 h
   refine aw_skip ?_
   refine aq_then ?_
   refine aw_seq ?_
   refine aw_block ?_
   refine aw_sr ?_
   refine al_mv rfl rfl ?_
   obtain ⟨u7, hu8, h⟩ := opt_some h
   refine al_idxD 0 hu8 rfl rfl rfl Tryd.underlying50 sz9 rfl (fun p9 => ?_)
   refine al_val (ov_loadP (ds := [(str u7)]) 0 rfl (fun h => h) rfl Tryd.underlying9 sz9 rfl rfl rfl) ?_
   refine al_as rfl rfl ?_
   refine al_as rfl rfl ?_
   refine al_nt ?_
   refine aw_seq ?_
   refine aw_sr ?_
   refine al_mv rfl rfl ?_
   refine al_in rfl rfl rfl rfl ?_
   refine al_nt ?_
   refine aw_cond rfl (fun hb10 => ?_) (fun hb10 => ?_)
   ·replace h := bif_t hb10 h
    refine aw_sr ?_
    refine al_as rfl rfl ?_
    refine al_nt ?_
    refine aw_ret ?_
    refine aq_then_ret ?_
    refine aq_block_ret ?_
    refine aq_then_ret ?_
    refine aq_then_ret ?_
    refine aq_block_ret ?_
    refine aq_then_ret ?_
    obtain rfl := Option.some.inj h
    exact fn_ret () [] [] rfl rfl rfl rfl (res1 rfl rfl) rfl rfl rfl (by decide)
   ·replace h := bif_f hb10 h
    refine aw_skip ?_
    refine aq_tr ?_
    refine al_mv rfl rfl ?_
    obtain ⟨r12, hc11, h⟩ := opt_some h
    refine al_call (vs := [(str u7)]) (f_lumref_Name_ok fu u7 hc11) [] [] [] pre_nil rfl (by simp) (by decide) (.inl rfl) rfl Tryd.func165 rfl rfl rfl (fun _ => ?_)
    refine al_as rfl rfl ?_
    refine al_nt ?_
    refine aw_sr ?_
    refine al_mv rfl rfl ?_
    refine al_in rfl rfl rfl rfl ?_
    refine al_nt ?_
    refine aw_cond rfl (fun hb13 => ?_) (fun hb13 => ?_)
    ·replace h := bif_t hb13 h
     refine aw_sr ?_
     refine al_mv rfl rfl ?_
     refine al_as rfl rfl ?_
     refine al_nt ?_
     refine aw_ret ?_
     refine aq_block_ret ?_
     refine aq_then_ret ?_
     refine aq_then_ret ?_
     refine aq_block_ret ?_
     refine aq_then_ret ?_
     obtain rfl := Option.some.inj h
     exact fn_ret () [] [] rfl rfl rfl rfl (res1 rfl rfl) rfl rfl rfl (by decide)
    ·replace h := bif_f hb13 h
     refine aw_skip ?_
     refine aq_block ?_
     refine aq_then ?_
     refine aw_region ?_
     refine al_in rfl rfl rfl rfl ?_
     refine al_mv rfl rfl ?_
     refine al_nil ?_
     exact aq_again k4 (wq (l3i8 + (1 : Int))) (Nat.lt_succ_self _) h (fun w a hm hs => norm hm hs [] [1] [(6, v0_0), (7, (iq (a0.length : Int))), (8, (iq (wq (l3i8 + (1 : Int)))))] (by decide) ⟨rfl, rfl, rfl, trivial⟩)
  ·replace h := bif_f hb6 h
   refine aw_exit ?_
   refine aq_then_exit ?_
   refine aq_then_exit ?_
   refine aq_block_exit ?_
   exact aq_join () h (fun w a hm hs => norm hm hs [] [0] [] (by decide) trivial)
def f_lumref_Split (fu : Nat) (a0 : (List UInt8)) : Option ((List (List UInt8)) × Int) := (lt (fun (j1b12 : Bool) => (bif j1b12 then (some (([] : List (List UInt8)), (8 : Int))) else (bif (a0 == ([47] : List UInt8)) then (some (([] : List (List UInt8)), (0 : Int))) else (req (0 ≤ (1 : Int) ∧ (1 : Int) ≤ (a0.length : Int)) (opt (f_lumref_cutAt fu (a0.drop ((1 : Int)).toNat)) fun (r7 : (List (List UInt8))) => (opt (f_lumref_nameErr fu r7) fun (r10 : Int) => (bif (r10 != (0 : Int)) then (some (([] : List (List UInt8)), r10)) else (some (r7, (0 : Int)))))))))) fun (kk2 : Bool → Option ((List (List UInt8)) × Int)) => (bif (a0 == ([] : List UInt8)) then (kk2 true) else (req (0 ≤ (0 : Int) ∧ (0 : Int) < (a0.length : Int)) (kk2 ((En.bAt a0 (0 : Int)) != (47 : Int))))))
set_option maxHeartbeats 2000000 in
set_option maxRecDepth 100000 in
theorem f_lumref_Split_ok (fu : Nat) (a0 : (List UInt8)) {r : ((List (List UInt8)) × Int)} (h : f_lumref_Split fu a0 = some r) : FnOk Tryd.prog 67 [(str a0)] [] [] (fun (i : Value) => { val := (Value.tuple #[i, (int .i64 r.2)]), own := [(oRow i 9 tyStr r.1)] }) := by
 unfold f_lumref_Split at h
 refine fn_enter Tryd.func67 rfl Tryd.ntmps67 rfl (fun w0 Z0 => ?_)
 refine aw_sr ?_
 refine al_as rfl rfl ?_
 refine al_as rfl rfl ?_
 refine al_nt ?_
 refine aw_seq ?_
 obtain ⟨kk2, hkk2, h⟩ := lt_some h
 refine aw_seq_join (ι := Bool) (fun i => (memOf w0 Z0 [] [] [])) (fun i => (tab [(0, (str a0)), (12, (bool i))])) (fun i => kk2 i = some r) ?_ ?_
 ·rintro j1b12 h
  have h : kk2 j1b12 = some r := h
  rw [hkk2] at h
  dsimp only at h
  clear hkk2
  refine aw_show (m := (memOf w0 Z0 [] [] [])) (S := (tab [(0, (str a0)), (12, (bool j1b12))])) ?_
  refine aw_cond rfl (fun hb3 => ?_) (fun hb3 => ?_)
  ·replace h := bif_t hb3 h
   refine aw_sr ?_
   refine al_as rfl rfl ?_
   refine al_as rfl rfl ?_
   refine al_nt ?_
   refine aw_ret ?_
   refine aq_then_ret ?_
   refine aq_nilR 9 tyStr ?_
   obtain rfl := Option.some.inj h
   exact fn_ret nS [0] [] rfl rfl rfl rfl (res2 rfl rfl rfl) rfl rfl rfl (by decide)
  ·replace h := bif_f hb3 h
   refine aw_skip ?_
   refine aq_then ?_
   refine aw_seq ?_
   refine aw_sr ?_
   refine al_mv rfl rfl ?_
   refine al_val (ov_strCmp rfl rfl rfl rfl) ?_
   refine al_nt ?_
   refine aw_cond rfl (fun hb4 => ?_) (fun hb4 => ?_)
   ·replace h := bif_t hb4 h
    refine aw_sr ?_
    refine al_as rfl rfl ?_
    refine al_as rfl rfl ?_
    refine al_nt ?_
    refine aw_ret ?_
    refine aq_then_ret ?_
    refine aq_nilR 9 tyStr ?_
    obtain rfl := Option.some.inj h
    exact fn_ret nS [0] [] rfl rfl rfl rfl (res2 rfl rfl rfl) rfl rfl rfl (by decide)
   ·replace h := bif_f hb4 h
    refine aw_skip ?_
    refine aq_tr ?_
    refine al_mv rfl rfl ?_
    obtain ⟨hc5, h⟩ := req_some h
    refine al_val (ov_strFrom hc5.1 hc5.2 Tryd.underlying9 rfl rfl rfl) ?_
    obtain ⟨r7, hc6, h⟩ := opt_some h
    refine al_call (vs := [(str (a0.drop ((1 : Int)).toNat))]) (f_lumref_cutAt_ok fu (a0.drop ((1 : Int)).toNat) hc6) [] [] [] pre_nil rfl (by simp) (by decide) (.inl rfl) rfl Tryd.func75 rfl rfl rfl (fun v8 => ?_)
    refine al_as rfl rfl ?_
    refine al_nt ?_
    refine aw_seq ?_
    refine aw_sr ?_
    refine al_mv rfl rfl ?_
    obtain ⟨r10, hc9, h⟩ := opt_some h
    refine al_call (vs := [v8]) (f_lumref_nameErr_ok fu v8 r7 hc9) [0] [] [0] (pre_own 0 rfl rfl pre_nil) rfl (by simp) (by decide) (.inr flat_res0) rfl Tryd.func117 rfl rfl rfl (fun _ => ?_)
    refine al_as rfl rfl ?_
    refine al_nt ?_
    refine aw_sr ?_
    refine al_mv rfl rfl ?_
    refine al_in rfl rfl rfl rfl ?_
    refine al_nt ?_
    refine aw_cond rfl (fun hb11 => ?_) (fun hb11 => ?_)
    ·replace h := bif_t hb11 h
     refine aw_sr ?_
     refine al_mv rfl rfl ?_
     refine al_as rfl rfl ?_
     refine al_as rfl rfl ?_
     refine al_nt ?_
     refine aw_ret ?_
     refine aq_then_ret ?_
     refine aq_nilR 9 tyStr ?_
     obtain rfl := Option.some.inj h
     exact fn_ret nS [0] [] rfl rfl rfl rfl (res2 rfl rfl rfl) rfl rfl rfl (by decide)
    ·replace h := bif_f hb11 h
     refine aw_skip ?_
     refine aq_tr ?_
     refine al_mv rfl rfl ?_
     refine al_as rfl rfl ?_
     refine al_as rfl rfl ?_
     refine al_nt ?_
     refine aw_ret ?_
     obtain rfl := Option.some.inj h
     exact fn_ret v8 [0] [] rfl rfl rfl rfl (res2 rfl rfl rfl) rfl rfl rfl (by decide)
 ·clear hkk2
  refine aw_region ?_
  refine al_mv rfl rfl ?_
  refine al_val (ov_strCmp rfl rfl rfl rfl) ?_
  refine al_mv rfl rfl ?_
  refine al_caseB 8 rfl (fun hb12 => ?_) (fun hb12 => ?_)
  ·replace h := bif_t hb12 h
   refine al_skip ?_
   refine al_skip ?_
   refine al_skip ?_
   refine al_val (ov_pick_t rfl rfl rfl) ?_
   refine al_nil ?_
   exact aq_join true h (fun w a hm hs => norm hm hs [] [] [(0, (str a0)), (12, (bool true))] (by decide) ⟨rfl, rfl, trivial⟩)
  ·replace h := bif_f hb12 h
   refine al_mv rfl rfl ?_
   obtain ⟨hc13, h⟩ := req_some h
   refine al_val (ov_strIdx hc13.1 hc13.2 Tryd.underlying9 rfl rfl rfl) ?_
   refine al_in rfl rfl rfl rfl ?_
   refine al_val (ov_pick_f rfl rfl rfl) ?_
   refine al_nil ?_
   exact aq_join ((En.bAt a0 (0 : Int)) != (47 : Int)) h (fun w a hm hs => norm hm hs [] [] [(0, (str a0)), (12, (bool ((En.bAt a0 (0 : Int)) != (47 : Int))))] (by decide) ⟨rfl, rfl, trivial⟩)
def f_lumref_itemErr (fu : Nat) (a0 : S_api_Item) : Option Int := (opt (f_lumref_Split fu a0.Path) fun (r3 : ((List (List UInt8)) × Int)) => (bif (r3.2 != (0 : Int)) then (some r3.2) else (bif ((r3.1.length : Int) == (0 : Int)) then (some (8 : Int)) else (lt (fun (j7b19 : Bool) => (bif j7b19 then (some (5 : Int)) else (lt (fun (j10b33 : Bool) => (bif j10b33 then (some (1 : Int)) else (lt (fun (j13b42 : Bool) => (bif j13b42 then (some (2 : Int)) else (lt (fun (j16b73 : Bool) => (bif j16b73 then (some (4 : Int)) else (some (0 : Int)))) fun (kk17 : Bool → Option Int) => (bif (a0.Kind == (3 : Int)) then (kk17 (a0.Bytes == ([] : List UInt8))) else (kk17 false))))) fun (kk14 : Bool → Option Int) => (bif (a0.Kind == (1 : Int)) then (bif (decide ((a0.Bytes.length : Int) > (4096 : Int))) then (kk14 true) else (bif (a0.Kind == (2 : Int)) then (bif (!(a0.Bytes == ([] : List UInt8))) then (kk14 true) else (bif (a0.Kind == (3 : Int)) then (kk14 (decide ((a0.Bytes.length : Int) > (1024 : Int)))) else (kk14 false))) else (bif (a0.Kind == (3 : Int)) then (kk14 (decide ((a0.Bytes.length : Int) > (1024 : Int)))) else (kk14 false)))) else (bif (a0.Kind == (2 : Int)) then (bif (!(a0.Bytes == ([] : List UInt8))) then (kk14 true) else (bif (a0.Kind == (3 : Int)) then (kk14 (decide ((a0.Bytes.length : Int) > (1024 : Int)))) else (kk14 false))) else (bif (a0.Kind == (3 : Int)) then (kk14 (decide ((a0.Bytes.length : Int) > (1024 : Int)))) else (kk14 false))))))) fun (kk11 : Bool → Option Int) => (bif (decide (a0.Mode < (0 : Int))) then (kk11 true) else (kk11 (decide (a0.Mode > (511 : Int)))))))) fun (kk8 : Bool → Option Int) => (bif (a0.Kind != (1 : Int)) then (bif (a0.Kind != (2 : Int)) then (kk8 (a0.Kind != (3 : Int))) else (kk8 false)) else (kk8 false))))))
set_option maxRecDepth 100000 in
set_option maxHeartbeats 2000000 in
set_option maxHeartbeats 2000000 in
theorem f_lumref_itemErr_ok (fu : Nat) (a0 : S_api_Item) {r : Int} (h : f_lumref_itemErr fu a0 = some r) : FnOk Tryd.prog 110 [(ag [(str a0.Path), (int .i64 a0.Kind), (int .i64 a0.Mode), (int .i64 a0.Time), (str a0.Bytes)])] [] [] (fun (i : Unit) => { val := (int .i64 r) }) := by
 unfold f_lumref_itemErr at h
 refine fn_enter Tryd.func110 rfl Tryd.ntmps110 rfl (fun w0 Z0 => ?_)
 refine aw_sr ?_
 refine al_box (vs := [(str a0.Path), (iq a0.Kind), (iq a0.Mode), (iq a0.Time), (str a0.Bytes)]) rfl (cv_rfl rfl) rfl (fun g1 => ?_)
 refine al_as rfl rfl ?_
 refine al_nt ?_
 refine aw_sr ?_
 refine al_val (ov_fieldA (p := 0) rfl Tryd.underlying41 rfl sz9 rfl rfl rfl) ?_
 refine al_val (ov_load (i := 0) (v := (str a0.Path)) rfl rfl Tryd.underlying9 sz9 rfl rfl rfl rfl) ?_
 obtain ⟨r3, hc2, h⟩ := opt_some h
 refine al_call (vs := [(str a0.Path)]) (f_lumref_Split_ok fu a0.Path hc2) [] [] [0] pre_nil rfl (by simp) (by decide) (.inl rfl) rfl Tryd.func67 rfl rfl rfl (fun v4 => ?_)
 refine al_mv rfl rfl ?_
 refine al_ex rfl rfl rfl ?_
 refine al_ex rfl rfl rfl ?_
 refine al_as rfl rfl ?_
 refine al_as rfl rfl ?_
 refine al_nt ?_
 refine aw_seq ?_
 refine aw_block ?_
 refine aw_sr ?_
 refine al_mv rfl rfl ?_
 refine al_in rfl rfl rfl rfl ?_
 refine al_as rfl rfl ?_
 refine al_nt ?_
 refine aw_cond rfl (fun hb5 => ?_) (fun hb5 => ?_)
 ·replace h := bif_t hb5 h
  refine aw_sr ?_
  refine al_mv rfl rfl ?_
  refine al_as rfl rfl ?_
  refine al_nt ?_
  refine aw_ret ?_
  refine aq_block_ret ?_
  refine aq_then_ret ?_
  obtain rfl := Option.some.inj h
  exact fn_ret () [] [] rfl rfl rfl rfl (res1 rfl rfl) rfl rfl rfl (by decide)
 ·replace h := bif_f hb5 h
  refine aw_sr ?_
  refine al_mv rfl rfl ?_
  refine al_val (ov_lenR 0 rfl rfl Tryd.underlying50 rfl) ?_
  refine al_in rfl rfl rfl rfl ?_
  refine al_as rfl rfl ?_
  refine al_nt ?_
  refine aw_cond rfl (fun hb6 => ?_) (fun hb6 => ?_)
  ·replace h := bif_t hb6 h
   refine aw_sr ?_
   refine al_as rfl rfl ?_
   refine al_nt ?_
   refine aw_ret ?_
   refine aq_block_ret ?_
   refine aq_then_ret ?_
   obtain rfl := Option.some.inj h
   exact fn_ret () [] [] rfl rfl rfl rfl (res1 rfl rfl) rfl rfl rfl (by decide)
  ·replace h := bif_f hb6 h
   obtain ⟨kk8, hkk8, h⟩ := lt_some h
   refine aw_seq_join (ι := Bool) (fun i => (memOf w0 Z0 [] [(oBox g1 41 [(str a0.Path), (iq a0.Kind), (iq a0.Mode), (iq a0.Time), (str a0.Bytes)])] [])) (fun i => (tab [(1, (pq g1)), (19, (bool i))])) (fun i => kk8 i = some r) ?_ ?_
   ·rintro j7b19 h
    have h : kk8 j7b19 = some r := h
    rw [hkk8] at h
    dsimp only at h
    clear hkk8
    refine aw_show (m := (memOf w0 Z0 [] [(oBox g1 41 [(str a0.Path), (iq a0.Kind), (iq a0.Mode), (iq a0.Time), (str a0.Bytes)])] [])) (S := (tab [(1, (pq g1)), (19, (bool j7b19))])) ?_
    refine aw_cond rfl (fun hb9 => ?_) (fun hb9 => ?_)
    ·replace h := bif_t hb9 h
     refine aw_sr ?_
     refine al_as rfl rfl ?_
     refine al_nt ?_
     refine aw_ret ?_
     refine aq_block_ret ?_
     refine aq_then_ret ?_
     obtain rfl := Option.some.inj h
     exact fn_ret () [] [] rfl rfl rfl rfl (res1 rfl rfl) rfl rfl rfl (by decide)
    ·replace h := bif_f hb9 h
     obtain ⟨kk11, hkk11, h⟩ := lt_some h
     refine aw_seq_join (ι := Bool) (fun i => (memOf w0 Z0 [] [(oBox g1 41 [(str a0.Path), (iq a0.Kind), (iq a0.Mode), (iq a0.Time), (str a0.Bytes)])] [])) (fun i => (tab [(1, (pq g1)), (33, (bool i))])) (fun i => kk11 i = some r) ?_ ?_
     ·rintro j10b33 h
      have h : kk11 j10b33 = some r := h
      rw [hkk11] at h
      dsimp only at h
      clear hkk11
      refine aw_show (m := (memOf w0 Z0 [] [(oBox g1 41 [(str a0.Path), (iq a0.Kind), (iq a0.Mode), (iq a0.Time), (str a0.Bytes)])] [])) (S := (tab [(1, (pq g1)), (33, (bool j10b33))])) ?_
      refine aw_cond rfl (fun hb12 => ?_) (fun hb12 => ?_)
      ·replace h := bif_t hb12 h
       refine aw_sr ?_
       refine al_as rfl rfl ?_
       refine al_nt ?_
       refine aw_ret ?_
       refine aq_block_ret ?_
       refine aq_then_ret ?_
       obtain rfl := Option.some.inj h
       exact fn_ret () [] [] rfl rfl rfl rfl (res1 rfl rfl) rfl rfl rfl (by decide)
      ·replace h := bif_f hb12 h
       obtain ⟨kk14, hkk14, h⟩ := lt_some h
       refine aw_seq_join (ι := Bool) (fun i => (memOf w0 Z0 [] [(oBox g1 41 [(str a0.Path), (iq a0.Kind), (iq a0.Mode), (iq a0.Time), (str a0.Bytes)])] [])) (fun i => (tab [(1, (pq g1)), (42, (bool i))])) (fun i => kk14 i = some r) ?_ ?_
       ·rintro j13b42 h
        have h : kk14 j13b42 = some r := h
        rw [hkk14] at h
        dsimp only at h
        clear hkk14
        refine aw_show (m := (memOf w0 Z0 [] [(oBox g1 41 [(str a0.Path), (iq a0.Kind), (iq a0.Mode), (iq a0.Time), (str a0.Bytes)])] [])) (S := (tab [(1, (pq g1)), (42, (bool j13b42))])) ?_
        refine aw_cond rfl (fun hb15 => ?_) (fun hb15 => ?_)
        ·replace h := bif_t hb15 h
         refine aw_sr ?_
         refine al_as rfl rfl ?_
         refine al_nt ?_
         refine aw_ret ?_
         refine aq_block_ret ?_
         refine aq_then_ret ?_
         obtain rfl := Option.some.inj h
         exact fn_ret () [] [] rfl rfl rfl rfl (res1 rfl rfl) rfl rfl rfl (by decide)
        ·replace h := bif_f hb15 h
         obtain ⟨kk17, hkk17, h⟩ := lt_some h
         refine aw_seq_join (ι := Bool) (fun i => (memOf w0 Z0 [] [] [])) (fun i => (tab [(73, (bool i))])) (fun i => kk17 i = some r) ?_ ?_
         ·rintro j16b73 h
          have h : kk17 j16b73 = some r := h
          rw [hkk17] at h
          dsimp only at h
          clear hkk17
          refine aw_show (m := (memOf w0 Z0 [] [] [])) (S := (tab [(73, (bool j16b73))])) ?_
          refine aw_cond rfl (fun hb18 => ?_) (fun hb18 => ?_)
          ·replace h := bif_t hb18 h
           refine aw_sr ?_
           refine al_as rfl rfl ?_
           refine al_nt ?_
           refine aw_ret ?_
           refine aq_block_ret ?_
           refine aq_then_ret ?_
           obtain rfl := Option.some.inj h
           exact fn_ret () [] [] rfl rfl rfl rfl (res1 rfl rfl) rfl rfl rfl (by decide)
          ·replace h := bif_f hb18 h
           refine aw_skip ?_
           refine aq_block ?_
           refine aq_tr ?_
           refine al_as rfl rfl ?_
           refine al_nt ?_
           refine aw_ret ?_
           obtain rfl := Option.some.inj h
           exact fn_ret () [] [] rfl rfl rfl rfl (res1 rfl rfl) rfl rfl rfl (by decide)
         ·clear hkk17
          refine aw_region ?_
          refine al_val (ov_fieldA (p := 1) rfl Tryd.underlying41 rfl sz3 rfl rfl rfl) ?_
          refine al_val (ov_load (i := 0) (v := (iq a0.Kind)) rfl rfl Tryd.underlying3 sz3 rfl rfl rfl rfl) ?_
          refine al_in rfl rfl rfl rfl ?_
          refine al_mv rfl rfl ?_
          refine al_caseB 77 rfl (fun hb19 => ?_) (fun hb19 => ?_)
          ·replace h := bif_t hb19 h
           refine al_val (ov_fieldA (p := 4) rfl Tryd.underlying41 rfl sz9 rfl rfl rfl) ?_
           refine al_val (ov_load (i := 0) (v := (str a0.Bytes)) rfl rfl Tryd.underlying9 sz9 rfl rfl rfl rfl) ?_
           refine al_val (ov_strCmp rfl rfl rfl rfl) ?_
           refine al_val (ov_pick_t rfl rfl rfl) ?_
           refine al_as rfl rfl ?_
           refine al_nil ?_
           exact aq_join (a0.Bytes == ([] : List UInt8)) h (fun w a hm hs => norm hm hs [] [] [(73, (bool (a0.Bytes == ([] : List UInt8))))] (by decide) ⟨rfl, trivial⟩)
          ·replace h := bif_f hb19 h
           refine al_skip ?_
           refine al_skip ?_
           refine al_skip ?_
           refine al_val (ov_pick_f rfl rfl rfl) ?_
           refine al_as rfl rfl ?_
           refine al_nil ?_
           exact aq_join false h (fun w a hm hs => norm hm hs [] [] [(73, (bool false))] (by decide) ⟨rfl, trivial⟩)
       ·clear hkk14
        refine aw_region ?_
        refine al_val (ov_fieldA (p := 1) rfl Tryd.underlying41 rfl sz3 rfl rfl rfl) ?_
        refine al_val (ov_load (i := 0) (v := (iq a0.Kind)) rfl rfl Tryd.underlying3 sz3 rfl rfl rfl rfl) ?_
        refine al_in rfl rfl rfl rfl ?_
        refine al_mv rfl rfl ?_
        refine al_caseB 46 rfl (fun hb20 => ?_) (fun hb20 => ?_)
        ·replace h := bif_t hb20 h
         refine al_val (ov_fieldA (p := 4) rfl Tryd.underlying41 rfl sz9 rfl rfl rfl) ?_
         refine al_val (ov_load (i := 0) (v := (str a0.Bytes)) rfl rfl Tryd.underlying9 sz9 rfl rfl rfl rfl) ?_
         refine al_val (ov_strLen Tryd.underlying9 rfl rfl) ?_
         refine al_in rfl rfl rfl rfl ?_
         refine al_val (ov_pick_t rfl rfl rfl) ?_
         refine al_mv rfl rfl ?_
         refine al_caseB 52 rfl (fun hb21 => ?_) (fun hb21 => ?_)
         ·replace h := bif_t hb21 h
          refine al_skip ?_
          refine al_skip ?_
          refine al_skip ?_
          refine al_skip ?_
          refine al_skip ?_
          refine al_skip ?_
          refine al_skip ?_
          refine al_skip ?_
          refine al_val (ov_pick_t rfl rfl rfl) ?_
          refine al_mv rfl rfl ?_
          refine al_skip ?_
          refine al_skip ?_
          refine al_skip ?_
          refine al_skip ?_
          refine al_skip ?_
          refine al_skip ?_
          refine al_skip ?_
          refine al_skip ?_
          refine al_skip ?_
          refine al_val (ov_pick_t rfl rfl rfl) ?_
          refine al_as rfl rfl ?_
          refine al_nil ?_
          exact aq_join true h (fun w a hm hs => norm hm hs [0] [] [(1, (pq g1)), (42, (bool true))] (by decide) ⟨rfl, rfl, trivial⟩)
         ·replace h := bif_f hb21 h
          refine al_val (ov_fieldA (p := 1) rfl Tryd.underlying41 rfl sz3 rfl rfl rfl) ?_
          refine al_val (ov_load (i := 0) (v := (iq a0.Kind)) rfl rfl Tryd.underlying3 sz3 rfl rfl rfl rfl) ?_
          refine al_in rfl rfl rfl rfl ?_
          refine al_mv rfl rfl ?_
          refine al_caseB 56 rfl (fun hb22 => ?_) (fun hb22 => ?_)
          ·replace h := bif_t hb22 h
           refine al_val (ov_fieldA (p := 4) rfl Tryd.underlying41 rfl sz9 rfl rfl rfl) ?_
           refine al_val (ov_load (i := 0) (v := (str a0.Bytes)) rfl rfl Tryd.underlying9 sz9 rfl rfl rfl rfl) ?_
           refine al_val (ov_strCmp rfl rfl rfl rfl) ?_
           refine al_val (ov_pick_t rfl rfl rfl) ?_
           refine al_val (ov_pick_f rfl rfl rfl) ?_
           refine al_mv rfl rfl ?_
           refine al_caseB 62 rfl (fun hb23 => ?_) (fun hb23 => ?_)
           ·replace h := bif_t hb23 h
            refine al_skip ?_
            refine al_skip ?_
            refine al_skip ?_
            refine al_skip ?_
            refine al_skip ?_
            refine al_skip ?_
            refine al_skip ?_
            refine al_skip ?_
            refine al_skip ?_
            refine al_val (ov_pick_t rfl rfl rfl) ?_
            refine al_as rfl rfl ?_
            refine al_nil ?_
            exact aq_join true h (fun w a hm hs => norm hm hs [0] [] [(1, (pq g1)), (42, (bool true))] (by decide) ⟨rfl, rfl, trivial⟩)
           ·replace h := bif_f hb23 h
            refine al_val (ov_fieldA (p := 1) rfl Tryd.underlying41 rfl sz3 rfl rfl rfl) ?_
            refine al_val (ov_load (i := 0) (v := (iq a0.Kind)) rfl rfl Tryd.underlying3 sz3 rfl rfl rfl rfl) ?_
            refine al_in rfl rfl rfl rfl ?_
            refine al_mv rfl rfl ?_
            refine al_caseB 66 rfl (fun hb24 => ?_) (fun hb24 => ?_)
            ·replace h := bif_t hb24 h
             refine al_val (ov_fieldA (p := 4) rfl Tryd.underlying41 rfl sz9 rfl rfl rfl) ?_
             refine al_val (ov_load (i := 0) (v := (str a0.Bytes)) rfl rfl Tryd.underlying9 sz9 rfl rfl rfl rfl) ?_
             refine al_val (ov_strLen Tryd.underlying9 rfl rfl) ?_
             refine al_in rfl rfl rfl rfl ?_
             refine al_val (ov_pick_t rfl rfl rfl) ?_
             refine al_val (ov_pick_f rfl rfl rfl) ?_
             refine al_as rfl rfl ?_
             refine al_nil ?_
             exact aq_join (decide ((a0.Bytes.length : Int) > (1024 : Int))) h (fun w a hm hs => norm hm hs [0] [] [(1, (pq g1)), (42, (bool (decide ((a0.Bytes.length : Int) > (1024 : Int)))))] (by decide) ⟨rfl, rfl, trivial⟩)
            ·replace h := bif_f hb24 h
             refine al_skip ?_
             refine al_skip ?_
             refine al_skip ?_
             refine al_skip ?_
             refine al_val (ov_pick_f rfl rfl rfl) ?_
             refine al_val (ov_pick_f rfl rfl rfl) ?_
             refine al_as rfl rfl ?_
             refine al_nil ?_
             exact aq_join false h (fun w a hm hs => norm hm hs [0] [] [(1, (pq g1)), (42, (bool false))] (by decide) ⟨rfl, rfl, trivial⟩)
          ·replace h := bif_f hb22 h
           refine al_skip ?_
           refine al_skip ?_
           refine al_skip ?_
           refine al_val (ov_pick_f rfl rfl rfl) ?_
           refine al_val (ov_pick_f rfl rfl rfl) ?_
           refine al_mv rfl rfl ?_
           refine al_val (ov_fieldA (p := 1) rfl Tryd.underlying41 rfl sz3 rfl rfl rfl) ?_
           refine al_val (ov_load (i := 0) (v := (iq a0.Kind)) rfl rfl Tryd.underlying3 sz3 rfl rfl rfl rfl) ?_
           refine al_in rfl rfl rfl rfl ?_
           refine al_mv rfl rfl ?_
           refine al_caseB 66 rfl (fun hb25 => ?_) (fun hb25 => ?_)
           ·replace h := bif_t hb25 h
            refine al_val (ov_fieldA (p := 4) rfl Tryd.underlying41 rfl sz9 rfl rfl rfl) ?_
            refine al_val (ov_load (i := 0) (v := (str a0.Bytes)) rfl rfl Tryd.underlying9 sz9 rfl rfl rfl rfl) ?_
            refine al_val (ov_strLen Tryd.underlying9 rfl rfl) ?_
            refine al_in rfl rfl rfl rfl ?_
            refine al_val (ov_pick_t rfl rfl rfl) ?_
            refine al_val (ov_pick_f rfl rfl rfl) ?_
            refine al_as rfl rfl ?_
            refine al_nil ?_
            exact aq_join (decide ((a0.Bytes.length : Int) > (1024 : Int))) h (fun w a hm hs => norm hm hs [0] [] [(1, (pq g1)), (42, (bool (decide ((a0.Bytes.length : Int) > (1024 : Int)))))] (by decide) ⟨rfl, rfl, trivial⟩)
           ·replace h := bif_f hb25 h
            refine al_skip ?_
            refine al_skip ?_
            refine al_skip ?_
            refine al_skip ?_
            refine al_val (ov_pick_f rfl rfl rfl) ?_
            refine al_val (ov_pick_f rfl rfl rfl) ?_
            refine al_as rfl rfl ?_
            refine al_nil ?_
            exact aq_join false h (fun w a hm hs => norm hm hs [0] [] [(1, (pq g1)), (42, (bool false))] (by decide) ⟨rfl, rfl, trivial⟩)
        ·replace h := bif_f hb20 h
         refine al_skip ?_
         refine al_skip ?_
         refine al_skip ?_
         refine al_skip ?_
         refine al_val (ov_pick_f rfl rfl rfl) ?_
         refine al_mv rfl rfl ?_
         refine al_val (ov_fieldA (p := 1) rfl Tryd.underlying41 rfl sz3 rfl rfl rfl) ?_
         refine al_val (ov_load (i := 0) (v := (iq a0.Kind)) rfl rfl Tryd.underlying3 sz3 rfl rfl rfl rfl) ?_
         refine al_in rfl rfl rfl rfl ?_
         refine al_mv rfl rfl ?_
         refine al_caseB 56 rfl (fun hb26 => ?_) (fun hb26 => ?_)
         ·replace h := bif_t hb26 h
          refine al_val (ov_fieldA (p := 4) rfl Tryd.underlying41 rfl sz9 rfl rfl rfl) ?_
          refine al_val (ov_load (i := 0) (v := (str a0.Bytes)) rfl rfl Tryd.underlying9 sz9 rfl rfl rfl rfl) ?_
          refine al_val (ov_strCmp rfl rfl rfl rfl) ?_
          refine al_val (ov_pick_t rfl rfl rfl) ?_
          refine al_val (ov_pick_f rfl rfl rfl) ?_
          refine al_mv rfl rfl ?_
          refine al_caseB 62 rfl (fun hb27 => ?_) (fun hb27 => ?_)
          ·replace h := bif_t hb27 h
           refine al_skip ?_
           refine al_skip ?_
           refine al_skip ?_
           refine al_skip ?_
           refine al_skip ?_
           refine al_skip ?_
           refine al_skip ?_
           refine al_skip ?_
           refine al_skip ?_
           refine al_val (ov_pick_t rfl rfl rfl) ?_
           refine al_as rfl rfl ?_
           refine al_nil ?_
           exact aq_join true h (fun w a hm hs => norm hm hs [0] [] [(1, (pq g1)), (42, (bool true))] (by decide) ⟨rfl, rfl, trivial⟩)
          ·replace h := bif_f hb27 h
           refine al_val (ov_fieldA (p := 1) rfl Tryd.underlying41 rfl sz3 rfl rfl rfl) ?_
           refine al_val (ov_load (i := 0) (v := (iq a0.Kind)) rfl rfl Tryd.underlying3 sz3 rfl rfl rfl rfl) ?_
           refine al_in rfl rfl rfl rfl ?_
           refine al_mv rfl rfl ?_
           refine al_caseB 66 rfl (fun hb28 => ?_) (fun hb28 => ?_)
           ·replace h := bif_t hb28 h
            refine al_val (ov_fieldA (p := 4) rfl Tryd.underlying41 rfl sz9 rfl rfl rfl) ?_
            refine al_val (ov_load (i := 0) (v := (str a0.Bytes)) rfl rfl Tryd.underlying9 sz9 rfl rfl rfl rfl) ?_
            refine al_val (ov_strLen Tryd.underlying9 rfl rfl) ?_
            refine al_in rfl rfl rfl rfl ?_
            refine al_val (ov_pick_t rfl rfl rfl) ?_
            refine al_val (ov_pick_f rfl rfl rfl) ?_
            refine al_as rfl rfl ?_
            refine al_nil ?_
            exact aq_join (decide ((a0.Bytes.length : Int) > (1024 : Int))) h (fun w a hm hs => norm hm hs [0] [] [(1, (pq g1)), (42, (bool (decide ((a0.Bytes.length : Int) > (1024 : Int)))))] (by decide) ⟨rfl, rfl, trivial⟩)
           ·replace h := bif_f hb28 h
            refine al_skip ?_
            refine al_skip ?_
            refine al_skip ?_
            refine al_skip ?_
            refine al_val (ov_pick_f rfl rfl rfl) ?_
            refine al_val (ov_pick_f rfl rfl rfl) ?_
            refine al_as rfl rfl ?_
            refine al_nil ?_
            exact aq_join false h (fun w a hm hs => norm hm hs [0] [] [(1, (pq g1)), (42, (bool false))] (by decide) ⟨rfl, rfl, trivial⟩)
         ·replace h := bif_f hb26 h
          refine al_skip ?_
          refine al_skip ?_
          refine al_skip ?_
          refine al_val (ov_pick_f rfl rfl rfl) ?_
          refine al_val (ov_pick_f rfl rfl rfl) ?_
          refine al_mv rfl rfl ?_
          refine al_val (ov_fieldA (p := 1) rfl Tryd.underlying41 rfl sz3 rfl rfl rfl) ?_
          refine al_val (ov_load (i := 0) (v := (iq a0.Kind)) rfl rfl Tryd.underlying3 sz3 rfl rfl rfl rfl) ?_
          refine al_in rfl rfl rfl rfl ?_
          refine al_mv rfl rfl ?_
          refine al_caseB 66 rfl (fun hb29 => ?_) (fun hb29 => ?_)
          ·replace h := bif_t hb29 h
           refine al_val (ov_fieldA (p := 4) rfl Tryd.underlying41 rfl sz9 rfl rfl rfl) ?_
           refine al_val (ov_load (i := 0) (v := (str a0.Bytes)) rfl rfl Tryd.underlying9 sz9 rfl rfl rfl rfl) ?_
           refine al_val (ov_strLen Tryd.underlying9 rfl rfl) ?_
           refine al_in rfl rfl rfl rfl ?_
           refine al_val (ov_pick_t rfl rfl rfl) ?_
           refine al_val (ov_pick_f rfl rfl rfl) ?_
           refine al_as rfl rfl ?_
           refine al_nil ?_
           exact aq_join (decide ((a0.Bytes.length : Int) > (1024 : Int))) h (fun w a hm hs => norm hm hs [0] [] [(1, (pq g1)), (42, (bool (decide ((a0.Bytes.length : Int) > (1024 : Int)))))] (by decide) ⟨rfl, rfl, trivial⟩)
          ·replace h := bif_f hb29 h
           refine al_skip ?_
           refine al_skip ?_
           refine al_skip ?_
           refine al_skip ?_
           refine al_val (ov_pick_f rfl rfl rfl) ?_
           refine al_val (ov_pick_f rfl rfl rfl) ?_
           refine al_as rfl rfl ?_
           refine al_nil ?_
           exact aq_join false h (fun w a hm hs => norm hm hs [0] [] [(1, (pq g1)), (42, (bool false))] (by decide) ⟨rfl, rfl, trivial⟩)
     ·clear hkk11
      refine aw_region ?_
      refine al_val (ov_fieldA (p := 2) rfl Tryd.underlying41 rfl sz3 rfl rfl rfl) ?_
      refine al_val (ov_load (i := 0) (v := (iq a0.Mode)) rfl rfl Tryd.underlying3 sz3 rfl rfl rfl rfl) ?_
      refine al_in rfl rfl rfl rfl ?_
      refine al_mv rfl rfl ?_
      refine al_caseB 37 rfl (fun hb30 => ?_) (fun hb30 => ?_)
      ·replace h := bif_t hb30 h
       refine al_skip ?_
       refine al_skip ?_
       refine al_skip ?_
       refine al_val (ov_pick_t rfl rfl rfl) ?_
       refine al_as rfl rfl ?_
       refine al_nil ?_
       exact aq_join true h (fun w a hm hs => norm hm hs [0] [] [(1, (pq g1)), (33, (bool true))] (by decide) ⟨rfl, rfl, trivial⟩)
      ·replace h := bif_f hb30 h
       refine al_val (ov_fieldA (p := 2) rfl Tryd.underlying41 rfl sz3 rfl rfl rfl) ?_
       refine al_val (ov_load (i := 0) (v := (iq a0.Mode)) rfl rfl Tryd.underlying3 sz3 rfl rfl rfl rfl) ?_
       refine al_in rfl rfl rfl rfl ?_
       refine al_val (ov_pick_f rfl rfl rfl) ?_
       refine al_as rfl rfl ?_
       refine al_nil ?_
       exact aq_join (decide (a0.Mode > (511 : Int))) h (fun w a hm hs => norm hm hs [0] [] [(1, (pq g1)), (33, (bool (decide (a0.Mode > (511 : Int)))))] (by decide) ⟨rfl, rfl, trivial⟩)
   ·clear hkk8
    refine aw_region ?_
    refine al_val (ov_fieldA (p := 1) rfl Tryd.underlying41 rfl sz3 rfl rfl rfl) ?_
    refine al_val (ov_load (i := 1) (v := (iq a0.Kind)) rfl rfl Tryd.underlying3 sz3 rfl rfl rfl rfl) ?_
    refine al_in rfl rfl rfl rfl ?_
    refine al_mv rfl rfl ?_
    refine al_caseB 23 rfl (fun hb31 => ?_) (fun hb31 => ?_)
    ·replace h := bif_t hb31 h
     refine al_val (ov_fieldA (p := 1) rfl Tryd.underlying41 rfl sz3 rfl rfl rfl) ?_
     refine al_val (ov_load (i := 1) (v := (iq a0.Kind)) rfl rfl Tryd.underlying3 sz3 rfl rfl rfl rfl) ?_
     refine al_in rfl rfl rfl rfl ?_
     refine al_val (ov_pick_t rfl rfl rfl) ?_
     refine al_mv rfl rfl ?_
     refine al_caseB 28 rfl (fun hb32 => ?_) (fun hb32 => ?_)
     ·replace h := bif_t hb32 h
      refine al_val (ov_fieldA (p := 1) rfl Tryd.underlying41 rfl sz3 rfl rfl rfl) ?_
      refine al_val (ov_load (i := 1) (v := (iq a0.Kind)) rfl rfl Tryd.underlying3 sz3 rfl rfl rfl rfl) ?_
      refine al_in rfl rfl rfl rfl ?_
      refine al_val (ov_pick_t rfl rfl rfl) ?_
      refine al_as rfl rfl ?_
      refine al_nil ?_
      exact aq_join (a0.Kind != (3 : Int)) h (fun w a hm hs => norm hm hs [1] [] [(1, (pq g1)), (19, (bool (a0.Kind != (3 : Int))))] (by decide) ⟨rfl, rfl, trivial⟩)
     ·replace h := bif_f hb32 h
      refine al_skip ?_
      refine al_skip ?_
      refine al_skip ?_
      refine al_val (ov_pick_f rfl rfl rfl) ?_
      refine al_as rfl rfl ?_
      refine al_nil ?_
      exact aq_join false h (fun w a hm hs => norm hm hs [1] [] [(1, (pq g1)), (19, (bool false))] (by decide) ⟨rfl, rfl, trivial⟩)
    ·replace h := bif_f hb31 h
     refine al_skip ?_
     refine al_skip ?_
     refine al_skip ?_
     refine al_val (ov_pick_f rfl rfl rfl) ?_
     refine al_mv rfl rfl ?_
     refine al_skip ?_
     refine al_skip ?_
     refine al_skip ?_
     refine al_val (ov_pick_f rfl rfl rfl) ?_
     refine al_as rfl rfl ?_
     refine al_nil ?_
     exact aq_join false h (fun w a hm hs => norm hm hs [1] [] [(1, (pq g1)), (19, (bool false))] (by decide) ⟨rfl, rfl, trivial⟩)
def f_lumref_ahead : Nat → (List (List UInt8)) → (List (List UInt8)) → Option Bool
  | 0, _, _ => none
  | fu + 1, a0, a1 => (bif ((a1.length : Int) == (0 : Int)) then (some false) else (bif ((a0.length : Int) == (0 : Int)) then (some true) else (opt (at? a0 (0 : Int)) fun (u3 : (List UInt8)) => (opt (at? a1 (0 : Int)) fun (u6 : (List UInt8)) => (bif (!(u3 == u6)) then (opt (at? a0 (0 : Int)) fun (u10 : (List UInt8)) => (opt (at? a1 (0 : Int)) fun (u13 : (List UInt8)) => (some (Op.bytesLess u10 u13)))) else (req (0 ≤ (1 : Int) ∧ (1 : Int) ≤ (a0.length : Int)) (req (0 ≤ (1 : Int) ∧ (1 : Int) ≤ (a1.length : Int)) (opt (f_lumref_ahead fu (a0.drop ((1 : Int)).toNat) (a1.drop ((1 : Int)).toNat)) fun (r21 : Bool) => (some r21)))))))))
set_option maxHeartbeats 2000000 in
set_option maxRecDepth 100000 in
theorem f_lumref_ahead_ok (fu : Nat) (v0_0 : Value) (a0 : (List (List UInt8))) (v1_0 : Value) (a1 : (List (List UInt8))) {r : Bool} (h : f_lumref_ahead fu a0 a1 = some r) : FnOk Tryd.prog 118 [v0_0, v1_0] [(fDat (tyList tyStr) [v0_0] a0), (fDat (tyList tyStr) [v1_0] a1)] [] (fun (i : Unit) => { val := (bool r) }) := by
 cases fu with
 | zero => rw [f_lumref_ahead] at h; cases h
 | succ fu =>
  rw [f_lumref_ahead] at h
  refine fn_enter Tryd.func118 rfl Tryd.ntmps118 rfl (fun w0 Z0 => ?_)
  refine aw_sr ?_
  refine al_as rfl rfl ?_
  refine al_nt ?_
  refine aw_seq ?_
  refine aw_sr ?_
  refine al_mv rfl rfl ?_
  refine al_val (ov_lenD 1 rfl rfl Tryd.underlying50 rfl) ?_
  refine al_in rfl rfl rfl rfl ?_
  refine al_nt ?_
  refine aw_cond rfl (fun hb1 => ?_) (fun hb1 => ?_)
  ·replace h := bif_t hb1 h
   refine aw_sr ?_
   refine al_as rfl rfl ?_
   refine al_nt ?_
   refine aw_ret ?_
   refine aq_then_ret ?_
   obtain rfl := Option.some.inj h
   exact fn_ret () [] [] rfl rfl rfl rfl (res1 rfl rfl) rfl rfl rfl (by decide)
  ·replace h := bif_f hb1 h
   refine aw_skip ?_
   refine aq_then ?_
   refine aw_seq ?_
   refine aw_sr ?_
   refine al_mv rfl rfl ?_
   refine al_val (ov_lenD 0 rfl rfl Tryd.underlying50 rfl) ?_
   refine al_in rfl rfl rfl rfl ?_
   refine al_nt ?_
   refine aw_cond rfl (fun hb2 => ?_) (fun hb2 => ?_)
   ·replace h := bif_t hb2 h
    refine aw_sr ?_
    refine al_as rfl rfl ?_
    refine al_nt ?_
    refine aw_ret ?_
    refine aq_then_ret ?_
    obtain rfl := Option.some.inj h
    exact fn_ret () [] [] rfl rfl rfl rfl (res1 rfl rfl) rfl rfl rfl (by decide)
   ·replace h := bif_f hb2 h
    refine aw_skip ?_
    refine aq_then ?_
    refine aw_seq ?_
    refine aw_seq ?_
    obtain ⟨u3, hu4, h⟩ := opt_some h
    obtain ⟨u6, hu7, h⟩ := opt_some h
    refine aw_region_draw 6 [(11, (fun u => fEq u v0_0)), (12, (fun p5 => (fPtr tyStr p5 u3))), (13, (fun u => fEq u (str u3))), (14, (fun u => fEq u v1_0)), (15, (fun p8 => (fPtr tyStr p8 u6))), (16, (fun u => fEq u (str u6)))] (tab [(0, v0_0), (1, v1_0)]) mixed (by kernel_rfl) rfl rfl rfl (fun a hs => hs.tab _ (allT_mem ⟨rfl, rfl, trivial⟩)) ⟨⟨rfl, ld_val (ov_move rfl rfl)⟩, ⟨rfl, ld_eq (j := 0) rfl rfl (ld_of (of_idxD 0 hu4 rfl rfl rfl Tryd.underlying50 sz9 rfl))⟩, ⟨rfl, ld_fact (j := 1) rfl rfl (fun p5 => ld_val (ov_loadP (ds := [(str u3)]) 0 rfl (fun h => h) rfl Tryd.underlying9 sz9 rfl rfl rfl))⟩, ⟨rfl, ld_val (ov_move rfl rfl)⟩, ⟨rfl, ld_eq (j := 3) rfl rfl (ld_of (of_idxD 1 hu7 rfl rfl rfl Tryd.underlying50 sz9 rfl))⟩, ⟨rfl, ld_fact (j := 4) rfl rfl (fun p8 => ld_val (ov_loadP (ds := [(str u6)]) 0 rfl (fun h => h) rfl Tryd.underlying9 sz9 rfl rfl rfl))⟩, trivial⟩ ?_
    refine tl_eq 2 rfl ?_
    refine tl_eq 5 rfl ?_
    refine tl_done ?_
    refine al_val (ov_strCmp rfl rfl rfl rfl) ?_
    refine al_nt ?_
    refine aw_cond rfl (fun hb9 => ?_) (fun hb9 => ?_)
    ·replace h := bif_t hb9 h
     refine aw_seq ?_
     obtain ⟨u10, hu11, h⟩ := opt_some h
     obtain ⟨u13, hu14, h⟩ := opt_some h
     refine aw_region_draw 7 [(18, (fun u => fEq u v0_0)), (19, (fun p12 => (fPtr tyStr p12 u10))), (20, (fun u => fEq u (str u10))), (21, (fun u => fEq u v1_0)), (22, (fun p15 => (fPtr tyStr p15 u13))), (23, (fun u => fEq u (str u13))), (24, (fun u => fEq u (bool (Op.bytesLess u10 u13))))] (tab [(0, v0_0), (1, v1_0)]) mixed (by kernel_rfl) rfl rfl rfl (fun a hs => hs.tab _ (allT_mem ⟨rfl, rfl, trivial⟩)) ⟨⟨rfl, ld_val (ov_move rfl rfl)⟩, ⟨rfl, ld_eq (j := 0) rfl rfl (ld_of (of_idxD 0 hu11 rfl rfl rfl Tryd.underlying50 sz9 rfl))⟩, ⟨rfl, ld_fact (j := 1) rfl rfl (fun p12 => ld_val (ov_loadP (ds := [(str u10)]) 0 rfl (fun h => h) rfl Tryd.underlying9 sz9 rfl rfl rfl))⟩, ⟨rfl, ld_val (ov_move rfl rfl)⟩, ⟨rfl, ld_eq (j := 3) rfl rfl (ld_of (of_idxD 1 hu14 rfl rfl rfl Tryd.underlying50 sz9 rfl))⟩, ⟨rfl, ld_fact (j := 4) rfl rfl (fun p15 => ld_val (ov_loadP (ds := [(str u13)]) 0 rfl (fun h => h) rfl Tryd.underlying9 sz9 rfl rfl rfl))⟩, ⟨rfl, ld_eq (j := 2) rfl rfl (ld_eq (j := 5) rfl rfl (ld_val (ov_strCmp rfl rfl rfl rfl)))⟩, trivial⟩ ?_
     refine tl_eq 6 rfl ?_
     refine tl_done ?_
     refine al_as rfl rfl ?_
     refine al_nt ?_
     refine aw_ret ?_
     refine aq_then_ret ?_
     obtain rfl := Option.some.inj h
     exact fn_ret () [] [] rfl rfl rfl rfl (res1 rfl rfl) rfl rfl rfl (by decide)
    ·replace h := bif_f hb9 h
     refine aw_skip ?_
     refine aq_then ?_
     refine aw_seq ?_
     obtain ⟨hc16, h⟩ := req_some h
     obtain ⟨hc18, h⟩ := req_some h
     obtain ⟨r21, hc20, h⟩ := opt_some h
     refine aw_region_draw 5 [(25, (fun u => fEq u v0_0)), (26, (fun s17 => (fDat (tyList tyStr) [s17] (a0.drop ((1 : Int)).toNat)))), (27, (fun u => fEq u v1_0)), (28, (fun s19 => (fDat (tyList tyStr) [s19] (a1.drop ((1 : Int)).toNat)))), (29, (fun u => fEq u (bool r21)))] (tab [(0, v0_0), (1, v1_0)]) mixed (by kernel_rfl) rfl rfl rfl (fun a hs => hs.tab _ (allT_mem ⟨rfl, rfl, trivial⟩)) ⟨⟨rfl, ld_val (ov_move rfl rfl)⟩, ⟨rfl, ld_eq (j := 0) rfl rfl (ld_of (of_sliceDF 0 hc16.1 hc16.2 rfl rfl rfl Tryd.underlying50 sz9 rfl))⟩, ⟨rfl, ld_val (ov_move rfl rfl)⟩, ⟨rfl, ld_eq (j := 2) rfl rfl (ld_of (of_sliceDF 1 hc18.1 hc18.2 rfl rfl rfl Tryd.underlying50 sz9 rfl))⟩, ⟨rfl, ld_fact (j := 1) rfl rfl (fun s17 => ld_fact (j := 3) rfl rfl (fun s19 => ld_callV (vs := [s17, s19]) (f_lumref_ahead_ok fu s17 (a0.drop ((1 : Int)).toNat) s19 (a1.drop ((1 : Int)).toNat) hc20) [] (pre_fz 1 rfl (pre_fz 0 rfl pre_nil)) rfl Tryd.func118 rfl rfl rfl))⟩, trivial⟩ ?_
     refine tl_eq 4 rfl ?_
     refine tl_done ?_
     refine al_as rfl rfl ?_
     refine al_nt ?_
     refine aw_ret ?_
     obtain rfl := Option.some.inj h
     exact fn_ret () [] [] rfl rfl rfl rfl (res1 rfl rfl) rfl rfl rfl (by decide)
def f_lumref_Less (fu : Nat) (a0 : (List UInt8)) (a1 : (List UInt8)) : Option (Bool × Int) := (opt (f_lumref_Split fu a0) fun (r2 : ((List (List UInt8)) × Int)) => (bif (r2.2 != (0 : Int)) then (some (false, r2.2)) else (opt (f_lumref_Split fu a1) fun (r6 : ((List (List UInt8)) × Int)) => (bif (r6.2 != (0 : Int)) then (some (false, r6.2)) else (opt (f_lumref_ahead fu r2.1 r6.1) fun (r10 : Bool) => (some (r10, (0 : Int))))))))
set_option maxHeartbeats 2000000 in
set_option maxRecDepth 100000 in
theorem f_lumref_Less_ok (fu : Nat) (a0 : (List UInt8)) (a1 : (List UInt8)) {r : (Bool × Int)} (h : f_lumref_Less fu a0 a1 = some r) : FnOk Tryd.prog 68 [(str a0), (str a1)] [] [] (fun (i : Unit) => { val := (Value.tuple #[(bool r.1), (int .i64 r.2)]) }) := by
 unfold f_lumref_Less at h
 refine fn_enter Tryd.func68 rfl Tryd.ntmps68 rfl (fun w0 Z0 => ?_)
 refine aw_sr ?_
 refine al_as rfl rfl ?_
 refine al_as rfl rfl ?_
 refine al_nt ?_
 refine aw_sr ?_
 refine al_mv rfl rfl ?_
 obtain ⟨r2, hc1, h⟩ := opt_some h
 refine al_call (vs := [(str a0)]) (f_lumref_Split_ok fu a0 hc1) [] [] [] pre_nil rfl (by simp) (by decide) (.inl rfl) rfl Tryd.func67 rfl rfl rfl (fun v3 => ?_)
 refine al_mv rfl rfl ?_
 refine al_ex rfl rfl rfl ?_
 refine al_ex rfl rfl rfl ?_
 refine al_as rfl rfl ?_
 refine al_as rfl rfl ?_
 refine al_nt ?_
 refine aw_seq ?_
 refine aw_sr ?_
 refine al_mv rfl rfl ?_
 refine al_in rfl rfl rfl rfl ?_
 refine al_nt ?_
 refine aw_cond rfl (fun hb4 => ?_) (fun hb4 => ?_)
 ·replace h := bif_t hb4 h
  refine aw_sr ?_
  refine al_mv rfl rfl ?_
  refine al_as rfl rfl ?_
  refine al_as rfl rfl ?_
  refine al_nt ?_
  refine aw_ret ?_
  refine aq_then_ret ?_
  obtain rfl := Option.some.inj h
  exact fn_ret () [] [] rfl rfl rfl rfl (res2 rfl rfl rfl) rfl rfl rfl (by decide)
 ·replace h := bif_f hb4 h
  refine aw_skip ?_
  refine aq_tr ?_
  refine al_mv rfl rfl ?_
  obtain ⟨r6, hc5, h⟩ := opt_some h
  refine al_call (vs := [(str a1)]) (f_lumref_Split_ok fu a1 hc5) [] [] [0] pre_nil rfl (by simp) (by decide) (.inl rfl) rfl Tryd.func67 rfl rfl rfl (fun v7 => ?_)
  refine al_mv rfl rfl ?_
  refine al_ex rfl rfl rfl ?_
  refine al_ex rfl rfl rfl ?_
  refine al_as rfl rfl ?_
  refine al_as rfl rfl ?_
  refine al_nt ?_
  refine aw_seq ?_
  refine aw_sr ?_
  refine al_mv rfl rfl ?_
  refine al_in rfl rfl rfl rfl ?_
  refine al_nt ?_
  refine aw_cond rfl (fun hb8 => ?_) (fun hb8 => ?_)
  ·replace h := bif_t hb8 h
   refine aw_sr ?_
   refine al_mv rfl rfl ?_
   refine al_as rfl rfl ?_
   refine al_as rfl rfl ?_
   refine al_nt ?_
   refine aw_ret ?_
   refine aq_then_ret ?_
   obtain rfl := Option.some.inj h
   exact fn_ret () [] [] rfl rfl rfl rfl (res2 rfl rfl rfl) rfl rfl rfl (by decide)
  ·replace h := bif_f hb8 h
   refine aw_skip ?_
   refine aq_tr ?_
   refine al_mv rfl rfl ?_
   refine al_mv rfl rfl ?_
   obtain ⟨r10, hc9, h⟩ := opt_some h
   refine al_call (vs := [v3, v7]) (f_lumref_ahead_ok fu v3 r2.1 v7 r6.1 hc9) [0, 1] [] [0, 1] (pre_own 1 rfl rfl (pre_own 0 rfl rfl pre_nil)) rfl (by simp) (by decide) (.inr flat_res0) rfl Tryd.func118 rfl rfl rfl (fun _ => ?_)
   refine al_as rfl rfl ?_
   refine al_as rfl rfl ?_
   refine al_nt ?_
   refine aw_ret ?_
   obtain rfl := Option.some.inj h
   exact fn_ret () [] [] rfl rfl rfl rfl (res2 rfl rfl rfl) rfl rfl rfl (by decide)
def f_lumref_Join_L9 (a0 : (List (List UInt8))) (kk6 : ((List UInt8) → Option ((List UInt8) × Int))) : Nat → (List UInt8) → Int → Option ((List UInt8) × Int)
  | 0, _, _ => none
  | k8 + 1, l7s5, l7i18 => (bif (decide (l7i18 < (a0.length : Int))) then (opt (at? a0 l7i18) fun (u11 : (List UInt8)) => (req (([47] : List UInt8).length + u11.length ≤ 9223372036854775807) (req (l7s5.length + (([47] : List UInt8) ++ u11).length ≤ 9223372036854775807) (f_lumref_Join_L9 a0 kk6 k8 (l7s5 ++ (([47] : List UInt8) ++ u11)) (IntKind.i64.wrap (l7i18 + (1 : Int))))))) else (kk6 l7s5))
def f_lumref_Join (fu : Nat) (a0 : (List (List UInt8))) : Option ((List UInt8) × Int) := (opt (f_lumref_nameErr fu a0) fun (r2 : Int) => (bif (r2 != (0 : Int)) then (some (([] : List UInt8), r2)) else (bif ((a0.length : Int) == (0 : Int)) then (some (([47] : List UInt8), (0 : Int))) else (lt (fun (j5s5 : (List UInt8)) => (some (j5s5, (0 : Int)))) fun (kk6 : (List UInt8) → Option ((List UInt8) × Int)) => (f_lumref_Join_L9 a0 kk6 fu ([] : List UInt8) (0 : Int))))))
set_option maxHeartbeats 2000000 in
set_option maxRecDepth 100000 in
theorem f_lumref_Join_ok (fu : Nat) (v0_0 : Value) (a0 : (List (List UInt8))) {r : ((List UInt8) × Int)} (h : f_lumref_Join fu a0 = some r) : FnOk Tryd.prog 111 [v0_0] [(fDat (tyList tyStr) [v0_0] a0)] [] (fun (i : Unit) => { val := (Value.tuple #[(str r.1), (int .i64 r.2)]) }) := by
 unfold f_lumref_Join at h
 refine fn_enter Tryd.func111 rfl Tryd.ntmps111 rfl (fun w0 Z0 => ?_)
 refine aw_sr ?_
 refine al_as rfl rfl ?_
 refine al_as rfl rfl ?_
 refine al_nt ?_
 refine aw_seq ?_
 refine aw_sr ?_
 refine al_mv rfl rfl ?_
 obtain ⟨r2, hc1, h⟩ := opt_some h
 refine al_call (vs := [v0_0]) (f_lumref_nameErr_ok fu v0_0 a0 hc1) [] [] [] (pre_fz 0 rfl pre_nil) rfl (by simp) (by decide) (.inl rfl) rfl Tryd.func117 rfl rfl rfl (fun _ => ?_)
 refine al_as rfl rfl ?_
 refine al_nt ?_
 refine aw_sr ?_
 refine al_mv rfl rfl ?_
 refine al_in rfl rfl rfl rfl ?_
 refine al_nt ?_
 refine aw_cond rfl (fun hb3 => ?_) (fun hb3 => ?_)
 ·replace h := bif_t hb3 h
  refine aw_sr ?_
  refine al_mv rfl rfl ?_
  refine al_as rfl rfl ?_
  refine al_as rfl rfl ?_
  refine al_nt ?_
  refine aw_ret ?_
  refine aq_then_ret ?_
  obtain rfl := Option.some.inj h
  exact fn_ret () [] [] rfl rfl rfl rfl (res2 rfl rfl rfl) rfl rfl rfl (by decide)
 ·replace h := bif_f hb3 h
  refine aw_skip ?_
  refine aq_then ?_
  refine aw_seq ?_
  refine aw_sr ?_
  refine al_mv rfl rfl ?_
  refine al_val (ov_lenD 0 rfl rfl Tryd.underlying50 rfl) ?_
  refine al_in rfl rfl rfl rfl ?_
  refine al_nt ?_
  refine aw_cond rfl (fun hb4 => ?_) (fun hb4 => ?_)
  ·replace h := bif_t hb4 h
   refine aw_sr ?_
   refine al_as rfl rfl ?_
   refine al_as rfl rfl ?_
   refine al_nt ?_
   refine aw_ret ?_
   refine aq_then_ret ?_
   obtain rfl := Option.some.inj h
   exact fn_ret () [] [] rfl rfl rfl rfl (res2 rfl rfl rfl) rfl rfl rfl (by decide)
  ·replace h := bif_f hb4 h
   refine aw_skip ?_
   refine aq_tr ?_
   refine al_as rfl rfl ?_
   refine al_nt ?_
   obtain ⟨kk6, hkk6, h⟩ := lt_some h
   refine aw_seq_join (ι := (List UInt8)) (fun i => (memOf w0 Z0 [] [] [(fDat (tyList tyStr) [v0_0] a0)])) (fun i => (tab [(5, (str i))])) (fun i => kk6 i = some r) ?_ ?_
   ·rintro j5s5 h
    have h : kk6 j5s5 = some r := h
    rw [hkk6] at h
    dsimp only at h
    clear hkk6
    refine aw_show (m := (memOf w0 Z0 [] [] [(fDat (tyList tyStr) [v0_0] a0)])) (S := (tab [(5, (str j5s5))])) ?_
    refine aw_sr ?_
    refine al_mv rfl rfl ?_
    refine al_as rfl rfl ?_
    refine al_as rfl rfl ?_
    refine al_nt ?_
    refine aw_ret ?_
    obtain rfl := Option.some.inj h
    exact fn_ret () [] [] rfl rfl rfl rfl (res2 rfl rfl rfl) rfl rfl rfl (by decide)
   ·clear hkk6
    refine aw_sr ?_
    refine al_mv rfl rfl ?_
    refine al_val (ov_lenD 0 rfl rfl Tryd.underlying50 rfl) ?_
    refine al_mv rfl rfl ?_
    refine al_nt ?_
    refine aw_block ?_
    refine aw_state (aw_loop (ι := (List UInt8) × Int) (fun i => (memOf w0 Z0 [] [] [(fDat (tyList tyStr) [v0_0] a0)])) (fun i => (tab [(5, (str i.1)), (16, v0_0), (17, (iq (a0.length : Int))), (18, (iq i.2))])) (fun q i => f_lumref_Join_L9 a0 kk6 q i.1 i.2 = some r) ?_ fu (([] : List UInt8), (0 : Int)) h) (fun w a hm hs => norm hm hs [] [0] [(5, (str ([] : List UInt8))), (16, v0_0), (17, (iq (a0.length : Int))), (18, (iq (0 : Int)))] (by decide) ⟨rfl, rfl, rfl, rfl, trivial⟩)
    clear h
    rintro k8 ⟨l7s5, l7i18⟩ h
    have h : f_lumref_Join_L9 a0 kk6 k8 l7s5 l7i18 = some r := h
    obtain _ | k8 := k8
    · rw [f_lumref_Join_L9] at h; cases h
    rw [f_lumref_Join_L9] at h
    refine aw_show (m := (memOf w0 Z0 [] [] [(fDat (tyList tyStr) [v0_0] a0)])) (S := (tab [(5, (str l7s5)), (16, v0_0), (17, (iq (a0.length : Int))), (18, (iq l7i18))])) ?_
    refine aw_sr ?_
    refine al_in rfl rfl rfl rfl ?_
    refine al_nt ?_
    refine aw_seq ?_
    refine aw_cond rfl (fun hb10 => ?_) (fun hb10 => ?_)
    ·replace h := bif_t hb10 h
     refine aw_skip ?_
     refine aq_then ?_
     refine aw_seq ?_
     refine aw_block ?_
     refine aw_sr ?_
     obtain ⟨u11, hu12, h⟩ := opt_some h
     refine al_idxD 0 hu12 rfl rfl rfl Tryd.underlying50 sz9 rfl (fun p13 => ?_)
     refine al_val (ov_loadP (ds := [(str u11)]) 0 rfl (fun h => h) rfl Tryd.underlying9 sz9 rfl rfl rfl) ?_
     refine al_as rfl rfl ?_
     refine al_nt ?_
     refine aw_region ?_
     refine al_mv rfl rfl ?_
     refine al_mv rfl rfl ?_
     obtain ⟨hc14, h⟩ := req_some h
     refine al_val (ov_strAdd hc14 rfl rfl rfl) ?_
     obtain ⟨hc15, h⟩ := req_some h
     refine al_val (ov_strAdd hc15 rfl rfl rfl) ?_
     refine al_as rfl rfl ?_
     refine al_nil ?_
     refine aq_block ?_
     refine aq_then ?_
     refine aw_region ?_
     refine al_in rfl rfl rfl rfl ?_
     refine al_mv rfl rfl ?_
     refine al_nil ?_
     exact aq_again k8 ((l7s5 ++ (([47] : List UInt8) ++ u11)), (wq (l7i18 + (1 : Int)))) (Nat.lt_succ_self _) h (fun w a hm hs => norm hm hs [] [1] [(5, (str (l7s5 ++ (([47] : List UInt8) ++ u11)))), (16, v0_0), (17, (iq (a0.length : Int))), (18, (iq (wq (l7i18 + (1 : Int)))))] (by decide) ⟨rfl, rfl, rfl, rfl, trivial⟩)
    ·replace h := bif_f hb10 h
     refine aw_exit ?_
     refine aq_then_exit ?_
     refine aq_then_exit ?_
     refine aq_block_exit ?_
     exact aq_join l7s5 h (fun w a hm hs => norm hm hs [] [0] [(5, (str l7s5))] (by decide) ⟨rfl, trivial⟩)
def f_lumref_World_L34 (a0 : (List S_api_Item)) (l4i20 : Int) (r26 : ((List UInt8) × Int)) (kk28 : (Bool → Option Int)) : Nat → Bool → Int → Option Int
  | 0, _, _ => none
  | k33 + 1, l32b12, l32i67 => (bif (decide (l32i67 < ((a0.take (l4i20).toNat).length : Int))) then (lt (fun (j36b12 : Bool) => (f_lumref_World_L34 a0 l4i20 r26 kk28 k33 j36b12 (IntKind.i64.wrap (l32i67 + (1 : Int))))) fun (kk37 : Bool → Option Int) => (opt (at? (a0.take (l4i20).toNat) l32i67) fun (u38 : S_api_Item) => (bif l32b12 then (kk37 true) else (bif (u38.Path == r26.1) then (kk37 (u38.Kind == (2 : Int))) else (kk37 false))))) else (kk28 l32b12))
def f_lumref_World_L6 (a0 : (List S_api_Item)) (kk3 : (Unit → Option Int)) (fu : Nat) : Nat → Int → Option Int
  | 0, _ => none
  | k5 + 1, l4i20 => (lt (fun (l4i20 : Int) => (f_lumref_World_L6 a0 kk3 fu k5 l4i20)) fun (kk7 : Int → Option Int) => (bif (decide (l4i20 < (a0.length : Int))) then (lt (fun (_ : Unit) => (kk7 (IntKind.i64.wrap (l4i20 + (1 : Int))))) fun (kk10 : Unit → Option Int) => (opt (at? a0 l4i20) fun (u11 : S_api_Item) => (opt (f_lumref_itemErr fu u11) fun (r16 : Int) => (bif (r16 != (0 : Int)) then (some r16) else (lt (fun (_ : Unit) => (opt (f_lumref_Split fu u11.Path) fun (r21 : ((List (List UInt8)) × Int)) => (req (0 ≤ (IntKind.i64.wrap ((r21.1.length : Int) - (1 : Int))) ∧ (IntKind.i64.wrap ((r21.1.length : Int) - (1 : Int))) ≤ (r21.1.length : Int)) (opt (f_lumref_Join fu (r21.1.take ((IntKind.i64.wrap ((r21.1.length : Int) - (1 : Int)))).toNat)) fun (r26 : ((List UInt8) × Int)) => (lt (fun (j27b12 : Bool) => (bif (!j27b12) then (some (9 : Int)) else (kk10 ()))) fun (kk28 : Bool → Option Int) => (req (0 ≤ l4i20 ∧ l4i20 ≤ (a0.length : Int)) (f_lumref_World_L34 a0 l4i20 r26 kk28 fu (r26.1 == ([47] : List UInt8)) (0 : Int)))))))) fun (kk19 : Unit → Option Int) => (bif (decide (l4i20 > (0 : Int))) then (opt (at? a0 (IntKind.i64.wrap (l4i20 - (1 : Int)))) fun (u45 : S_api_Item) => (opt (f_lumref_Less fu u45.Path u11.Path) fun (r50 : (Bool × Int)) => (bif (!r50.1) then (some (4 : Int)) else (kk19 ())))) else (kk19 ()))))))) else (kk3 ())))
def f_lumref_World (fu : Nat) (a0 : (List S_api_Item)) : Option Int := (bif (decide ((a0.length : Int) > (100 : Int))) then (some (2 : Int)) else (lt (fun (_ : Unit) => (some (0 : Int))) fun (kk3 : Unit → Option Int) => (f_lumref_World_L6 a0 kk3 fu fu (0 : Int))))
set_option maxRecDepth 100000 in
set_option maxHeartbeats 2000000 in
set_option maxHeartbeats 2000000 in
theorem f_lumref_World_ok (fu : Nat) (v0_0 : Value) (a0 : (List S_api_Item)) {r : Int} (h : f_lumref_World fu a0 = some r) : FnOk Tryd.prog 54 [v0_0] [(fDat (tyList tyS_api_Item) [v0_0] a0)] [] (fun (i : Unit) => { val := (int .i64 r) }) := by
 unfold f_lumref_World at h
 refine fn_enter Tryd.func54 rfl Tryd.ntmps54 rfl (fun w0 Z0 => ?_)
 refine aw_sr ?_
 refine al_as rfl rfl ?_
 refine al_nt ?_
 refine aw_seq ?_
 refine aw_sr ?_
 refine al_mv rfl rfl ?_
 refine al_val (ov_lenD 0 rfl rfl Tryd.underlying35 rfl) ?_
 refine al_in rfl rfl rfl rfl ?_
 refine al_nt ?_
 refine aw_cond rfl (fun hb1 => ?_) (fun hb1 => ?_)
 ·replace h := bif_t hb1 h
  refine aw_sr ?_
  refine al_as rfl rfl ?_
  refine al_nt ?_
  refine aw_ret ?_
  refine aq_then_ret ?_
  obtain rfl := Option.some.inj h
  exact fn_ret () [] [] rfl rfl rfl rfl (res1 rfl rfl) rfl rfl rfl (by decide)
 ·replace h := bif_f hb1 h
  refine aw_skip ?_
  refine aq_then ?_
  obtain ⟨kk3, hkk3, h⟩ := lt_some h
  refine aw_seq_join (ι := Unit) (fun i => (memOf w0 Z0 [] [] [(fDat (tyList tyS_api_Item) [v0_0] a0)])) (fun i => (tab [])) (fun i => kk3 () = some r) ?_ ?_
  ·rintro _ h
   have h : kk3 () = some r := h
   rw [hkk3] at h
   dsimp only at h
   clear hkk3
   refine aw_show (m := (memOf w0 Z0 [] [] [(fDat (tyList tyS_api_Item) [v0_0] a0)])) (S := (tab [])) ?_
   refine aw_sr ?_
   refine al_as rfl rfl ?_
   refine al_nt ?_
   refine aw_ret ?_
   obtain rfl := Option.some.inj h
   exact fn_ret () [] [] rfl rfl rfl rfl (res1 rfl rfl) rfl rfl rfl (by decide)
  ·clear hkk3
   refine aw_sr ?_
   refine al_mv rfl rfl ?_
   refine al_val (ov_lenD 0 rfl rfl Tryd.underlying35 rfl) ?_
   refine al_mv rfl rfl ?_
   refine al_nt ?_
   refine aw_block ?_
   refine aw_state (aw_loop (ι := Int) (fun i => (memOf w0 Z0 [] [] [(fDat (tyList tyS_api_Item) [v0_0] a0)])) (fun i => (tab [(0, v0_0), (18, v0_0), (19, (iq (a0.length : Int))), (20, (iq i))])) (fun q i => f_lumref_World_L6 a0 kk3 fu q i = some r) ?_ fu (0 : Int) h) (fun w a hm hs => norm hm hs [] [0] [(0, v0_0), (18, v0_0), (19, (iq (a0.length : Int))), (20, (iq (0 : Int)))] (by decide) ⟨rfl, rfl, rfl, rfl, trivial⟩)
   clear h
   rintro k5 l4i20 h
   have h : f_lumref_World_L6 a0 kk3 fu k5 l4i20 = some r := h
   obtain _ | k5 := k5
   · rw [f_lumref_World_L6] at h; cases h
   rw [f_lumref_World_L6] at h
   refine aw_show (m := (memOf w0 Z0 [] [] [(fDat (tyList tyS_api_Item) [v0_0] a0)])) (S := (tab [(0, v0_0), (18, v0_0), (19, (iq (a0.length : Int))), (20, (iq l4i20))])) ?_
   obtain ⟨kk7, hkk7, h⟩ := lt_some h
   refine aw_body_join (ι := Int) (fun i => (memOf w0 Z0 [] [] [(fDat (tyList tyS_api_Item) [v0_0] a0)])) (fun i => (tab [(0, v0_0), (18, v0_0), (19, (iq (a0.length : Int))), (20, (iq i))])) (fun i => kk7 i = some r) (fun i h => aq_again k5 i (Nat.lt_succ_self _) (by rw [hkk7] at h; exact h) (fun w a hm hs => ⟨hm, hs⟩)) ?_
   clear hkk7
   refine aw_sr ?_
   refine al_in rfl rfl rfl rfl ?_
   refine al_nt ?_
   refine aw_seq ?_
   refine aw_cond rfl (fun hb8 => ?_) (fun hb8 => ?_)
   ·replace h := bif_t hb8 h
    refine aw_skip ?_
    refine aq_then ?_
    obtain ⟨kk10, hkk10, h⟩ := lt_some h
    refine aw_seq_join (ι := Unit) (fun i => (memOf w0 Z0 [] [] [(fDat (tyList tyS_api_Item) [v0_0] a0)])) (fun i => (tab [(0, v0_0), (18, v0_0), (19, (iq (a0.length : Int))), (20, (iq l4i20))])) (fun i => kk10 () = some r) ?_ ?_
    ·rintro _ h
     have h : kk10 () = some r := h
     rw [hkk10] at h
     dsimp only at h
     clear hkk10
     refine aw_show (m := (memOf w0 Z0 [] [] [(fDat (tyList tyS_api_Item) [v0_0] a0)])) (S := (tab [(0, v0_0), (18, v0_0), (19, (iq (a0.length : Int))), (20, (iq l4i20))])) ?_
     refine aw_region ?_
     refine al_in rfl rfl rfl rfl ?_
     refine al_mv rfl rfl ?_
     refine al_nil ?_
     exact aq_join (wq (l4i20 + (1 : Int))) h (fun w a hm hs => norm hm hs [] [0] [(0, v0_0), (18, v0_0), (19, (iq (a0.length : Int))), (20, (iq (wq (l4i20 + (1 : Int)))))] (by decide) ⟨rfl, rfl, rfl, rfl, trivial⟩)
    ·clear hkk10
     refine aw_block ?_
     refine aw_sr ?_
     refine al_mv rfl rfl ?_
     obtain ⟨u11, hu12, h⟩ := opt_some h
     refine al_idxD 0 hu12 rfl rfl rfl Tryd.underlying35 sz41 rfl (fun p13 => ?_)
     refine al_val (ov_loadP (ds := [(str u11.Path), (iq u11.Kind), (iq u11.Mode), (iq u11.Time), (str u11.Bytes)]) 0 rfl encS_api_Item rfl Tryd.underlying41 sz41 rfl rfl rfl) ?_
     refine al_alloc (zs := [(str ([] : List UInt8)), (iq (0 : Int)), (iq (0 : Int)), (iq (0 : Int)), (str ([] : List UInt8))]) (zeroOf_to to41) rfl rfl (fun g14 => ?_)
     refine al_as rfl rfl ?_
     refine al_store (i := 0) (vs := [(str u11.Path), (iq u11.Kind), (iq u11.Mode), (iq u11.Time), (str u11.Bytes)]) (cs' := [(str u11.Path), (iq u11.Kind), (iq u11.Mode), (iq u11.Time), (str u11.Bytes)]) rfl rfl rfl sz41 (cv_rfl rfl) rfl (co_val rfl (co_val rfl (co_val rfl (co_val rfl (co_val rfl co_nil))))) (Nat.le_of_ble_eq_true rfl) rfl rfl ?_
     refine al_nt ?_
     refine aw_seq ?_
     refine aw_sr ?_
     refine al_val (ov_load (i := 0) (v := (ag [(str u11.Path), (iq u11.Kind), (iq u11.Mode), (iq u11.Time), (str u11.Bytes)])) rfl rfl Tryd.underlying41 sz41 rfl rfl rfl rfl) ?_
     obtain ⟨r16, hc15, h⟩ := opt_some h
     refine al_call (vs := [(ag [(str u11.Path), (iq u11.Kind), (iq u11.Mode), (iq u11.Time), (str u11.Bytes)])]) (f_lumref_itemErr_ok fu u11 hc15) [] [] [0] pre_nil rfl (by simp) (by decide) (.inl rfl) rfl Tryd.func110 rfl rfl rfl (fun _ => ?_)
     refine al_as rfl rfl ?_
     refine al_nt ?_
     refine aw_sr ?_
     refine al_mv rfl rfl ?_
     refine al_in rfl rfl rfl rfl ?_
     refine al_nt ?_
     refine aw_cond rfl (fun hb17 => ?_) (fun hb17 => ?_)
     ·replace h := bif_t hb17 h
      refine aw_sr ?_
      refine al_mv rfl rfl ?_
      refine al_as rfl rfl ?_
      refine al_nt ?_
      refine aw_ret ?_
      refine aq_then_ret ?_
      refine aq_block_ret ?_
      refine aq_then_ret ?_
      refine aq_then_ret ?_
      refine aq_block_ret ?_
      refine aq_then_ret ?_
      obtain rfl := Option.some.inj h
      exact fn_ret () [] [] rfl rfl rfl rfl (res1 rfl rfl) rfl rfl rfl (by decide)
     ·replace h := bif_f hb17 h
      refine aw_skip ?_
      refine aq_then ?_
      obtain ⟨kk19, hkk19, h⟩ := lt_some h
      refine aw_seq_join (ι := Unit) (fun i => (memOf w0 Z0 [] [(oBox g14 41 [(str u11.Path), (iq u11.Kind), (iq u11.Mode), (iq u11.Time), (str u11.Bytes)])] [(fDat (tyList tyS_api_Item) [v0_0] a0), (fPtr tyS_api_Item p13 u11)])) (fun i => (tab [(0, v0_0), (3, (iq l4i20)), (4, (pq g14)), (18, v0_0), (19, (iq (a0.length : Int))), (20, (iq l4i20))])) (fun i => kk19 () = some r) ?_ ?_
      ·rintro _ h
       have h : kk19 () = some r := h
       rw [hkk19] at h
       dsimp only at h
       clear hkk19
       refine aw_show (m := (memOf w0 Z0 [] [(oBox g14 41 [(str u11.Path), (iq u11.Kind), (iq u11.Mode), (iq u11.Time), (str u11.Bytes)])] [(fDat (tyList tyS_api_Item) [v0_0] a0), (fPtr tyS_api_Item p13 u11)])) (S := (tab [(0, v0_0), (3, (iq l4i20)), (4, (pq g14)), (18, v0_0), (19, (iq (a0.length : Int))), (20, (iq l4i20))])) ?_
       refine aw_sr ?_
       refine al_val (ov_fieldA (p := 0) rfl Tryd.underlying41 rfl sz9 rfl rfl rfl) ?_
       refine al_val (ov_load (i := 0) (v := (str u11.Path)) rfl rfl Tryd.underlying9 sz9 rfl rfl rfl rfl) ?_
       obtain ⟨r21, hc20, h⟩ := opt_some h
       refine al_call (vs := [(str u11.Path)]) (f_lumref_Split_ok fu u11.Path hc20) [] [] [0] pre_nil rfl (by simp) (by decide) (.inl rfl) rfl Tryd.func67 rfl rfl rfl (fun v22 => ?_)
       refine al_mv rfl rfl ?_
       refine al_ex rfl rfl rfl ?_
       refine al_ex rfl rfl rfl ?_
       refine al_as rfl rfl ?_
       refine al_as rfl rfl ?_
       refine al_nt ?_
       refine aw_sr ?_
       refine al_mv rfl rfl ?_
       refine al_mv rfl rfl ?_
       refine al_val (ov_lenR 0 rfl rfl Tryd.underlying50 rfl) ?_
       refine al_in rfl rfl rfl rfl ?_
       obtain ⟨hc23, h⟩ := req_some h
       refine al_cutR 0 hc23.1 hc23.2 rfl rfl rfl Tryd.underlying50 sz9 rfl (fun s24 => ?_)
       obtain ⟨r26, hc25, h⟩ := opt_some h
       refine al_call (vs := [s24]) (f_lumref_Join_ok fu s24 (r21.1.take ((wq ((r21.1.length : Int) - (1 : Int)))).toNat) hc25) [0] [] [0, 1] (pre_own 0 rfl rfl pre_nil) rfl (by simp) (by decide) (.inr flat_res0) rfl Tryd.func111 rfl rfl rfl (fun _ => ?_)
       refine al_mv rfl rfl ?_
       refine al_ex rfl rfl rfl ?_
       refine al_ex rfl rfl rfl ?_
       refine al_as rfl rfl ?_
       refine al_as rfl rfl ?_
       refine al_nt ?_
       refine aw_sr ?_
       refine al_mv rfl rfl ?_
       refine al_val (ov_strCmp rfl rfl rfl rfl) ?_
       refine al_as rfl rfl ?_
       refine al_nt ?_
       obtain ⟨kk28, hkk28, h⟩ := lt_some h
       refine aw_seq_join (ι := Bool) (fun i => (memOf w0 Z0 [] [] [(fDat (tyList tyS_api_Item) [v0_0] a0), (fPtr tyS_api_Item p13 u11)])) (fun i => (tab [(0, v0_0), (12, (bool i)), (18, v0_0), (19, (iq (a0.length : Int))), (20, (iq l4i20))])) (fun i => kk28 i = some r) ?_ ?_
       ·rintro j27b12 h
        have h : kk28 j27b12 = some r := h
        rw [hkk28] at h
        dsimp only at h
        clear hkk28
        refine aw_show (m := (memOf w0 Z0 [] [] [(fDat (tyList tyS_api_Item) [v0_0] a0), (fPtr tyS_api_Item p13 u11)])) (S := (tab [(0, v0_0), (12, (bool j27b12)), (18, v0_0), (19, (iq (a0.length : Int))), (20, (iq l4i20))])) ?_
        refine aw_sr ?_
        refine al_mv rfl rfl ?_
        refine al_val (ov_not rfl rfl) ?_
        refine al_nt ?_
        refine aw_cond rfl (fun hb29 => ?_) (fun hb29 => ?_)
        ·replace h := bif_t hb29 h
         refine aw_sr ?_
         refine al_as rfl rfl ?_
         refine al_nt ?_
         refine aw_ret ?_
         refine aq_block_ret ?_
         refine aq_then_ret ?_
         refine aq_then_ret ?_
         refine aq_block_ret ?_
         refine aq_then_ret ?_
         obtain rfl := Option.some.inj h
         exact fn_ret () [] [] rfl rfl rfl rfl (res1 rfl rfl) rfl rfl rfl (by decide)
        ·replace h := bif_f hb29 h
         refine aw_skip ?_
         refine aq_block ?_
         exact aq_join () h (fun w a hm hs => norm hm hs [] [0] [(0, v0_0), (18, v0_0), (19, (iq (a0.length : Int))), (20, (iq l4i20))] (by decide) ⟨rfl, rfl, rfl, rfl, trivial⟩)
       ·clear hkk28
        refine aw_sr ?_
        refine al_mv rfl rfl ?_
        refine al_mv rfl rfl ?_
        obtain ⟨hc30, h⟩ := req_some h
        refine al_sliceDT 0 hc30.1 hc30.2 rfl rfl rfl Tryd.underlying35 sz41 rfl (fun s31 => ?_)
        refine al_val (ov_lenD 0 rfl rfl Tryd.underlying35 rfl) ?_
        refine al_mv rfl rfl ?_
        refine al_nt ?_
        refine aw_block ?_
        refine aw_state (aw_loop (ι := Bool × Int) (fun i => (memOf w0 Z0 [] [] [(fDat (tyList tyS_api_Item) [v0_0] a0), (fDat (tyList tyS_api_Item) [s31] (a0.take (l4i20).toNat)), (fPtr tyS_api_Item p13 u11)])) (fun i => (tab [(0, v0_0), (10, (str r26.1)), (12, (bool i.1)), (18, v0_0), (19, (iq (a0.length : Int))), (20, (iq l4i20)), (65, s31), (66, (iq ((a0.take (l4i20).toNat).length : Int))), (67, (iq i.2))])) (fun q i => f_lumref_World_L34 a0 l4i20 r26 kk28 q i.1 i.2 = some r) ?_ fu ((r26.1 == ([47] : List UInt8)), (0 : Int)) h) (fun w a hm hs => norm hm hs [] [1, 0, 2] [(0, v0_0), (10, (str r26.1)), (12, (bool (r26.1 == ([47] : List UInt8)))), (18, v0_0), (19, (iq (a0.length : Int))), (20, (iq l4i20)), (65, s31), (66, (iq ((a0.take (l4i20).toNat).length : Int))), (67, (iq (0 : Int)))] (by decide) ⟨rfl, rfl, rfl, rfl, rfl, rfl, rfl, rfl, rfl, trivial⟩)
        clear h
        rintro k33 ⟨l32b12, l32i67⟩ h
        have h : f_lumref_World_L34 a0 l4i20 r26 kk28 k33 l32b12 l32i67 = some r := h
        obtain _ | k33 := k33
        · rw [f_lumref_World_L34] at h; cases h
        rw [f_lumref_World_L34] at h
        refine aw_show (m := (memOf w0 Z0 [] [] [(fDat (tyList tyS_api_Item) [v0_0] a0), (fDat (tyList tyS_api_Item) [s31] (a0.take (l4i20).toNat)), (fPtr tyS_api_Item p13 u11)])) (S := (tab [(0, v0_0), (10, (str r26.1)), (12, (bool l32b12)), (18, v0_0), (19, (iq (a0.length : Int))), (20, (iq l4i20)), (65, s31), (66, (iq ((a0.take (l4i20).toNat).length : Int))), (67, (iq l32i67))])) ?_
        refine aw_sr ?_
        refine al_in rfl rfl rfl rfl ?_
        refine al_nt ?_
        refine aw_seq ?_
        refine aw_cond rfl (fun hb35 => ?_) (fun hb35 => ?_)
        ·replace h := bif_t hb35 h
         refine aw_skip ?_
         refine aq_then ?_
         obtain ⟨kk37, hkk37, h⟩ := lt_some h
         refine aw_seq_join (ι := Bool) (fun i => (memOf w0 Z0 [] [] [(fDat (tyList tyS_api_Item) [v0_0] a0), (fDat (tyList tyS_api_Item) [s31] (a0.take (l4i20).toNat)), (fPtr tyS_api_Item p13 u11)])) (fun i => (tab [(0, v0_0), (10, (str r26.1)), (12, (bool i)), (18, v0_0), (19, (iq (a0.length : Int))), (20, (iq l4i20)), (65, s31), (66, (iq ((a0.take (l4i20).toNat).length : Int))), (67, (iq l32i67))])) (fun i => kk37 i = some r) ?_ ?_
         ·rintro j36b12 h
          have h : kk37 j36b12 = some r := h
          rw [hkk37] at h
          dsimp only at h
          clear hkk37
          refine aw_show (m := (memOf w0 Z0 [] [] [(fDat (tyList tyS_api_Item) [v0_0] a0), (fDat (tyList tyS_api_Item) [s31] (a0.take (l4i20).toNat)), (fPtr tyS_api_Item p13 u11)])) (S := (tab [(0, v0_0), (10, (str r26.1)), (12, (bool j36b12)), (18, v0_0), (19, (iq (a0.length : Int))), (20, (iq l4i20)), (65, s31), (66, (iq ((a0.take (l4i20).toNat).length : Int))), (67, (iq l32i67))])) ?_
          refine aw_region ?_
          refine al_in rfl rfl rfl rfl ?_
          refine al_mv rfl rfl ?_
          refine al_nil ?_
          exact aq_again k33 (j36b12, (wq (l32i67 + (1 : Int)))) (Nat.lt_succ_self _) h (fun w a hm hs => norm hm hs [] [0, 1, 2] [(0, v0_0), (10, (str r26.1)), (12, (bool j36b12)), (18, v0_0), (19, (iq (a0.length : Int))), (20, (iq l4i20)), (65, s31), (66, (iq ((a0.take (l4i20).toNat).length : Int))), (67, (iq (wq (l32i67 + (1 : Int)))))] (by decide) ⟨rfl, rfl, rfl, rfl, rfl, rfl, rfl, rfl, rfl, trivial⟩)
         ·clear hkk37
          refine aw_block ?_
          refine aw_sr ?_
          obtain ⟨u38, hu39, h⟩ := opt_some h
          refine al_idxD 1 hu39 rfl rfl rfl Tryd.underlying35 sz41 rfl (fun p40 => ?_)
          refine al_val (ov_loadP (ds := [(str u38.Path), (iq u38.Kind), (iq u38.Mode), (iq u38.Time), (str u38.Bytes)]) 0 rfl encS_api_Item rfl Tryd.underlying41 sz41 rfl rfl rfl) ?_
          refine al_alloc (zs := [(str ([] : List UInt8)), (iq (0 : Int)), (iq (0 : Int)), (iq (0 : Int)), (str ([] : List UInt8))]) (zeroOf_to to41) rfl rfl (fun g41 => ?_)
          refine al_store (i := 0) (vs := [(str u38.Path), (iq u38.Kind), (iq u38.Mode), (iq u38.Time), (str u38.Bytes)]) (cs' := [(str u38.Path), (iq u38.Kind), (iq u38.Mode), (iq u38.Time), (str u38.Bytes)]) rfl rfl rfl sz41 (cv_rfl rfl) rfl (co_val rfl (co_val rfl (co_val rfl (co_val rfl (co_val rfl co_nil))))) (Nat.le_of_ble_eq_true rfl) rfl rfl ?_
          refine al_nt ?_
          refine aw_region ?_
          refine al_mv rfl rfl ?_
          refine al_mv rfl rfl ?_
          refine al_caseB 72 rfl (fun hb42 => ?_) (fun hb42 => ?_)
          ·replace h := bif_t hb42 h
           refine al_skip ?_
           refine al_skip ?_
           refine al_skip ?_
           refine al_skip ?_
           refine al_skip ?_
           refine al_skip ?_
           refine al_skip ?_
           refine al_skip ?_
           refine al_skip ?_
           refine al_val (ov_pick_t rfl rfl rfl) ?_
           refine al_as rfl rfl ?_
           refine al_nil ?_
           refine aq_block ?_
           exact aq_join true h (fun w a hm hs => norm hm hs [] [1, 2, 3] [(0, v0_0), (10, (str r26.1)), (12, (bool true)), (18, v0_0), (19, (iq (a0.length : Int))), (20, (iq l4i20)), (65, s31), (66, (iq ((a0.take (l4i20).toNat).length : Int))), (67, (iq l32i67))] (by decide) ⟨rfl, rfl, rfl, rfl, rfl, rfl, rfl, rfl, rfl, trivial⟩)
          ·replace h := bif_f hb42 h
           refine al_val (ov_fieldA (p := 0) rfl Tryd.underlying41 rfl sz9 rfl rfl rfl) ?_
           refine al_val (ov_load (i := 0) (v := (str u38.Path)) rfl rfl Tryd.underlying9 sz9 rfl rfl rfl rfl) ?_
           refine al_mv rfl rfl ?_
           refine al_val (ov_strCmp rfl rfl rfl rfl) ?_
           refine al_mv rfl rfl ?_
           refine al_caseB 77 rfl (fun hb43 => ?_) (fun hb43 => ?_)
           ·replace h := bif_t hb43 h
            refine al_val (ov_fieldA (p := 1) rfl Tryd.underlying41 rfl sz3 rfl rfl rfl) ?_
            refine al_val (ov_load (i := 0) (v := (iq u38.Kind)) rfl rfl Tryd.underlying3 sz3 rfl rfl rfl rfl) ?_
            refine al_in rfl rfl rfl rfl ?_
            refine al_val (ov_pick_t rfl rfl rfl) ?_
            refine al_val (ov_pick_f rfl rfl rfl) ?_
            refine al_as rfl rfl ?_
            refine al_nil ?_
            refine aq_block ?_
            exact aq_join (u38.Kind == (2 : Int)) h (fun w a hm hs => norm hm hs [] [1, 2, 3] [(0, v0_0), (10, (str r26.1)), (12, (bool (u38.Kind == (2 : Int)))), (18, v0_0), (19, (iq (a0.length : Int))), (20, (iq l4i20)), (65, s31), (66, (iq ((a0.take (l4i20).toNat).length : Int))), (67, (iq l32i67))] (by decide) ⟨rfl, rfl, rfl, rfl, rfl, rfl, rfl, rfl, rfl, trivial⟩)
           ·replace h := bif_f hb43 h
            refine al_skip ?_
            refine al_skip ?_
            refine al_skip ?_
            refine al_val (ov_pick_f rfl rfl rfl) ?_
            refine al_val (ov_pick_f rfl rfl rfl) ?_
            refine al_as rfl rfl ?_
            refine al_nil ?_
            refine aq_block ?_
            exact aq_join false h (fun w a hm hs => norm hm hs [] [1, 2, 3] [(0, v0_0), (10, (str r26.1)), (12, (bool false)), (18, v0_0), (19, (iq (a0.length : Int))), (20, (iq l4i20)), (65, s31), (66, (iq ((a0.take (l4i20).toNat).length : Int))), (67, (iq l32i67))] (by decide) ⟨rfl, rfl, rfl, rfl, rfl, rfl, rfl, rfl, rfl, trivial⟩)
        ·replace h := bif_f hb35 h
         refine aw_exit ?_
         refine aq_then_exit ?_
         refine aq_then_exit ?_
         refine aq_block_exit ?_
         exact aq_join l32b12 h (fun w a hm hs => norm hm hs [] [0, 2] [(0, v0_0), (12, (bool l32b12)), (18, v0_0), (19, (iq (a0.length : Int))), (20, (iq l4i20))] (by decide) ⟨rfl, rfl, rfl, rfl, rfl, trivial⟩)
      ·clear hkk19
       refine aw_sr ?_
       refine al_mv rfl rfl ?_
       refine al_in rfl rfl rfl rfl ?_
       refine al_nt ?_
       refine aw_cond rfl (fun hb44 => ?_) (fun hb44 => ?_)
       ·replace h := bif_t hb44 h
        refine aw_seq ?_
        obtain ⟨u45, hu46, h⟩ := opt_some h
        obtain ⟨r50, hc49, h⟩ := opt_some h
        refine aw_region_draw 13 [(33, (fun u => fEq u v0_0)), (34, (fun u => fEq u (iq l4i20))), (35, (fun u => fEq u (iq (wq (l4i20 - (1 : Int)))))), (36, (fun p47 => (fPtr tyS_api_Item p47 u45))), (37, (fun p48 => (fPtr tyStr p48 u45.Path))), (38, (fun u => fEq u (str u45.Path))), (39, (fun u => fEq u (pq g14))), (40, (fun u => fEq u (str u11.Path))), (41, (fun u => fEq u (Value.tuple #[(bool r50.1), (iq r50.2)]))), (32, (fun u => fEq u (Value.tuple #[(bool r50.1), (iq r50.2)]))), (42, (fun u => fEq u (bool r50.1))), (43, (fun u => fEq u (iq r50.2))), (6, (fun u => fEq u (bool r50.1)))] (tab [(0, v0_0), (3, (iq l4i20)), (4, (pq g14)), (18, v0_0), (19, (iq (a0.length : Int))), (20, (iq l4i20))]) mixed (by kernel_rfl) rfl rfl rfl (fun a hs => hs.tab _ (allT_mem ⟨rfl, rfl, rfl, rfl, rfl, rfl, trivial⟩)) ⟨⟨rfl, ld_val (ov_move rfl rfl)⟩, ⟨rfl, ld_val (ov_move rfl rfl)⟩, ⟨rfl, ld_eq (j := 1) rfl rfl (ld_val (ov_int rfl rfl rfl rfl))⟩, ⟨rfl, ld_eq (j := 0) rfl rfl (ld_eq (j := 2) rfl rfl (ld_of (of_idxD 1 hu46 rfl rfl rfl Tryd.underlying35 sz41 rfl)))⟩, ⟨rfl, ld_fact (j := 3) rfl rfl (fun p47 => ld_of (of_fieldD (pr := fun (y : S_api_Item) => y.Path) 0 rfl subS_api_Item_0 rfl Tryd.underlying41 rfl sz9 rfl rfl))⟩, ⟨rfl, ld_fact (j := 4) rfl rfl (fun p48 => ld_val (ov_loadP (ds := [(str u45.Path)]) 0 rfl (fun h => h) rfl Tryd.underlying9 sz9 rfl rfl rfl))⟩, ⟨rfl, ld_val (ov_fieldA (p := 0) rfl Tryd.underlying41 rfl sz9 rfl rfl rfl)⟩, ⟨rfl, ld_eq (j := 6) rfl rfl (ld_val (ov_load (i := 0) (v := (str u11.Path)) rfl rfl Tryd.underlying9 sz9 rfl rfl rfl rfl))⟩, ⟨rfl, ld_eq (j := 5) rfl rfl (ld_eq (j := 7) rfl rfl (ld_callV (vs := [(str u45.Path), (str u11.Path)]) (f_lumref_Less_ok fu u45.Path u11.Path hc49) [] pre_nil rfl Tryd.func68 rfl rfl rfl))⟩, ⟨rfl, ld_eq (j := 8) rfl rfl (ld_val (ov_move rfl rfl))⟩, ⟨rfl, ld_eq (j := 9) rfl rfl (ld_val (ov_extract rfl rfl rfl))⟩, ⟨rfl, ld_eq (j := 9) rfl rfl (ld_val (ov_extract rfl rfl rfl))⟩, ⟨rfl, ld_eq (j := 10) rfl rfl (ld_val (ov_assign rfl rfl))⟩, trivial⟩ ?_
        refine tl_eq 11 rfl ?_
        refine tl_eq 12 rfl ?_
        refine tl_done ?_
        refine al_as rfl rfl ?_
        refine al_nt ?_
        refine aw_sr ?_
        refine al_mv rfl rfl ?_
        refine al_val (ov_not rfl rfl) ?_
        refine al_nt ?_
        refine aw_cond rfl (fun hb51 => ?_) (fun hb51 => ?_)
        ·replace h := bif_t hb51 h
         refine aw_sr ?_
         refine al_as rfl rfl ?_
         refine al_nt ?_
         refine aw_ret ?_
         refine aq_then_ret ?_
         refine aq_block_ret ?_
         refine aq_then_ret ?_
         refine aq_then_ret ?_
         refine aq_block_ret ?_
         refine aq_then_ret ?_
         obtain rfl := Option.some.inj h
         exact fn_ret () [] [] rfl rfl rfl rfl (res1 rfl rfl) rfl rfl rfl (by decide)
        ·replace h := bif_f hb51 h
         refine aw_skip ?_
         exact aq_join () h (fun w a hm hs => norm hm hs [0] [1, 0] [(0, v0_0), (3, (iq l4i20)), (4, (pq g14)), (18, v0_0), (19, (iq (a0.length : Int))), (20, (iq l4i20))] (by decide) ⟨rfl, rfl, rfl, rfl, rfl, rfl, trivial⟩)
       ·replace h := bif_f hb44 h
        refine aw_skip ?_
        exact aq_join () h (fun w a hm hs => norm hm hs [0] [1, 0] [(0, v0_0), (3, (iq l4i20)), (4, (pq g14)), (18, v0_0), (19, (iq (a0.length : Int))), (20, (iq l4i20))] (by decide) ⟨rfl, rfl, rfl, rfl, rfl, rfl, trivial⟩)
   ·replace h := bif_f hb8 h
    refine aw_exit ?_
    refine aq_then_exit ?_
    refine aq_then_exit ?_
    refine aq_block_exit ?_
    exact aq_join () h (fun w a hm hs => norm hm hs [] [0] [] (by decide) trivial)
def f_lumref_Edits_L6 (a0 : (List S_api_Edit)) (kk3 : (Unit → Option Int)) (fu : Nat) : Nat → Int → Option Int
  | 0, _ => none
  | k5 + 1, l4i14 => (bif (decide (l4i14 < (a0.length : Int))) then (lt (fun (_ : Unit) => (f_lumref_Edits_L6 a0 kk3 fu k5 (IntKind.i64.wrap (l4i14 + (1 : Int))))) fun (kk9 : Unit → Option Int) => (opt (at? a0 l4i14) fun (u10 : S_api_Edit) => (opt (f_lumref_Split fu u10.Path) fun (r15 : ((List (List UInt8)) × Int)) => (bif (r15.2 != (0 : Int)) then (some r15.2) else (lt (fun (j18b48 : Bool) => (bif j18b48 then (some (4 : Int)) else (bif (decide (l4i14 > (0 : Int))) then (opt (at? a0 (IntKind.i64.wrap (l4i14 - (1 : Int)))) fun (u22 : S_api_Edit) => (opt (f_lumref_Less fu u22.Path u10.Path) fun (r27 : (Bool × Int)) => (bif (!r27.1) then (some (4 : Int)) else (kk9 ())))) else (kk9 ())))) fun (kk19 : Bool → Option Int) => (bif u10.Gone then (req (u10.Item.Path.length ≤ 9223372036854775807) (req ((Lit.int .i64 u10.Item.Kind).wf = true) (req ((Lit.int .i64 u10.Item.Mode).wf = true) (req ((Lit.int .i64 u10.Item.Time).wf = true) (req (u10.Item.Bytes.length ≤ 9223372036854775807) (req (([] : List UInt8).length ≤ 9223372036854775807) (req ((Lit.int .i64 (0 : Int)).wf = true) (req ((Lit.int .i64 (0 : Int)).wf = true) (req ((Lit.int .i64 (0 : Int)).wf = true) (req (([] : List UInt8).length ≤ 9223372036854775807) (bif (!(u10.Item == (S_api_Item.mk ([] : List UInt8) (0 : Int) (0 : Int) (0 : Int) ([] : List UInt8)))) then (kk19 true) else (bif (!u10.Gone) then (kk19 (!(u10.Item.Path == u10.Path))) else (kk19 false))))))))))))) else (bif (!u10.Gone) then (kk19 (!(u10.Item.Path == u10.Path))) else (kk19 false)))))))) else (kk3 ()))
def f_lumref_Edits (fu : Nat) (a0 : (List S_api_Edit)) : Option Int := (bif (decide ((a0.length : Int) > (200 : Int))) then (some (2 : Int)) else (lt (fun (_ : Unit) => (some (0 : Int))) fun (kk3 : Unit → Option Int) => (f_lumref_Edits_L6 a0 kk3 fu fu (0 : Int))))
set_option maxRecDepth 100000 in
set_option maxHeartbeats 2000000 in
set_option maxHeartbeats 2000000 in
theorem f_lumref_Edits_ok (fu : Nat) (v0_0 : Value) (a0 : (List S_api_Edit)) {r : Int} (h : f_lumref_Edits fu a0 = some r) : FnOk Tryd.prog 24 [v0_0] [(fDat (tyList tyS_api_Edit) [v0_0] a0)] [] (fun (i : Unit) => { val := (int .i64 r) }) := by
 unfold f_lumref_Edits at h
 refine fn_enter Tryd.func24 rfl Tryd.ntmps24 rfl (fun w0 Z0 => ?_)
 refine aw_sr ?_
 refine al_as rfl rfl ?_
 refine al_nt ?_
 refine aw_seq ?_
 refine aw_sr ?_
 refine al_mv rfl rfl ?_
 refine al_val (ov_lenD 0 rfl rfl Tryd.underlying36 rfl) ?_
 refine al_in rfl rfl rfl rfl ?_
 refine al_nt ?_
 refine aw_cond rfl (fun hb1 => ?_) (fun hb1 => ?_)
 ·replace h := bif_t hb1 h
  refine aw_sr ?_
  refine al_as rfl rfl ?_
  refine al_nt ?_
  refine aw_ret ?_
  refine aq_then_ret ?_
  obtain rfl := Option.some.inj h
  exact fn_ret () [] [] rfl rfl rfl rfl (res1 rfl rfl) rfl rfl rfl (by decide)
 ·replace h := bif_f hb1 h
  refine aw_skip ?_
  refine aq_then ?_
  obtain ⟨kk3, hkk3, h⟩ := lt_some h
  refine aw_seq_join (ι := Unit) (fun i => (memOf w0 Z0 [] [] [(fDat (tyList tyS_api_Edit) [v0_0] a0)])) (fun i => (tab [])) (fun i => kk3 () = some r) ?_ ?_
  ·rintro _ h
   have h : kk3 () = some r := h
   rw [hkk3] at h
   dsimp only at h
   clear hkk3
   refine aw_show (m := (memOf w0 Z0 [] [] [(fDat (tyList tyS_api_Edit) [v0_0] a0)])) (S := (tab [])) ?_
   refine aw_sr ?_
   refine al_as rfl rfl ?_
   refine al_nt ?_
   refine aw_ret ?_
   obtain rfl := Option.some.inj h
   exact fn_ret () [] [] rfl rfl rfl rfl (res1 rfl rfl) rfl rfl rfl (by decide)
  ·clear hkk3
   refine aw_sr ?_
   refine al_mv rfl rfl ?_
   refine al_val (ov_lenD 0 rfl rfl Tryd.underlying36 rfl) ?_
   refine al_mv rfl rfl ?_
   refine al_nt ?_
   refine aw_block ?_
   refine aw_state (aw_loop (ι := Int) (fun i => (memOf w0 Z0 [] [] [(fDat (tyList tyS_api_Edit) [v0_0] a0)])) (fun i => (tab [(0, v0_0), (12, v0_0), (13, (iq (a0.length : Int))), (14, (iq i))])) (fun q i => f_lumref_Edits_L6 a0 kk3 fu q i = some r) ?_ fu (0 : Int) h) (fun w a hm hs => norm hm hs [] [0] [(0, v0_0), (12, v0_0), (13, (iq (a0.length : Int))), (14, (iq (0 : Int)))] (by decide) ⟨rfl, rfl, rfl, rfl, trivial⟩)
   clear h
   rintro k5 l4i14 h
   have h : f_lumref_Edits_L6 a0 kk3 fu k5 l4i14 = some r := h
   obtain _ | k5 := k5
   · rw [f_lumref_Edits_L6] at h; cases h
   rw [f_lumref_Edits_L6] at h
   refine aw_show (m := (memOf w0 Z0 [] [] [(fDat (tyList tyS_api_Edit) [v0_0] a0)])) (S := (tab [(0, v0_0), (12, v0_0), (13, (iq (a0.length : Int))), (14, (iq l4i14))])) ?_
   refine aw_sr ?_
   refine al_in rfl rfl rfl rfl ?_
   refine al_nt ?_
   refine aw_seq ?_
   refine aw_cond rfl (fun hb7 => ?_) (fun hb7 => ?_)
   ·replace h := bif_t hb7 h
    refine aw_skip ?_
    refine aq_then ?_
    obtain ⟨kk9, hkk9, h⟩ := lt_some h
    refine aw_seq_join (ι := Unit) (fun i => (memOf w0 Z0 [] [] [(fDat (tyList tyS_api_Edit) [v0_0] a0)])) (fun i => (tab [(0, v0_0), (12, v0_0), (13, (iq (a0.length : Int))), (14, (iq l4i14))])) (fun i => kk9 () = some r) ?_ ?_
    ·rintro _ h
     have h : kk9 () = some r := h
     rw [hkk9] at h
     dsimp only at h
     clear hkk9
     refine aw_show (m := (memOf w0 Z0 [] [] [(fDat (tyList tyS_api_Edit) [v0_0] a0)])) (S := (tab [(0, v0_0), (12, v0_0), (13, (iq (a0.length : Int))), (14, (iq l4i14))])) ?_
     refine aw_region ?_
     refine al_in rfl rfl rfl rfl ?_
     refine al_mv rfl rfl ?_
     refine al_nil ?_
     exact aq_again k5 (wq (l4i14 + (1 : Int))) (Nat.lt_succ_self _) h (fun w a hm hs => norm hm hs [] [0] [(0, v0_0), (12, v0_0), (13, (iq (a0.length : Int))), (14, (iq (wq (l4i14 + (1 : Int)))))] (by decide) ⟨rfl, rfl, rfl, rfl, trivial⟩)
    ·clear hkk9
     refine aw_block ?_
     refine aw_sr ?_
     refine al_mv rfl rfl ?_
     obtain ⟨u10, hu11, h⟩ := opt_some h
     refine al_idxD 0 hu11 rfl rfl rfl Tryd.underlying36 sz43 rfl (fun p12 => ?_)
     refine al_val (ov_loadP (ds := [(str u10.Path), (bool u10.Gone), (str u10.Item.Path), (iq u10.Item.Kind), (iq u10.Item.Mode), (iq u10.Item.Time), (str u10.Item.Bytes)]) 0 rfl encS_api_Edit rfl Tryd.underlying43 sz43 rfl rfl rfl) ?_
     refine al_alloc (zs := [(str ([] : List UInt8)), (bool false), (str ([] : List UInt8)), (iq (0 : Int)), (iq (0 : Int)), (iq (0 : Int)), (str ([] : List UInt8))]) (zeroOf_to to43) rfl rfl (fun g13 => ?_)
     refine al_as rfl rfl ?_
     refine al_store (i := 0) (vs := [(str u10.Path), (bool u10.Gone), (str u10.Item.Path), (iq u10.Item.Kind), (iq u10.Item.Mode), (iq u10.Item.Time), (str u10.Item.Bytes)]) (cs' := [(str u10.Path), (bool u10.Gone), (str u10.Item.Path), (iq u10.Item.Kind), (iq u10.Item.Mode), (iq u10.Item.Time), (str u10.Item.Bytes)]) rfl rfl rfl sz43 (cv_rfl rfl) rfl (co_val rfl (co_val rfl (co_val rfl (co_val rfl (co_val rfl (co_val rfl (co_val rfl co_nil))))))) (Nat.le_of_ble_eq_true rfl) rfl rfl ?_
     refine al_nt ?_
     refine aw_seq ?_
     refine aw_sr ?_
     refine al_val (ov_fieldA (p := 0) rfl Tryd.underlying43 rfl sz9 rfl rfl rfl) ?_
     refine al_val (ov_load (i := 0) (v := (str u10.Path)) rfl rfl Tryd.underlying9 sz9 rfl rfl rfl rfl) ?_
     obtain ⟨r15, hc14, h⟩ := opt_some h
     refine al_call (vs := [(str u10.Path)]) (f_lumref_Split_ok fu u10.Path hc14) [] [] [0] pre_nil rfl (by simp) (by decide) (.inl rfl) rfl Tryd.func67 rfl rfl rfl (fun v16 => ?_)
     refine al_mv rfl rfl ?_
     refine al_ex rfl rfl rfl ?_
     refine al_ex rfl rfl rfl ?_
     refine al_as rfl rfl ?_
     refine al_as rfl rfl ?_
     refine al_nt ?_
     refine aw_sr ?_
     refine al_mv rfl rfl ?_
     refine al_in rfl rfl rfl rfl ?_
     refine al_nt ?_
     refine aw_cond rfl (fun hb17 => ?_) (fun hb17 => ?_)
     ·replace h := bif_t hb17 h
      refine aw_sr ?_
      refine al_mv rfl rfl ?_
      refine al_as rfl rfl ?_
      refine al_nt ?_
      refine aw_ret ?_
      refine aq_then_ret ?_
      refine aq_block_ret ?_
      refine aq_then_ret ?_
      refine aq_then_ret ?_
      refine aq_block_ret ?_
      refine aq_then_ret ?_
      obtain rfl := Option.some.inj h
      exact fn_ret () [] [] rfl rfl rfl rfl (res1 rfl rfl) rfl rfl rfl (by decide)
     ·replace h := bif_f hb17 h
      refine aw_skip ?_
      refine aq_then ?_
      refine aw_seq ?_
      obtain ⟨kk19, hkk19, h⟩ := lt_some h
      refine aw_seq_join (ι := Bool) (fun i => (memOf w0 Z0 [] [(oBox g13 43 [(str u10.Path), (bool u10.Gone), (str u10.Item.Path), (iq u10.Item.Kind), (iq u10.Item.Mode), (iq u10.Item.Time), (str u10.Item.Bytes)])] [(fDat (tyList tyS_api_Edit) [v0_0] a0), (fPtr tyS_api_Edit p12 u10)])) (fun i => (tab [(0, v0_0), (3, (iq l4i14)), (4, (pq g13)), (12, v0_0), (13, (iq (a0.length : Int))), (14, (iq l4i14)), (48, (bool i))])) (fun i => kk19 i = some r) ?_ ?_
      ·rintro j18b48 h
       have h : kk19 j18b48 = some r := h
       rw [hkk19] at h
       dsimp only at h
       clear hkk19
       refine aw_show (m := (memOf w0 Z0 [] [(oBox g13 43 [(str u10.Path), (bool u10.Gone), (str u10.Item.Path), (iq u10.Item.Kind), (iq u10.Item.Mode), (iq u10.Item.Time), (str u10.Item.Bytes)])] [(fDat (tyList tyS_api_Edit) [v0_0] a0), (fPtr tyS_api_Edit p12 u10)])) (S := (tab [(0, v0_0), (3, (iq l4i14)), (4, (pq g13)), (12, v0_0), (13, (iq (a0.length : Int))), (14, (iq l4i14)), (48, (bool j18b48))])) ?_
       refine aw_cond rfl (fun hb20 => ?_) (fun hb20 => ?_)
       ·replace h := bif_t hb20 h
        refine aw_sr ?_
        refine al_as rfl rfl ?_
        refine al_nt ?_
        refine aw_ret ?_
        refine aq_then_ret ?_
        refine aq_block_ret ?_
        refine aq_then_ret ?_
        refine aq_then_ret ?_
        refine aq_block_ret ?_
        refine aq_then_ret ?_
        obtain rfl := Option.some.inj h
        exact fn_ret () [] [] rfl rfl rfl rfl (res1 rfl rfl) rfl rfl rfl (by decide)
       ·replace h := bif_f hb20 h
        refine aw_skip ?_
        refine aq_tr ?_
        refine al_mv rfl rfl ?_
        refine al_in rfl rfl rfl rfl ?_
        refine al_nt ?_
        refine aw_cond rfl (fun hb21 => ?_) (fun hb21 => ?_)
        ·replace h := bif_t hb21 h
         refine aw_seq ?_
         obtain ⟨u22, hu23, h⟩ := opt_some h
         obtain ⟨r27, hc26, h⟩ := opt_some h
         refine aw_region_draw 13 [(52, (fun u => fEq u v0_0)), (53, (fun u => fEq u (iq l4i14))), (54, (fun u => fEq u (iq (wq (l4i14 - (1 : Int)))))), (55, (fun p24 => (fPtr tyS_api_Edit p24 u22))), (56, (fun p25 => (fPtr tyStr p25 u22.Path))), (57, (fun u => fEq u (str u22.Path))), (58, (fun u => fEq u (pq g13))), (59, (fun u => fEq u (str u10.Path))), (60, (fun u => fEq u (Value.tuple #[(bool r27.1), (iq r27.2)]))), (51, (fun u => fEq u (Value.tuple #[(bool r27.1), (iq r27.2)]))), (61, (fun u => fEq u (bool r27.1))), (62, (fun u => fEq u (iq r27.2))), (7, (fun u => fEq u (bool r27.1)))] (tab [(0, v0_0), (3, (iq l4i14)), (4, (pq g13)), (12, v0_0), (13, (iq (a0.length : Int))), (14, (iq l4i14))]) mixed (by kernel_rfl) rfl rfl rfl (fun a hs => hs.tab _ (allT_mem ⟨rfl, rfl, rfl, rfl, rfl, rfl, trivial⟩)) ⟨⟨rfl, ld_val (ov_move rfl rfl)⟩, ⟨rfl, ld_val (ov_move rfl rfl)⟩, ⟨rfl, ld_eq (j := 1) rfl rfl (ld_val (ov_int rfl rfl rfl rfl))⟩, ⟨rfl, ld_eq (j := 0) rfl rfl (ld_eq (j := 2) rfl rfl (ld_of (of_idxD 0 hu23 rfl rfl rfl Tryd.underlying36 sz43 rfl)))⟩, ⟨rfl, ld_fact (j := 3) rfl rfl (fun p24 => ld_of (of_fieldD (pr := fun (y : S_api_Edit) => y.Path) 0 rfl subS_api_Edit_0 rfl Tryd.underlying43 rfl sz9 rfl rfl))⟩, ⟨rfl, ld_fact (j := 4) rfl rfl (fun p25 => ld_val (ov_loadP (ds := [(str u22.Path)]) 0 rfl (fun h => h) rfl Tryd.underlying9 sz9 rfl rfl rfl))⟩, ⟨rfl, ld_val (ov_fieldA (p := 0) rfl Tryd.underlying43 rfl sz9 rfl rfl rfl)⟩, ⟨rfl, ld_eq (j := 6) rfl rfl (ld_val (ov_load (i := 0) (v := (str u10.Path)) rfl rfl Tryd.underlying9 sz9 rfl rfl rfl rfl))⟩, ⟨rfl, ld_eq (j := 5) rfl rfl (ld_eq (j := 7) rfl rfl (ld_callV (vs := [(str u22.Path), (str u10.Path)]) (f_lumref_Less_ok fu u22.Path u10.Path hc26) [] pre_nil rfl Tryd.func68 rfl rfl rfl))⟩, ⟨rfl, ld_eq (j := 8) rfl rfl (ld_val (ov_move rfl rfl))⟩, ⟨rfl, ld_eq (j := 9) rfl rfl (ld_val (ov_extract rfl rfl rfl))⟩, ⟨rfl, ld_eq (j := 9) rfl rfl (ld_val (ov_extract rfl rfl rfl))⟩, ⟨rfl, ld_eq (j := 10) rfl rfl (ld_val (ov_assign rfl rfl))⟩, trivial⟩ ?_
         refine tl_eq 11 rfl ?_
         refine tl_eq 12 rfl ?_
         refine tl_done ?_
         refine al_as rfl rfl ?_
         refine al_nt ?_
         refine aw_sr ?_
         refine al_mv rfl rfl ?_
         refine al_val (ov_not rfl rfl) ?_
         refine al_nt ?_
         refine aw_cond rfl (fun hb28 => ?_) (fun hb28 => ?_)
         ·replace h := bif_t hb28 h
          refine aw_sr ?_
          refine al_as rfl rfl ?_
          refine al_nt ?_
          refine aw_ret ?_
          refine aq_block_ret ?_
          refine aq_then_ret ?_
          refine aq_then_ret ?_
          refine aq_block_ret ?_
          refine aq_then_ret ?_
          obtain rfl := Option.some.inj h
          exact fn_ret () [] [] rfl rfl rfl rfl (res1 rfl rfl) rfl rfl rfl (by decide)
         ·replace h := bif_f hb28 h
          refine aw_skip ?_
          refine aq_block ?_
          exact aq_join () h (fun w a hm hs => norm hm hs [] [0] [(0, v0_0), (12, v0_0), (13, (iq (a0.length : Int))), (14, (iq l4i14))] (by decide) ⟨rfl, rfl, rfl, rfl, trivial⟩)
        ·replace h := bif_f hb21 h
         refine aw_skip ?_
         refine aq_block ?_
         exact aq_join () h (fun w a hm hs => norm hm hs [] [0] [(0, v0_0), (12, v0_0), (13, (iq (a0.length : Int))), (14, (iq l4i14))] (by decide) ⟨rfl, rfl, rfl, rfl, trivial⟩)
      ·clear hkk19
       refine aw_region ?_
       refine al_val (ov_fieldA (p := 1) rfl Tryd.underlying43 rfl sz4 rfl rfl rfl) ?_
       refine al_val (ov_load (i := 1) (v := (bool u10.Gone)) rfl rfl Tryd.underlying4 sz4 rfl rfl rfl rfl) ?_
       refine al_mv rfl rfl ?_
       refine al_caseB 30 rfl (fun hb29 => ?_) (fun hb29 => ?_)
       ·replace h := bif_t hb29 h
        refine al_val (ov_fieldA (p := 2) rfl Tryd.underlying43 rfl sz41 rfl rfl rfl) ?_
        refine al_val (ov_load (i := 1) (v := (ag [(str u10.Item.Path), (iq u10.Item.Kind), (iq u10.Item.Mode), (iq u10.Item.Time), (str u10.Item.Bytes)])) rfl rfl Tryd.underlying41 sz41 rfl rfl rfl rfl) ?_
        refine al_val (ov_build (cells := ([(str ([] : List UInt8)), (iq (0 : Int)), (iq (0 : Int)), (iq (0 : Int)), (str ([] : List UInt8))]).toArray) (cs := [(str ([] : List UInt8)), (iq (0 : Int)), (iq (0 : Int)), (iq (0 : Int)), (str ([] : List UInt8))]) rfl (fun w a hm hs => by simp only [List.map_toArray, List.map_cons, List.map_nil, List.toList_toArray]; kernel_rfl)) ?_
        obtain ⟨hc30, h⟩ := req_some h
        obtain ⟨hc31, h⟩ := req_some h
        obtain ⟨hc32, h⟩ := req_some h
        obtain ⟨hc33, h⟩ := req_some h
        obtain ⟨hc34, h⟩ := req_some h
        obtain ⟨hc35, h⟩ := req_some h
        obtain ⟨hc36, h⟩ := req_some h
        obtain ⟨hc37, h⟩ := req_some h
        obtain ⟨hc38, h⟩ := req_some h
        obtain ⟨hc39, h⟩ := req_some h
        refine al_val (ov_neqA (cs := [(str u10.Item.Path), (iq u10.Item.Kind), (iq u10.Item.Mode), (iq u10.Item.Time), (str u10.Item.Bytes)]) (ds := [(str ([] : List UInt8)), (iq (0 : Int)), (iq (0 : Int)), (iq (0 : Int)), (str ([] : List UInt8))]) (ls := [9, 3, 3, 3, 9]) (p := (u10.Item == (S_api_Item.mk ([] : List UInt8) (0 : Int) (0 : Int) (0 : Int) ([] : List UInt8)))) eg41 kt41 lv41 rfl rfl (by kernel_rfl) (by kernel_rfl) (fit_cons (fit_str Tryd.underlying9 hc30) (fit_cons (fit_int Tryd.underlying3 hc31) (fit_cons (fit_int Tryd.underlying3 hc32) (fit_cons (fit_int Tryd.underlying3 hc33) (fit_cons (fit_str Tryd.underlying9 hc34) fit_nil))))) (fit_cons (fit_str Tryd.underlying9 hc35) (fit_cons (fit_int Tryd.underlying3 hc36) (fit_cons (fit_int Tryd.underlying3 hc37) (fit_cons (fit_int Tryd.underlying3 hc38) (fit_cons (fit_str Tryd.underlying9 hc39) fit_nil))))) (injS_api_Item (x := u10.Item) (y := (S_api_Item.mk ([] : List UInt8) (0 : Int) (0 : Int) (0 : Int) ([] : List UInt8)))) rfl) ?_
        refine al_val (ov_pick_t rfl rfl rfl) ?_
        refine al_mv rfl rfl ?_
        refine al_caseB 36 rfl (fun hb40 => ?_) (fun hb40 => ?_)
        ·replace h := bif_t hb40 h
         refine al_skip ?_
         refine al_skip ?_
         refine al_skip ?_
         refine al_skip ?_
         refine al_skip ?_
         refine al_skip ?_
         refine al_skip ?_
         refine al_skip ?_
         refine al_skip ?_
         refine al_skip ?_
         refine al_skip ?_
         refine al_val (ov_pick_t rfl rfl rfl) ?_
         refine al_nil ?_
         exact aq_join true h (fun w a hm hs => norm hm hs [1] [1, 0] [(0, v0_0), (3, (iq l4i14)), (4, (pq g13)), (12, v0_0), (13, (iq (a0.length : Int))), (14, (iq l4i14)), (48, (bool true))] (by decide) ⟨rfl, rfl, rfl, rfl, rfl, rfl, rfl, trivial⟩)
        ·replace h := bif_f hb40 h
         refine al_val (ov_fieldA (p := 1) rfl Tryd.underlying43 rfl sz4 rfl rfl rfl) ?_
         refine al_val (ov_load (i := 1) (v := (bool u10.Gone)) rfl rfl Tryd.underlying4 sz4 rfl rfl rfl rfl) ?_
         refine al_val (ov_not rfl rfl) ?_
         refine al_mv rfl rfl ?_
         refine al_caseB 40 rfl (fun hb41 => ?_) (fun hb41 => ?_)
         ·replace h := bif_t hb41 h
          refine al_val (ov_fieldA (p := 2) rfl Tryd.underlying43 rfl sz41 rfl rfl rfl) ?_
          refine al_val (ov_fieldA (p := 2) rfl Tryd.underlying41 rfl sz9 rfl rfl rfl) ?_
          refine al_val (ov_load (i := 1) (v := (str u10.Item.Path)) rfl rfl Tryd.underlying9 sz9 rfl rfl rfl rfl) ?_
          refine al_val (ov_fieldA (p := 0) rfl Tryd.underlying43 rfl sz9 rfl rfl rfl) ?_
          refine al_val (ov_load (i := 1) (v := (str u10.Path)) rfl rfl Tryd.underlying9 sz9 rfl rfl rfl rfl) ?_
          refine al_val (ov_strCmp rfl rfl rfl rfl) ?_
          refine al_val (ov_pick_t rfl rfl rfl) ?_
          refine al_val (ov_pick_f rfl rfl rfl) ?_
          refine al_nil ?_
          exact aq_join (!(u10.Item.Path == u10.Path)) h (fun w a hm hs => norm hm hs [1] [1, 0] [(0, v0_0), (3, (iq l4i14)), (4, (pq g13)), (12, v0_0), (13, (iq (a0.length : Int))), (14, (iq l4i14)), (48, (bool (!(u10.Item.Path == u10.Path))))] (by decide) ⟨rfl, rfl, rfl, rfl, rfl, rfl, rfl, trivial⟩)
         ·replace h := bif_f hb41 h
          refine al_skip ?_
          refine al_skip ?_
          refine al_skip ?_
          refine al_skip ?_
          refine al_skip ?_
          refine al_skip ?_
          refine al_val (ov_pick_f rfl rfl rfl) ?_
          refine al_val (ov_pick_f rfl rfl rfl) ?_
          refine al_nil ?_
          exact aq_join false h (fun w a hm hs => norm hm hs [1] [1, 0] [(0, v0_0), (3, (iq l4i14)), (4, (pq g13)), (12, v0_0), (13, (iq (a0.length : Int))), (14, (iq l4i14)), (48, (bool false))] (by decide) ⟨rfl, rfl, rfl, rfl, rfl, rfl, rfl, trivial⟩)
       ·replace h := bif_f hb29 h
        refine al_skip ?_
        refine al_skip ?_
        refine al_skip ?_
        refine al_skip ?_
        refine al_val (ov_pick_f rfl rfl rfl) ?_
        refine al_mv rfl rfl ?_
        refine al_val (ov_fieldA (p := 1) rfl Tryd.underlying43 rfl sz4 rfl rfl rfl) ?_
        refine al_val (ov_load (i := 1) (v := (bool u10.Gone)) rfl rfl Tryd.underlying4 sz4 rfl rfl rfl rfl) ?_
        refine al_val (ov_not rfl rfl) ?_
        refine al_mv rfl rfl ?_
        refine al_caseB 40 rfl (fun hb42 => ?_) (fun hb42 => ?_)
        ·replace h := bif_t hb42 h
         refine al_val (ov_fieldA (p := 2) rfl Tryd.underlying43 rfl sz41 rfl rfl rfl) ?_
         refine al_val (ov_fieldA (p := 2) rfl Tryd.underlying41 rfl sz9 rfl rfl rfl) ?_
         refine al_val (ov_load (i := 1) (v := (str u10.Item.Path)) rfl rfl Tryd.underlying9 sz9 rfl rfl rfl rfl) ?_
         refine al_val (ov_fieldA (p := 0) rfl Tryd.underlying43 rfl sz9 rfl rfl rfl) ?_
         refine al_val (ov_load (i := 1) (v := (str u10.Path)) rfl rfl Tryd.underlying9 sz9 rfl rfl rfl rfl) ?_
         refine al_val (ov_strCmp rfl rfl rfl rfl) ?_
         refine al_val (ov_pick_t rfl rfl rfl) ?_
         refine al_val (ov_pick_f rfl rfl rfl) ?_
         refine al_nil ?_
         exact aq_join (!(u10.Item.Path == u10.Path)) h (fun w a hm hs => norm hm hs [1] [1, 0] [(0, v0_0), (3, (iq l4i14)), (4, (pq g13)), (12, v0_0), (13, (iq (a0.length : Int))), (14, (iq l4i14)), (48, (bool (!(u10.Item.Path == u10.Path))))] (by decide) ⟨rfl, rfl, rfl, rfl, rfl, rfl, rfl, trivial⟩)
        ·replace h := bif_f hb42 h
         refine al_skip ?_
         refine al_skip ?_
         refine al_skip ?_
         refine al_skip ?_
         refine al_skip ?_
         refine al_skip ?_
         refine al_val (ov_pick_f rfl rfl rfl) ?_
         refine al_val (ov_pick_f rfl rfl rfl) ?_
         refine al_nil ?_
         exact aq_join false h (fun w a hm hs => norm hm hs [1] [1, 0] [(0, v0_0), (3, (iq l4i14)), (4, (pq g13)), (12, v0_0), (13, (iq (a0.length : Int))), (14, (iq l4i14)), (48, (bool false))] (by decide) ⟨rfl, rfl, rfl, rfl, rfl, rfl, rfl, trivial⟩)
   ·replace h := bif_f hb7 h
    refine aw_exit ?_
    refine aq_then_exit ?_
    refine aq_then_exit ?_
    refine aq_block_exit ?_
    exact aq_join () h (fun w a hm hs => norm hm hs [] [0] [] (by decide) trivial)
-- STUCK slices.Reverse[[]string,string]: IndexError string index out of range at par:705
-- STUCK slices.rotateLeft[string]: IndexError string index out of range at par:705
-- STUCK slices.rotateRight[string]: IndexError string index out of range at par:705
-- STUCK slices.Insert[[]string,string]: slices.go:145: call: append to data
def f_lumref_allPaths_L29 (l3x3 : (List (List UInt8))) (u10 : (List UInt8)) (kk14 : (Int → Option (List (List UInt8)))) (fu : Nat) : Nat → Int → Option (List (List UInt8))
  | 0, _ => none
  | k28 + 1, l27i6 => (bif (decide (l27i6 < (l3x3.length : Int))) then (opt (at? l3x3 l27i6) fun (u31 : (List UInt8)) => (opt (f_lumref_Less fu u31 u10) fun (r36 : (Bool × Int)) => (bif (!r36.1) then (kk14 l27i6) else (f_lumref_allPaths_L29 l3x3 u10 kk14 fu k28 (IntKind.i64.wrap (l27i6 + (1 : Int))))))) else (kk14 l27i6))
def f_lumref_allPaths_L5 (a0 : (List (List UInt8))) (kk2 : ((List (List UInt8)) → Option (List (List UInt8)))) (fu : Nat) : Nat → (List (List UInt8)) → Int → Option (List (List UInt8))
  | 0, _, _ => none
  | k4 + 1, l3x3, l3i11 => (lt (fun (l3x3 : (List (List UInt8))) (l3i11 : Int) => (f_lumref_allPaths_L5 a0 kk2 fu k4 l3x3 l3i11)) fun (kk6 : (List (List UInt8)) → Int → Option (List (List UInt8))) => (bif (decide (l3i11 < (a0.length : Int))) then (lt (fun (j8x3 : (List (List UInt8))) => (kk6 j8x3 (IntKind.i64.wrap (l3i11 + (1 : Int))))) fun (kk9 : (List (List UInt8)) → Option (List (List UInt8))) => (opt (at? a0 l3i11) fun (u10 : (List UInt8)) => (lt (fun (j13i6 : Int) => (lt (fun (j15b43 : Bool) => (bif j15b43 then (opt (f_slices_Insert_S fu l3x3 j13i6 ([u10])) fun (r20 : (List (List UInt8))) => (kk9 r20)) else (kk9 l3x3))) fun (kk16 : Bool → Option (List (List UInt8))) => (bif (j13i6 == (l3x3.length : Int)) then (kk16 true) else (opt (at? l3x3 j13i6) fun (u23 : (List UInt8)) => (kk16 (!(u23 == u10))))))) fun (kk14 : Int → Option (List (List UInt8))) => (f_lumref_allPaths_L29 l3x3 u10 kk14 fu fu (0 : Int))))) else (kk2 l3x3)))
def f_lumref_allPaths (fu : Nat) (a0 : (List (List UInt8))) : Option (List (List UInt8)) := (lt (fun (j1x3 : (List (List UInt8))) => (some j1x3)) fun (kk2 : (List (List UInt8)) → Option (List (List UInt8))) => (f_lumref_allPaths_L5 a0 kk2 fu fu ([] : List (List UInt8)) (0 : Int)))
set_option maxHeartbeats 2000000 in
set_option maxRecDepth 100000 in
theorem f_lumref_allPaths_ok (fu : Nat) (v0_0 : Value) (a0 : (List (List UInt8))) {r : (List (List UInt8))} (h : f_lumref_allPaths fu a0 = some r) : FnOk Tryd.prog 56 [v0_0] [(fDat (tyList tyStr) [v0_0] a0)] [] (fun (i : Value) => { val := i, own := [(oRow i 9 tyStr r)] }) := by
 unfold f_lumref_allPaths at h
 refine fn_enter Tryd.func56 rfl Tryd.ntmps56 rfl (fun w0 Z0 => ?_)
 refine aw_sr ?_
 refine al_as rfl rfl ?_
 refine al_nt ?_
 refine aw_sr ?_
 refine al_as rfl rfl ?_
 refine al_nt ?_
 obtain ⟨kk2, hkk2, h⟩ := lt_some h
 refine aw_seq_join (ι := Value × (List (List UInt8))) (fun i => (memOf w0 Z0 [] [(oRow i.1 9 tyStr i.2)] [(fDat (tyList tyStr) [v0_0] a0)])) (fun i => (tab [(3, i.1)])) (fun i => kk2 i.2 = some r) ?_ ?_
 ·rintro ⟨j1v3, j1x3⟩ h
  have h : kk2 j1x3 = some r := h
  rw [hkk2] at h
  dsimp only at h
  clear hkk2
  refine aw_show (m := (memOf w0 Z0 [] [(oRow j1v3 9 tyStr j1x3)] [(fDat (tyList tyStr) [v0_0] a0)])) (S := (tab [(3, j1v3)])) ?_
  refine aw_sr ?_
  refine al_mv rfl rfl ?_
  refine al_as rfl rfl ?_
  refine al_nt ?_
  refine aw_ret ?_
  obtain rfl := Option.some.inj h
  exact fn_ret j1v3 [0] [] rfl rfl rfl rfl (res1 rfl rfl) rfl rfl rfl (by decide)
 ·clear hkk2
  refine aw_sr ?_
  refine al_mv rfl rfl ?_
  refine al_val (ov_lenD 0 rfl rfl Tryd.underlying50 rfl) ?_
  refine al_mv rfl rfl ?_
  refine al_nt ?_
  refine aw_block ?_
  refine aw_nilR 9 tyStr ?_
  refine aw_state (aw_loop (ι := Value × (List (List UInt8)) × Int) (fun i => (memOf w0 Z0 [] [(oRow i.1 9 tyStr i.2.1)] [(fDat (tyList tyStr) [v0_0] a0)])) (fun i => (tab [(3, i.1), (9, v0_0), (10, (iq (a0.length : Int))), (11, (iq i.2.2))])) (fun q i => f_lumref_allPaths_L5 a0 kk2 fu q i.2.1 i.2.2 = some r) ?_ fu (nS, ([] : List (List UInt8)), (0 : Int)) h) (fun w a hm hs => norm hm hs [0] [0] [(3, nS), (9, v0_0), (10, (iq (a0.length : Int))), (11, (iq (0 : Int)))] (by decide) ⟨rfl, rfl, rfl, rfl, trivial⟩)
  clear h
  rintro k4 ⟨l3v3, l3x3, l3i11⟩ h
  have h : f_lumref_allPaths_L5 a0 kk2 fu k4 l3x3 l3i11 = some r := h
  obtain _ | k4 := k4
  · rw [f_lumref_allPaths_L5] at h; cases h
  rw [f_lumref_allPaths_L5] at h
  refine aw_show (m := (memOf w0 Z0 [] [(oRow l3v3 9 tyStr l3x3)] [(fDat (tyList tyStr) [v0_0] a0)])) (S := (tab [(3, l3v3), (9, v0_0), (10, (iq (a0.length : Int))), (11, (iq l3i11))])) ?_
  obtain ⟨kk6, hkk6, h⟩ := lt_some h
  refine aw_body_join (ι := Value × (List (List UInt8)) × Int) (fun i => (memOf w0 Z0 [] [(oRow i.1 9 tyStr i.2.1)] [(fDat (tyList tyStr) [v0_0] a0)])) (fun i => (tab [(3, i.1), (9, v0_0), (10, (iq (a0.length : Int))), (11, (iq i.2.2))])) (fun i => kk6 i.2.1 i.2.2 = some r) (fun i h => aq_again k4 i (Nat.lt_succ_self _) (by rw [hkk6] at h; exact h) (fun w a hm hs => ⟨hm, hs⟩)) ?_
  clear hkk6
  refine aw_sr ?_
  refine al_in rfl rfl rfl rfl ?_
  refine al_nt ?_
  refine aw_seq ?_
  refine aw_cond rfl (fun hb7 => ?_) (fun hb7 => ?_)
  ·replace h := bif_t hb7 h
   refine aw_skip ?_
   refine aq_then ?_
   obtain ⟨kk9, hkk9, h⟩ := lt_some h
   refine aw_seq_join (ι := Value × (List (List UInt8))) (fun i => (memOf w0 Z0 [] [(oRow i.1 9 tyStr i.2)] [(fDat (tyList tyStr) [v0_0] a0)])) (fun i => (tab [(3, i.1), (9, v0_0), (10, (iq (a0.length : Int))), (11, (iq l3i11))])) (fun i => kk9 i.2 = some r) ?_ ?_
   ·rintro ⟨j8v3, j8x3⟩ h
    have h : kk9 j8x3 = some r := h
    rw [hkk9] at h
    dsimp only at h
    clear hkk9
    refine aw_show (m := (memOf w0 Z0 [] [(oRow j8v3 9 tyStr j8x3)] [(fDat (tyList tyStr) [v0_0] a0)])) (S := (tab [(3, j8v3), (9, v0_0), (10, (iq (a0.length : Int))), (11, (iq l3i11))])) ?_
    refine aw_region ?_
    refine al_in rfl rfl rfl rfl ?_
    refine al_mv rfl rfl ?_
    refine al_nil ?_
    exact aq_join (j8v3, j8x3, (wq (l3i11 + (1 : Int)))) h (fun w a hm hs => norm hm hs [0] [0] [(3, j8v3), (9, v0_0), (10, (iq (a0.length : Int))), (11, (iq (wq (l3i11 + (1 : Int)))))] (by decide) ⟨rfl, rfl, rfl, rfl, trivial⟩)
   ·clear hkk9
    refine aw_block ?_
    refine aw_sr ?_
    obtain ⟨u10, hu11, h⟩ := opt_some h
    refine al_idxD 0 hu11 rfl rfl rfl Tryd.underlying50 sz9 rfl (fun p12 => ?_)
    refine al_val (ov_loadP (ds := [(str u10)]) 0 rfl (fun h => h) rfl Tryd.underlying9 sz9 rfl rfl rfl) ?_
    refine al_as rfl rfl ?_
    refine al_nt ?_
    refine aw_sr ?_
    refine al_as rfl rfl ?_
    refine al_nt ?_
    obtain ⟨kk14, hkk14, h⟩ := lt_some h
    refine aw_seq_join (ι := Int) (fun i => (memOf w0 Z0 [] [(oRow l3v3 9 tyStr l3x3)] [(fDat (tyList tyStr) [v0_0] a0), (fPtr tyStr p12 u10)])) (fun i => (tab [(3, l3v3), (5, (str u10)), (6, (iq i)), (9, v0_0), (10, (iq (a0.length : Int))), (11, (iq l3i11))])) (fun i => kk14 i = some r) ?_ ?_
    ·rintro j13i6 h
     have h : kk14 j13i6 = some r := h
     rw [hkk14] at h
     dsimp only at h
     clear hkk14
     refine aw_show (m := (memOf w0 Z0 [] [(oRow l3v3 9 tyStr l3x3)] [(fDat (tyList tyStr) [v0_0] a0), (fPtr tyStr p12 u10)])) (S := (tab [(3, l3v3), (5, (str u10)), (6, (iq j13i6)), (9, v0_0), (10, (iq (a0.length : Int))), (11, (iq l3i11))])) ?_
     obtain ⟨kk16, hkk16, h⟩ := lt_some h
     refine aw_seq_join (ι := Bool) (fun i => (memOf w0 Z0 [] [(oRow l3v3 9 tyStr l3x3)] [(fDat (tyList tyStr) [v0_0] a0), (fPtr tyStr p12 u10)])) (fun i => (tab [(3, l3v3), (5, (str u10)), (6, (iq j13i6)), (9, v0_0), (10, (iq (a0.length : Int))), (11, (iq l3i11)), (43, (bool i))])) (fun i => kk16 i = some r) ?_ ?_
     ·rintro j15b43 h
      have h : kk16 j15b43 = some r := h
      rw [hkk16] at h
      dsimp only at h
      clear hkk16
      refine aw_show (m := (memOf w0 Z0 [] [(oRow l3v3 9 tyStr l3x3)] [(fDat (tyList tyStr) [v0_0] a0), (fPtr tyStr p12 u10)])) (S := (tab [(3, l3v3), (5, (str u10)), (6, (iq j13i6)), (9, v0_0), (10, (iq (a0.length : Int))), (11, (iq l3i11)), (43, (bool j15b43))])) ?_
      refine aw_cond rfl (fun hb17 => ?_) (fun hb17 => ?_)
      ·replace h := bif_t hb17 h
       refine aw_region ?_
       refine al_mv rfl rfl ?_
       refine al_mv rfl rfl ?_
       refine al_mv rfl rfl ?_
       refine al_buildSlice (τ := tyStr) (e := 9) (k := 1) (sz := 0) (by_ := 0) (z := undef) (cs := [(str u10)]) (xs := [u10]) rfl (by decide) (fun w a hm hs => ⟨([(str u10)]).toArray, rfl, by simp only [List.map_toArray, List.map_cons, List.map_nil, hs.ev (x := .tmp 46) rfl]; exact run_bs [(str u10)] [(str u10)] Tryd.underlying50 to9 rfl rfl (bs_cons (l := [(str u10)]) (cs := []) (cv_rfl rfl) rfl bs_nil) hm⟩) (fun hm => ⟨_, _, rfl, (fun _ => rfl) hm, rfl⟩) rfl (fun v18 => ?_)
       obtain ⟨r20, hc19, h⟩ := opt_some h
       refine al_call (vs := [l3v3, (iq j13i6), v18]) (f_slices_Insert_S_ok fu l3v3 l3x3 j13i6 v18 ([u10]) hc19) [] [1, 0] [] pre_nil rfl (by simp) (by decide) (.inl rfl) rfl Tryd.func112 rfl rfl rfl (fun v21 => ?_)
       refine al_as rfl rfl ?_
       refine al_nil ?_
       refine aq_block ?_
       exact aq_join (v21, r20) h (fun w a hm hs => norm hm hs [0] [0] [(3, v21), (9, v0_0), (10, (iq (a0.length : Int))), (11, (iq l3i11))] (by decide) ⟨rfl, rfl, rfl, rfl, trivial⟩)
      ·replace h := bif_f hb17 h
       refine aw_skip ?_
       refine aq_block ?_
       exact aq_join (l3v3, l3x3) h (fun w a hm hs => norm hm hs [0] [0] [(3, l3v3), (9, v0_0), (10, (iq (a0.length : Int))), (11, (iq l3i11))] (by decide) ⟨rfl, rfl, rfl, rfl, trivial⟩)
     ·clear hkk16
      refine aw_region ?_
      refine al_mv rfl rfl ?_
      refine al_mv rfl rfl ?_
      refine al_val (ov_lenR 0 rfl rfl Tryd.underlying50 rfl) ?_
      refine al_in rfl rfl rfl rfl ?_
      refine al_mv rfl rfl ?_
      refine al_caseB 36 rfl (fun hb22 => ?_) (fun hb22 => ?_)
      ·replace h := bif_t hb22 h
       refine al_skip ?_
       refine al_skip ?_
       refine al_skip ?_
       refine al_skip ?_
       refine al_skip ?_
       refine al_skip ?_
       refine al_val (ov_pick_t rfl rfl rfl) ?_
       refine al_nil ?_
       exact aq_join true h (fun w a hm hs => norm hm hs [0] [0, 1] [(3, l3v3), (5, (str u10)), (6, (iq j13i6)), (9, v0_0), (10, (iq (a0.length : Int))), (11, (iq l3i11)), (43, (bool true))] (by decide) ⟨rfl, rfl, rfl, rfl, rfl, rfl, rfl, trivial⟩)
      ·replace h := bif_f hb22 h
       refine al_mv rfl rfl ?_
       refine al_mv rfl rfl ?_
       obtain ⟨u23, hu24, h⟩ := opt_some h
       refine al_idxR 0 (at_some hu24).1 (at_some hu24).2.1 rfl rfl rfl Tryd.underlying50 sz9 rfl (fun p25 hp26 => ?_)
       refine al_val (ov_loadR (ds := [(str u23)]) 0 rfl hp26 (at_some hu24).2.2 (fun h => h) rfl Tryd.underlying9 sz9 rfl rfl rfl) ?_
       refine al_mv rfl rfl ?_
       refine al_val (ov_strCmp rfl rfl rfl rfl) ?_
       refine al_val (ov_pick_f rfl rfl rfl) ?_
       refine al_nil ?_
       exact aq_join (!(u23 == u10)) h (fun w a hm hs => norm hm hs [0] [0, 1] [(3, l3v3), (5, (str u10)), (6, (iq j13i6)), (9, v0_0), (10, (iq (a0.length : Int))), (11, (iq l3i11)), (43, (bool (!(u23 == u10))))] (by decide) ⟨rfl, rfl, rfl, rfl, rfl, rfl, rfl, trivial⟩)
    ·clear hkk14
     refine aw_block ?_
     refine aw_state (aw_loop (ι := Int) (fun i => (memOf w0 Z0 [] [(oRow l3v3 9 tyStr l3x3)] [(fDat (tyList tyStr) [v0_0] a0), (fPtr tyStr p12 u10)])) (fun i => (tab [(3, l3v3), (5, (str u10)), (6, (iq i)), (9, v0_0), (10, (iq (a0.length : Int))), (11, (iq l3i11))])) (fun q i => f_lumref_allPaths_L29 l3x3 u10 kk14 fu q i = some r) ?_ fu (0 : Int) h) (fun w a hm hs => norm hm hs [0] [1, 0] [(3, l3v3), (5, (str u10)), (6, (iq (0 : Int))), (9, v0_0), (10, (iq (a0.length : Int))), (11, (iq l3i11))] (by decide) ⟨rfl, rfl, rfl, rfl, rfl, rfl, trivial⟩)
     clear h
     rintro k28 l27i6 h
     have h : f_lumref_allPaths_L29 l3x3 u10 kk14 fu k28 l27i6 = some r := h
     obtain _ | k28 := k28
     · rw [f_lumref_allPaths_L29] at h; cases h
     rw [f_lumref_allPaths_L29] at h
     refine aw_show (m := (memOf w0 Z0 [] [(oRow l3v3 9 tyStr l3x3)] [(fDat (tyList tyStr) [v0_0] a0), (fPtr tyStr p12 u10)])) (S := (tab [(3, l3v3), (5, (str u10)), (6, (iq l27i6)), (9, v0_0), (10, (iq (a0.length : Int))), (11, (iq l3i11))])) ?_
     refine aw_seq ?_
     refine aw_sr ?_
     refine al_mv rfl rfl ?_
     refine al_mv rfl rfl ?_
     refine al_val (ov_lenR 0 rfl rfl Tryd.underlying50 rfl) ?_
     refine al_in rfl rfl rfl rfl ?_
     refine al_nt ?_
     refine aw_cond rfl (fun hb30 => ?_) (fun hb30 => ?_)
     ·replace h := bif_t hb30 h
      refine aw_skip ?_
      refine aq_then ?_
      refine aw_block ?_
      refine aw_seq ?_
      refine aw_sr ?_
      refine al_mv rfl rfl ?_
      refine al_mv rfl rfl ?_
      obtain ⟨u31, hu32, h⟩ := opt_some h
      refine al_idxR 0 (at_some hu32).1 (at_some hu32).2.1 rfl rfl rfl Tryd.underlying50 sz9 rfl (fun p33 hp34 => ?_)
      refine al_val (ov_loadR (ds := [(str u31)]) 0 rfl hp34 (at_some hu32).2.2 (fun h => h) rfl Tryd.underlying9 sz9 rfl rfl rfl) ?_
      refine al_mv rfl rfl ?_
      obtain ⟨r36, hc35, h⟩ := opt_some h
      refine al_call (vs := [(str u31), (str u10)]) (f_lumref_Less_ok fu u31 u10 hc35) [] [] [0] pre_nil rfl (by simp) (by decide) (.inl rfl) rfl Tryd.func68 rfl rfl rfl (fun _ => ?_)
      refine al_mv rfl rfl ?_
      refine al_ex rfl rfl rfl ?_
      refine al_ex rfl rfl rfl ?_
      refine al_as rfl rfl ?_
      refine al_as rfl rfl ?_
      refine al_nt ?_
      refine aw_sr ?_
      refine al_mv rfl rfl ?_
      refine al_val (ov_not rfl rfl) ?_
      refine al_nt ?_
      refine aw_cond rfl (fun hb37 => ?_) (fun hb37 => ?_)
      ·replace h := bif_t hb37 h
       refine aw_exit ?_
       refine aq_then_exit ?_
       refine aq_block_other rfl ?_
       refine aq_then_exit ?_
       refine aq_block_exit ?_
       exact aq_join l27i6 h (fun w a hm hs => norm hm hs [0] [0, 1] [(3, l3v3), (5, (str u10)), (6, (iq l27i6)), (9, v0_0), (10, (iq (a0.length : Int))), (11, (iq l3i11))] (by decide) ⟨rfl, rfl, rfl, rfl, rfl, rfl, trivial⟩)
      ·replace h := bif_f hb37 h
       refine aw_skip ?_
       refine aq_then ?_
       refine aw_region ?_
       refine al_mv rfl rfl ?_
       refine al_in rfl rfl rfl rfl ?_
       refine al_as rfl rfl ?_
       refine al_nil ?_
       refine aq_block ?_
       exact aq_again k28 (wq (l27i6 + (1 : Int))) (Nat.lt_succ_self _) h (fun w a hm hs => norm hm hs [0] [0, 1] [(3, l3v3), (5, (str u10)), (6, (iq (wq (l27i6 + (1 : Int))))), (9, v0_0), (10, (iq (a0.length : Int))), (11, (iq l3i11))] (by decide) ⟨rfl, rfl, rfl, rfl, rfl, rfl, trivial⟩)
     ·replace h := bif_f hb30 h
      refine aw_exit ?_
      refine aq_then_exit ?_
      refine aq_then_exit ?_
      refine aq_block_exit ?_
      exact aq_join l27i6 h (fun w a hm hs => norm hm hs [0] [0, 1] [(3, l3v3), (5, (str u10)), (6, (iq l27i6)), (9, v0_0), (10, (iq (a0.length : Int))), (11, (iq l3i11))] (by decide) ⟨rfl, rfl, rfl, rfl, rfl, rfl, trivial⟩)
  ·replace h := bif_f hb7 h
   refine aw_exit ?_
   refine aq_then_exit ?_
   refine aq_then_exit ?_
   refine aq_block_exit ?_
   exact aq_join (l3v3, l3x3) h (fun w a hm hs => norm hm hs [0] [0] [(3, l3v3)] (by decide) ⟨rfl, trivial⟩)
def f_lumref_itemAt_L6 (a0 : (List S_api_Item)) (a1 : (List UInt8)) (kk3 : (Unit → Option (S_api_Item × Bool))) : Nat → Int → Option (S_api_Item × Bool)
  | 0, _ => none
  | k5 + 1, l4i10 => (bif (decide (l4i10 < (a0.length : Int))) then (opt (at? a0 l4i10) fun (u8 : S_api_Item) => (bif (u8.Path == a1) then (some (u8, true)) else (f_lumref_itemAt_L6 a0 a1 kk3 k5 (IntKind.i64.wrap (l4i10 + (1 : Int)))))) else (kk3 ()))
def f_lumref_itemAt (fu : Nat) (a0 : (List S_api_Item)) (a1 : (List UInt8)) : Option (S_api_Item × Bool) := (lt (fun (_ : Unit) => (some ((S_api_Item.mk ([] : List UInt8) (0 : Int) (0 : Int) (0 : Int) ([] : List UInt8)), false))) fun (kk3 : Unit → Option (S_api_Item × Bool)) => (f_lumref_itemAt_L6 a0 a1 kk3 fu (0 : Int)))
set_option maxHeartbeats 2000000 in
set_option maxRecDepth 100000 in
theorem f_lumref_itemAt_ok (fu : Nat) (v0_0 : Value) (a0 : (List S_api_Item)) (a1 : (List UInt8)) {r : (S_api_Item × Bool)} (h : f_lumref_itemAt fu a0 a1 = some r) : FnOk Tryd.prog 57 [v0_0, (str a1)] [(fDat (tyList tyS_api_Item) [v0_0] a0)] [] (fun (i : Unit) => { val := (Value.tuple #[(ag [(str r.1.Path), (int .i64 r.1.Kind), (int .i64 r.1.Mode), (int .i64 r.1.Time), (str r.1.Bytes)]), (bool r.2)]) }) := by
 unfold f_lumref_itemAt at h
 refine fn_enter Tryd.func57 rfl Tryd.ntmps57 rfl (fun w0 Z0 => ?_)
 refine aw_sr ?_
 refine al_alloc (zs := [(str ([] : List UInt8)), (iq (0 : Int)), (iq (0 : Int)), (iq (0 : Int)), (str ([] : List UInt8))]) (zeroOf_to to41) rfl rfl (fun g1 => ?_)
 refine al_as rfl rfl ?_
 refine al_nt ?_
 obtain ⟨kk3, hkk3, h⟩ := lt_some h
 refine aw_seq_join (ι := Unit) (fun i => (memOf w0 Z0 [] [(oBox g1 41 [(str ([] : List UInt8)), (iq (0 : Int)), (iq (0 : Int)), (iq (0 : Int)), (str ([] : List UInt8))])] [(fDat (tyList tyS_api_Item) [v0_0] a0)])) (fun i => (tab [(4, (pq g1))])) (fun i => kk3 () = some r) ?_ ?_
 ·rintro _ h
  have h : kk3 () = some r := h
  rw [hkk3] at h
  dsimp only at h
  clear hkk3
  refine aw_show (m := (memOf w0 Z0 [] [(oBox g1 41 [(str ([] : List UInt8)), (iq (0 : Int)), (iq (0 : Int)), (iq (0 : Int)), (str ([] : List UInt8))])] [(fDat (tyList tyS_api_Item) [v0_0] a0)])) (S := (tab [(4, (pq g1))])) ?_
  refine aw_sr ?_
  refine al_val (ov_build (cells := ([(str ([] : List UInt8)), (iq (0 : Int)), (iq (0 : Int)), (iq (0 : Int)), (str ([] : List UInt8))]).toArray) (cs := [(str ([] : List UInt8)), (iq (0 : Int)), (iq (0 : Int)), (iq (0 : Int)), (str ([] : List UInt8))]) rfl (fun w a hm hs => by simp only [List.map_toArray, List.map_cons, List.map_nil, List.toList_toArray]; kernel_rfl)) ?_
  refine al_store (i := 0) (vs := [(str ([] : List UInt8)), (iq (0 : Int)), (iq (0 : Int)), (iq (0 : Int)), (str ([] : List UInt8))]) (cs' := [(str ([] : List UInt8)), (iq (0 : Int)), (iq (0 : Int)), (iq (0 : Int)), (str ([] : List UInt8))]) rfl rfl rfl sz41 (cv_rfl rfl) rfl (co_val rfl (co_val rfl (co_val rfl (co_val rfl (co_val rfl co_nil))))) (Nat.le_of_ble_eq_true rfl) rfl rfl ?_
  refine al_as rfl rfl ?_
  refine al_nt ?_
  refine aw_ret ?_
  obtain rfl := Option.some.inj h
  exact fn_ret () [] [] rfl rfl rfl rfl (resC rfl (resB (i := 0) rfl rfl Tryd.underlying41 sz41 rfl rfl rfl (resT rfl (resN))) rfl) rfl rfl rfl (by decide)
 ·clear hkk3
  refine aw_sr ?_
  refine al_mv rfl rfl ?_
  refine al_val (ov_lenD 0 rfl rfl Tryd.underlying35 rfl) ?_
  refine al_mv rfl rfl ?_
  refine al_nt ?_
  refine aw_block ?_
  refine aw_state (aw_loop (ι := Int) (fun i => (memOf w0 Z0 [] [(oBox g1 41 [(str ([] : List UInt8)), (iq (0 : Int)), (iq (0 : Int)), (iq (0 : Int)), (str ([] : List UInt8))])] [(fDat (tyList tyS_api_Item) [v0_0] a0)])) (fun i => (tab [(1, (str a1)), (4, (pq g1)), (8, v0_0), (9, (iq (a0.length : Int))), (10, (iq i))])) (fun q i => f_lumref_itemAt_L6 a0 a1 kk3 q i = some r) ?_ fu (0 : Int) h) (fun w a hm hs => norm hm hs [0] [0] [(1, (str a1)), (4, (pq g1)), (8, v0_0), (9, (iq (a0.length : Int))), (10, (iq (0 : Int)))] (by decide) ⟨rfl, rfl, rfl, rfl, rfl, trivial⟩)
  clear h
  rintro k5 l4i10 h
  have h : f_lumref_itemAt_L6 a0 a1 kk3 k5 l4i10 = some r := h
  obtain _ | k5 := k5
  · rw [f_lumref_itemAt_L6] at h; cases h
  rw [f_lumref_itemAt_L6] at h
  refine aw_show (m := (memOf w0 Z0 [] [(oBox g1 41 [(str ([] : List UInt8)), (iq (0 : Int)), (iq (0 : Int)), (iq (0 : Int)), (str ([] : List UInt8))])] [(fDat (tyList tyS_api_Item) [v0_0] a0)])) (S := (tab [(1, (str a1)), (4, (pq g1)), (8, v0_0), (9, (iq (a0.length : Int))), (10, (iq l4i10))])) ?_
  refine aw_sr ?_
  refine al_in rfl rfl rfl rfl ?_
  refine al_nt ?_
  refine aw_seq ?_
  refine aw_cond rfl (fun hb7 => ?_) (fun hb7 => ?_)
  ·replace h := bif_t hb7 h
   refine aw_skip ?_
   refine aq_then ?_
   refine aw_seq ?_
   refine aw_block ?_
   refine aw_sr ?_
   obtain ⟨u8, hu9, h⟩ := opt_some h
   refine al_idxD 0 hu9 rfl rfl rfl Tryd.underlying35 sz41 rfl (fun p10 => ?_)
   refine al_val (ov_loadP (ds := [(str u8.Path), (iq u8.Kind), (iq u8.Mode), (iq u8.Time), (str u8.Bytes)]) 0 rfl encS_api_Item rfl Tryd.underlying41 sz41 rfl rfl rfl) ?_
   refine al_alloc (zs := [(str ([] : List UInt8)), (iq (0 : Int)), (iq (0 : Int)), (iq (0 : Int)), (str ([] : List UInt8))]) (zeroOf_to to41) rfl rfl (fun g11 => ?_)
   refine al_store (i := 0) (vs := [(str u8.Path), (iq u8.Kind), (iq u8.Mode), (iq u8.Time), (str u8.Bytes)]) (cs' := [(str u8.Path), (iq u8.Kind), (iq u8.Mode), (iq u8.Time), (str u8.Bytes)]) rfl rfl rfl sz41 (cv_rfl rfl) rfl (co_val rfl (co_val rfl (co_val rfl (co_val rfl (co_val rfl co_nil))))) (Nat.le_of_ble_eq_true rfl) rfl rfl ?_
   refine al_nt ?_
   refine aw_sr ?_
   refine al_val (ov_fieldA (p := 0) rfl Tryd.underlying41 rfl sz9 rfl rfl rfl) ?_
   refine al_val (ov_load (i := 0) (v := (str u8.Path)) rfl rfl Tryd.underlying9 sz9 rfl rfl rfl rfl) ?_
   refine al_mv rfl rfl ?_
   refine al_val (ov_strCmp rfl rfl rfl rfl) ?_
   refine al_nt ?_
   refine aw_cond rfl (fun hb12 => ?_) (fun hb12 => ?_)
   ·replace h := bif_t hb12 h
    refine aw_sr ?_
    refine al_val (ov_load (i := 0) (v := (ag [(str u8.Path), (iq u8.Kind), (iq u8.Mode), (iq u8.Time), (str u8.Bytes)])) rfl rfl Tryd.underlying41 sz41 rfl rfl rfl rfl) ?_
    refine al_store (i := 1) (vs := [(str u8.Path), (iq u8.Kind), (iq u8.Mode), (iq u8.Time), (str u8.Bytes)]) (cs' := [(str u8.Path), (iq u8.Kind), (iq u8.Mode), (iq u8.Time), (str u8.Bytes)]) rfl rfl rfl sz41 (cv_rfl rfl) rfl (co_val rfl (co_val rfl (co_val rfl (co_val rfl (co_val rfl co_nil))))) (Nat.le_of_ble_eq_true rfl) rfl rfl ?_
    refine al_as rfl rfl ?_
    refine al_nt ?_
    refine aw_ret ?_
    refine aq_block_ret ?_
    refine aq_then_ret ?_
    refine aq_then_ret ?_
    refine aq_block_ret ?_
    refine aq_then_ret ?_
    obtain rfl := Option.some.inj h
    exact fn_ret () [] [] rfl rfl rfl rfl (resC rfl (resB (i := 1) rfl rfl Tryd.underlying41 sz41 rfl rfl rfl (resT rfl (resN))) rfl) rfl rfl rfl (by decide)
   ·replace h := bif_f hb12 h
    refine aw_skip ?_
    refine aq_block ?_
    refine aq_then ?_
    refine aw_region ?_
    refine al_in rfl rfl rfl rfl ?_
    refine al_mv rfl rfl ?_
    refine al_nil ?_
    exact aq_again k5 (wq (l4i10 + (1 : Int))) (Nat.lt_succ_self _) h (fun w a hm hs => norm hm hs [1] [1] [(1, (str a1)), (4, (pq g1)), (8, v0_0), (9, (iq (a0.length : Int))), (10, (iq (wq (l4i10 + (1 : Int)))))] (by decide) ⟨rfl, rfl, rfl, rfl, rfl, trivial⟩)
  ·replace h := bif_f hb7 h
   refine aw_exit ?_
   refine aq_then_exit ?_
   refine aq_then_exit ?_
   refine aq_block_exit ?_
   exact aq_join () h (fun w a hm hs => norm hm hs [0] [0] [(4, (pq g1))] (by decide) ⟨rfl, trivial⟩)
def f_lumref_editAt_L6 (a0 : (List S_api_Edit)) (a1 : (List UInt8)) (kk3 : (Unit → Option (S_api_Edit × Bool))) : Nat → Int → Option (S_api_Edit × Bool)
  | 0, _ => none
  | k5 + 1, l4i10 => (bif (decide (l4i10 < (a0.length : Int))) then (opt (at? a0 l4i10) fun (u8 : S_api_Edit) => (bif (u8.Path == a1) then (some (u8, true)) else (f_lumref_editAt_L6 a0 a1 kk3 k5 (IntKind.i64.wrap (l4i10 + (1 : Int)))))) else (kk3 ()))
def f_lumref_editAt (fu : Nat) (a0 : (List S_api_Edit)) (a1 : (List UInt8)) : Option (S_api_Edit × Bool) := (lt (fun (_ : Unit) => (some ((S_api_Edit.mk ([] : List UInt8) false (S_api_Item.mk ([] : List UInt8) (0 : Int) (0 : Int) (0 : Int) ([] : List UInt8))), false))) fun (kk3 : Unit → Option (S_api_Edit × Bool)) => (f_lumref_editAt_L6 a0 a1 kk3 fu (0 : Int)))
set_option maxHeartbeats 2000000 in
set_option maxRecDepth 100000 in
theorem f_lumref_editAt_ok (fu : Nat) (v0_0 : Value) (a0 : (List S_api_Edit)) (a1 : (List UInt8)) {r : (S_api_Edit × Bool)} (h : f_lumref_editAt fu a0 a1 = some r) : FnOk Tryd.prog 61 [v0_0, (str a1)] [(fDat (tyList tyS_api_Edit) [v0_0] a0)] [] (fun (i : Unit) => { val := (Value.tuple #[(ag [(str r.1.Path), (bool r.1.Gone), (str r.1.Item.Path), (int .i64 r.1.Item.Kind), (int .i64 r.1.Item.Mode), (int .i64 r.1.Item.Time), (str r.1.Item.Bytes)]), (bool r.2)]) }) := by
 unfold f_lumref_editAt at h
 refine fn_enter Tryd.func61 rfl Tryd.ntmps61 rfl (fun w0 Z0 => ?_)
 refine aw_sr ?_
 refine al_alloc (zs := [(str ([] : List UInt8)), (bool false), (str ([] : List UInt8)), (iq (0 : Int)), (iq (0 : Int)), (iq (0 : Int)), (str ([] : List UInt8))]) (zeroOf_to to43) rfl rfl (fun g1 => ?_)
 refine al_as rfl rfl ?_
 refine al_nt ?_
 obtain ⟨kk3, hkk3, h⟩ := lt_some h
 refine aw_seq_join (ι := Unit) (fun i => (memOf w0 Z0 [] [(oBox g1 43 [(str ([] : List UInt8)), (bool false), (str ([] : List UInt8)), (iq (0 : Int)), (iq (0 : Int)), (iq (0 : Int)), (str ([] : List UInt8))])] [(fDat (tyList tyS_api_Edit) [v0_0] a0)])) (fun i => (tab [(4, (pq g1))])) (fun i => kk3 () = some r) ?_ ?_
 ·rintro _ h
  have h : kk3 () = some r := h
  rw [hkk3] at h
  dsimp only at h
  clear hkk3
  refine aw_show (m := (memOf w0 Z0 [] [(oBox g1 43 [(str ([] : List UInt8)), (bool false), (str ([] : List UInt8)), (iq (0 : Int)), (iq (0 : Int)), (iq (0 : Int)), (str ([] : List UInt8))])] [(fDat (tyList tyS_api_Edit) [v0_0] a0)])) (S := (tab [(4, (pq g1))])) ?_
  refine aw_sr ?_
  refine al_val (ov_build (cells := ([(str ([] : List UInt8)), (bool false), (str ([] : List UInt8)), (iq (0 : Int)), (iq (0 : Int)), (iq (0 : Int)), (str ([] : List UInt8))]).toArray) (cs := [(str ([] : List UInt8)), (bool false), (str ([] : List UInt8)), (iq (0 : Int)), (iq (0 : Int)), (iq (0 : Int)), (str ([] : List UInt8))]) rfl (fun w a hm hs => by simp only [List.map_toArray, List.map_cons, List.map_nil, List.toList_toArray]; kernel_rfl)) ?_
  refine al_store (i := 0) (vs := [(str ([] : List UInt8)), (bool false), (str ([] : List UInt8)), (iq (0 : Int)), (iq (0 : Int)), (iq (0 : Int)), (str ([] : List UInt8))]) (cs' := [(str ([] : List UInt8)), (bool false), (str ([] : List UInt8)), (iq (0 : Int)), (iq (0 : Int)), (iq (0 : Int)), (str ([] : List UInt8))]) rfl rfl rfl sz43 (cv_rfl rfl) rfl (co_val rfl (co_val rfl (co_val rfl (co_val rfl (co_val rfl (co_val rfl (co_val rfl co_nil))))))) (Nat.le_of_ble_eq_true rfl) rfl rfl ?_
  refine al_as rfl rfl ?_
  refine al_nt ?_
  refine aw_ret ?_
  obtain rfl := Option.some.inj h
  exact fn_ret () [] [] rfl rfl rfl rfl (resC rfl (resB (i := 0) rfl rfl Tryd.underlying43 sz43 rfl rfl rfl (resT rfl (resN))) rfl) rfl rfl rfl (by decide)
 ·clear hkk3
  refine aw_sr ?_
  refine al_mv rfl rfl ?_
  refine al_val (ov_lenD 0 rfl rfl Tryd.underlying36 rfl) ?_
  refine al_mv rfl rfl ?_
  refine al_nt ?_
  refine aw_block ?_
  refine aw_state (aw_loop (ι := Int) (fun i => (memOf w0 Z0 [] [(oBox g1 43 [(str ([] : List UInt8)), (bool false), (str ([] : List UInt8)), (iq (0 : Int)), (iq (0 : Int)), (iq (0 : Int)), (str ([] : List UInt8))])] [(fDat (tyList tyS_api_Edit) [v0_0] a0)])) (fun i => (tab [(1, (str a1)), (4, (pq g1)), (8, v0_0), (9, (iq (a0.length : Int))), (10, (iq i))])) (fun q i => f_lumref_editAt_L6 a0 a1 kk3 q i = some r) ?_ fu (0 : Int) h) (fun w a hm hs => norm hm hs [0] [0] [(1, (str a1)), (4, (pq g1)), (8, v0_0), (9, (iq (a0.length : Int))), (10, (iq (0 : Int)))] (by decide) ⟨rfl, rfl, rfl, rfl, rfl, trivial⟩)
  clear h
  rintro k5 l4i10 h
  have h : f_lumref_editAt_L6 a0 a1 kk3 k5 l4i10 = some r := h
  obtain _ | k5 := k5
  · rw [f_lumref_editAt_L6] at h; cases h
  rw [f_lumref_editAt_L6] at h
  refine aw_show (m := (memOf w0 Z0 [] [(oBox g1 43 [(str ([] : List UInt8)), (bool false), (str ([] : List UInt8)), (iq (0 : Int)), (iq (0 : Int)), (iq (0 : Int)), (str ([] : List UInt8))])] [(fDat (tyList tyS_api_Edit) [v0_0] a0)])) (S := (tab [(1, (str a1)), (4, (pq g1)), (8, v0_0), (9, (iq (a0.length : Int))), (10, (iq l4i10))])) ?_
  refine aw_sr ?_
  refine al_in rfl rfl rfl rfl ?_
  refine al_nt ?_
  refine aw_seq ?_
  refine aw_cond rfl (fun hb7 => ?_) (fun hb7 => ?_)
  ·replace h := bif_t hb7 h
   refine aw_skip ?_
   refine aq_then ?_
   refine aw_seq ?_
   refine aw_block ?_
   refine aw_sr ?_
   obtain ⟨u8, hu9, h⟩ := opt_some h
   refine al_idxD 0 hu9 rfl rfl rfl Tryd.underlying36 sz43 rfl (fun p10 => ?_)
   refine al_val (ov_loadP (ds := [(str u8.Path), (bool u8.Gone), (str u8.Item.Path), (iq u8.Item.Kind), (iq u8.Item.Mode), (iq u8.Item.Time), (str u8.Item.Bytes)]) 0 rfl encS_api_Edit rfl Tryd.underlying43 sz43 rfl rfl rfl) ?_
   refine al_alloc (zs := [(str ([] : List UInt8)), (bool false), (str ([] : List UInt8)), (iq (0 : Int)), (iq (0 : Int)), (iq (0 : Int)), (str ([] : List UInt8))]) (zeroOf_to to43) rfl rfl (fun g11 => ?_)
   refine al_store (i := 0) (vs := [(str u8.Path), (bool u8.Gone), (str u8.Item.Path), (iq u8.Item.Kind), (iq u8.Item.Mode), (iq u8.Item.Time), (str u8.Item.Bytes)]) (cs' := [(str u8.Path), (bool u8.Gone), (str u8.Item.Path), (iq u8.Item.Kind), (iq u8.Item.Mode), (iq u8.Item.Time), (str u8.Item.Bytes)]) rfl rfl rfl sz43 (cv_rfl rfl) rfl (co_val rfl (co_val rfl (co_val rfl (co_val rfl (co_val rfl (co_val rfl (co_val rfl co_nil))))))) (Nat.le_of_ble_eq_true rfl) rfl rfl ?_
   refine al_nt ?_
   refine aw_sr ?_
   refine al_val (ov_fieldA (p := 0) rfl Tryd.underlying43 rfl sz9 rfl rfl rfl) ?_
   refine al_val (ov_load (i := 0) (v := (str u8.Path)) rfl rfl Tryd.underlying9 sz9 rfl rfl rfl rfl) ?_
   refine al_mv rfl rfl ?_
   refine al_val (ov_strCmp rfl rfl rfl rfl) ?_
   refine al_nt ?_
   refine aw_cond rfl (fun hb12 => ?_) (fun hb12 => ?_)
   ·replace h := bif_t hb12 h
    refine aw_sr ?_
    refine al_val (ov_load (i := 0) (v := (ag [(str u8.Path), (bool u8.Gone), (str u8.Item.Path), (iq u8.Item.Kind), (iq u8.Item.Mode), (iq u8.Item.Time), (str u8.Item.Bytes)])) rfl rfl Tryd.underlying43 sz43 rfl rfl rfl rfl) ?_
    refine al_store (i := 1) (vs := [(str u8.Path), (bool u8.Gone), (str u8.Item.Path), (iq u8.Item.Kind), (iq u8.Item.Mode), (iq u8.Item.Time), (str u8.Item.Bytes)]) (cs' := [(str u8.Path), (bool u8.Gone), (str u8.Item.Path), (iq u8.Item.Kind), (iq u8.Item.Mode), (iq u8.Item.Time), (str u8.Item.Bytes)]) rfl rfl rfl sz43 (cv_rfl rfl) rfl (co_val rfl (co_val rfl (co_val rfl (co_val rfl (co_val rfl (co_val rfl (co_val rfl co_nil))))))) (Nat.le_of_ble_eq_true rfl) rfl rfl ?_
    refine al_as rfl rfl ?_
    refine al_nt ?_
    refine aw_ret ?_
    refine aq_block_ret ?_
    refine aq_then_ret ?_
    refine aq_then_ret ?_
    refine aq_block_ret ?_
    refine aq_then_ret ?_
    obtain rfl := Option.some.inj h
    exact fn_ret () [] [] rfl rfl rfl rfl (resC rfl (resB (i := 1) rfl rfl Tryd.underlying43 sz43 rfl rfl rfl (resT rfl (resN))) rfl) rfl rfl rfl (by decide)
   ·replace h := bif_f hb12 h
    refine aw_skip ?_
    refine aq_block ?_
    refine aq_then ?_
    refine aw_region ?_
    refine al_in rfl rfl rfl rfl ?_
    refine al_mv rfl rfl ?_
    refine al_nil ?_
    exact aq_again k5 (wq (l4i10 + (1 : Int))) (Nat.lt_succ_self _) h (fun w a hm hs => norm hm hs [1] [1] [(1, (str a1)), (4, (pq g1)), (8, v0_0), (9, (iq (a0.length : Int))), (10, (iq (wq (l4i10 + (1 : Int)))))] (by decide) ⟨rfl, rfl, rfl, rfl, rfl, trivial⟩)
  ·replace h := bif_f hb7 h
   refine aw_exit ?_
   refine aq_then_exit ?_
   refine aq_then_exit ?_
   refine aq_block_exit ?_
   exact aq_join () h (fun w a hm hs => norm hm hs [0] [0] [(4, (pq g1))] (by decide) ⟨rfl, trivial⟩)
def f_lumref_Apply_L21 (a0 : (List S_api_Item)) (a1 : (List S_api_Edit)) (kk12 : ((List S_api_Item) → Option ((List S_api_Item) × Int))) (r17 : (List (List UInt8))) (fu : Nat) : Nat → (List S_api_Item) → Int → Option ((List S_api_Item) × Int)
  | 0, _, _ => none
  | k20 + 1, l19x13, l19i58 => (bif (decide (l19i58 < (r17.length : Int))) then (lt (fun (j23x13 : (List S_api_Item)) => (f_lumref_Apply_L21 a0 a1 kk12 r17 fu k20 j23x13 (IntKind.i64.wrap (l19i58 + (1 : Int))))) fun (kk24 : (List S_api_Item) → Option ((List S_api_Item) × Int)) => (opt (at? r17 l19i58) fun (u25 : (List UInt8)) => (opt (f_lumref_itemAt fu a0 u25) fun (r30 : (S_api_Item × Bool)) => (lt (fun (j32s16_0 : (List UInt8)) (j32i16_1 : Int) (j32i16_2 : Int) (j32i16_3 : Int) (j32s16_4 : (List UInt8)) (j32b17 : Bool) => (bif j32b17 then (req (((l19x13.length + ([(S_api_Item.mk j32s16_0 j32i16_1 j32i16_2 j32i16_3 j32s16_4)]).length) * 56 : Nat) ≤ 140737488355328 ∧ l19x13.length + ([(S_api_Item.mk j32s16_0 j32i16_1 j32i16_2 j32i16_3 j32s16_4)]).length ≤ 9223372036854775807) (kk24 (l19x13 ++ ([(S_api_Item.mk j32s16_0 j32i16_1 j32i16_2 j32i16_3 j32s16_4)])))) else (kk24 l19x13))) fun (kk33 : (List UInt8) → Int → Int → Int → (List UInt8) → Bool → Option ((List S_api_Item) × Int)) => (opt (f_lumref_editAt fu a1 u25) fun (r39 : (S_api_Edit × Bool)) => (bif r39.2 then (kk33 r39.1.Item.Path r39.1.Item.Kind r39.1.Item.Mode r39.1.Item.Time r39.1.Item.Bytes (!r39.1.Gone)) else (kk33 r30.1.Path r30.1.Kind r30.1.Mode r30.1.Time r30.1.Bytes r30.2))))))) else (kk12 l19x13))
def f_lumref_Apply_L44 (a1 : (List S_api_Edit)) (kk10 : ((List (List UInt8)) → Option ((List S_api_Item) × Int))) : Nat → (List (List UInt8)) → Int → Option ((List S_api_Item) × Int)
  | 0, _, _ => none
  | k43 + 1, l42x8, l42i45 => (bif (decide (l42i45 < (a1.length : Int))) then (opt (at? a1 l42i45) fun (u46 : S_api_Edit) => (req (((l42x8.length + ([u46.Path]).length) * 16 : Nat) ≤ 140737488355328 ∧ l42x8.length + ([u46.Path]).length ≤ 9223372036854775807) (f_lumref_Apply_L44 a1 kk10 k43 (l42x8 ++ ([u46.Path])) (IntKind.i64.wrap (l42i45 + (1 : Int)))))) else (kk10 l42x8))
def f_lumref_Apply_L55 (a0 : (List S_api_Item)) (kk8 : ((List (List UInt8)) → Option ((List S_api_Item) × Int))) : Nat → (List (List UInt8)) → Int → Option ((List S_api_Item) × Int)
  | 0, _, _ => none
  | k54 + 1, l53x8, l53i33 => (bif (decide (l53i33 < (a0.length : Int))) then (opt (at? a0 l53i33) fun (u57 : S_api_Item) => (req (((l53x8.length + ([u57.Path]).length) * 16 : Nat) ≤ 140737488355328 ∧ l53x8.length + ([u57.Path]).length ≤ 9223372036854775807) (f_lumref_Apply_L55 a0 kk8 k54 (l53x8 ++ ([u57.Path])) (IntKind.i64.wrap (l53i33 + (1 : Int)))))) else (kk8 l53x8))
def f_lumref_Apply (fu : Nat) (a0 : (List S_api_Item)) (a1 : (List S_api_Edit)) : Option ((List S_api_Item) × Int) := (opt (f_lumref_World fu a0) fun (r2 : Int) => (bif (r2 != (0 : Int)) then (some (([] : List S_api_Item), r2)) else (opt (f_lumref_Edits fu a1) fun (r5 : Int) => (bif (r5 != (0 : Int)) then (some (([] : List S_api_Item), r5)) else (lt (fun (j7x8 : (List (List UInt8))) => (lt (fun (j9x8 : (List (List UInt8))) => (lt (fun (j11x13 : (List S_api_Item)) => (opt (f_lumref_World fu j11x13) fun (r14 : Int) => (bif (r14 != (0 : Int)) then (some (([] : List S_api_Item), r14)) else (some (j11x13, (0 : Int)))))) fun (kk12 : (List S_api_Item) → Option ((List S_api_Item) × Int)) => (opt (f_lumref_allPaths fu j9x8) fun (r17 : (List (List UInt8))) => (f_lumref_Apply_L21 a0 a1 kk12 r17 fu fu ([] : List S_api_Item) (0 : Int))))) fun (kk10 : (List (List UInt8)) → Option ((List S_api_Item) × Int)) => (f_lumref_Apply_L44 a1 kk10 fu j7x8 (0 : Int)))) fun (kk8 : (List (List UInt8)) → Option ((List S_api_Item) × Int)) => (f_lumref_Apply_L55 a0 kk8 fu ([] : List (List UInt8)) (0 : Int)))))))
set_option maxRecDepth 100000 in
set_option maxHeartbeats 2000000 in
set_option maxHeartbeats 2000000 in
theorem f_lumref_Apply_ok (fu : Nat) (v0_0 : Value) (a0 : (List S_api_Item)) (v1_0 : Value) (a1 : (List S_api_Edit)) {r : ((List S_api_Item) × Int)} (h : f_lumref_Apply fu a0 a1 = some r) : FnOk Tryd.prog 20 [v0_0, v1_0] [(fDat (tyList tyS_api_Item) [v0_0] a0), (fDat (tyList tyS_api_Edit) [v1_0] a1)] [] (fun (i : Value) => { val := (Value.tuple #[i, (int .i64 r.2)]), own := [(oRow i 41 tyS_api_Item r.1)] }) := by
 unfold f_lumref_Apply at h
 refine fn_enter Tryd.func20 rfl Tryd.ntmps20 rfl (fun w0 Z0 => ?_)
 refine aw_sr ?_
 refine al_as rfl rfl ?_
 refine al_as rfl rfl ?_
 refine al_nt ?_
 refine aw_seq ?_
 refine aw_sr ?_
 refine al_mv rfl rfl ?_
 obtain ⟨r2, hc1, h⟩ := opt_some h
 refine al_call (vs := [v0_0]) (f_lumref_World_ok fu v0_0 a0 hc1) [] [] [] (pre_fz 0 rfl pre_nil) rfl (by simp) (by decide) (.inl rfl) rfl Tryd.func54 rfl rfl rfl (fun _ => ?_)
 refine al_as rfl rfl ?_
 refine al_nt ?_
 refine aw_sr ?_
 refine al_mv rfl rfl ?_
 refine al_in rfl rfl rfl rfl ?_
 refine al_nt ?_
 refine aw_cond rfl (fun hb3 => ?_) (fun hb3 => ?_)
 ·replace h := bif_t hb3 h
  refine aw_sr ?_
  refine al_mv rfl rfl ?_
  refine al_as rfl rfl ?_
  refine al_as rfl rfl ?_
  refine al_nt ?_
  refine aw_ret ?_
  refine aq_then_ret ?_
  refine aq_nilR 41 tyS_api_Item ?_
  obtain rfl := Option.some.inj h
  exact fn_ret nS [0] [] rfl rfl rfl rfl (res2 rfl rfl rfl) rfl rfl rfl (by decide)
 ·replace h := bif_f hb3 h
  refine aw_skip ?_
  refine aq_then ?_
  refine aw_seq ?_
  refine aw_sr ?_
  refine al_mv rfl rfl ?_
  obtain ⟨r5, hc4, h⟩ := opt_some h
  refine al_call (vs := [v1_0]) (f_lumref_Edits_ok fu v1_0 a1 hc4) [] [] [] (pre_fz 1 rfl pre_nil) rfl (by simp) (by decide) (.inl rfl) rfl Tryd.func24 rfl rfl rfl (fun _ => ?_)
  refine al_as rfl rfl ?_
  refine al_nt ?_
  refine aw_sr ?_
  refine al_mv rfl rfl ?_
  refine al_in rfl rfl rfl rfl ?_
  refine al_nt ?_
  refine aw_cond rfl (fun hb6 => ?_) (fun hb6 => ?_)
  ·replace h := bif_t hb6 h
   refine aw_sr ?_
   refine al_mv rfl rfl ?_
   refine al_as rfl rfl ?_
   refine al_as rfl rfl ?_
   refine al_nt ?_
   refine aw_ret ?_
   refine aq_then_ret ?_
   refine aq_nilR 41 tyS_api_Item ?_
   obtain rfl := Option.some.inj h
   exact fn_ret nS [0] [] rfl rfl rfl rfl (res2 rfl rfl rfl) rfl rfl rfl (by decide)
  ·replace h := bif_f hb6 h
   refine aw_skip ?_
   refine aq_tr ?_
   refine al_as rfl rfl ?_
   refine al_nt ?_
   obtain ⟨kk8, hkk8, h⟩ := lt_some h
   refine aw_seq_join (ι := Value × (List (List UInt8))) (fun i => (memOf w0 Z0 [] [(oRow i.1 9 tyStr i.2)] [(fDat (tyList tyS_api_Item) [v0_0] a0), (fDat (tyList tyS_api_Edit) [v1_0] a1)])) (fun i => (tab [(0, v0_0), (1, v1_0), (8, i.1)])) (fun i => kk8 i.2 = some r) ?_ ?_
   ·rintro ⟨j7v8, j7x8⟩ h
    have h : kk8 j7x8 = some r := h
    rw [hkk8] at h
    dsimp only at h
    clear hkk8
    refine aw_show (m := (memOf w0 Z0 [] [(oRow j7v8 9 tyStr j7x8)] [(fDat (tyList tyS_api_Item) [v0_0] a0), (fDat (tyList tyS_api_Edit) [v1_0] a1)])) (S := (tab [(0, v0_0), (1, v1_0), (8, j7v8)])) ?_
    obtain ⟨kk10, hkk10, h⟩ := lt_some h
    refine aw_seq_join (ι := Value × (List (List UInt8))) (fun i => (memOf w0 Z0 [] [(oRow i.1 9 tyStr i.2)] [(fDat (tyList tyS_api_Item) [v0_0] a0), (fDat (tyList tyS_api_Edit) [v1_0] a1)])) (fun i => (tab [(0, v0_0), (1, v1_0), (8, i.1)])) (fun i => kk10 i.2 = some r) ?_ ?_
    ·rintro ⟨j9v8, j9x8⟩ h
     have h : kk10 j9x8 = some r := h
     rw [hkk10] at h
     dsimp only at h
     clear hkk10
     refine aw_show (m := (memOf w0 Z0 [] [(oRow j9v8 9 tyStr j9x8)] [(fDat (tyList tyS_api_Item) [v0_0] a0), (fDat (tyList tyS_api_Edit) [v1_0] a1)])) (S := (tab [(0, v0_0), (1, v1_0), (8, j9v8)])) ?_
     refine aw_sr ?_
     refine al_as rfl rfl ?_
     refine al_nt ?_
     obtain ⟨kk12, hkk12, h⟩ := lt_some h
     refine aw_seq_join (ι := Value × (List S_api_Item)) (fun i => (memOf w0 Z0 [] [(oRow i.1 41 tyS_api_Item i.2)] [(fDat (tyList tyS_api_Item) [v0_0] a0), (fDat (tyList tyS_api_Edit) [v1_0] a1)])) (fun i => (tab [(13, i.1)])) (fun i => kk12 i.2 = some r) ?_ ?_
     ·rintro ⟨j11v13, j11x13⟩ h
      have h : kk12 j11x13 = some r := h
      rw [hkk12] at h
      dsimp only at h
      clear hkk12
      refine aw_show (m := (memOf w0 Z0 [] [(oRow j11v13 41 tyS_api_Item j11x13)] [(fDat (tyList tyS_api_Item) [v0_0] a0), (fDat (tyList tyS_api_Edit) [v1_0] a1)])) (S := (tab [(13, j11v13)])) ?_
      refine aw_seq ?_
      refine aw_sr ?_
      refine al_mv rfl rfl ?_
      obtain ⟨r14, hc13, h⟩ := opt_some h
      refine al_call (vs := [j11v13]) (f_lumref_World_ok fu j11v13 j11x13 hc13) [0] [] [0] (pre_own 0 rfl rfl pre_nil) rfl (by simp) (by decide) (.inr flat_res0) rfl Tryd.func54 rfl rfl rfl (fun _ => ?_)
      refine al_as rfl rfl ?_
      refine al_nt ?_
      refine aw_sr ?_
      refine al_mv rfl rfl ?_
      refine al_in rfl rfl rfl rfl ?_
      refine al_nt ?_
      refine aw_cond rfl (fun hb15 => ?_) (fun hb15 => ?_)
      ·replace h := bif_t hb15 h
       refine aw_sr ?_
       refine al_mv rfl rfl ?_
       refine al_as rfl rfl ?_
       refine al_as rfl rfl ?_
       refine al_nt ?_
       refine aw_ret ?_
       refine aq_then_ret ?_
       refine aq_nilR 41 tyS_api_Item ?_
       obtain rfl := Option.some.inj h
       exact fn_ret nS [0] [] rfl rfl rfl rfl (res2 rfl rfl rfl) rfl rfl rfl (by decide)
      ·replace h := bif_f hb15 h
       refine aw_skip ?_
       refine aq_tr ?_
       refine al_mv rfl rfl ?_
       refine al_as rfl rfl ?_
       refine al_as rfl rfl ?_
       refine al_nt ?_
       refine aw_ret ?_
       obtain rfl := Option.some.inj h
       exact fn_ret j11v13 [0] [] rfl rfl rfl rfl (res2 rfl rfl rfl) rfl rfl rfl (by decide)
     ·clear hkk12
      refine aw_sr ?_
      refine al_mv rfl rfl ?_
      obtain ⟨r17, hc16, h⟩ := opt_some h
      refine al_call (vs := [j9v8]) (f_lumref_allPaths_ok fu j9v8 j9x8 hc16) [0] [] [0] (pre_own 0 rfl rfl pre_nil) rfl (by simp) (by decide) (.inr (flat_res1 (fun _ => flat_row flat_enc))) rfl Tryd.func56 rfl rfl rfl (fun v18 => ?_)
      refine al_val (ov_lenR 0 rfl rfl Tryd.underlying50 rfl) ?_
      refine al_mv rfl rfl ?_
      refine al_nt ?_
      refine aw_block ?_
      refine aw_nilR 41 tyS_api_Item ?_
      refine aw_state (aw_loop (ι := Value × (List S_api_Item) × Int) (fun i => (memOf w0 Z0 [] [(oRow i.1 41 tyS_api_Item i.2.1), (oRow v18 9 tyStr r17)] [(fDat (tyList tyS_api_Item) [v0_0] a0), (fDat (tyList tyS_api_Edit) [v1_0] a1)])) (fun i => (tab [(0, v0_0), (1, v1_0), (13, i.1), (56, v18), (57, (iq (r17.length : Int))), (58, (iq i.2.2))])) (fun q i => f_lumref_Apply_L21 a0 a1 kk12 r17 fu q i.2.1 i.2.2 = some r) ?_ fu (nS, ([] : List S_api_Item), (0 : Int)) h) (fun w a hm hs => norm hm hs [0, 1] [0, 1] [(0, v0_0), (1, v1_0), (13, nS), (56, v18), (57, (iq (r17.length : Int))), (58, (iq (0 : Int)))] (by decide) ⟨rfl, rfl, rfl, rfl, rfl, rfl, trivial⟩)
      clear h
      rintro k20 ⟨l19v13, l19x13, l19i58⟩ h
      have h : f_lumref_Apply_L21 a0 a1 kk12 r17 fu k20 l19x13 l19i58 = some r := h
      obtain _ | k20 := k20
      · rw [f_lumref_Apply_L21] at h; cases h
      rw [f_lumref_Apply_L21] at h
      refine aw_show (m := (memOf w0 Z0 [] [(oRow l19v13 41 tyS_api_Item l19x13), (oRow v18 9 tyStr r17)] [(fDat (tyList tyS_api_Item) [v0_0] a0), (fDat (tyList tyS_api_Edit) [v1_0] a1)])) (S := (tab [(0, v0_0), (1, v1_0), (13, l19v13), (56, v18), (57, (iq (r17.length : Int))), (58, (iq l19i58))])) ?_
      refine aw_sr ?_
      refine al_in rfl rfl rfl rfl ?_
      refine al_nt ?_
      refine aw_seq ?_
      refine aw_cond rfl (fun hb22 => ?_) (fun hb22 => ?_)
      ·replace h := bif_t hb22 h
       refine aw_skip ?_
       refine aq_then ?_
       obtain ⟨kk24, hkk24, h⟩ := lt_some h
       refine aw_seq_join (ι := Value × (List S_api_Item)) (fun i => (memOf w0 Z0 [] [(oRow i.1 41 tyS_api_Item i.2), (oRow v18 9 tyStr r17)] [(fDat (tyList tyS_api_Item) [v0_0] a0), (fDat (tyList tyS_api_Edit) [v1_0] a1)])) (fun i => (tab [(0, v0_0), (1, v1_0), (13, i.1), (56, v18), (57, (iq (r17.length : Int))), (58, (iq l19i58))])) (fun i => kk24 i.2 = some r) ?_ ?_
       ·rintro ⟨j23v13, j23x13⟩ h
        have h : kk24 j23x13 = some r := h
        rw [hkk24] at h
        dsimp only at h
        clear hkk24
        refine aw_show (m := (memOf w0 Z0 [] [(oRow j23v13 41 tyS_api_Item j23x13), (oRow v18 9 tyStr r17)] [(fDat (tyList tyS_api_Item) [v0_0] a0), (fDat (tyList tyS_api_Edit) [v1_0] a1)])) (S := (tab [(0, v0_0), (1, v1_0), (13, j23v13), (56, v18), (57, (iq (r17.length : Int))), (58, (iq l19i58))])) ?_
        refine aw_region ?_
        refine al_in rfl rfl rfl rfl ?_
        refine al_mv rfl rfl ?_
        refine al_nil ?_
        exact aq_again k20 (j23v13, j23x13, (wq (l19i58 + (1 : Int)))) (Nat.lt_succ_self _) h (fun w a hm hs => norm hm hs [0, 1] [0, 1] [(0, v0_0), (1, v1_0), (13, j23v13), (56, v18), (57, (iq (r17.length : Int))), (58, (iq (wq (l19i58 + (1 : Int)))))] (by decide) ⟨rfl, rfl, rfl, rfl, rfl, rfl, trivial⟩)
       ·clear hkk24
        refine aw_block ?_
        refine aw_sr ?_
        obtain ⟨u25, hu26, h⟩ := opt_some h
        refine al_idxR 1 (at_some hu26).1 (at_some hu26).2.1 rfl rfl rfl Tryd.underlying50 sz9 rfl (fun p27 hp28 => ?_)
        refine al_val (ov_loadR (ds := [(str u25)]) 1 rfl hp28 (at_some hu26).2.2 (fun h => h) rfl Tryd.underlying9 sz9 rfl rfl rfl) ?_
        refine al_as rfl rfl ?_
        refine al_nt ?_
        refine aw_sr ?_
        refine al_mv rfl rfl ?_
        refine al_mv rfl rfl ?_
        obtain ⟨r30, hc29, h⟩ := opt_some h
        refine al_call (vs := [v0_0, (str u25)]) (f_lumref_itemAt_ok fu v0_0 a0 u25 hc29) [] [] [0, 1] (pre_fz 0 rfl pre_nil) rfl (by simp) (by decide) (.inl rfl) rfl Tryd.func57 rfl rfl rfl (fun _ => ?_)
        refine al_mv rfl rfl ?_
        refine al_ex rfl rfl rfl ?_
        refine al_ex rfl rfl rfl ?_
        refine al_alloc (zs := [(str ([] : List UInt8)), (iq (0 : Int)), (iq (0 : Int)), (iq (0 : Int)), (str ([] : List UInt8))]) (zeroOf_to to41) rfl rfl (fun g31 => ?_)
        refine al_store (i := 0) (vs := [(str r30.1.Path), (iq r30.1.Kind), (iq r30.1.Mode), (iq r30.1.Time), (str r30.1.Bytes)]) (cs' := [(str r30.1.Path), (iq r30.1.Kind), (iq r30.1.Mode), (iq r30.1.Time), (str r30.1.Bytes)]) rfl rfl rfl sz41 (cv_rfl rfl) rfl (co_val rfl (co_val rfl (co_val rfl (co_val rfl (co_val rfl co_nil))))) (Nat.le_of_ble_eq_true rfl) rfl rfl ?_
        refine al_as rfl rfl ?_
        refine al_nt ?_
        obtain ⟨kk33, hkk33, h⟩ := lt_some h
        refine aw_seq_join (ι := (List UInt8) × Int × Int × Int × (List UInt8) × Bool) (fun i => (memOf w0 Z0 [] [(oRow l19v13 41 tyS_api_Item l19x13), (oBox g31 41 [(str i.1), (iq i.2.1), (iq i.2.2.1), (iq i.2.2.2.1), (str i.2.2.2.2.1)]), (oRow v18 9 tyStr r17)] [(fDat (tyList tyS_api_Item) [v0_0] a0), (fDat (tyList tyS_api_Edit) [v1_0] a1)])) (fun i => (tab [(0, v0_0), (1, v1_0), (13, l19v13), (16, (pq g31)), (17, (bool i.2.2.2.2.2)), (56, v18), (57, (iq (r17.length : Int))), (58, (iq l19i58))])) (fun i => kk33 i.1 i.2.1 i.2.2.1 i.2.2.2.1 i.2.2.2.2.1 i.2.2.2.2.2 = some r) ?_ ?_
        ·rintro ⟨j32s16_0, j32i16_1, j32i16_2, j32i16_3, j32s16_4, j32b17⟩ h
         have h : kk33 j32s16_0 j32i16_1 j32i16_2 j32i16_3 j32s16_4 j32b17 = some r := h
         rw [hkk33] at h
         dsimp only at h
         clear hkk33
         refine aw_show (m := (memOf w0 Z0 [] [(oRow l19v13 41 tyS_api_Item l19x13), (oBox g31 41 [(str j32s16_0), (iq j32i16_1), (iq j32i16_2), (iq j32i16_3), (str j32s16_4)]), (oRow v18 9 tyStr r17)] [(fDat (tyList tyS_api_Item) [v0_0] a0), (fDat (tyList tyS_api_Edit) [v1_0] a1)])) (S := (tab [(0, v0_0), (1, v1_0), (13, l19v13), (16, (pq g31)), (17, (bool j32b17)), (56, v18), (57, (iq (r17.length : Int))), (58, (iq l19i58))])) ?_
         refine aw_sr ?_
         refine al_mv rfl rfl ?_
         refine al_nt ?_
         refine aw_cond rfl (fun hb34 => ?_) (fun hb34 => ?_)
         ·replace h := bif_t hb34 h
          refine aw_region ?_
          refine al_mv rfl rfl ?_
          refine al_val (ov_load (i := 1) (v := (ag [(str j32s16_0), (iq j32i16_1), (iq j32i16_2), (iq j32i16_3), (str j32s16_4)])) rfl rfl Tryd.underlying41 sz41 rfl rfl rfl rfl) ?_
          refine al_buildSlice (τ := tyS_api_Item) (e := 41) (k := 1) (sz := 0) (by_ := 0) (z := undef) (cs := [(str j32s16_0), (iq j32i16_1), (iq j32i16_2), (iq j32i16_3), (str j32s16_4)]) (xs := [(S_api_Item.mk j32s16_0 j32i16_1 j32i16_2 j32i16_3 j32s16_4)]) rfl (by decide) (fun w a hm hs => ⟨([(str j32s16_0), (iq j32i16_1), (iq j32i16_2), (iq j32i16_3), (str j32s16_4)]).toArray, rfl, by simp only [List.map_toArray, List.map_cons, List.map_nil, hs.ev (x := .tmp 82) rfl]; exact run_bs [(ag [(str j32s16_0), (iq j32i16_1), (iq j32i16_2), (iq j32i16_3), (str j32s16_4)])] [(str j32s16_0), (iq j32i16_1), (iq j32i16_2), (iq j32i16_3), (str j32s16_4)] Tryd.underlying35 to41 rfl rfl (bs_cons (l := [(str j32s16_0), (iq j32i16_1), (iq j32i16_2), (iq j32i16_3), (str j32s16_4)]) (cs := []) (cv_rfl rfl) rfl bs_nil) hm⟩) (fun hm => ⟨_, _, rfl, (fun _ => mkS_api_Item rfl) hm, rfl⟩) rfl (fun v35 => ?_)
          obtain ⟨hc36, h⟩ := req_some h
          refine al_append 1 hc36.1 hc36.2 rfl (src_own (i := 1) 0 rfl) rfl rfl Tryd.underlying35 to41 rfl rfl rfl (fun v37 => ?_)
          refine al_as rfl rfl ?_
          refine al_nil ?_
          refine aq_block ?_
          exact aq_join (v37, (l19x13 ++ ([(S_api_Item.mk j32s16_0 j32i16_1 j32i16_2 j32i16_3 j32s16_4)]))) h (fun w a hm hs => norm hm hs [1, 3] [0, 1] [(0, v0_0), (1, v1_0), (13, v37), (56, v18), (57, (iq (r17.length : Int))), (58, (iq l19i58))] (by decide) ⟨rfl, rfl, rfl, rfl, rfl, rfl, trivial⟩)
         ·replace h := bif_f hb34 h
          refine aw_skip ?_
          refine aq_block ?_
          exact aq_join (l19v13, l19x13) h (fun w a hm hs => norm hm hs [0, 2] [0, 1] [(0, v0_0), (1, v1_0), (13, l19v13), (56, v18), (57, (iq (r17.length : Int))), (58, (iq l19i58))] (by decide) ⟨rfl, rfl, rfl, rfl, rfl, rfl, trivial⟩)
        ·clear hkk33
         refine aw_sr ?_
         refine al_mv rfl rfl ?_
         refine al_mv rfl rfl ?_
         obtain ⟨r39, hc38, h⟩ := opt_some h
         refine al_call (vs := [v1_0, (str u25)]) (f_lumref_editAt_ok fu v1_0 a1 u25 hc38) [] [] [0, 1, 2] (pre_fz 1 rfl pre_nil) rfl (by simp) (by decide) (.inl rfl) rfl Tryd.func61 rfl rfl rfl (fun _ => ?_)
         refine al_mv rfl rfl ?_
         refine al_ex rfl rfl rfl ?_
         refine al_ex rfl rfl rfl ?_
         refine al_alloc (zs := [(str ([] : List UInt8)), (bool false), (str ([] : List UInt8)), (iq (0 : Int)), (iq (0 : Int)), (iq (0 : Int)), (str ([] : List UInt8))]) (zeroOf_to to43) rfl rfl (fun g40 => ?_)
         refine al_store (i := 0) (vs := [(str r39.1.Path), (bool r39.1.Gone), (str r39.1.Item.Path), (iq r39.1.Item.Kind), (iq r39.1.Item.Mode), (iq r39.1.Item.Time), (str r39.1.Item.Bytes)]) (cs' := [(str r39.1.Path), (bool r39.1.Gone), (str r39.1.Item.Path), (iq r39.1.Item.Kind), (iq r39.1.Item.Mode), (iq r39.1.Item.Time), (str r39.1.Item.Bytes)]) rfl rfl rfl sz43 (cv_rfl rfl) rfl (co_val rfl (co_val rfl (co_val rfl (co_val rfl (co_val rfl (co_val rfl (co_val rfl co_nil))))))) (Nat.le_of_ble_eq_true rfl) rfl rfl ?_
         refine al_as rfl rfl ?_
         refine al_nt ?_
         refine aw_sr ?_
         refine al_mv rfl rfl ?_
         refine al_nt ?_
         refine aw_cond rfl (fun hb41 => ?_) (fun hb41 => ?_)
         ·replace h := bif_t hb41 h
          refine aw_region_open [⟨0, 75, Unit, fun _ => { val := (ptr g40 2) }⟩, ⟨1, 76, Unit, fun _ => { val := (ag [(str r39.1.Item.Path), (iq r39.1.Item.Kind), (iq r39.1.Item.Mode), (iq r39.1.Item.Time), (str r39.1.Item.Bytes)]) }⟩, ⟨2, 77, Unit, fun _ => { val := (ptr g40 1) }⟩, ⟨3, 78, Unit, fun _ => { val := (bool r39.1.Gone) }⟩, ⟨4, 79, Unit, fun _ => { val := (bool (!r39.1.Gone)) }⟩] (tab [(0, v0_0), (1, v1_0), (13, l19v13), (16, (pq g31)), (17, (bool r30.2)), (18, (pq g40)), (56, v18), (57, (iq (r17.length : Int))), (58, (iq l19i58))]) mixed (fun a hs => hs.tab _ (allT_mem ⟨rfl, rfl, rfl, rfl, rfl, rfl, rfl, rfl, rfl, trivial⟩)) ?_
          refine ta_show (m := (memOf w0 Z0 [] [(oBox g40 43 [(str r39.1.Path), (bool r39.1.Gone), (str r39.1.Item.Path), (iq r39.1.Item.Kind), (iq r39.1.Item.Mode), (iq r39.1.Item.Time), (str r39.1.Item.Bytes)]), (oBox g31 41 [(str r30.1.Path), (iq r30.1.Kind), (iq r30.1.Mode), (iq r30.1.Time), (str r30.1.Bytes)]), (oRow l19v13 41 tyS_api_Item l19x13), (oRow v18 9 tyStr r17)] [(fDat (tyList tyS_api_Item) [v0_0] a0), (fDat (tyList tyS_api_Edit) [v1_0] a1)])) (S := (tab [(0, v0_0), (1, v1_0), (13, l19v13), (16, (pq g31)), (17, (bool r30.2)), (18, (pq g40)), (56, v18), (57, (iq (r17.length : Int))), (58, (iq l19i58))])) ?_
          refine ta_step 5 _ [0, 1, 2, 3, 4] [75, 76, 77, 78, 79] [0, 1] [] [⟨0, 75, Unit, fun _ => { val := (ptr g40 2) }⟩, ⟨1, 76, Unit, fun _ => { val := (ag [(str r39.1.Item.Path), (iq r39.1.Item.Kind), (iq r39.1.Item.Mode), (iq r39.1.Item.Time), (str r39.1.Item.Bytes)]) }⟩] [⟨2, 77, Unit, fun _ => { val := (ptr g40 1) }⟩, ⟨3, 78, Unit, fun _ => { val := (bool r39.1.Gone) }⟩, ⟨4, 79, Unit, fun _ => { val := (bool (!r39.1.Gone)) }⟩] rfl rfl rfl (by kernel_rfl) rfl rfl rfl ⟨⟨_, rfl, [], rfl, by
 intro X_ Y_ F_ K_ hK_
 refine al_show (m := Mem.plus (memOf w0 Z0 [] [(oBox g40 43 [(str r39.1.Path), (bool r39.1.Gone), (str r39.1.Item.Path), (iq r39.1.Item.Kind), (iq r39.1.Item.Mode), (iq r39.1.Item.Time), (str r39.1.Item.Bytes)]), (oBox g31 41 [(str r30.1.Path), (iq r30.1.Kind), (iq r30.1.Mode), (iq r30.1.Time), (str r30.1.Bytes)]), (oRow l19v13 41 tyS_api_Item l19x13), (oRow v18 9 tyStr r17)] [(fDat (tyList tyS_api_Item) [v0_0] a0), (fDat (tyList tyS_api_Edit) [v1_0] a1)]) X_ Y_) (S := over (tab [(0, v0_0), (1, v1_0), (13, l19v13), (16, (pq g31)), (17, (bool r30.2)), (18, (pq g40)), (56, v18), (57, (iq (r17.length : Int))), (58, (iq l19i58))]) F_) ?_
 refine al_val (ov_fieldA (p := 2) rfl Tryd.underlying43 rfl sz41 rfl rfl rfl) ?_
 refine al_nil ?_
 exact fr_fin hK_ ()⟩, ⟨_, rfl, [0], rfl, by
 intro _
 intro X_ Y_ F_ K_ hK_
 refine al_show (m := Mem.plus (memOf w0 Z0 [] [(oBox g40 43 [(str r39.1.Path), (bool r39.1.Gone), (str r39.1.Item.Path), (iq r39.1.Item.Kind), (iq r39.1.Item.Mode), (iq r39.1.Item.Time), (str r39.1.Item.Bytes)]), (oBox g31 41 [(str r30.1.Path), (iq r30.1.Kind), (iq r30.1.Mode), (iq r30.1.Time), (str r30.1.Bytes)]), (oRow l19v13 41 tyS_api_Item l19x13), (oRow v18 9 tyStr r17)] [(fDat (tyList tyS_api_Item) [v0_0] a0), (fDat (tyList tyS_api_Edit) [v1_0] a1)]) X_ Y_) (S := over (put (tab [(0, v0_0), (1, v1_0), (13, l19v13), (16, (pq g31)), (17, (bool r30.2)), (18, (pq g40)), (56, v18), (57, (iq (r17.length : Int))), (58, (iq l19i58))]) 75 (ptr g40 2)) F_) ?_
 refine al_val (ov_load (i := 0) (v := (ag [(str r39.1.Item.Path), (iq r39.1.Item.Kind), (iq r39.1.Item.Mode), (iq r39.1.Item.Time), (str r39.1.Item.Bytes)])) rfl rfl Tryd.underlying41 sz41 rfl rfl rfl rfl) ?_
 refine al_nil ?_
 exact fr_fin hK_ ()⟩, ⟨_, rfl, [], rfl, by
 intro X_ Y_ F_ K_ hK_
 refine al_show (m := Mem.plus (memOf w0 Z0 [] [(oBox g40 43 [(str r39.1.Path), (bool r39.1.Gone), (str r39.1.Item.Path), (iq r39.1.Item.Kind), (iq r39.1.Item.Mode), (iq r39.1.Item.Time), (str r39.1.Item.Bytes)]), (oBox g31 41 [(str r30.1.Path), (iq r30.1.Kind), (iq r30.1.Mode), (iq r30.1.Time), (str r30.1.Bytes)]), (oRow l19v13 41 tyS_api_Item l19x13), (oRow v18 9 tyStr r17)] [(fDat (tyList tyS_api_Item) [v0_0] a0), (fDat (tyList tyS_api_Edit) [v1_0] a1)]) X_ Y_) (S := over (tab [(0, v0_0), (1, v1_0), (13, l19v13), (16, (pq g31)), (17, (bool r30.2)), (18, (pq g40)), (56, v18), (57, (iq (r17.length : Int))), (58, (iq l19i58))]) F_) ?_
 refine al_val (ov_fieldA (p := 1) rfl Tryd.underlying43 rfl sz4 rfl rfl rfl) ?_
 refine al_nil ?_
 exact fr_fin hK_ ()⟩, ⟨_, rfl, [2], rfl, by
 intro _
 intro X_ Y_ F_ K_ hK_
 refine al_show (m := Mem.plus (memOf w0 Z0 [] [(oBox g40 43 [(str r39.1.Path), (bool r39.1.Gone), (str r39.1.Item.Path), (iq r39.1.Item.Kind), (iq r39.1.Item.Mode), (iq r39.1.Item.Time), (str r39.1.Item.Bytes)]), (oBox g31 41 [(str r30.1.Path), (iq r30.1.Kind), (iq r30.1.Mode), (iq r30.1.Time), (str r30.1.Bytes)]), (oRow l19v13 41 tyS_api_Item l19x13), (oRow v18 9 tyStr r17)] [(fDat (tyList tyS_api_Item) [v0_0] a0), (fDat (tyList tyS_api_Edit) [v1_0] a1)]) X_ Y_) (S := over (put (tab [(0, v0_0), (1, v1_0), (13, l19v13), (16, (pq g31)), (17, (bool r30.2)), (18, (pq g40)), (56, v18), (57, (iq (r17.length : Int))), (58, (iq l19i58))]) 77 (ptr g40 1)) F_) ?_
 refine al_val (ov_load (i := 0) (v := (bool r39.1.Gone)) rfl rfl Tryd.underlying4 sz4 rfl rfl rfl rfl) ?_
 refine al_nil ?_
 exact fr_fin hK_ ()⟩, ⟨_, rfl, [3], rfl, by
 intro _
 intro X_ Y_ F_ K_ hK_
 refine al_show (m := Mem.plus (memOf w0 Z0 [] [(oBox g40 43 [(str r39.1.Path), (bool r39.1.Gone), (str r39.1.Item.Path), (iq r39.1.Item.Kind), (iq r39.1.Item.Mode), (iq r39.1.Item.Time), (str r39.1.Item.Bytes)]), (oBox g31 41 [(str r30.1.Path), (iq r30.1.Kind), (iq r30.1.Mode), (iq r30.1.Time), (str r30.1.Bytes)]), (oRow l19v13 41 tyS_api_Item l19x13), (oRow v18 9 tyStr r17)] [(fDat (tyList tyS_api_Item) [v0_0] a0), (fDat (tyList tyS_api_Edit) [v1_0] a1)]) X_ Y_) (S := over (put (tab [(0, v0_0), (1, v1_0), (13, l19v13), (16, (pq g31)), (17, (bool r30.2)), (18, (pq g40)), (56, v18), (57, (iq (r17.length : Int))), (58, (iq l19i58))]) 78 (bool r39.1.Gone)) F_) ?_
 refine al_val (ov_not rfl rfl) ?_
 refine al_nil ?_
 exact fr_fin hK_ ()⟩, trivial⟩ ?_
          intro _
          intro _
          intro X_ Y_ F_ K_ hK_
          refine al_show (m := Mem.plus (memOf w0 Z0 [] [(oBox g40 43 [(str r39.1.Path), (bool r39.1.Gone), (str r39.1.Item.Path), (iq r39.1.Item.Kind), (iq r39.1.Item.Mode), (iq r39.1.Item.Time), (str r39.1.Item.Bytes)]), (oBox g31 41 [(str r30.1.Path), (iq r30.1.Kind), (iq r30.1.Mode), (iq r30.1.Time), (str r30.1.Bytes)]), (oRow l19v13 41 tyS_api_Item l19x13), (oRow v18 9 tyStr r17)] [(fDat (tyList tyS_api_Item) [v0_0] a0), (fDat (tyList tyS_api_Edit) [v1_0] a1)]) X_ Y_) (S := over (put (put (tab [(0, v0_0), (1, v1_0), (13, l19v13), (16, (pq g31)), (17, (bool r30.2)), (18, (pq g40)), (56, v18), (57, (iq (r17.length : Int))), (58, (iq l19i58))]) 75 (ptr g40 2)) 76 (ag [(str r39.1.Item.Path), (iq r39.1.Item.Kind), (iq r39.1.Item.Mode), (iq r39.1.Item.Time), (str r39.1.Item.Bytes)])) F_) ?_
          refine al_store (i := 1) (vs := [(str r39.1.Item.Path), (iq r39.1.Item.Kind), (iq r39.1.Item.Mode), (iq r39.1.Item.Time), (str r39.1.Item.Bytes)]) (cs' := [(str r39.1.Item.Path), (iq r39.1.Item.Kind), (iq r39.1.Item.Mode), (iq r39.1.Item.Time), (str r39.1.Item.Bytes)]) rfl rfl rfl sz41 (cv_rfl rfl) rfl (co_val rfl (co_val rfl (co_val rfl (co_val rfl (co_val rfl co_nil))))) (Nat.le_of_ble_eq_true rfl) rfl rfl ?_
          refine al_nil ?_
          refine aq_show (m := Mem.plus (memOf w0 Z0 [] [(oBox g40 43 [(str r39.1.Path), (bool r39.1.Gone), (str r39.1.Item.Path), (iq r39.1.Item.Kind), (iq r39.1.Item.Mode), (iq r39.1.Item.Time), (str r39.1.Item.Bytes)]), (oBox g31 41 [(str r39.1.Item.Path), (iq r39.1.Item.Kind), (iq r39.1.Item.Mode), (iq r39.1.Item.Time), (str r39.1.Item.Bytes)]), (oRow l19v13 41 tyS_api_Item l19x13), (oRow v18 9 tyStr r17)] [(fDat (tyList tyS_api_Item) [v0_0] a0), (fDat (tyList tyS_api_Edit) [v1_0] a1)]) X_ Y_) ?_
          refine aq_next hK_ [0, 1, 2, 3] [0, 1] [(0, v0_0), (1, v1_0), (13, l19v13), (16, (pq g31)), (17, (bool r30.2)), (18, (pq g40)), (56, v18), (57, (iq (r17.length : Int))), (58, (iq l19i58))] [77, 78, 79] [] rfl rfl (by decide) rfl ⟨rfl, rfl, rfl, rfl, rfl, rfl, rfl, rfl, rfl, trivial⟩ ⟨rfl, rfl, rfl, trivial⟩ ?_
          clear hK_ K_ F_ X_ Y_
          refine ta_show (m := (memOf w0 Z0 [] [(oBox g40 43 [(str r39.1.Path), (bool r39.1.Gone), (str r39.1.Item.Path), (iq r39.1.Item.Kind), (iq r39.1.Item.Mode), (iq r39.1.Item.Time), (str r39.1.Item.Bytes)]), (oBox g31 41 [(str r39.1.Item.Path), (iq r39.1.Item.Kind), (iq r39.1.Item.Mode), (iq r39.1.Item.Time), (str r39.1.Item.Bytes)]), (oRow l19v13 41 tyS_api_Item l19x13), (oRow v18 9 tyStr r17)] [(fDat (tyList tyS_api_Item) [v0_0] a0), (fDat (tyList tyS_api_Edit) [v1_0] a1)])) (S := (tab [(0, v0_0), (1, v1_0), (13, l19v13), (16, (pq g31)), (17, (bool r30.2)), (18, (pq g40)), (56, v18), (57, (iq (r17.length : Int))), (58, (iq l19i58))])) ?_
          refine ta_step 6 _ [2, 3, 4] [77, 78, 79] [2, 3, 4] [] [⟨2, 77, Unit, fun _ => { val := (ptr g40 1) }⟩, ⟨3, 78, Unit, fun _ => { val := (bool r39.1.Gone) }⟩, ⟨4, 79, Unit, fun _ => { val := (bool (!r39.1.Gone)) }⟩] [] rfl rfl rfl (by kernel_rfl) rfl rfl rfl ⟨⟨_, rfl, [], rfl, by
 intro X_ Y_ F_ K_ hK_
 refine al_show (m := Mem.plus (memOf w0 Z0 [] [(oBox g40 43 [(str r39.1.Path), (bool r39.1.Gone), (str r39.1.Item.Path), (iq r39.1.Item.Kind), (iq r39.1.Item.Mode), (iq r39.1.Item.Time), (str r39.1.Item.Bytes)]), (oBox g31 41 [(str r39.1.Item.Path), (iq r39.1.Item.Kind), (iq r39.1.Item.Mode), (iq r39.1.Item.Time), (str r39.1.Item.Bytes)]), (oRow l19v13 41 tyS_api_Item l19x13), (oRow v18 9 tyStr r17)] [(fDat (tyList tyS_api_Item) [v0_0] a0), (fDat (tyList tyS_api_Edit) [v1_0] a1)]) X_ Y_) (S := over (tab [(0, v0_0), (1, v1_0), (13, l19v13), (16, (pq g31)), (17, (bool r30.2)), (18, (pq g40)), (56, v18), (57, (iq (r17.length : Int))), (58, (iq l19i58))]) F_) ?_
 refine al_val (ov_fieldA (p := 1) rfl Tryd.underlying43 rfl sz4 rfl rfl rfl) ?_
 refine al_nil ?_
 exact fr_fin hK_ ()⟩, ⟨_, rfl, [0], rfl, by
 intro _
 intro X_ Y_ F_ K_ hK_
 refine al_show (m := Mem.plus (memOf w0 Z0 [] [(oBox g40 43 [(str r39.1.Path), (bool r39.1.Gone), (str r39.1.Item.Path), (iq r39.1.Item.Kind), (iq r39.1.Item.Mode), (iq r39.1.Item.Time), (str r39.1.Item.Bytes)]), (oBox g31 41 [(str r39.1.Item.Path), (iq r39.1.Item.Kind), (iq r39.1.Item.Mode), (iq r39.1.Item.Time), (str r39.1.Item.Bytes)]), (oRow l19v13 41 tyS_api_Item l19x13), (oRow v18 9 tyStr r17)] [(fDat (tyList tyS_api_Item) [v0_0] a0), (fDat (tyList tyS_api_Edit) [v1_0] a1)]) X_ Y_) (S := over (put (tab [(0, v0_0), (1, v1_0), (13, l19v13), (16, (pq g31)), (17, (bool r30.2)), (18, (pq g40)), (56, v18), (57, (iq (r17.length : Int))), (58, (iq l19i58))]) 77 (ptr g40 1)) F_) ?_
 refine al_val (ov_load (i := 0) (v := (bool r39.1.Gone)) rfl rfl Tryd.underlying4 sz4 rfl rfl rfl rfl) ?_
 refine al_nil ?_
 exact fr_fin hK_ ()⟩, ⟨_, rfl, [1], rfl, by
 intro _
 intro X_ Y_ F_ K_ hK_
 refine al_show (m := Mem.plus (memOf w0 Z0 [] [(oBox g40 43 [(str r39.1.Path), (bool r39.1.Gone), (str r39.1.Item.Path), (iq r39.1.Item.Kind), (iq r39.1.Item.Mode), (iq r39.1.Item.Time), (str r39.1.Item.Bytes)]), (oBox g31 41 [(str r39.1.Item.Path), (iq r39.1.Item.Kind), (iq r39.1.Item.Mode), (iq r39.1.Item.Time), (str r39.1.Item.Bytes)]), (oRow l19v13 41 tyS_api_Item l19x13), (oRow v18 9 tyStr r17)] [(fDat (tyList tyS_api_Item) [v0_0] a0), (fDat (tyList tyS_api_Edit) [v1_0] a1)]) X_ Y_) (S := over (put (tab [(0, v0_0), (1, v1_0), (13, l19v13), (16, (pq g31)), (17, (bool r30.2)), (18, (pq g40)), (56, v18), (57, (iq (r17.length : Int))), (58, (iq l19i58))]) 78 (bool r39.1.Gone)) F_) ?_
 refine al_val (ov_not rfl rfl) ?_
 refine al_nil ?_
 exact fr_fin hK_ ()⟩, trivial⟩ ?_
          intro _
          intro _
          intro _
          intro X_ Y_ F_ K_ hK_
          refine al_show (m := Mem.plus (memOf w0 Z0 [] [(oBox g40 43 [(str r39.1.Path), (bool r39.1.Gone), (str r39.1.Item.Path), (iq r39.1.Item.Kind), (iq r39.1.Item.Mode), (iq r39.1.Item.Time), (str r39.1.Item.Bytes)]), (oBox g31 41 [(str r39.1.Item.Path), (iq r39.1.Item.Kind), (iq r39.1.Item.Mode), (iq r39.1.Item.Time), (str r39.1.Item.Bytes)]), (oRow l19v13 41 tyS_api_Item l19x13), (oRow v18 9 tyStr r17)] [(fDat (tyList tyS_api_Item) [v0_0] a0), (fDat (tyList tyS_api_Edit) [v1_0] a1)]) X_ Y_) (S := over (put (put (put (tab [(0, v0_0), (1, v1_0), (13, l19v13), (16, (pq g31)), (17, (bool r30.2)), (18, (pq g40)), (56, v18), (57, (iq (r17.length : Int))), (58, (iq l19i58))]) 77 (ptr g40 1)) 78 (bool r39.1.Gone)) 79 (bool (!r39.1.Gone))) F_) ?_
          refine al_as rfl rfl ?_
          refine al_nil ?_
          refine aq_show (m := Mem.plus (memOf w0 Z0 [] [(oBox g40 43 [(str r39.1.Path), (bool r39.1.Gone), (str r39.1.Item.Path), (iq r39.1.Item.Kind), (iq r39.1.Item.Mode), (iq r39.1.Item.Time), (str r39.1.Item.Bytes)]), (oBox g31 41 [(str r39.1.Item.Path), (iq r39.1.Item.Kind), (iq r39.1.Item.Mode), (iq r39.1.Item.Time), (str r39.1.Item.Bytes)]), (oRow l19v13 41 tyS_api_Item l19x13), (oRow v18 9 tyStr r17)] [(fDat (tyList tyS_api_Item) [v0_0] a0), (fDat (tyList tyS_api_Edit) [v1_0] a1)]) X_ Y_) ?_
          refine aq_next hK_ [0, 1, 2, 3] [0, 1] [(0, v0_0), (1, v1_0), (13, l19v13), (16, (pq g31)), (17, (bool (!r39.1.Gone))), (56, v18), (57, (iq (r17.length : Int))), (58, (iq l19i58))] [] [] rfl rfl (by decide) rfl ⟨rfl, rfl, rfl, rfl, rfl, rfl, rfl, rfl, trivial⟩ trivial ?_
          clear hK_ K_ F_ X_ Y_
          refine ta_show (m := (memOf w0 Z0 [] [(oBox g40 43 [(str r39.1.Path), (bool r39.1.Gone), (str r39.1.Item.Path), (iq r39.1.Item.Kind), (iq r39.1.Item.Mode), (iq r39.1.Item.Time), (str r39.1.Item.Bytes)]), (oBox g31 41 [(str r39.1.Item.Path), (iq r39.1.Item.Kind), (iq r39.1.Item.Mode), (iq r39.1.Item.Time), (str r39.1.Item.Bytes)]), (oRow l19v13 41 tyS_api_Item l19x13), (oRow v18 9 tyStr r17)] [(fDat (tyList tyS_api_Item) [v0_0] a0), (fDat (tyList tyS_api_Edit) [v1_0] a1)])) (S := (tab [(0, v0_0), (1, v1_0), (13, l19v13), (16, (pq g31)), (17, (bool (!r39.1.Gone))), (56, v18), (57, (iq (r17.length : Int))), (58, (iq l19i58))])) ?_
          refine ta_end [] [] rfl rfl (by kernel_rfl) rfl trivial ?_
          refine aq_show (m := (memOf w0 Z0 [] [(oBox g40 43 [(str r39.1.Path), (bool r39.1.Gone), (str r39.1.Item.Path), (iq r39.1.Item.Kind), (iq r39.1.Item.Mode), (iq r39.1.Item.Time), (str r39.1.Item.Bytes)]), (oBox g31 41 [(str r39.1.Item.Path), (iq r39.1.Item.Kind), (iq r39.1.Item.Mode), (iq r39.1.Item.Time), (str r39.1.Item.Bytes)]), (oRow l19v13 41 tyS_api_Item l19x13), (oRow v18 9 tyStr r17)] [(fDat (tyList tyS_api_Item) [v0_0] a0), (fDat (tyList tyS_api_Edit) [v1_0] a1)])) (S := (tab [(0, v0_0), (1, v1_0), (13, l19v13), (16, (pq g31)), (17, (bool (!r39.1.Gone))), (56, v18), (57, (iq (r17.length : Int))), (58, (iq l19i58))])) ?_
          exact aq_join (r39.1.Item.Path, r39.1.Item.Kind, r39.1.Item.Mode, r39.1.Item.Time, r39.1.Item.Bytes, (!r39.1.Gone)) h (fun w a hm hs => norm hm hs [2, 1, 3] [0, 1] [(0, v0_0), (1, v1_0), (13, l19v13), (16, (pq g31)), (17, (bool (!r39.1.Gone))), (56, v18), (57, (iq (r17.length : Int))), (58, (iq l19i58))] (by decide) ⟨rfl, rfl, rfl, rfl, rfl, rfl, rfl, rfl, trivial⟩)
         ·replace h := bif_f hb41 h
          refine aw_skip ?_
          exact aq_join (r30.1.Path, r30.1.Kind, r30.1.Mode, r30.1.Time, r30.1.Bytes, r30.2) h (fun w a hm hs => norm hm hs [2, 1, 3] [0, 1] [(0, v0_0), (1, v1_0), (13, l19v13), (16, (pq g31)), (17, (bool r30.2)), (56, v18), (57, (iq (r17.length : Int))), (58, (iq l19i58))] (by decide) ⟨rfl, rfl, rfl, rfl, rfl, rfl, rfl, rfl, trivial⟩)
      ·replace h := bif_f hb22 h
       refine aw_exit ?_
       refine aq_then_exit ?_
       refine aq_then_exit ?_
       refine aq_block_exit ?_
       exact aq_join (l19v13, l19x13) h (fun w a hm hs => norm hm hs [0] [0, 1] [(13, l19v13)] (by decide) ⟨rfl, trivial⟩)
    ·clear hkk10
     refine aw_sr ?_
     refine al_mv rfl rfl ?_
     refine al_val (ov_lenD 1 rfl rfl Tryd.underlying36 rfl) ?_
     refine al_mv rfl rfl ?_
     refine al_nt ?_
     refine aw_block ?_
     refine aw_state (aw_loop (ι := Value × (List (List UInt8)) × Int) (fun i => (memOf w0 Z0 [] [(oRow i.1 9 tyStr i.2.1)] [(fDat (tyList tyS_api_Item) [v0_0] a0), (fDat (tyList tyS_api_Edit) [v1_0] a1)])) (fun i => (tab [(0, v0_0), (1, v1_0), (8, i.1), (43, v1_0), (44, (iq (a1.length : Int))), (45, (iq i.2.2))])) (fun q i => f_lumref_Apply_L44 a1 kk10 q i.2.1 i.2.2 = some r) ?_ fu (j7v8, j7x8, (0 : Int)) h) (fun w a hm hs => norm hm hs [0] [0, 1] [(0, v0_0), (1, v1_0), (8, j7v8), (43, v1_0), (44, (iq (a1.length : Int))), (45, (iq (0 : Int)))] (by decide) ⟨rfl, rfl, rfl, rfl, rfl, rfl, trivial⟩)
     clear h
     rintro k43 ⟨l42v8, l42x8, l42i45⟩ h
     have h : f_lumref_Apply_L44 a1 kk10 k43 l42x8 l42i45 = some r := h
     obtain _ | k43 := k43
     · rw [f_lumref_Apply_L44] at h; cases h
     rw [f_lumref_Apply_L44] at h
     refine aw_show (m := (memOf w0 Z0 [] [(oRow l42v8 9 tyStr l42x8)] [(fDat (tyList tyS_api_Item) [v0_0] a0), (fDat (tyList tyS_api_Edit) [v1_0] a1)])) (S := (tab [(0, v0_0), (1, v1_0), (8, l42v8), (43, v1_0), (44, (iq (a1.length : Int))), (45, (iq l42i45))])) ?_
     refine aw_sr ?_
     refine al_in rfl rfl rfl rfl ?_
     refine al_nt ?_
     refine aw_seq ?_
     refine aw_cond rfl (fun hb45 => ?_) (fun hb45 => ?_)
     ·replace h := bif_t hb45 h
      refine aw_skip ?_
      refine aq_then ?_
      refine aw_seq ?_
      refine aw_block ?_
      refine aw_sr ?_
      obtain ⟨u46, hu47, h⟩ := opt_some h
      refine al_idxD 1 hu47 rfl rfl rfl Tryd.underlying36 sz43 rfl (fun p48 => ?_)
      refine al_val (ov_loadP (ds := [(str u46.Path), (bool u46.Gone), (str u46.Item.Path), (iq u46.Item.Kind), (iq u46.Item.Mode), (iq u46.Item.Time), (str u46.Item.Bytes)]) 0 rfl encS_api_Edit rfl Tryd.underlying43 sz43 rfl rfl rfl) ?_
      refine al_alloc (zs := [(str ([] : List UInt8)), (bool false), (str ([] : List UInt8)), (iq (0 : Int)), (iq (0 : Int)), (iq (0 : Int)), (str ([] : List UInt8))]) (zeroOf_to to43) rfl rfl (fun g49 => ?_)
      refine al_store (i := 0) (vs := [(str u46.Path), (bool u46.Gone), (str u46.Item.Path), (iq u46.Item.Kind), (iq u46.Item.Mode), (iq u46.Item.Time), (str u46.Item.Bytes)]) (cs' := [(str u46.Path), (bool u46.Gone), (str u46.Item.Path), (iq u46.Item.Kind), (iq u46.Item.Mode), (iq u46.Item.Time), (str u46.Item.Bytes)]) rfl rfl rfl sz43 (cv_rfl rfl) rfl (co_val rfl (co_val rfl (co_val rfl (co_val rfl (co_val rfl (co_val rfl (co_val rfl co_nil))))))) (Nat.le_of_ble_eq_true rfl) rfl rfl ?_
      refine al_nt ?_
      refine aw_region ?_
      refine al_mv rfl rfl ?_
      refine al_val (ov_fieldA (p := 0) rfl Tryd.underlying43 rfl sz9 rfl rfl rfl) ?_
      refine al_val (ov_load (i := 0) (v := (str u46.Path)) rfl rfl Tryd.underlying9 sz9 rfl rfl rfl rfl) ?_
      refine al_buildSlice (τ := tyStr) (e := 9) (k := 1) (sz := 0) (by_ := 0) (z := undef) (cs := [(str u46.Path)]) (xs := [u46.Path]) rfl (by decide) (fun w a hm hs => ⟨([(str u46.Path)]).toArray, rfl, by simp only [List.map_toArray, List.map_cons, List.map_nil, hs.ev (x := .tmp 51) rfl]; exact run_bs [(str u46.Path)] [(str u46.Path)] Tryd.underlying50 to9 rfl rfl (bs_cons (l := [(str u46.Path)]) (cs := []) (cv_rfl rfl) rfl bs_nil) hm⟩) (fun hm => ⟨_, _, rfl, (fun _ => rfl) hm, rfl⟩) rfl (fun v50 => ?_)
      obtain ⟨hc51, h⟩ := req_some h
      refine al_append 2 hc51.1 hc51.2 rfl (src_own (i := 2) 0 rfl) rfl rfl Tryd.underlying50 to9 rfl rfl rfl (fun v52 => ?_)
      refine al_as rfl rfl ?_
      refine al_nil ?_
      refine aq_block ?_
      refine aq_then ?_
      refine aw_region ?_
      refine al_in rfl rfl rfl rfl ?_
      refine al_mv rfl rfl ?_
      refine al_nil ?_
      exact aq_again k43 (v52, (l42x8 ++ ([u46.Path])), (wq (l42i45 + (1 : Int)))) (Nat.lt_succ_self _) h (fun w a hm hs => norm hm hs [2] [1, 2] [(0, v0_0), (1, v1_0), (8, v52), (43, v1_0), (44, (iq (a1.length : Int))), (45, (iq (wq (l42i45 + (1 : Int)))))] (by decide) ⟨rfl, rfl, rfl, rfl, rfl, rfl, trivial⟩)
     ·replace h := bif_f hb45 h
      refine aw_exit ?_
      refine aq_then_exit ?_
      refine aq_then_exit ?_
      refine aq_block_exit ?_
      exact aq_join (l42v8, l42x8) h (fun w a hm hs => norm hm hs [0] [0, 1] [(0, v0_0), (1, v1_0), (8, l42v8)] (by decide) ⟨rfl, rfl, rfl, trivial⟩)
   ·clear hkk8
    refine aw_sr ?_
    refine al_mv rfl rfl ?_
    refine al_val (ov_lenD 0 rfl rfl Tryd.underlying35 rfl) ?_
    refine al_mv rfl rfl ?_
    refine al_nt ?_
    refine aw_block ?_
    refine aw_nilR 9 tyStr ?_
    refine aw_state (aw_loop (ι := Value × (List (List UInt8)) × Int) (fun i => (memOf w0 Z0 [] [(oRow i.1 9 tyStr i.2.1)] [(fDat (tyList tyS_api_Item) [v0_0] a0), (fDat (tyList tyS_api_Edit) [v1_0] a1)])) (fun i => (tab [(0, v0_0), (1, v1_0), (8, i.1), (31, v0_0), (32, (iq (a0.length : Int))), (33, (iq i.2.2))])) (fun q i => f_lumref_Apply_L55 a0 kk8 q i.2.1 i.2.2 = some r) ?_ fu (nS, ([] : List (List UInt8)), (0 : Int)) h) (fun w a hm hs => norm hm hs [0] [0, 1] [(0, v0_0), (1, v1_0), (8, nS), (31, v0_0), (32, (iq (a0.length : Int))), (33, (iq (0 : Int)))] (by decide) ⟨rfl, rfl, rfl, rfl, rfl, rfl, trivial⟩)
    clear h
    rintro k54 ⟨l53v8, l53x8, l53i33⟩ h
    have h : f_lumref_Apply_L55 a0 kk8 k54 l53x8 l53i33 = some r := h
    obtain _ | k54 := k54
    · rw [f_lumref_Apply_L55] at h; cases h
    rw [f_lumref_Apply_L55] at h
    refine aw_show (m := (memOf w0 Z0 [] [(oRow l53v8 9 tyStr l53x8)] [(fDat (tyList tyS_api_Item) [v0_0] a0), (fDat (tyList tyS_api_Edit) [v1_0] a1)])) (S := (tab [(0, v0_0), (1, v1_0), (8, l53v8), (31, v0_0), (32, (iq (a0.length : Int))), (33, (iq l53i33))])) ?_
    refine aw_sr ?_
    refine al_in rfl rfl rfl rfl ?_
    refine al_nt ?_
    refine aw_seq ?_
    refine aw_cond rfl (fun hb56 => ?_) (fun hb56 => ?_)
    ·replace h := bif_t hb56 h
     refine aw_skip ?_
     refine aq_then ?_
     refine aw_seq ?_
     refine aw_block ?_
     refine aw_sr ?_
     obtain ⟨u57, hu58, h⟩ := opt_some h
     refine al_idxD 0 hu58 rfl rfl rfl Tryd.underlying35 sz41 rfl (fun p59 => ?_)
     refine al_val (ov_loadP (ds := [(str u57.Path), (iq u57.Kind), (iq u57.Mode), (iq u57.Time), (str u57.Bytes)]) 0 rfl encS_api_Item rfl Tryd.underlying41 sz41 rfl rfl rfl) ?_
     refine al_alloc (zs := [(str ([] : List UInt8)), (iq (0 : Int)), (iq (0 : Int)), (iq (0 : Int)), (str ([] : List UInt8))]) (zeroOf_to to41) rfl rfl (fun g60 => ?_)
     refine al_store (i := 0) (vs := [(str u57.Path), (iq u57.Kind), (iq u57.Mode), (iq u57.Time), (str u57.Bytes)]) (cs' := [(str u57.Path), (iq u57.Kind), (iq u57.Mode), (iq u57.Time), (str u57.Bytes)]) rfl rfl rfl sz41 (cv_rfl rfl) rfl (co_val rfl (co_val rfl (co_val rfl (co_val rfl (co_val rfl co_nil))))) (Nat.le_of_ble_eq_true rfl) rfl rfl ?_
     refine al_nt ?_
     refine aw_region ?_
     refine al_mv rfl rfl ?_
     refine al_val (ov_fieldA (p := 0) rfl Tryd.underlying41 rfl sz9 rfl rfl rfl) ?_
     refine al_val (ov_load (i := 0) (v := (str u57.Path)) rfl rfl Tryd.underlying9 sz9 rfl rfl rfl rfl) ?_
     refine al_buildSlice (τ := tyStr) (e := 9) (k := 1) (sz := 0) (by_ := 0) (z := undef) (cs := [(str u57.Path)]) (xs := [u57.Path]) rfl (by decide) (fun w a hm hs => ⟨([(str u57.Path)]).toArray, rfl, by simp only [List.map_toArray, List.map_cons, List.map_nil, hs.ev (x := .tmp 39) rfl]; exact run_bs [(str u57.Path)] [(str u57.Path)] Tryd.underlying50 to9 rfl rfl (bs_cons (l := [(str u57.Path)]) (cs := []) (cv_rfl rfl) rfl bs_nil) hm⟩) (fun hm => ⟨_, _, rfl, (fun _ => rfl) hm, rfl⟩) rfl (fun v61 => ?_)
     obtain ⟨hc62, h⟩ := req_some h
     refine al_append 2 hc62.1 hc62.2 rfl (src_own (i := 2) 0 rfl) rfl rfl Tryd.underlying50 to9 rfl rfl rfl (fun v63 => ?_)
     refine al_as rfl rfl ?_
     refine al_nil ?_
     refine aq_block ?_
     refine aq_then ?_
     refine aw_region ?_
     refine al_in rfl rfl rfl rfl ?_
     refine al_mv rfl rfl ?_
     refine al_nil ?_
     exact aq_again k54 (v63, (l53x8 ++ ([u57.Path])), (wq (l53i33 + (1 : Int)))) (Nat.lt_succ_self _) h (fun w a hm hs => norm hm hs [2] [1, 2] [(0, v0_0), (1, v1_0), (8, v63), (31, v0_0), (32, (iq (a0.length : Int))), (33, (iq (wq (l53i33 + (1 : Int)))))] (by decide) ⟨rfl, rfl, rfl, rfl, rfl, rfl, trivial⟩)
    ·replace h := bif_f hb56 h
     refine aw_exit ?_
     refine aq_then_exit ?_
     refine aq_then_exit ?_
     refine aq_block_exit ?_
     exact aq_join (l53v8, l53x8) h (fun w a hm hs => norm hm hs [0] [0, 1] [(0, v0_0), (1, v1_0), (8, l53v8)] (by decide) ⟨rfl, rfl, rfl, trivial⟩)
-- STUCK lumberroom/delta.Join$1: lty ['pointer', 43]
-- STUCK lumberroom/delta.sideBySide[lumberroom/api.Edit,lumberroom/api.Edit]: lty ['func', [43], [9], False]
def f_slices_Clone___api_Edit_api_Edit_ (fu : Nat) (a0 : (List S_api_Edit)) : Option (List S_api_Edit) := (amb (a0.isEmpty) (some ([] : List S_api_Edit)) (req (((([] : List S_api_Edit).length + a0.length) * 80 : Nat) ≤ 140737488355328 ∧ ([] : List S_api_Edit).length + a0.length ≤ 9223372036854775807) (some (([] : List S_api_Edit) ++ a0))))
set_option maxHeartbeats 2000000 in
set_option maxRecDepth 100000 in
theorem f_slices_Clone___api_Edit_api_Edit__ok (fu : Nat) (v0_0 : Value) (a0 : (List S_api_Edit)) {r : (List S_api_Edit)} (h : f_slices_Clone___api_Edit_api_Edit_ fu a0 = some r) : FnOk Tryd.prog 64 [v0_0] [(fDat (tyList tyS_api_Edit) [v0_0] a0)] [] (fun (i : Value) => { val := i, own := [(oRow i 43 tyS_api_Edit r)] }) := by
 unfold f_slices_Clone___api_Edit_api_Edit_ at h
 refine fn_enter Tryd.func64 rfl Tryd.ntmps64 rfl (fun w0 Z0 => ?_)
 refine aw_sr ?_
 refine al_as rfl rfl ?_
 refine al_nt ?_
 refine aw_seq ?_
 refine aw_sr ?_
 refine al_mv rfl rfl ?_
 refine al_isNilD 0 rfl rfl rfl Tryd.underlying36 rfl (fun nb1 hn2 => ?_)
 refine al_nt ?_
 refine aw_cond rfl (fun hb3 => ?_) (fun hb3 => ?_)
 ·replace h := (amb_some h).2 (isEmpty_of (hn2 hb3))
  refine aw_sr ?_
  refine al_as rfl rfl ?_
  refine al_nt ?_
  refine aw_ret ?_
  refine aq_then_ret ?_
  refine aq_nilR 43 tyS_api_Edit ?_
  obtain rfl := Option.some.inj h
  exact fn_ret nS [0] [] rfl rfl rfl rfl (res1 rfl rfl) rfl rfl rfl (by decide)
 ·replace h := (amb_some h).1
  refine aw_skip ?_
  refine aq_tr ?_
  refine al_buildSlice (τ := tyS_api_Edit) (e := 43) (k := 0) (sz := 0) (by_ := 0) (z := undef) (cs := []) (xs := ([] : List S_api_Edit)) rfl (by decide) (fun w a hm hs => ⟨([]).toArray, rfl, by simp only [List.map_toArray, List.map_cons, List.map_nil]; exact run_bs [] [] Tryd.underlying36 to43 rfl rfl bs_nil hm⟩) (fun hm => rfl) rfl (fun v4 => ?_)
  refine al_mv rfl rfl ?_
  obtain ⟨hc5, h⟩ := req_some h
  refine al_append 0 hc5.1 hc5.2 rfl (src_dat (i := 0) 0 rfl) rfl rfl Tryd.underlying36 to43 rfl rfl rfl (fun v6 => ?_)
  refine al_as rfl rfl ?_
  refine al_nt ?_
  refine aw_ret ?_
  obtain rfl := Option.some.inj h
  exact fn_ret v6 [0] [] rfl rfl rfl rfl (res1 rfl rfl) rfl rfl rfl (by decide)
def f_delta_Join_1_ptrD_ptrD (fu : Nat) (a0 : S_api_Edit) (a1 : S_api_Edit) (a2 : (List S_api_Edit)) : Option (List S_api_Edit) := (req (((a2.length + ([a1]).length) * 80 : Nat) ≤ 140737488355328 ∧ a2.length + ([a1]).length ≤ 9223372036854775807) (some (a2 ++ ([a1]))))
set_option maxHeartbeats 2000000 in
set_option maxRecDepth 100000 in
theorem f_delta_Join_1_ptrD_ptrD_ok (fu : Nat) (v0_0 : Value) (a0 : S_api_Edit) (v1_0 : Value) (a1 : S_api_Edit) (bx2 : Nat) (v2_0 : Value) (a2 : (List S_api_Edit)) {r : (List S_api_Edit)} (h : f_delta_Join_1_ptrD_ptrD fu a0 a1 a2 = some r) : FnOk Tryd.prog 63 [v0_0, v1_0, (ptr bx2 0)] [(fPtr tyS_api_Edit v0_0 a0), (fPtr tyS_api_Edit v1_0 a1)] [(oBox bx2 36 [v2_0]), (oRow v2_0 43 tyS_api_Edit a2)] (fun (i : Value) => { val := (Value.tuple #[]), own := [(oBox bx2 36 [i]), (oRow i 43 tyS_api_Edit r)] }) := by
 unfold f_delta_Join_1_ptrD_ptrD at h
 refine fn_enter Tryd.func63 rfl Tryd.ntmps63 rfl (fun w0 Z0 => ?_)
 refine aw_seq ?_
 refine aw_sr ?_
 refine al_mv rfl rfl ?_
 refine al_val (ov_ptrNeP 1 rfl rfl rfl Tryd.underlying100 rfl) ?_
 refine al_nt ?_
 refine aw_cond_t rfl ?_
 refine aw_region ?_
 refine al_mv rfl rfl ?_
 refine al_as rfl rfl ?_
 refine al_nt ?_
 refine aw_region_open [⟨0, 8, Unit, fun _ => { val := v2_0 }⟩, ⟨1, 9, Unit, fun _ => { val := v1_0 }⟩, ⟨2, 10, Unit, fun _ => { val := v1_0 }⟩, ⟨3, 11, Unit, fun _ => { val := (ag [(str a1.Path), (bool a1.Gone), (str a1.Item.Path), (iq a1.Item.Kind), (iq a1.Item.Mode), (iq a1.Item.Time), (str a1.Item.Bytes)]) }⟩, ⟨4, 12, Value, fun (i : Value) => { val := i, own := [(oRow i 43 tyS_api_Edit [a1])] }⟩] (tab [(0, v1_0), (2, (pq bx2))]) mixed (fun a hs => hs.tab _ (allT_mem ⟨rfl, rfl, trivial⟩)) ?_
 refine ta_show (m := (memOf w0 Z0 [(oBox bx2 36 [v2_0]), (oRow v2_0 43 tyS_api_Edit a2)] [(oBox bx2 36 [v2_0]), (oRow v2_0 43 tyS_api_Edit a2)] [(fPtr tyS_api_Edit v0_0 a0), (fPtr tyS_api_Edit v1_0 a1)])) (S := (tab [(0, v1_0), (2, (pq bx2))])) ?_
 refine ta_step 5 _ [0, 1, 2, 3, 4] [8, 9, 10, 11, 12] [0, 1, 2, 3, 4] [] [⟨0, 8, Unit, fun _ => { val := v2_0 }⟩, ⟨1, 9, Unit, fun _ => { val := v1_0 }⟩, ⟨2, 10, Unit, fun _ => { val := v1_0 }⟩, ⟨3, 11, Unit, fun _ => { val := (ag [(str a1.Path), (bool a1.Gone), (str a1.Item.Path), (iq a1.Item.Kind), (iq a1.Item.Mode), (iq a1.Item.Time), (str a1.Item.Bytes)]) }⟩, ⟨4, 12, Value, fun (i : Value) => { val := i, own := [(oRow i 43 tyS_api_Edit [a1])] }⟩] [] rfl rfl rfl (by kernel_rfl) rfl rfl rfl ⟨⟨_, rfl, [], rfl, by
 intro X_ Y_ F_ K_ hK_
 refine al_show (m := Mem.plus (memOf w0 Z0 [(oBox bx2 36 [v2_0]), (oRow v2_0 43 tyS_api_Edit a2)] [(oBox bx2 36 [v2_0]), (oRow v2_0 43 tyS_api_Edit a2)] [(fPtr tyS_api_Edit v0_0 a0), (fPtr tyS_api_Edit v1_0 a1)]) X_ Y_) (S := over (tab [(0, v1_0), (2, (pq bx2))]) F_) ?_
 refine al_val (ov_load (i := 0) (v := v2_0) rfl rfl Tryd.underlying36 sz36 rfl rfl rfl rfl) ?_
 refine al_nil ?_
 exact fr_fin hK_ ()⟩, ⟨_, rfl, [], rfl, by
 intro X_ Y_ F_ K_ hK_
 refine al_show (m := Mem.plus (memOf w0 Z0 [(oBox bx2 36 [v2_0]), (oRow v2_0 43 tyS_api_Edit a2)] [(oBox bx2 36 [v2_0]), (oRow v2_0 43 tyS_api_Edit a2)] [(fPtr tyS_api_Edit v0_0 a0), (fPtr tyS_api_Edit v1_0 a1)]) X_ Y_) (S := over (tab [(0, v1_0), (2, (pq bx2))]) F_) ?_
 refine al_mv rfl rfl ?_
 refine al_nil ?_
 exact fr_fin hK_ ()⟩, ⟨_, rfl, [1], rfl, by
 intro _
 intro X_ Y_ F_ K_ hK_
 refine al_show (m := Mem.plus (memOf w0 Z0 [(oBox bx2 36 [v2_0]), (oRow v2_0 43 tyS_api_Edit a2)] [(oBox bx2 36 [v2_0]), (oRow v2_0 43 tyS_api_Edit a2)] [(fPtr tyS_api_Edit v0_0 a0), (fPtr tyS_api_Edit v1_0 a1)]) X_ Y_) (S := over (put (tab [(0, v1_0), (2, (pq bx2))]) 9 v1_0) F_) ?_
 refine al_val (ov_nilCheckP 1 rfl rfl rfl) ?_
 refine al_nil ?_
 exact fr_fin hK_ ()⟩, ⟨_, rfl, [2], rfl, by
 intro _
 intro X_ Y_ F_ K_ hK_
 refine al_show (m := Mem.plus (memOf w0 Z0 [(oBox bx2 36 [v2_0]), (oRow v2_0 43 tyS_api_Edit a2)] [(oBox bx2 36 [v2_0]), (oRow v2_0 43 tyS_api_Edit a2)] [(fPtr tyS_api_Edit v0_0 a0), (fPtr tyS_api_Edit v1_0 a1)]) X_ Y_) (S := over (put (tab [(0, v1_0), (2, (pq bx2))]) 10 v1_0) F_) ?_
 refine al_val (ov_loadP (ds := [(str a1.Path), (bool a1.Gone), (str a1.Item.Path), (iq a1.Item.Kind), (iq a1.Item.Mode), (iq a1.Item.Time), (str a1.Item.Bytes)]) 1 rfl encS_api_Edit rfl Tryd.underlying43 sz43 rfl rfl rfl) ?_
 refine al_nil ?_
 exact fr_fin hK_ ()⟩, ⟨_, rfl, [3], rfl, by
 intro _
 intro X_ Y_ F_ K_ hK_
 refine al_show (m := Mem.plus (memOf w0 Z0 [(oBox bx2 36 [v2_0]), (oRow v2_0 43 tyS_api_Edit a2)] [(oBox bx2 36 [v2_0]), (oRow v2_0 43 tyS_api_Edit a2)] [(fPtr tyS_api_Edit v0_0 a0), (fPtr tyS_api_Edit v1_0 a1)]) X_ Y_) (S := over (put (tab [(0, v1_0), (2, (pq bx2))]) 11 (ag [(str a1.Path), (bool a1.Gone), (str a1.Item.Path), (iq a1.Item.Kind), (iq a1.Item.Mode), (iq a1.Item.Time), (str a1.Item.Bytes)])) F_) ?_
 refine al_buildSlice (τ := tyS_api_Edit) (e := 43) (k := 1) (sz := 0) (by_ := 0) (z := undef) (cs := [(str a1.Path), (bool a1.Gone), (str a1.Item.Path), (iq a1.Item.Kind), (iq a1.Item.Mode), (iq a1.Item.Time), (str a1.Item.Bytes)]) (xs := [a1]) rfl (by decide) (fun w a hm hs => ⟨([(str a1.Path), (bool a1.Gone), (str a1.Item.Path), (iq a1.Item.Kind), (iq a1.Item.Mode), (iq a1.Item.Time), (str a1.Item.Bytes)]).toArray, rfl, by simp only [List.map_toArray, List.map_cons, List.map_nil, hs.ev (x := .tmp 11) rfl]; exact run_bs [(ag [(str a1.Path), (bool a1.Gone), (str a1.Item.Path), (iq a1.Item.Kind), (iq a1.Item.Mode), (iq a1.Item.Time), (str a1.Item.Bytes)])] [(str a1.Path), (bool a1.Gone), (str a1.Item.Path), (iq a1.Item.Kind), (iq a1.Item.Mode), (iq a1.Item.Time), (str a1.Item.Bytes)] Tryd.underlying36 to43 rfl rfl (bs_cons (l := [(str a1.Path), (bool a1.Gone), (str a1.Item.Path), (iq a1.Item.Kind), (iq a1.Item.Mode), (iq a1.Item.Time), (str a1.Item.Bytes)]) (cs := []) (cv_rfl rfl) rfl bs_nil) hm⟩) (fun hm => ⟨_, _, rfl, (fun _ => mkS_api_Edit rfl) hm, rfl⟩) rfl (fun v1 => ?_)
 refine al_nil ?_
 exact fr_fin hK_ v1⟩, trivial⟩ ?_
 intro _
 intro _
 intro _
 intro _
 intro v1
 intro X_ Y_ F_ K_ hK_
 refine al_show (m := Mem.plus (memOf w0 Z0 [(oBox bx2 36 [v2_0]), (oRow v2_0 43 tyS_api_Edit a2)] [(oRow v1 43 tyS_api_Edit [a1]), (oBox bx2 36 [v2_0]), (oRow v2_0 43 tyS_api_Edit a2)] [(fPtr tyS_api_Edit v0_0 a0), (fPtr tyS_api_Edit v1_0 a1)]) X_ Y_) (S := over (put (put (put (put (put (tab [(0, v1_0), (2, (pq bx2))]) 8 v2_0) 9 v1_0) 10 v1_0) 11 (ag [(str a1.Path), (bool a1.Gone), (str a1.Item.Path), (iq a1.Item.Kind), (iq a1.Item.Mode), (iq a1.Item.Time), (str a1.Item.Bytes)])) 12 v1) F_) ?_
 obtain ⟨hc2, h⟩ := req_some h
 refine al_append 2 hc2.1 hc2.2 rfl (src_own (i := 2) 0 rfl) rfl rfl Tryd.underlying36 to43 rfl rfl rfl (fun v3 => ?_)
 refine al_nil ?_
 refine aq_show (m := Mem.plus (memOf w0 Z0 [(oBox bx2 36 [v2_0]), (oRow v2_0 43 tyS_api_Edit a2)] [(oRow v1 43 tyS_api_Edit [a1]), (oBox bx2 36 [v2_0]), (oRow v3 43 tyS_api_Edit (a2 ++ ([a1])))] [(fPtr tyS_api_Edit v0_0 a0), (fPtr tyS_api_Edit v1_0 a1)]) X_ Y_) ?_
 refine aq_next hK_ [0, 1, 2] [0, 1] [(2, (pq bx2)), (13, v3)] [] [] rfl rfl (by decide) rfl ⟨rfl, rfl, trivial⟩ trivial ?_
 clear hK_ K_ F_ X_ Y_
 refine ta_show (m := (memOf w0 Z0 [(oBox bx2 36 [v2_0]), (oRow v2_0 43 tyS_api_Edit a2)] [(oRow v1 43 tyS_api_Edit [a1]), (oBox bx2 36 [v2_0]), (oRow v3 43 tyS_api_Edit (a2 ++ ([a1])))] [(fPtr tyS_api_Edit v0_0 a0), (fPtr tyS_api_Edit v1_0 a1)])) (S := (tab [(2, (pq bx2)), (13, v3)])) ?_
 refine ta_step 6 _ [] [] [] [] [] [] rfl rfl rfl (by kernel_rfl) rfl rfl rfl trivial ?_
 intro X_ Y_ F_ K_ hK_
 refine al_show (m := Mem.plus (memOf w0 Z0 [(oBox bx2 36 [v2_0]), (oRow v2_0 43 tyS_api_Edit a2)] [(oRow v1 43 tyS_api_Edit [a1]), (oBox bx2 36 [v2_0]), (oRow v3 43 tyS_api_Edit (a2 ++ ([a1])))] [(fPtr tyS_api_Edit v0_0 a0), (fPtr tyS_api_Edit v1_0 a1)]) X_ Y_) (S := over (tab [(2, (pq bx2)), (13, v3)]) F_) ?_
 refine al_store (i := 1) (vs := [v3]) (cs' := [v3]) rfl rfl rfl sz36 (cv_own 2 rfl) rfl (co_own 2 rfl co_nil) (Nat.le_of_ble_eq_true rfl) rfl rfl ?_
 refine al_nil ?_
 refine aq_show (m := Mem.plus (memOf w0 Z0 [(oBox bx2 36 [v2_0]), (oRow v2_0 43 tyS_api_Edit a2)] [(oRow v1 43 tyS_api_Edit [a1]), (oBox bx2 36 [v3]), (oRow v3 43 tyS_api_Edit (a2 ++ ([a1])))] [(fPtr tyS_api_Edit v0_0 a0), (fPtr tyS_api_Edit v1_0 a1)]) X_ Y_) ?_
 refine aq_next hK_ [0, 1, 2] [0, 1] [(2, (pq bx2))] [] [] rfl rfl (by decide) rfl ⟨rfl, trivial⟩ trivial ?_
 clear hK_ K_ F_ X_ Y_
 refine ta_show (m := (memOf w0 Z0 [(oBox bx2 36 [v2_0]), (oRow v2_0 43 tyS_api_Edit a2)] [(oRow v1 43 tyS_api_Edit [a1]), (oBox bx2 36 [v3]), (oRow v3 43 tyS_api_Edit (a2 ++ ([a1])))] [(fPtr tyS_api_Edit v0_0 a0), (fPtr tyS_api_Edit v1_0 a1)])) (S := (tab [(2, (pq bx2))])) ?_
 refine ta_end [] [] rfl rfl (by kernel_rfl) rfl trivial ?_
 refine aq_show (m := (memOf w0 Z0 [(oBox bx2 36 [v2_0]), (oRow v2_0 43 tyS_api_Edit a2)] [(oRow v1 43 tyS_api_Edit [a1]), (oBox bx2 36 [v3]), (oRow v3 43 tyS_api_Edit (a2 ++ ([a1])))] [(fPtr tyS_api_Edit v0_0 a0), (fPtr tyS_api_Edit v1_0 a1)])) (S := (tab [(2, (pq bx2))])) ?_
 refine fn_end ?_
 obtain rfl := Option.some.inj h
 exact fn_ret v3 [1, 2] [] rfl rfl rfl rfl (resC rfl (resN) rfl) rfl rfl rfl (by decide)
def f_delta_Join_1_ptrD_nilp (fu : Nat) (a0 : S_api_Edit) (a2 : (List S_api_Edit)) : Option (List S_api_Edit) := (req (((a2.length + ([a0]).length) * 80 : Nat) ≤ 140737488355328 ∧ a2.length + ([a0]).length ≤ 9223372036854775807) (some (a2 ++ ([a0]))))
set_option maxHeartbeats 2000000 in
set_option maxRecDepth 100000 in
theorem f_delta_Join_1_ptrD_nilp_ok (fu : Nat) (v0_0 : Value) (a0 : S_api_Edit) (bx2 : Nat) (v2_0 : Value) (a2 : (List S_api_Edit)) {r : (List S_api_Edit)} (h : f_delta_Join_1_ptrD_nilp fu a0 a2 = some r) : FnOk Tryd.prog 63 [v0_0, (Value.pointer none), (ptr bx2 0)] [(fPtr tyS_api_Edit v0_0 a0)] [(oBox bx2 36 [v2_0]), (oRow v2_0 43 tyS_api_Edit a2)] (fun (i : Value) => { val := (Value.tuple #[]), own := [(oBox bx2 36 [i]), (oRow i 43 tyS_api_Edit r)] }) := by
 unfold f_delta_Join_1_ptrD_nilp at h
 refine fn_enter Tryd.func63 rfl Tryd.ntmps63 rfl (fun w0 Z0 => ?_)
 refine aw_seq ?_
 refine aw_sr ?_
 refine al_mv rfl rfl ?_
 refine al_val (ov_ptrNeN rfl rfl Tryd.underlying100 rfl) ?_
 refine al_nt ?_
 refine aw_cond_f rfl ?_
 refine aw_skip ?_
 refine aq_then ?_
 refine aw_region_open [⟨0, 8, Unit, fun _ => { val := v2_0 }⟩, ⟨1, 9, Unit, fun _ => { val := v0_0 }⟩, ⟨2, 10, Unit, fun _ => { val := v0_0 }⟩, ⟨3, 11, Unit, fun _ => { val := (ag [(str a0.Path), (bool a0.Gone), (str a0.Item.Path), (iq a0.Item.Kind), (iq a0.Item.Mode), (iq a0.Item.Time), (str a0.Item.Bytes)]) }⟩, ⟨4, 12, Value, fun (i : Value) => { val := i, own := [(oRow i 43 tyS_api_Edit [a0])] }⟩] (tab [(0, v0_0), (2, (pq bx2))]) mixed (fun a hs => hs.tab _ (allT_mem ⟨rfl, rfl, trivial⟩)) ?_
 refine ta_show (m := (memOf w0 Z0 [(oBox bx2 36 [v2_0]), (oRow v2_0 43 tyS_api_Edit a2)] [(oBox bx2 36 [v2_0]), (oRow v2_0 43 tyS_api_Edit a2)] [(fPtr tyS_api_Edit v0_0 a0)])) (S := (tab [(0, v0_0), (2, (pq bx2))])) ?_
 refine ta_step 5 _ [0, 1, 2, 3, 4] [8, 9, 10, 11, 12] [0, 1, 2, 3, 4] [] [⟨0, 8, Unit, fun _ => { val := v2_0 }⟩, ⟨1, 9, Unit, fun _ => { val := v0_0 }⟩, ⟨2, 10, Unit, fun _ => { val := v0_0 }⟩, ⟨3, 11, Unit, fun _ => { val := (ag [(str a0.Path), (bool a0.Gone), (str a0.Item.Path), (iq a0.Item.Kind), (iq a0.Item.Mode), (iq a0.Item.Time), (str a0.Item.Bytes)]) }⟩, ⟨4, 12, Value, fun (i : Value) => { val := i, own := [(oRow i 43 tyS_api_Edit [a0])] }⟩] [] rfl rfl rfl (by kernel_rfl) rfl rfl rfl ⟨⟨_, rfl, [], rfl, by
 intro X_ Y_ F_ K_ hK_
 refine al_show (m := Mem.plus (memOf w0 Z0 [(oBox bx2 36 [v2_0]), (oRow v2_0 43 tyS_api_Edit a2)] [(oBox bx2 36 [v2_0]), (oRow v2_0 43 tyS_api_Edit a2)] [(fPtr tyS_api_Edit v0_0 a0)]) X_ Y_) (S := over (tab [(0, v0_0), (2, (pq bx2))]) F_) ?_
 refine al_val (ov_load (i := 0) (v := v2_0) rfl rfl Tryd.underlying36 sz36 rfl rfl rfl rfl) ?_
 refine al_nil ?_
 exact fr_fin hK_ ()⟩, ⟨_, rfl, [], rfl, by
 intro X_ Y_ F_ K_ hK_
 refine al_show (m := Mem.plus (memOf w0 Z0 [(oBox bx2 36 [v2_0]), (oRow v2_0 43 tyS_api_Edit a2)] [(oBox bx2 36 [v2_0]), (oRow v2_0 43 tyS_api_Edit a2)] [(fPtr tyS_api_Edit v0_0 a0)]) X_ Y_) (S := over (tab [(0, v0_0), (2, (pq bx2))]) F_) ?_
 refine al_mv rfl rfl ?_
 refine al_nil ?_
 exact fr_fin hK_ ()⟩, ⟨_, rfl, [1], rfl, by
 intro _
 intro X_ Y_ F_ K_ hK_
 refine al_show (m := Mem.plus (memOf w0 Z0 [(oBox bx2 36 [v2_0]), (oRow v2_0 43 tyS_api_Edit a2)] [(oBox bx2 36 [v2_0]), (oRow v2_0 43 tyS_api_Edit a2)] [(fPtr tyS_api_Edit v0_0 a0)]) X_ Y_) (S := over (put (tab [(0, v0_0), (2, (pq bx2))]) 9 v0_0) F_) ?_
 refine al_val (ov_nilCheckP 0 rfl rfl rfl) ?_
 refine al_nil ?_
 exact fr_fin hK_ ()⟩, ⟨_, rfl, [2], rfl, by
 intro _
 intro X_ Y_ F_ K_ hK_
 refine al_show (m := Mem.plus (memOf w0 Z0 [(oBox bx2 36 [v2_0]), (oRow v2_0 43 tyS_api_Edit a2)] [(oBox bx2 36 [v2_0]), (oRow v2_0 43 tyS_api_Edit a2)] [(fPtr tyS_api_Edit v0_0 a0)]) X_ Y_) (S := over (put (tab [(0, v0_0), (2, (pq bx2))]) 10 v0_0) F_) ?_
 refine al_val (ov_loadP (ds := [(str a0.Path), (bool a0.Gone), (str a0.Item.Path), (iq a0.Item.Kind), (iq a0.Item.Mode), (iq a0.Item.Time), (str a0.Item.Bytes)]) 0 rfl encS_api_Edit rfl Tryd.underlying43 sz43 rfl rfl rfl) ?_
 refine al_nil ?_
 exact fr_fin hK_ ()⟩, ⟨_, rfl, [3], rfl, by
 intro _
 intro X_ Y_ F_ K_ hK_
 refine al_show (m := Mem.plus (memOf w0 Z0 [(oBox bx2 36 [v2_0]), (oRow v2_0 43 tyS_api_Edit a2)] [(oBox bx2 36 [v2_0]), (oRow v2_0 43 tyS_api_Edit a2)] [(fPtr tyS_api_Edit v0_0 a0)]) X_ Y_) (S := over (put (tab [(0, v0_0), (2, (pq bx2))]) 11 (ag [(str a0.Path), (bool a0.Gone), (str a0.Item.Path), (iq a0.Item.Kind), (iq a0.Item.Mode), (iq a0.Item.Time), (str a0.Item.Bytes)])) F_) ?_
 refine al_buildSlice (τ := tyS_api_Edit) (e := 43) (k := 1) (sz := 0) (by_ := 0) (z := undef) (cs := [(str a0.Path), (bool a0.Gone), (str a0.Item.Path), (iq a0.Item.Kind), (iq a0.Item.Mode), (iq a0.Item.Time), (str a0.Item.Bytes)]) (xs := [a0]) rfl (by decide) (fun w a hm hs => ⟨([(str a0.Path), (bool a0.Gone), (str a0.Item.Path), (iq a0.Item.Kind), (iq a0.Item.Mode), (iq a0.Item.Time), (str a0.Item.Bytes)]).toArray, rfl, by simp only [List.map_toArray, List.map_cons, List.map_nil, hs.ev (x := .tmp 11) rfl]; exact run_bs [(ag [(str a0.Path), (bool a0.Gone), (str a0.Item.Path), (iq a0.Item.Kind), (iq a0.Item.Mode), (iq a0.Item.Time), (str a0.Item.Bytes)])] [(str a0.Path), (bool a0.Gone), (str a0.Item.Path), (iq a0.Item.Kind), (iq a0.Item.Mode), (iq a0.Item.Time), (str a0.Item.Bytes)] Tryd.underlying36 to43 rfl rfl (bs_cons (l := [(str a0.Path), (bool a0.Gone), (str a0.Item.Path), (iq a0.Item.Kind), (iq a0.Item.Mode), (iq a0.Item.Time), (str a0.Item.Bytes)]) (cs := []) (cv_rfl rfl) rfl bs_nil) hm⟩) (fun hm => ⟨_, _, rfl, (fun _ => mkS_api_Edit rfl) hm, rfl⟩) rfl (fun v1 => ?_)
 refine al_nil ?_
 exact fr_fin hK_ v1⟩, trivial⟩ ?_
 intro _
 intro _
 intro _
 intro _
 intro v1
 intro X_ Y_ F_ K_ hK_
 refine al_show (m := Mem.plus (memOf w0 Z0 [(oBox bx2 36 [v2_0]), (oRow v2_0 43 tyS_api_Edit a2)] [(oRow v1 43 tyS_api_Edit [a0]), (oBox bx2 36 [v2_0]), (oRow v2_0 43 tyS_api_Edit a2)] [(fPtr tyS_api_Edit v0_0 a0)]) X_ Y_) (S := over (put (put (put (put (put (tab [(0, v0_0), (2, (pq bx2))]) 8 v2_0) 9 v0_0) 10 v0_0) 11 (ag [(str a0.Path), (bool a0.Gone), (str a0.Item.Path), (iq a0.Item.Kind), (iq a0.Item.Mode), (iq a0.Item.Time), (str a0.Item.Bytes)])) 12 v1) F_) ?_
 obtain ⟨hc2, h⟩ := req_some h
 refine al_append 2 hc2.1 hc2.2 rfl (src_own (i := 2) 0 rfl) rfl rfl Tryd.underlying36 to43 rfl rfl rfl (fun v3 => ?_)
 refine al_nil ?_
 refine aq_show (m := Mem.plus (memOf w0 Z0 [(oBox bx2 36 [v2_0]), (oRow v2_0 43 tyS_api_Edit a2)] [(oRow v1 43 tyS_api_Edit [a0]), (oBox bx2 36 [v2_0]), (oRow v3 43 tyS_api_Edit (a2 ++ ([a0])))] [(fPtr tyS_api_Edit v0_0 a0)]) X_ Y_) ?_
 refine aq_next hK_ [0, 1, 2] [0] [(2, (pq bx2)), (13, v3)] [] [] rfl rfl (by decide) rfl ⟨rfl, rfl, trivial⟩ trivial ?_
 clear hK_ K_ F_ X_ Y_
 refine ta_show (m := (memOf w0 Z0 [(oBox bx2 36 [v2_0]), (oRow v2_0 43 tyS_api_Edit a2)] [(oRow v1 43 tyS_api_Edit [a0]), (oBox bx2 36 [v2_0]), (oRow v3 43 tyS_api_Edit (a2 ++ ([a0])))] [(fPtr tyS_api_Edit v0_0 a0)])) (S := (tab [(2, (pq bx2)), (13, v3)])) ?_
 refine ta_step 6 _ [] [] [] [] [] [] rfl rfl rfl (by kernel_rfl) rfl rfl rfl trivial ?_
 intro X_ Y_ F_ K_ hK_
 refine al_show (m := Mem.plus (memOf w0 Z0 [(oBox bx2 36 [v2_0]), (oRow v2_0 43 tyS_api_Edit a2)] [(oRow v1 43 tyS_api_Edit [a0]), (oBox bx2 36 [v2_0]), (oRow v3 43 tyS_api_Edit (a2 ++ ([a0])))] [(fPtr tyS_api_Edit v0_0 a0)]) X_ Y_) (S := over (tab [(2, (pq bx2)), (13, v3)]) F_) ?_
 refine al_store (i := 1) (vs := [v3]) (cs' := [v3]) rfl rfl rfl sz36 (cv_own 2 rfl) rfl (co_own 2 rfl co_nil) (Nat.le_of_ble_eq_true rfl) rfl rfl ?_
 refine al_nil ?_
 refine aq_show (m := Mem.plus (memOf w0 Z0 [(oBox bx2 36 [v2_0]), (oRow v2_0 43 tyS_api_Edit a2)] [(oRow v1 43 tyS_api_Edit [a0]), (oBox bx2 36 [v3]), (oRow v3 43 tyS_api_Edit (a2 ++ ([a0])))] [(fPtr tyS_api_Edit v0_0 a0)]) X_ Y_) ?_
 refine aq_next hK_ [0, 1, 2] [0] [(2, (pq bx2))] [] [] rfl rfl (by decide) rfl ⟨rfl, trivial⟩ trivial ?_
 clear hK_ K_ F_ X_ Y_
 refine ta_show (m := (memOf w0 Z0 [(oBox bx2 36 [v2_0]), (oRow v2_0 43 tyS_api_Edit a2)] [(oRow v1 43 tyS_api_Edit [a0]), (oBox bx2 36 [v3]), (oRow v3 43 tyS_api_Edit (a2 ++ ([a0])))] [(fPtr tyS_api_Edit v0_0 a0)])) (S := (tab [(2, (pq bx2))])) ?_
 refine ta_end [] [] rfl rfl (by kernel_rfl) rfl trivial ?_
 refine aq_show (m := (memOf w0 Z0 [(oBox bx2 36 [v2_0]), (oRow v2_0 43 tyS_api_Edit a2)] [(oRow v1 43 tyS_api_Edit [a0]), (oBox bx2 36 [v3]), (oRow v3 43 tyS_api_Edit (a2 ++ ([a0])))] [(fPtr tyS_api_Edit v0_0 a0)])) (S := (tab [(2, (pq bx2))])) ?_
 refine fn_end ?_
 obtain rfl := Option.some.inj h
 exact fn_ret v3 [1, 2] [] rfl rfl rfl rfl (resC rfl (resN) rfl) rfl rfl rfl (by decide)
def f_delta_Join_1_nilp_ptrD (fu : Nat) (a1 : S_api_Edit) (a2 : (List S_api_Edit)) : Option (List S_api_Edit) := (req (((a2.length + ([a1]).length) * 80 : Nat) ≤ 140737488355328 ∧ a2.length + ([a1]).length ≤ 9223372036854775807) (some (a2 ++ ([a1]))))
set_option maxHeartbeats 2000000 in
set_option maxRecDepth 100000 in
theorem f_delta_Join_1_nilp_ptrD_ok (fu : Nat) (v1_0 : Value) (a1 : S_api_Edit) (bx2 : Nat) (v2_0 : Value) (a2 : (List S_api_Edit)) {r : (List S_api_Edit)} (h : f_delta_Join_1_nilp_ptrD fu a1 a2 = some r) : FnOk Tryd.prog 63 [(Value.pointer none), v1_0, (ptr bx2 0)] [(fPtr tyS_api_Edit v1_0 a1)] [(oBox bx2 36 [v2_0]), (oRow v2_0 43 tyS_api_Edit a2)] (fun (i : Value) => { val := (Value.tuple #[]), own := [(oBox bx2 36 [i]), (oRow i 43 tyS_api_Edit r)] }) := by
 unfold f_delta_Join_1_nilp_ptrD at h
 refine fn_enter Tryd.func63 rfl Tryd.ntmps63 rfl (fun w0 Z0 => ?_)
 refine aw_seq ?_
 refine aw_sr ?_
 refine al_mv rfl rfl ?_
 refine al_val (ov_ptrNeP 0 rfl rfl rfl Tryd.underlying100 rfl) ?_
 refine al_nt ?_
 refine aw_cond_t rfl ?_
 refine aw_region ?_
 refine al_mv rfl rfl ?_
 refine al_as rfl rfl ?_
 refine al_nt ?_
 refine aw_region_open [⟨0, 8, Unit, fun _ => { val := v2_0 }⟩, ⟨1, 9, Unit, fun _ => { val := v1_0 }⟩, ⟨2, 10, Unit, fun _ => { val := v1_0 }⟩, ⟨3, 11, Unit, fun _ => { val := (ag [(str a1.Path), (bool a1.Gone), (str a1.Item.Path), (iq a1.Item.Kind), (iq a1.Item.Mode), (iq a1.Item.Time), (str a1.Item.Bytes)]) }⟩, ⟨4, 12, Value, fun (i : Value) => { val := i, own := [(oRow i 43 tyS_api_Edit [a1])] }⟩] (tab [(0, v1_0), (2, (pq bx2))]) mixed (fun a hs => hs.tab _ (allT_mem ⟨rfl, rfl, trivial⟩)) ?_
 refine ta_show (m := (memOf w0 Z0 [(oBox bx2 36 [v2_0]), (oRow v2_0 43 tyS_api_Edit a2)] [(oBox bx2 36 [v2_0]), (oRow v2_0 43 tyS_api_Edit a2)] [(fPtr tyS_api_Edit v1_0 a1)])) (S := (tab [(0, v1_0), (2, (pq bx2))])) ?_
 refine ta_step 5 _ [0, 1, 2, 3, 4] [8, 9, 10, 11, 12] [0, 1, 2, 3, 4] [] [⟨0, 8, Unit, fun _ => { val := v2_0 }⟩, ⟨1, 9, Unit, fun _ => { val := v1_0 }⟩, ⟨2, 10, Unit, fun _ => { val := v1_0 }⟩, ⟨3, 11, Unit, fun _ => { val := (ag [(str a1.Path), (bool a1.Gone), (str a1.Item.Path), (iq a1.Item.Kind), (iq a1.Item.Mode), (iq a1.Item.Time), (str a1.Item.Bytes)]) }⟩, ⟨4, 12, Value, fun (i : Value) => { val := i, own := [(oRow i 43 tyS_api_Edit [a1])] }⟩] [] rfl rfl rfl (by kernel_rfl) rfl rfl rfl ⟨⟨_, rfl, [], rfl, by
 intro X_ Y_ F_ K_ hK_
 refine al_show (m := Mem.plus (memOf w0 Z0 [(oBox bx2 36 [v2_0]), (oRow v2_0 43 tyS_api_Edit a2)] [(oBox bx2 36 [v2_0]), (oRow v2_0 43 tyS_api_Edit a2)] [(fPtr tyS_api_Edit v1_0 a1)]) X_ Y_) (S := over (tab [(0, v1_0), (2, (pq bx2))]) F_) ?_
 refine al_val (ov_load (i := 0) (v := v2_0) rfl rfl Tryd.underlying36 sz36 rfl rfl rfl rfl) ?_
 refine al_nil ?_
 exact fr_fin hK_ ()⟩, ⟨_, rfl, [], rfl, by
 intro X_ Y_ F_ K_ hK_
 refine al_show (m := Mem.plus (memOf w0 Z0 [(oBox bx2 36 [v2_0]), (oRow v2_0 43 tyS_api_Edit a2)] [(oBox bx2 36 [v2_0]), (oRow v2_0 43 tyS_api_Edit a2)] [(fPtr tyS_api_Edit v1_0 a1)]) X_ Y_) (S := over (tab [(0, v1_0), (2, (pq bx2))]) F_) ?_
 refine al_mv rfl rfl ?_
 refine al_nil ?_
 exact fr_fin hK_ ()⟩, ⟨_, rfl, [1], rfl, by
 intro _
 intro X_ Y_ F_ K_ hK_
 refine al_show (m := Mem.plus (memOf w0 Z0 [(oBox bx2 36 [v2_0]), (oRow v2_0 43 tyS_api_Edit a2)] [(oBox bx2 36 [v2_0]), (oRow v2_0 43 tyS_api_Edit a2)] [(fPtr tyS_api_Edit v1_0 a1)]) X_ Y_) (S := over (put (tab [(0, v1_0), (2, (pq bx2))]) 9 v1_0) F_) ?_
 refine al_val (ov_nilCheckP 0 rfl rfl rfl) ?_
 refine al_nil ?_
 exact fr_fin hK_ ()⟩, ⟨_, rfl, [2], rfl, by
 intro _
 intro X_ Y_ F_ K_ hK_
 refine al_show (m := Mem.plus (memOf w0 Z0 [(oBox bx2 36 [v2_0]), (oRow v2_0 43 tyS_api_Edit a2)] [(oBox bx2 36 [v2_0]), (oRow v2_0 43 tyS_api_Edit a2)] [(fPtr tyS_api_Edit v1_0 a1)]) X_ Y_) (S := over (put (tab [(0, v1_0), (2, (pq bx2))]) 10 v1_0) F_) ?_
 refine al_val (ov_loadP (ds := [(str a1.Path), (bool a1.Gone), (str a1.Item.Path), (iq a1.Item.Kind), (iq a1.Item.Mode), (iq a1.Item.Time), (str a1.Item.Bytes)]) 0 rfl encS_api_Edit rfl Tryd.underlying43 sz43 rfl rfl rfl) ?_
 refine al_nil ?_
 exact fr_fin hK_ ()⟩, ⟨_, rfl, [3], rfl, by
 intro _
 intro X_ Y_ F_ K_ hK_
 refine al_show (m := Mem.plus (memOf w0 Z0 [(oBox bx2 36 [v2_0]), (oRow v2_0 43 tyS_api_Edit a2)] [(oBox bx2 36 [v2_0]), (oRow v2_0 43 tyS_api_Edit a2)] [(fPtr tyS_api_Edit v1_0 a1)]) X_ Y_) (S := over (put (tab [(0, v1_0), (2, (pq bx2))]) 11 (ag [(str a1.Path), (bool a1.Gone), (str a1.Item.Path), (iq a1.Item.Kind), (iq a1.Item.Mode), (iq a1.Item.Time), (str a1.Item.Bytes)])) F_) ?_
 refine al_buildSlice (τ := tyS_api_Edit) (e := 43) (k := 1) (sz := 0) (by_ := 0) (z := undef) (cs := [(str a1.Path), (bool a1.Gone), (str a1.Item.Path), (iq a1.Item.Kind), (iq a1.Item.Mode), (iq a1.Item.Time), (str a1.Item.Bytes)]) (xs := [a1]) rfl (by decide) (fun w a hm hs => ⟨([(str a1.Path), (bool a1.Gone), (str a1.Item.Path), (iq a1.Item.Kind), (iq a1.Item.Mode), (iq a1.Item.Time), (str a1.Item.Bytes)]).toArray, rfl, by simp only [List.map_toArray, List.map_cons, List.map_nil, hs.ev (x := .tmp 11) rfl]; exact run_bs [(ag [(str a1.Path), (bool a1.Gone), (str a1.Item.Path), (iq a1.Item.Kind), (iq a1.Item.Mode), (iq a1.Item.Time), (str a1.Item.Bytes)])] [(str a1.Path), (bool a1.Gone), (str a1.Item.Path), (iq a1.Item.Kind), (iq a1.Item.Mode), (iq a1.Item.Time), (str a1.Item.Bytes)] Tryd.underlying36 to43 rfl rfl (bs_cons (l := [(str a1.Path), (bool a1.Gone), (str a1.Item.Path), (iq a1.Item.Kind), (iq a1.Item.Mode), (iq a1.Item.Time), (str a1.Item.Bytes)]) (cs := []) (cv_rfl rfl) rfl bs_nil) hm⟩) (fun hm => ⟨_, _, rfl, (fun _ => mkS_api_Edit rfl) hm, rfl⟩) rfl (fun v1 => ?_)
 refine al_nil ?_
 exact fr_fin hK_ v1⟩, trivial⟩ ?_
 intro _
 intro _
 intro _
 intro _
 intro v1
 intro X_ Y_ F_ K_ hK_
 refine al_show (m := Mem.plus (memOf w0 Z0 [(oBox bx2 36 [v2_0]), (oRow v2_0 43 tyS_api_Edit a2)] [(oRow v1 43 tyS_api_Edit [a1]), (oBox bx2 36 [v2_0]), (oRow v2_0 43 tyS_api_Edit a2)] [(fPtr tyS_api_Edit v1_0 a1)]) X_ Y_) (S := over (put (put (put (put (put (tab [(0, v1_0), (2, (pq bx2))]) 8 v2_0) 9 v1_0) 10 v1_0) 11 (ag [(str a1.Path), (bool a1.Gone), (str a1.Item.Path), (iq a1.Item.Kind), (iq a1.Item.Mode), (iq a1.Item.Time), (str a1.Item.Bytes)])) 12 v1) F_) ?_
 obtain ⟨hc2, h⟩ := req_some h
 refine al_append 2 hc2.1 hc2.2 rfl (src_own (i := 2) 0 rfl) rfl rfl Tryd.underlying36 to43 rfl rfl rfl (fun v3 => ?_)
 refine al_nil ?_
 refine aq_show (m := Mem.plus (memOf w0 Z0 [(oBox bx2 36 [v2_0]), (oRow v2_0 43 tyS_api_Edit a2)] [(oRow v1 43 tyS_api_Edit [a1]), (oBox bx2 36 [v2_0]), (oRow v3 43 tyS_api_Edit (a2 ++ ([a1])))] [(fPtr tyS_api_Edit v1_0 a1)]) X_ Y_) ?_
 refine aq_next hK_ [0, 1, 2] [0] [(2, (pq bx2)), (13, v3)] [] [] rfl rfl (by decide) rfl ⟨rfl, rfl, trivial⟩ trivial ?_
 clear hK_ K_ F_ X_ Y_
 refine ta_show (m := (memOf w0 Z0 [(oBox bx2 36 [v2_0]), (oRow v2_0 43 tyS_api_Edit a2)] [(oRow v1 43 tyS_api_Edit [a1]), (oBox bx2 36 [v2_0]), (oRow v3 43 tyS_api_Edit (a2 ++ ([a1])))] [(fPtr tyS_api_Edit v1_0 a1)])) (S := (tab [(2, (pq bx2)), (13, v3)])) ?_
 refine ta_step 6 _ [] [] [] [] [] [] rfl rfl rfl (by kernel_rfl) rfl rfl rfl trivial ?_
 intro X_ Y_ F_ K_ hK_
 refine al_show (m := Mem.plus (memOf w0 Z0 [(oBox bx2 36 [v2_0]), (oRow v2_0 43 tyS_api_Edit a2)] [(oRow v1 43 tyS_api_Edit [a1]), (oBox bx2 36 [v2_0]), (oRow v3 43 tyS_api_Edit (a2 ++ ([a1])))] [(fPtr tyS_api_Edit v1_0 a1)]) X_ Y_) (S := over (tab [(2, (pq bx2)), (13, v3)]) F_) ?_
 refine al_store (i := 1) (vs := [v3]) (cs' := [v3]) rfl rfl rfl sz36 (cv_own 2 rfl) rfl (co_own 2 rfl co_nil) (Nat.le_of_ble_eq_true rfl) rfl rfl ?_
 refine al_nil ?_
 refine aq_show (m := Mem.plus (memOf w0 Z0 [(oBox bx2 36 [v2_0]), (oRow v2_0 43 tyS_api_Edit a2)] [(oRow v1 43 tyS_api_Edit [a1]), (oBox bx2 36 [v3]), (oRow v3 43 tyS_api_Edit (a2 ++ ([a1])))] [(fPtr tyS_api_Edit v1_0 a1)]) X_ Y_) ?_
 refine aq_next hK_ [0, 1, 2] [0] [(2, (pq bx2))] [] [] rfl rfl (by decide) rfl ⟨rfl, trivial⟩ trivial ?_
 clear hK_ K_ F_ X_ Y_
 refine ta_show (m := (memOf w0 Z0 [(oBox bx2 36 [v2_0]), (oRow v2_0 43 tyS_api_Edit a2)] [(oRow v1 43 tyS_api_Edit [a1]), (oBox bx2 36 [v3]), (oRow v3 43 tyS_api_Edit (a2 ++ ([a1])))] [(fPtr tyS_api_Edit v1_0 a1)])) (S := (tab [(2, (pq bx2))])) ?_
 refine ta_end [] [] rfl rfl (by kernel_rfl) rfl trivial ?_
 refine aq_show (m := (memOf w0 Z0 [(oBox bx2 36 [v2_0]), (oRow v2_0 43 tyS_api_Edit a2)] [(oRow v1 43 tyS_api_Edit [a1]), (oBox bx2 36 [v3]), (oRow v3 43 tyS_api_Edit (a2 ++ ([a1])))] [(fPtr tyS_api_Edit v1_0 a1)])) (S := (tab [(2, (pq bx2))])) ?_
 refine fn_end ?_
 obtain rfl := Option.some.inj h
 exact fn_ret v3 [1, 2] [] rfl rfl rfl rfl (resC rfl (resN) rfl) rfl rfl rfl (by decide)
def f_delta_Join_1_nilp_nilp (fu : Nat) (a2 : (List S_api_Edit)) : Option (List S_api_Edit) := (none : Option (List S_api_Edit))
set_option maxRecDepth 100000 in
theorem f_delta_Join_1_nilp_nilp_ok (fu : Nat) (bx2 : Nat) (v2_0 : Value) (a2 : (List S_api_Edit)) {r : (List S_api_Edit)} (h : f_delta_Join_1_nilp_nilp fu a2 = some r) : FnOk Tryd.prog 63 [(Value.pointer none), (Value.pointer none), (ptr bx2 0)] [] [(oBox bx2 36 [v2_0]), (oRow v2_0 43 tyS_api_Edit a2)] (fun (i : Value) => { val := (Value.tuple #[]), own := [(oBox bx2 36 [i]), (oRow i 43 tyS_api_Edit r)] }) := by
 unfold f_delta_Join_1_nilp_nilp at h
 refine fn_enter Tryd.func63 rfl Tryd.ntmps63 rfl (fun w0 Z0 => ?_)
 refine aw_seq ?_
 refine aw_sr ?_
 refine al_mv rfl rfl ?_
 refine al_val (ov_ptrNeN rfl rfl Tryd.underlying100 rfl) ?_
 refine al_nt ?_
 refine aw_cond_f rfl ?_
 refine aw_skip ?_
 refine aq_then ?_
 cases h
def f_delta_sideBySide_api_Edit_api_Edit__F59_F59_F63_L3 (fu : Nat) : Nat → (List S_api_Edit) → (List S_api_Edit) → (List S_api_Edit) → Option (List S_api_Edit)
  | 0, _, _, _ => none
  | k2 + 1, l1x0, l1x1, l1x4_0_0 => (lt (fun (j4b20 : Bool) => (bif j4b20 then (lt (fun (j7i10 : Int) => (bif (decide (j7i10 ≤ (0 : Int))) then (opt (at? l1x0 (0 : Int)) fun (u11 : S_api_Edit) => (req (0 ≤ (1 : Int) ∧ (1 : Int) ≤ (l1x0.length : Int)) (bif (decide (j7i10 ≥ (0 : Int))) then (opt (at? l1x1 (0 : Int)) fun (u18 : S_api_Edit) => (req (0 ≤ (1 : Int) ∧ (1 : Int) ≤ (l1x1.length : Int)) (opt (f_delta_Join_1_ptrD_ptrD fu u11 u18 l1x4_0_0) fun (r24 : (List S_api_Edit)) => (f_delta_sideBySide_api_Edit_api_Edit__F59_F59_F63_L3 fu k2 (l1x0.drop ((1 : Int)).toNat) (l1x1.drop ((1 : Int)).toNat) r24)))) else (opt (f_delta_Join_1_ptrD_nilp fu u11 l1x4_0_0) fun (r27 : (List S_api_Edit)) => (f_delta_sideBySide_api_Edit_api_Edit__F59_F59_F63_L3 fu k2 (l1x0.drop ((1 : Int)).toNat) l1x1 r27))))) else (bif (decide (j7i10 ≥ (0 : Int))) then (opt (at? l1x1 (0 : Int)) fun (u31 : S_api_Edit) => (req (0 ≤ (1 : Int) ∧ (1 : Int) ≤ (l1x1.length : Int)) (opt (f_delta_Join_1_nilp_ptrD fu u31 l1x4_0_0) fun (r37 : (List S_api_Edit)) => (f_delta_sideBySide_api_Edit_api_Edit__F59_F59_F63_L3 fu k2 l1x0 (l1x1.drop ((1 : Int)).toNat) r37)))) else (opt (f_delta_Join_1_nilp_nilp fu l1x4_0_0) fun (r40 : (List S_api_Edit)) => (f_delta_sideBySide_api_Edit_api_Edit__F59_F59_F63_L3 fu k2 l1x0 l1x1 r40))))) fun (kk8 : Int → Option (List S_api_Edit)) => (bif ((l1x1.length : Int) == (0 : Int)) then (kk8 (-1 : Int)) else (bif ((l1x0.length : Int) == (0 : Int)) then (kk8 (1 : Int)) else (opt (at? l1x0 (0 : Int)) fun (u44 : S_api_Edit) => (opt (f_delta_editPath fu u44) fun (r48 : (List UInt8)) => (opt (at? l1x1 (0 : Int)) fun (u49 : S_api_Edit) => (opt (f_delta_editPath fu u49) fun (r53 : (List UInt8)) => (opt (f_names_Compare fu r48 r53) fun (r55 : Int) => (kk8 r55))))))))) else (some l1x4_0_0))) fun (kk5 : Bool → Option (List S_api_Edit)) => (bif (decide ((l1x0.length : Int) > (0 : Int))) then (kk5 true) else (kk5 (decide ((l1x1.length : Int) > (0 : Int))))))
def f_delta_sideBySide_api_Edit_api_Edit__F59_F59_F63 (fu : Nat) (a0 : (List S_api_Edit)) (a1 : (List S_api_Edit)) (a4_0 : (List S_api_Edit)) : Option (List S_api_Edit) := (f_delta_sideBySide_api_Edit_api_Edit__F59_F59_F63_L3 fu fu a0 a1 a4_0)
set_option maxHeartbeats 2000000 in
set_option maxRecDepth 100000 in
theorem f_delta_sideBySide_api_Edit_api_Edit__F59_F59_F63_ok (fu : Nat) (v0_0 : Value) (a0 : (List S_api_Edit)) (v1_0 : Value) (a1 : (List S_api_Edit)) (bx4_0 : Nat) (v4_0_0 : Value) (a4_0 : (List S_api_Edit)) {r : (List S_api_Edit)} (h : f_delta_sideBySide_api_Edit_api_Edit__F59_F59_F63 fu a0 a1 a4_0 = some r) : FnOk Tryd.prog 62 [v0_0, v1_0, (Value.func (.func 59) #[] #[]), (Value.func (.func 59) #[] #[]), (Value.func (.func 63) #[] #[(ptr bx4_0 0)])] [(fDat (tyList tyS_api_Edit) [v0_0] a0), (fDat (tyList tyS_api_Edit) [v1_0] a1), uMax, uTabs] [(oBox bx4_0 36 [v4_0_0]), (oRow v4_0_0 43 tyS_api_Edit a4_0)] (fun (i : Value) => { val := (Value.tuple #[]), own := [(oBox bx4_0 36 [i]), (oRow i 43 tyS_api_Edit r)] }) := by
 unfold f_delta_sideBySide_api_Edit_api_Edit__F59_F59_F63 at h
 refine fn_enter Tryd.func62 rfl Tryd.ntmps62 rfl (fun w0 Z0 => ?_)
 refine aw_block ?_
 refine aw_state (aw_loop (ι := Value × (List S_api_Edit) × Value × (List S_api_Edit) × Value × (List S_api_Edit)) (fun i => (memOf w0 Z0 [(oBox bx4_0 36 [v4_0_0]), (oRow v4_0_0 43 tyS_api_Edit a4_0)] [(oRow i.2.2.2.2.1 43 tyS_api_Edit i.2.2.2.2.2), (oBox bx4_0 36 [i.2.2.2.2.1])] [(fDat (tyList tyS_api_Edit) [i.1] i.2.1), (fDat (tyList tyS_api_Edit) [i.2.2.1] i.2.2.2.1), (fDat (tyList tyS_api_Edit) [v0_0] a0), (fDat (tyList tyS_api_Edit) [v1_0] a1), uMax, uTabs])) (fun i => (tab [(0, i.1), (1, i.2.2.1), (2, (fq 59)), (3, (fq 59)), (4, (Value.func (.func 63) #[] #[(pq bx4_0)]))])) (fun q i => f_delta_sideBySide_api_Edit_api_Edit__F59_F59_F63_L3 fu q i.2.1 i.2.2.2.1 i.2.2.2.2.2 = some r) ?_ fu (v0_0, a0, v1_0, a1, v4_0_0, a4_0) h) (fun w a hm hs => norm hm hs [1, 0] [0, 1, 0, 1, 2, 3] [(0, v0_0), (1, v1_0), (2, (fq 59)), (3, (fq 59)), (4, (Value.func (.func 63) #[] #[(pq bx4_0)]))] (by decide) ⟨rfl, rfl, rfl, rfl, rfl, trivial⟩)
 clear h
 rintro k2 ⟨l1v0, l1x0, l1v1, l1x1, l1v4_0_0, l1x4_0_0⟩ h
 have h : f_delta_sideBySide_api_Edit_api_Edit__F59_F59_F63_L3 fu k2 l1x0 l1x1 l1x4_0_0 = some r := h
 obtain _ | k2 := k2
 · rw [f_delta_sideBySide_api_Edit_api_Edit__F59_F59_F63_L3] at h; cases h
 rw [f_delta_sideBySide_api_Edit_api_Edit__F59_F59_F63_L3] at h
 refine aw_show (m := (memOf w0 Z0 [(oBox bx4_0 36 [v4_0_0]), (oRow v4_0_0 43 tyS_api_Edit a4_0)] [(oRow l1v4_0_0 43 tyS_api_Edit l1x4_0_0), (oBox bx4_0 36 [l1v4_0_0])] [(fDat (tyList tyS_api_Edit) [l1v0] l1x0), (fDat (tyList tyS_api_Edit) [l1v1] l1x1), (fDat (tyList tyS_api_Edit) [v0_0] a0), (fDat (tyList tyS_api_Edit) [v1_0] a1), uMax, uTabs])) (S := (tab [(0, l1v0), (1, l1v1), (2, (fq 59)), (3, (fq 59)), (4, (Value.func (.func 63) #[] #[(pq bx4_0)]))])) ?_
 refine aw_seq ?_
 obtain ⟨kk5, hkk5, h⟩ := lt_some h
 refine aw_seq_join (ι := Bool) (fun i => (memOf w0 Z0 [(oBox bx4_0 36 [v4_0_0]), (oRow v4_0_0 43 tyS_api_Edit a4_0)] [(oRow l1v4_0_0 43 tyS_api_Edit l1x4_0_0), (oBox bx4_0 36 [l1v4_0_0])] [(fDat (tyList tyS_api_Edit) [l1v0] l1x0), (fDat (tyList tyS_api_Edit) [l1v1] l1x1), (fDat (tyList tyS_api_Edit) [v0_0] a0), (fDat (tyList tyS_api_Edit) [v1_0] a1), uMax, uTabs])) (fun i => (tab [(0, l1v0), (1, l1v1), (2, (fq 59)), (3, (fq 59)), (4, (Value.func (.func 63) #[] #[(pq bx4_0)])), (20, (bool i))])) (fun i => kk5 i = some r) ?_ ?_
 ·rintro j4b20 h
  have h : kk5 j4b20 = some r := h
  rw [hkk5] at h
  dsimp only at h
  clear hkk5
  refine aw_show (m := (memOf w0 Z0 [(oBox bx4_0 36 [v4_0_0]), (oRow v4_0_0 43 tyS_api_Edit a4_0)] [(oRow l1v4_0_0 43 tyS_api_Edit l1x4_0_0), (oBox bx4_0 36 [l1v4_0_0])] [(fDat (tyList tyS_api_Edit) [l1v0] l1x0), (fDat (tyList tyS_api_Edit) [l1v1] l1x1), (fDat (tyList tyS_api_Edit) [v0_0] a0), (fDat (tyList tyS_api_Edit) [v1_0] a1), uMax, uTabs])) (S := (tab [(0, l1v0), (1, l1v1), (2, (fq 59)), (3, (fq 59)), (4, (Value.func (.func 63) #[] #[(pq bx4_0)])), (20, (bool j4b20))])) ?_
  refine aw_cond rfl (fun hb6 => ?_) (fun hb6 => ?_)
  ·replace h := bif_t hb6 h
   refine aw_skip ?_
   refine aq_then ?_
   refine aw_block ?_
   refine aw_sr ?_
   refine al_as rfl rfl ?_
   refine al_nt ?_
   obtain ⟨kk8, hkk8, h⟩ := lt_some h
   refine aw_seq_join (ι := Int) (fun i => (memOf w0 Z0 [(oBox bx4_0 36 [v4_0_0]), (oRow v4_0_0 43 tyS_api_Edit a4_0)] [(oRow l1v4_0_0 43 tyS_api_Edit l1x4_0_0), (oBox bx4_0 36 [l1v4_0_0])] [(fDat (tyList tyS_api_Edit) [l1v0] l1x0), (fDat (tyList tyS_api_Edit) [l1v1] l1x1), (fDat (tyList tyS_api_Edit) [v0_0] a0), (fDat (tyList tyS_api_Edit) [v1_0] a1), uMax, uTabs])) (fun i => (tab [(0, l1v0), (1, l1v1), (2, (fq 59)), (3, (fq 59)), (4, (Value.func (.func 63) #[] #[(pq bx4_0)])), (10, (iq i))])) (fun i => kk8 i = some r) ?_ ?_
   ·rintro j7i10 h
    have h : kk8 j7i10 = some r := h
    rw [hkk8] at h
    dsimp only at h
    clear hkk8
    refine aw_show (m := (memOf w0 Z0 [(oBox bx4_0 36 [v4_0_0]), (oRow v4_0_0 43 tyS_api_Edit a4_0)] [(oRow l1v4_0_0 43 tyS_api_Edit l1x4_0_0), (oBox bx4_0 36 [l1v4_0_0])] [(fDat (tyList tyS_api_Edit) [l1v0] l1x0), (fDat (tyList tyS_api_Edit) [l1v1] l1x1), (fDat (tyList tyS_api_Edit) [v0_0] a0), (fDat (tyList tyS_api_Edit) [v1_0] a1), uMax, uTabs])) (S := (tab [(0, l1v0), (1, l1v1), (2, (fq 59)), (3, (fq 59)), (4, (Value.func (.func 63) #[] #[(pq bx4_0)])), (10, (iq j7i10))])) ?_
    refine aw_sr ?_
    refine al_as rfl rfl ?_
    refine al_nt ?_
    refine aw_sr ?_
    refine al_as rfl rfl ?_
    refine al_nt ?_
    refine aw_seq ?_
    refine aw_sr ?_
    refine al_mv rfl rfl ?_
    refine al_in rfl rfl rfl rfl ?_
    refine al_nt ?_
    refine aw_cond rfl (fun hb10 => ?_) (fun hb10 => ?_)
    ·replace h := bif_t hb10 h
     obtain ⟨u11, hu12, h⟩ := opt_some h
     obtain ⟨hc14, h⟩ := req_some h
     refine aw_region_draw 5 [(42, (fun u => fEq u l1v0)), (43, (fun p13 => (fPtr tyS_api_Edit p13 u11))), (44, (fun u => fEq u l1v0)), (45, (fun s15 => (fDat (tyList tyS_api_Edit) [s15] (l1x0.drop ((1 : Int)).toNat)))), (11, (fun p13 => (fPtr tyS_api_Edit p13 u11)))] (tab [(0, l1v0), (1, l1v1), (2, (fq 59)), (3, (fq 59)), (4, (Value.func (.func 63) #[] #[(pq bx4_0)])), (10, (iq j7i10)), (12, (Value.pointer none))]) mixed (by kernel_rfl) rfl rfl rfl (fun a hs => hs.tab _ (allT_mem ⟨rfl, rfl, rfl, rfl, rfl, rfl, rfl, trivial⟩)) ⟨⟨rfl, ld_val (ov_move rfl rfl)⟩, ⟨rfl, ld_eq (j := 0) rfl rfl (ld_of (of_idxD 0 hu12 rfl rfl rfl Tryd.underlying36 sz43 rfl))⟩, ⟨rfl, ld_val (ov_move rfl rfl)⟩, ⟨rfl, ld_eq (j := 2) rfl rfl (ld_of (of_sliceDF 0 hc14.1 hc14.2 rfl rfl rfl Tryd.underlying36 sz43 rfl))⟩, ⟨rfl, ld_fact (j := 1) rfl rfl (fun p13 => ld_of (of_assign 0 rfl rfl rfl))⟩, trivial⟩ ?_
     refine tl_fact 3 rfl (fun s15 => ?_)
     refine tl_fact 4 rfl (fun p13 => ?_)
     refine tl_done ?_
     refine al_as rfl rfl ?_
     refine al_nt ?_
     refine aw_seq ?_
     refine aw_sr ?_
     refine al_mv rfl rfl ?_
     refine al_in rfl rfl rfl rfl ?_
     refine al_nt ?_
     refine aw_cond rfl (fun hb17 => ?_) (fun hb17 => ?_)
     ·replace h := bif_t hb17 h
      obtain ⟨u18, hu19, h⟩ := opt_some h
      obtain ⟨hc21, h⟩ := req_some h
      refine aw_region_draw 5 [(48, (fun u => fEq u l1v1)), (49, (fun p20 => (fPtr tyS_api_Edit p20 u18))), (50, (fun u => fEq u l1v1)), (51, (fun s22 => (fDat (tyList tyS_api_Edit) [s22] (l1x1.drop ((1 : Int)).toNat)))), (12, (fun p20 => (fPtr tyS_api_Edit p20 u18)))] (tab [(0, s15), (1, l1v1), (2, (fq 59)), (3, (fq 59)), (4, (Value.func (.func 63) #[] #[(pq bx4_0)])), (11, p13)]) mixed (by kernel_rfl) rfl rfl rfl (fun a hs => hs.tab _ (allT_mem ⟨rfl, rfl, rfl, rfl, rfl, rfl, trivial⟩)) ⟨⟨rfl, ld_val (ov_move rfl rfl)⟩, ⟨rfl, ld_eq (j := 0) rfl rfl (ld_of (of_idxD 3 hu19 rfl rfl rfl Tryd.underlying36 sz43 rfl))⟩, ⟨rfl, ld_val (ov_move rfl rfl)⟩, ⟨rfl, ld_eq (j := 2) rfl rfl (ld_of (of_sliceDF 3 hc21.1 hc21.2 rfl rfl rfl Tryd.underlying36 sz43 rfl))⟩, ⟨rfl, ld_fact (j := 1) rfl rfl (fun p20 => ld_of (of_assign 0 rfl rfl rfl))⟩, trivial⟩ ?_
      refine tl_fact 3 rfl (fun s22 => ?_)
      refine tl_fact 4 rfl (fun p20 => ?_)
      refine tl_done ?_
      refine al_as rfl rfl ?_
      refine al_nt ?_
      refine aw_region ?_
      refine al_mv rfl rfl ?_
      refine al_mv rfl rfl ?_
      refine al_mv rfl rfl ?_
      obtain ⟨r24, hc23, h⟩ := opt_some h
      refine al_callF (vs := [p13, p20]) (caps := [(pq bx4_0)]) (f_delta_Join_1_ptrD_ptrD_ok fu p13 u11 p20 u18 bx4_0 l1v4_0_0 l1x4_0_0 hc23) rfl [] [1, 0] [] (pre_fz 2 rfl (pre_fz 0 rfl pre_nil)) rfl (by simp) (by decide) (.inl rfl) rfl rfl Tryd.func63 rfl rfl rfl (fun v25 => ?_)
      refine al_nil ?_
      refine aq_block ?_
      exact aq_again k2 (s15, (l1x0.drop ((1 : Int)).toNat), s22, (l1x1.drop ((1 : Int)).toNat), v25, r24) (Nat.lt_succ_self _) h (fun w a hm hs => norm hm hs [1, 0] [3, 1, 6, 7, 8, 9] [(0, s15), (1, s22), (2, (fq 59)), (3, (fq 59)), (4, (Value.func (.func 63) #[] #[(pq bx4_0)]))] (by decide) ⟨rfl, rfl, rfl, rfl, rfl, trivial⟩)
     ·replace h := bif_f hb17 h
      refine aw_skip ?_
      refine aq_then ?_
      refine aw_region ?_
      refine al_mv rfl rfl ?_
      refine al_mv rfl rfl ?_
      refine al_mv rfl rfl ?_
      obtain ⟨r27, hc26, h⟩ := opt_some h
      refine al_callF (vs := [p13, (Value.pointer none)]) (caps := [(pq bx4_0)]) (f_delta_Join_1_ptrD_nilp_ok fu p13 u11 bx4_0 l1v4_0_0 l1x4_0_0 hc26) rfl [] [1, 0] [] (pre_fz 0 rfl pre_nil) rfl (by simp) (by decide) (.inl rfl) rfl rfl Tryd.func63 rfl rfl rfl (fun v28 => ?_)
      refine al_nil ?_
      refine aq_block ?_
      exact aq_again k2 (s15, (l1x0.drop ((1 : Int)).toNat), l1v1, l1x1, v28, r27) (Nat.lt_succ_self _) h (fun w a hm hs => norm hm hs [1, 0] [1, 3, 4, 5, 6, 7] [(0, s15), (1, l1v1), (2, (fq 59)), (3, (fq 59)), (4, (Value.func (.func 63) #[] #[(pq bx4_0)]))] (by decide) ⟨rfl, rfl, rfl, rfl, rfl, trivial⟩)
    ·replace h := bif_f hb10 h
     refine aw_skip ?_
     refine aq_then ?_
     refine aw_seq ?_
     refine aw_sr ?_
     refine al_mv rfl rfl ?_
     refine al_in rfl rfl rfl rfl ?_
     refine al_nt ?_
     refine aw_cond rfl (fun hb30 => ?_) (fun hb30 => ?_)
     ·replace h := bif_t hb30 h
      obtain ⟨u31, hu32, h⟩ := opt_some h
      obtain ⟨hc34, h⟩ := req_some h
      refine aw_region_draw 5 [(48, (fun u => fEq u l1v1)), (49, (fun p33 => (fPtr tyS_api_Edit p33 u31))), (50, (fun u => fEq u l1v1)), (51, (fun s35 => (fDat (tyList tyS_api_Edit) [s35] (l1x1.drop ((1 : Int)).toNat)))), (12, (fun p33 => (fPtr tyS_api_Edit p33 u31)))] (tab [(0, l1v0), (1, l1v1), (2, (fq 59)), (3, (fq 59)), (4, (Value.func (.func 63) #[] #[(pq bx4_0)])), (11, (Value.pointer none))]) mixed (by kernel_rfl) rfl rfl rfl (fun a hs => hs.tab _ (allT_mem ⟨rfl, rfl, rfl, rfl, rfl, rfl, trivial⟩)) ⟨⟨rfl, ld_val (ov_move rfl rfl)⟩, ⟨rfl, ld_eq (j := 0) rfl rfl (ld_of (of_idxD 1 hu32 rfl rfl rfl Tryd.underlying36 sz43 rfl))⟩, ⟨rfl, ld_val (ov_move rfl rfl)⟩, ⟨rfl, ld_eq (j := 2) rfl rfl (ld_of (of_sliceDF 1 hc34.1 hc34.2 rfl rfl rfl Tryd.underlying36 sz43 rfl))⟩, ⟨rfl, ld_fact (j := 1) rfl rfl (fun p33 => ld_of (of_assign 0 rfl rfl rfl))⟩, trivial⟩ ?_
      refine tl_fact 3 rfl (fun s35 => ?_)
      refine tl_fact 4 rfl (fun p33 => ?_)
      refine tl_done ?_
      refine al_as rfl rfl ?_
      refine al_nt ?_
      refine aw_region ?_
      refine al_mv rfl rfl ?_
      refine al_mv rfl rfl ?_
      refine al_mv rfl rfl ?_
      obtain ⟨r37, hc36, h⟩ := opt_some h
      refine al_callF (vs := [(Value.pointer none), p33]) (caps := [(pq bx4_0)]) (f_delta_Join_1_nilp_ptrD_ok fu p33 u31 bx4_0 l1v4_0_0 l1x4_0_0 hc36) rfl [] [1, 0] [] (pre_fz 0 rfl pre_nil) rfl (by simp) (by decide) (.inl rfl) rfl rfl Tryd.func63 rfl rfl rfl (fun v38 => ?_)
      refine al_nil ?_
      refine aq_block ?_
      exact aq_again k2 (l1v0, l1x0, s35, (l1x1.drop ((1 : Int)).toNat), v38, r37) (Nat.lt_succ_self _) h (fun w a hm hs => norm hm hs [1, 0] [2, 1, 4, 5, 6, 7] [(0, l1v0), (1, s35), (2, (fq 59)), (3, (fq 59)), (4, (Value.func (.func 63) #[] #[(pq bx4_0)]))] (by decide) ⟨rfl, rfl, rfl, rfl, rfl, trivial⟩)
     ·replace h := bif_f hb30 h
      refine aw_skip ?_
      refine aq_then ?_
      refine aw_region ?_
      refine al_mv rfl rfl ?_
      refine al_mv rfl rfl ?_
      refine al_mv rfl rfl ?_
      obtain ⟨r40, hc39, h⟩ := opt_some h
      refine al_callF (vs := [(Value.pointer none), (Value.pointer none)]) (caps := [(pq bx4_0)]) (f_delta_Join_1_nilp_nilp_ok fu bx4_0 l1v4_0_0 l1x4_0_0 hc39) rfl [] [1, 0] [] pre_nil rfl (by simp) (by decide) (.inl rfl) rfl rfl Tryd.func63 rfl rfl rfl (fun v41 => ?_)
      refine al_nil ?_
      refine aq_block ?_
      exact aq_again k2 (l1v0, l1x0, l1v1, l1x1, v41, r40) (Nat.lt_succ_self _) h (fun w a hm hs => norm hm hs [1, 0] [0, 1, 2, 3, 4, 5] [(0, l1v0), (1, l1v1), (2, (fq 59)), (3, (fq 59)), (4, (Value.func (.func 63) #[] #[(pq bx4_0)]))] (by decide) ⟨rfl, rfl, rfl, rfl, rfl, trivial⟩)
   ·clear hkk8
    refine aw_block ?_
    refine aw_sr ?_
    refine al_mv rfl rfl ?_
    refine al_val (ov_lenD 1 rfl rfl Tryd.underlying36 rfl) ?_
    refine al_in rfl rfl rfl rfl ?_
    refine al_as rfl rfl ?_
    refine al_nt ?_
    refine aw_cond rfl (fun hb42 => ?_) (fun hb42 => ?_)
    ·replace h := bif_t hb42 h
     refine aw_region ?_
     refine al_as rfl rfl ?_
     refine al_nil ?_
     refine aq_block ?_
     exact aq_join (-1 : Int) h (fun w a hm hs => norm hm hs [0, 1] [0, 1, 2, 3, 4, 5] [(0, l1v0), (1, l1v1), (2, (fq 59)), (3, (fq 59)), (4, (Value.func (.func 63) #[] #[(pq bx4_0)])), (10, (iq (-1 : Int)))] (by decide) ⟨rfl, rfl, rfl, rfl, rfl, rfl, trivial⟩)
    ·replace h := bif_f hb42 h
     refine aw_sr ?_
     refine al_mv rfl rfl ?_
     refine al_val (ov_lenD 0 rfl rfl Tryd.underlying36 rfl) ?_
     refine al_in rfl rfl rfl rfl ?_
     refine al_as rfl rfl ?_
     refine al_nt ?_
     refine aw_cond rfl (fun hb43 => ?_) (fun hb43 => ?_)
     ·replace h := bif_t hb43 h
      refine aw_region ?_
      refine al_as rfl rfl ?_
      refine al_nil ?_
      refine aq_block ?_
      exact aq_join (1 : Int) h (fun w a hm hs => norm hm hs [0, 1] [0, 1, 2, 3, 4, 5] [(0, l1v0), (1, l1v1), (2, (fq 59)), (3, (fq 59)), (4, (Value.func (.func 63) #[] #[(pq bx4_0)])), (10, (iq (1 : Int)))] (by decide) ⟨rfl, rfl, rfl, rfl, rfl, rfl, trivial⟩)
     ·replace h := bif_f hb43 h
      obtain ⟨u44, hu45, h⟩ := opt_some h
      obtain ⟨r48, hc47, h⟩ := opt_some h
      obtain ⟨u49, hu50, h⟩ := opt_some h
      obtain ⟨r53, hc52, h⟩ := opt_some h
      obtain ⟨r55, hc54, h⟩ := opt_some h
      refine aw_region_draw 11 [(21, (fun u => fEq u (fq 59))), (22, (fun u => fEq u l1v0)), (23, (fun p46 => (fPtr tyS_api_Edit p46 u44))), (24, (fun u => fEq u (ag [(str u44.Path), (bool u44.Gone), (str u44.Item.Path), (iq u44.Item.Kind), (iq u44.Item.Mode), (iq u44.Item.Time), (str u44.Item.Bytes)]))), (25, (fun u => fEq u (str r48))), (26, (fun u => fEq u (fq 59))), (27, (fun u => fEq u l1v1)), (28, (fun p51 => (fPtr tyS_api_Edit p51 u49))), (29, (fun u => fEq u (ag [(str u49.Path), (bool u49.Gone), (str u49.Item.Path), (iq u49.Item.Kind), (iq u49.Item.Mode), (iq u49.Item.Time), (str u49.Item.Bytes)]))), (30, (fun u => fEq u (str r53))), (31, (fun u => fEq u (iq r55)))] (tab [(0, l1v0), (1, l1v1), (2, (fq 59)), (3, (fq 59)), (4, (Value.func (.func 63) #[] #[(pq bx4_0)])), (10, (iq (0 : Int)))]) mixed (by kernel_rfl) rfl rfl rfl (fun a hs => hs.tab _ (allT_mem ⟨rfl, rfl, rfl, rfl, rfl, rfl, trivial⟩)) ⟨⟨rfl, ld_val (ov_move rfl rfl)⟩, ⟨rfl, ld_val (ov_move rfl rfl)⟩, ⟨rfl, ld_eq (j := 1) rfl rfl (ld_of (of_idxD 0 hu45 rfl rfl rfl Tryd.underlying36 sz43 rfl))⟩, ⟨rfl, ld_fact (j := 2) rfl rfl (fun p46 => ld_val (ov_loadP (ds := [(str u44.Path), (bool u44.Gone), (str u44.Item.Path), (iq u44.Item.Kind), (iq u44.Item.Mode), (iq u44.Item.Time), (str u44.Item.Bytes)]) 0 rfl encS_api_Edit rfl Tryd.underlying43 sz43 rfl rfl rfl))⟩, ⟨rfl, ld_eq (j := 0) rfl rfl (ld_eq (j := 3) rfl rfl (ld_callF (vs := [(ag [(str u44.Path), (bool u44.Gone), (str u44.Item.Path), (iq u44.Item.Kind), (iq u44.Item.Mode), (iq u44.Item.Time), (str u44.Item.Bytes)])]) (caps := []) (f_delta_editPath_ok fu u44 hc47) rfl [] pre_nil rfl rfl Tryd.func59 rfl rfl rfl))⟩, ⟨rfl, ld_val (ov_move rfl rfl)⟩, ⟨rfl, ld_val (ov_move rfl rfl)⟩, ⟨rfl, ld_eq (j := 6) rfl rfl (ld_of (of_idxD 1 hu50 rfl rfl rfl Tryd.underlying36 sz43 rfl))⟩, ⟨rfl, ld_fact (j := 7) rfl rfl (fun p51 => ld_val (ov_loadP (ds := [(str u49.Path), (bool u49.Gone), (str u49.Item.Path), (iq u49.Item.Kind), (iq u49.Item.Mode), (iq u49.Item.Time), (str u49.Item.Bytes)]) 0 rfl encS_api_Edit rfl Tryd.underlying43 sz43 rfl rfl rfl))⟩, ⟨rfl, ld_eq (j := 5) rfl rfl (ld_eq (j := 8) rfl rfl (ld_callF (vs := [(ag [(str u49.Path), (bool u49.Gone), (str u49.Item.Path), (iq u49.Item.Kind), (iq u49.Item.Mode), (iq u49.Item.Time), (str u49.Item.Bytes)])]) (caps := []) (f_delta_editPath_ok fu u49 hc52) rfl [] pre_nil rfl rfl Tryd.func59 rfl rfl rfl))⟩, ⟨rfl, ld_eq (j := 4) rfl rfl (ld_eq (j := 9) rfl rfl (ld_callV (vs := [(str r48), (str r53)]) (f_names_Compare_ok fu r48 r53 hc54) [] (pre_fz 4 rfl (pre_fz 5 rfl pre_nil)) rfl Tryd.func66 rfl rfl rfl))⟩, trivial⟩ ?_
      refine tl_eq 10 rfl ?_
      refine tl_done ?_
      refine al_as rfl rfl ?_
      refine al_nil ?_
      refine aq_block ?_
      exact aq_join r55 h (fun w a hm hs => norm hm hs [0, 1] [0, 1, 2, 3, 4, 5] [(0, l1v0), (1, l1v1), (2, (fq 59)), (3, (fq 59)), (4, (Value.func (.func 63) #[] #[(pq bx4_0)])), (10, (iq r55))] (by decide) ⟨rfl, rfl, rfl, rfl, rfl, rfl, trivial⟩)
  ·replace h := bif_f hb6 h
   refine aw_exit ?_
   refine aq_then_exit ?_
   refine aq_then_exit ?_
   refine aq_block_exit ?_
   refine fn_end ?_
   obtain rfl := Option.some.inj h
   exact fn_ret l1v4_0_0 [1, 0] [] rfl rfl rfl rfl (resC rfl (resN) rfl) rfl rfl rfl (by decide)
 ·clear hkk5
  refine aw_region ?_
  refine al_mv rfl rfl ?_
  refine al_val (ov_lenD 0 rfl rfl Tryd.underlying36 rfl) ?_
  refine al_in rfl rfl rfl rfl ?_
  refine al_mv rfl rfl ?_
  refine al_caseB 16 rfl (fun hb56 => ?_) (fun hb56 => ?_)
  ·replace h := bif_t hb56 h
   refine al_skip ?_
   refine al_skip ?_
   refine al_skip ?_
   refine al_val (ov_pick_t rfl rfl rfl) ?_
   refine al_nil ?_
   exact aq_join true h (fun w a hm hs => norm hm hs [0, 1] [0, 1, 2, 3, 4, 5] [(0, l1v0), (1, l1v1), (2, (fq 59)), (3, (fq 59)), (4, (Value.func (.func 63) #[] #[(pq bx4_0)])), (20, (bool true))] (by decide) ⟨rfl, rfl, rfl, rfl, rfl, rfl, trivial⟩)
  ·replace h := bif_f hb56 h
   refine al_mv rfl rfl ?_
   refine al_val (ov_lenD 1 rfl rfl Tryd.underlying36 rfl) ?_
   refine al_in rfl rfl rfl rfl ?_
   refine al_val (ov_pick_f rfl rfl rfl) ?_
   refine al_nil ?_
   exact aq_join (decide ((l1x1.length : Int) > (0 : Int))) h (fun w a hm hs => norm hm hs [0, 1] [0, 1, 2, 3, 4, 5] [(0, l1v0), (1, l1v1), (2, (fq 59)), (3, (fq 59)), (4, (Value.func (.func 63) #[] #[(pq bx4_0)])), (20, (bool (decide ((l1x1.length : Int) > (0 : Int)))))] (by decide) ⟨rfl, rfl, rfl, rfl, rfl, rfl, trivial⟩)
def f_delta_Join_L14 (a0 : (List S_api_Edit)) (a1 : (List S_api_Edit)) (kk2 : (Unit → Option ((List S_api_Edit) × Int))) (fu : Nat) : Nat → Int → Option ((List S_api_Edit) × Int)
  | 0, _ => none
  | k13 + 1, l12i14 => (bif (decide (l12i14 < (([a0, a1]).length : Int))) then (opt (at? ([a0, a1]) l12i14) fun (u16 : (List S_api_Edit)) => (opt (f_delta_Check fu u16) fun (r22 : Int) => (bif (r22 != (0 : Int)) then (some (([] : List S_api_Edit), r22)) else (f_delta_Join_L14 a0 a1 kk2 fu k13 (IntKind.i64.wrap (l12i14 + (1 : Int))))))) else (kk2 ()))
def f_delta_Join (fu : Nat) (a0 : (List S_api_Edit)) (a1 : (List S_api_Edit)) : Option ((List S_api_Edit) × Int) := (lt (fun (_ : Unit) => (opt (f_delta_sideBySide_api_Edit_api_Edit__F59_F59_F63 fu a0 a1 ([] : List S_api_Edit)) fun (r5 : (List S_api_Edit)) => (bif (decide ((r5.length : Int) > (200 : Int))) then (some (([] : List S_api_Edit), (2 : Int))) else (opt (f_slices_Clone___api_Edit_api_Edit_ fu r5) fun (r9 : (List S_api_Edit)) => (some (r9, (0 : Int))))))) fun (kk2 : Unit → Option ((List S_api_Edit) × Int)) => (f_delta_Join_L14 a0 a1 kk2 fu fu (0 : Int)))
set_option maxHeartbeats 2000000 in
set_option maxRecDepth 100000 in
theorem f_delta_Join_ok (fu : Nat) (v0_0 : Value) (a0 : (List S_api_Edit)) (v1_0 : Value) (a1 : (List S_api_Edit)) {r : ((List S_api_Edit) × Int)} (h : f_delta_Join fu a0 a1 = some r) : FnOk Tryd.prog 21 [v0_0, v1_0] [(fDat (tyList tyS_api_Edit) [v0_0] a0), (fDat (tyList tyS_api_Edit) [v1_0] a1), uMax, uTabs] [] (fun (i : Value) => { val := (Value.tuple #[i, (int .i64 r.2)]), own := [(oRow i 43 tyS_api_Edit r.1)] }) := by
 unfold f_delta_Join at h
 refine fn_enter Tryd.func21 rfl Tryd.ntmps21 rfl (fun w0 Z0 => ?_)
 refine aw_sr ?_
 refine al_as rfl rfl ?_
 refine al_as rfl rfl ?_
 refine al_nt ?_
 obtain ⟨kk2, hkk2, h⟩ := lt_some h
 refine aw_seq_join (ι := Unit) (fun i => (memOf w0 Z0 [] [] [(fDat (tyList tyS_api_Edit) [v0_0] a0), (fDat (tyList tyS_api_Edit) [v1_0] a1), uMax, uTabs])) (fun i => (tab [(0, v0_0), (1, v1_0)])) (fun i => kk2 () = some r) ?_ ?_
 ·rintro _ h
  have h : kk2 () = some r := h
  rw [hkk2] at h
  dsimp only at h
  clear hkk2
  refine aw_show (m := (memOf w0 Z0 [] [] [(fDat (tyList tyS_api_Edit) [v0_0] a0), (fDat (tyList tyS_api_Edit) [v1_0] a1), uMax, uTabs])) (S := (tab [(0, v0_0), (1, v1_0)])) ?_
  refine aw_sr ?_
  refine al_alloc (zs := [nS]) (zeroOf_to to36) rfl rfl (fun g3 => ?_)
  refine al_nt ?_
  refine aw_sr ?_
  refine al_mv rfl rfl ?_
  refine al_mv rfl rfl ?_
  refine al_val (ov_makeFunc2 (vs := [(pq g3)]) rfl rfl) ?_
  refine al_nilR 43 tyS_api_Edit ?_
  obtain ⟨r5, hc4, h⟩ := opt_some h
  refine al_call (vs := [v0_0, v1_0, (fq 59), (fq 59), (Value.func (.func 63) #[] #[(pq g3)])]) (f_delta_sideBySide_api_Edit_api_Edit__F59_F59_F63_ok fu v0_0 a0 v1_0 a1 g3 nS ([] : List S_api_Edit) hc4) [] [1, 0] [] (pre_fz 0 rfl (pre_fz 1 rfl (pre_fz 2 rfl (pre_fz 3 rfl pre_nil)))) rfl (by simp) (by decide) (.inl rfl) rfl Tryd.func62 rfl rfl rfl (fun v6 => ?_)
  refine al_nt ?_
  refine aw_seq ?_
  refine aw_sr ?_
  refine al_val (ov_load (i := 0) (v := v6) rfl rfl Tryd.underlying36 sz36 rfl rfl rfl rfl) ?_
  refine al_val (ov_lenR 1 rfl rfl Tryd.underlying36 rfl) ?_
  refine al_in rfl rfl rfl rfl ?_
  refine al_nt ?_
  refine aw_cond rfl (fun hb7 => ?_) (fun hb7 => ?_)
  ·replace h := bif_t hb7 h
   refine aw_sr ?_
   refine al_as rfl rfl ?_
   refine al_as rfl rfl ?_
   refine al_nt ?_
   refine aw_ret ?_
   refine aq_then_ret ?_
   refine aq_nilR 43 tyS_api_Edit ?_
   obtain rfl := Option.some.inj h
   exact fn_ret nS [0] [] rfl rfl rfl rfl (res2 rfl rfl rfl) rfl rfl rfl (by decide)
  ·replace h := bif_f hb7 h
   refine aw_skip ?_
   refine aq_tr ?_
   refine al_val (ov_load (i := 0) (v := v6) rfl rfl Tryd.underlying36 sz36 rfl rfl rfl rfl) ?_
   obtain ⟨r9, hc8, h⟩ := opt_some h
   refine al_call (vs := [v6]) (f_slices_Clone___api_Edit_api_Edit__ok fu v6 r5 hc8) [1] [] [0, 1] (pre_own 1 rfl rfl pre_nil) rfl (by simp) (by decide) (.inr (flat_res1 (fun _ => flat_row flatS_api_Edit))) rfl Tryd.func64 rfl rfl rfl (fun v10 => ?_)
   refine al_as rfl rfl ?_
   refine al_as rfl rfl ?_
   refine al_nt ?_
   refine aw_ret ?_
   obtain rfl := Option.some.inj h
   exact fn_ret v10 [0] [] rfl rfl rfl rfl (res2 rfl rfl rfl) rfl rfl rfl (by decide)
 ·clear hkk2
  refine aw_sr ?_
  refine al_mv rfl rfl ?_
  refine al_mv rfl rfl ?_
  refine al_buildSlice (τ := (tyList tyS_api_Edit)) (e := 36) (k := 2) (sz := 0) (by_ := 0) (z := undef) (cs := [v0_0, v1_0]) (xs := [a0, a1]) rfl (by decide) (fun w a hm hs => ⟨([v0_0, v1_0]).toArray, rfl, by simp only [List.map_toArray, List.map_cons, List.map_nil, hs.ev (x := .tmp 10) rfl, hs.ev (x := .tmp 11) rfl]; exact run_bs [v0_0, v1_0] [v0_0, v1_0] Tryd.underlying104 to36 rfl rfl (bs_cons (l := [v0_0]) (cs := [v1_0]) (cv_fz 0 rfl) rfl (bs_cons (l := [v1_0]) (cs := []) (cv_fz 1 rfl) rfl bs_nil)) hm⟩) (fun hm => ⟨_, _, rfl, (fun hm => fz_at (i := 0) hm rfl) hm, ⟨_, _, rfl, (fun hm => fz_at (i := 1) hm rfl) hm, rfl⟩⟩) rfl (fun v11 => ?_)
  refine al_val (ov_lenR 0 rfl rfl Tryd.underlying104 rfl) ?_
  refine al_mv rfl rfl ?_
  refine al_nt ?_
  refine aw_block ?_
  refine aw_state (aw_loop (ι := Int) (fun i => (memOf w0 Z0 [] [(oRow v11 36 (tyList tyS_api_Edit) [a0, a1])] [(fDat (tyList tyS_api_Edit) [v0_0] a0), (fDat (tyList tyS_api_Edit) [v1_0] a1), uMax, uTabs])) (fun i => (tab [(0, v0_0), (1, v1_0), (12, v11), (13, (iq (([a0, a1]).length : Int))), (14, (iq i))])) (fun q i => f_delta_Join_L14 a0 a1 kk2 fu q i = some r) ?_ fu (0 : Int) h) (fun w a hm hs => norm hm hs [0] [0, 1, 2, 3] [(0, v0_0), (1, v1_0), (12, v11), (13, (iq (([a0, a1]).length : Int))), (14, (iq (0 : Int)))] (by decide) ⟨rfl, rfl, rfl, rfl, rfl, trivial⟩)
  clear h
  rintro k13 l12i14 h
  have h : f_delta_Join_L14 a0 a1 kk2 fu k13 l12i14 = some r := h
  obtain _ | k13 := k13
  · rw [f_delta_Join_L14] at h; cases h
  rw [f_delta_Join_L14] at h
  refine aw_show (m := (memOf w0 Z0 [] [(oRow v11 36 (tyList tyS_api_Edit) [a0, a1])] [(fDat (tyList tyS_api_Edit) [v0_0] a0), (fDat (tyList tyS_api_Edit) [v1_0] a1), uMax, uTabs])) (S := (tab [(0, v0_0), (1, v1_0), (12, v11), (13, (iq (([a0, a1]).length : Int))), (14, (iq l12i14))])) ?_
  refine aw_sr ?_
  refine al_in rfl rfl rfl rfl ?_
  refine al_nt ?_
  refine aw_seq ?_
  refine aw_cond rfl (fun hb15 => ?_) (fun hb15 => ?_)
  ·replace h := bif_t hb15 h
   refine aw_skip ?_
   refine aq_then ?_
   refine aw_seq ?_
   refine aw_block ?_
   refine aw_sr ?_
   obtain ⟨u16, hu17, h⟩ := opt_some h
   refine al_idxR 0 (at_some hu17).1 (at_some hu17).2.1 rfl rfl rfl Tryd.underlying104 sz36 rfl (fun p18 hp19 => ?_)
   refine al_loadR1 0 rfl hp19 (at_some hu17).2.2 rfl Tryd.underlying36 sz36 rfl rfl rfl (fun s20 => ?_)
   refine al_as rfl rfl ?_
   refine al_nt ?_
   refine aw_sr ?_
   refine al_mv rfl rfl ?_
   obtain ⟨r22, hc21, h⟩ := opt_some h
   refine al_call (vs := [s20]) (f_delta_Check_ok fu s20 u16 hc21) [] [] [0] (pre_fz 0 rfl (pre_fz 3 rfl (pre_fz 4 rfl pre_nil))) rfl (by simp) (by decide) (.inl rfl) rfl Tryd.func23 rfl rfl rfl (fun _ => ?_)
   refine al_as rfl rfl ?_
   refine al_nt ?_
   refine aw_sr ?_
   refine al_mv rfl rfl ?_
   refine al_in rfl rfl rfl rfl ?_
   refine al_nt ?_
   refine aw_cond rfl (fun hb23 => ?_) (fun hb23 => ?_)
   ·replace h := bif_t hb23 h
    refine aw_sr ?_
    refine al_mv rfl rfl ?_
    refine al_as rfl rfl ?_
    refine al_as rfl rfl ?_
    refine al_nt ?_
    refine aw_ret ?_
    refine aq_block_ret ?_
    refine aq_then_ret ?_
    refine aq_then_ret ?_
    refine aq_block_ret ?_
    refine aq_then_ret ?_
    refine aq_nilR 43 tyS_api_Edit ?_
    obtain rfl := Option.some.inj h
    exact fn_ret nS [0] [] rfl rfl rfl rfl (res2 rfl rfl rfl) rfl rfl rfl (by decide)
   ·replace h := bif_f hb23 h
    refine aw_skip ?_
    refine aq_block ?_
    refine aq_then ?_
    refine aw_region ?_
    refine al_in rfl rfl rfl rfl ?_
    refine al_mv rfl rfl ?_
    refine al_nil ?_
    exact aq_again k13 (wq (l12i14 + (1 : Int))) (Nat.lt_succ_self _) h (fun w a hm hs => norm hm hs [0] [1, 2, 3, 4] [(0, v0_0), (1, v1_0), (12, v11), (13, (iq (([a0, a1]).length : Int))), (14, (iq (wq (l12i14 + (1 : Int)))))] (by decide) ⟨rfl, rfl, rfl, rfl, rfl, trivial⟩)
  ·replace h := bif_f hb15 h
   refine aw_exit ?_
   refine aq_then_exit ?_
   refine aq_then_exit ?_
   refine aq_block_exit ?_
   exact aq_join () h (fun w a hm hs => norm hm hs [] [0, 1, 2, 3] [(0, v0_0), (1, v1_0)] (by decide) ⟨rfl, rfl, trivial⟩)
def f_lumref_JoinEdits_L17 (a0 : (List S_api_Edit)) (a1 : (List S_api_Edit)) (kk10 : ((List S_api_Edit) → Option ((List S_api_Edit) × Int))) (r13 : (List (List UInt8))) (fu : Nat) : Nat → (List S_api_Edit) → Int → Option ((List S_api_Edit) × Int)
  | 0, _, _ => none
  | k16 + 1, l15x11, l15i44 => (bif (decide (l15i44 < (r13.length : Int))) then (opt (at? r13 l15i44) fun (u19 : (List UInt8)) => (opt (f_lumref_editAt fu a1 u19) fun (r24 : (S_api_Edit × Bool)) => (lt (fun (j26s14_0 : (List UInt8)) (j26b14_1 : Bool) (j26s14_2 : (List UInt8)) (j26i14_3 : Int) (j26i14_4 : Int) (j26i14_5 : Int) (j26s14_6 : (List UInt8)) => (req (((l15x11.length + ([(S_api_Edit.mk j26s14_0 j26b14_1 (S_api_Item.mk j26s14_2 j26i14_3 j26i14_4 j26i14_5 j26s14_6))]).length) * 80 : Nat) ≤ 140737488355328 ∧ l15x11.length + ([(S_api_Edit.mk j26s14_0 j26b14_1 (S_api_Item.mk j26s14_2 j26i14_3 j26i14_4 j26i14_5 j26s14_6))]).length ≤ 9223372036854775807) (f_lumref_JoinEdits_L17 a0 a1 kk10 r13 fu k16 (l15x11 ++ ([(S_api_Edit.mk j26s14_0 j26b14_1 (S_api_Item.mk j26s14_2 j26i14_3 j26i14_4 j26i14_5 j26s14_6))])) (IntKind.i64.wrap (l15i44 + (1 : Int)))))) fun (kk27 : (List UInt8) → Bool → (List UInt8) → Int → Int → Int → (List UInt8) → Option ((List S_api_Edit) × Int)) => (bif (!r24.2) then (opt (f_lumref_editAt fu a0 u19) fun (r33 : (S_api_Edit × Bool)) => (kk27 r33.1.Path r33.1.Gone r33.1.Item.Path r33.1.Item.Kind r33.1.Item.Mode r33.1.Item.Time r33.1.Item.Bytes)) else (kk27 r24.1.Path r24.1.Gone r24.1.Item.Path r24.1.Item.Kind r24.1.Item.Mode r24.1.Item.Time r24.1.Item.Bytes))))) else (kk10 l15x11))
def f_lumref_JoinEdits_L41 (a1 : (List S_api_Edit)) (kk8 : ((List (List UInt8)) → Option ((List S_api_Edit) × Int))) (r35 : (List S_api_Edit)) : Nat → (List (List UInt8)) → Int → Option ((List S_api_Edit) × Int)
  | 0, _, _ => none
  | k40 + 1, l39x8, l39i31 => (bif (decide (l39i31 < ((r35 ++ a1).length : Int))) then (opt (at? (r35 ++ a1) l39i31) fun (u43 : S_api_Edit) => (req (((l39x8.length + ([u43.Path]).length) * 16 : Nat) ≤ 140737488355328 ∧ l39x8.length + ([u43.Path]).length ≤ 9223372036854775807) (f_lumref_JoinEdits_L41 a1 kk8 r35 k40 (l39x8 ++ ([u43.Path])) (IntKind.i64.wrap (l39i31 + (1 : Int)))))) else (kk8 l39x8))
def f_lumref_JoinEdits (fu : Nat) (a0 : (List S_api_Edit)) (a1 : (List S_api_Edit)) : Option ((List S_api_Edit) × Int) := (opt (f_lumref_Edits fu a0) fun (r2 : Int) => (bif (r2 != (0 : Int)) then (some (([] : List S_api_Edit), r2)) else (opt (f_lumref_Edits fu a1) fun (r5 : Int) => (bif (r5 != (0 : Int)) then (some (([] : List S_api_Edit), r5)) else (lt (fun (j7x8 : (List (List UInt8))) => (lt (fun (j9x11 : (List S_api_Edit)) => (bif (decide ((j9x11.length : Int) > (200 : Int))) then (some (([] : List S_api_Edit), (2 : Int))) else (some (j9x11, (0 : Int))))) fun (kk10 : (List S_api_Edit) → Option ((List S_api_Edit) × Int)) => (opt (f_lumref_allPaths fu j7x8) fun (r13 : (List (List UInt8))) => (f_lumref_JoinEdits_L17 a0 a1 kk10 r13 fu fu ([] : List S_api_Edit) (0 : Int))))) fun (kk8 : (List (List UInt8)) → Option ((List S_api_Edit) × Int)) => (opt (f_slices_Clone___api_Edit_api_Edit_ fu a0) fun (r35 : (List S_api_Edit)) => (req (((r35.length + a1.length) * 80 : Nat) ≤ 140737488355328 ∧ r35.length + a1.length ≤ 9223372036854775807) (f_lumref_JoinEdits_L41 a1 kk8 r35 fu ([] : List (List UInt8)) (0 : Int)))))))))
set_option maxRecDepth 100000 in
set_option maxHeartbeats 2000000 in
set_option maxHeartbeats 2000000 in
theorem f_lumref_JoinEdits_ok (fu : Nat) (v0_0 : Value) (a0 : (List S_api_Edit)) (v1_0 : Value) (a1 : (List S_api_Edit)) {r : ((List S_api_Edit) × Int)} (h : f_lumref_JoinEdits fu a0 a1 = some r) : FnOk Tryd.prog 22 [v0_0, v1_0] [(fDat (tyList tyS_api_Edit) [v0_0] a0), (fDat (tyList tyS_api_Edit) [v1_0] a1)] [] (fun (i : Value) => { val := (Value.tuple #[i, (int .i64 r.2)]), own := [(oRow i 43 tyS_api_Edit r.1)] }) := by
 unfold f_lumref_JoinEdits at h
 refine fn_enter Tryd.func22 rfl Tryd.ntmps22 rfl (fun w0 Z0 => ?_)
 refine aw_sr ?_
 refine al_as rfl rfl ?_
 refine al_as rfl rfl ?_
 refine al_nt ?_
 refine aw_seq ?_
 refine aw_sr ?_
 refine al_mv rfl rfl ?_
 obtain ⟨r2, hc1, h⟩ := opt_some h
 refine al_call (vs := [v0_0]) (f_lumref_Edits_ok fu v0_0 a0 hc1) [] [] [] (pre_fz 0 rfl pre_nil) rfl (by simp) (by decide) (.inl rfl) rfl Tryd.func24 rfl rfl rfl (fun _ => ?_)
 refine al_as rfl rfl ?_
 refine al_nt ?_
 refine aw_sr ?_
 refine al_mv rfl rfl ?_
 refine al_in rfl rfl rfl rfl ?_
 refine al_nt ?_
 refine aw_cond rfl (fun hb3 => ?_) (fun hb3 => ?_)
 ·replace h := bif_t hb3 h
  refine aw_sr ?_
  refine al_mv rfl rfl ?_
  refine al_as rfl rfl ?_
  refine al_as rfl rfl ?_
  refine al_nt ?_
  refine aw_ret ?_
  refine aq_then_ret ?_
  refine aq_nilR 43 tyS_api_Edit ?_
  obtain rfl := Option.some.inj h
  exact fn_ret nS [0] [] rfl rfl rfl rfl (res2 rfl rfl rfl) rfl rfl rfl (by decide)
 ·replace h := bif_f hb3 h
  refine aw_skip ?_
  refine aq_then ?_
  refine aw_seq ?_
  refine aw_sr ?_
  refine al_mv rfl rfl ?_
  obtain ⟨r5, hc4, h⟩ := opt_some h
  refine al_call (vs := [v1_0]) (f_lumref_Edits_ok fu v1_0 a1 hc4) [] [] [] (pre_fz 1 rfl pre_nil) rfl (by simp) (by decide) (.inl rfl) rfl Tryd.func24 rfl rfl rfl (fun _ => ?_)
  refine al_as rfl rfl ?_
  refine al_nt ?_
  refine aw_sr ?_
  refine al_mv rfl rfl ?_
  refine al_in rfl rfl rfl rfl ?_
  refine al_nt ?_
  refine aw_cond rfl (fun hb6 => ?_) (fun hb6 => ?_)
  ·replace h := bif_t hb6 h
   refine aw_sr ?_
   refine al_mv rfl rfl ?_
   refine al_as rfl rfl ?_
   refine al_as rfl rfl ?_
   refine al_nt ?_
   refine aw_ret ?_
   refine aq_then_ret ?_
   refine aq_nilR 43 tyS_api_Edit ?_
   obtain rfl := Option.some.inj h
   exact fn_ret nS [0] [] rfl rfl rfl rfl (res2 rfl rfl rfl) rfl rfl rfl (by decide)
  ·replace h := bif_f hb6 h
   refine aw_skip ?_
   refine aq_tr ?_
   refine al_as rfl rfl ?_
   refine al_nt ?_
   obtain ⟨kk8, hkk8, h⟩ := lt_some h
   refine aw_seq_join (ι := Value × (List (List UInt8))) (fun i => (memOf w0 Z0 [] [(oRow i.1 9 tyStr i.2)] [(fDat (tyList tyS_api_Edit) [v0_0] a0), (fDat (tyList tyS_api_Edit) [v1_0] a1)])) (fun i => (tab [(0, v0_0), (1, v1_0), (8, i.1)])) (fun i => kk8 i.2 = some r) ?_ ?_
   ·rintro ⟨j7v8, j7x8⟩ h
    have h : kk8 j7x8 = some r := h
    rw [hkk8] at h
    dsimp only at h
    clear hkk8
    refine aw_show (m := (memOf w0 Z0 [] [(oRow j7v8 9 tyStr j7x8)] [(fDat (tyList tyS_api_Edit) [v0_0] a0), (fDat (tyList tyS_api_Edit) [v1_0] a1)])) (S := (tab [(0, v0_0), (1, v1_0), (8, j7v8)])) ?_
    refine aw_sr ?_
    refine al_as rfl rfl ?_
    refine al_nt ?_
    obtain ⟨kk10, hkk10, h⟩ := lt_some h
    refine aw_seq_join (ι := Value × (List S_api_Edit)) (fun i => (memOf w0 Z0 [] [(oRow i.1 43 tyS_api_Edit i.2)] [(fDat (tyList tyS_api_Edit) [v0_0] a0), (fDat (tyList tyS_api_Edit) [v1_0] a1)])) (fun i => (tab [(11, i.1)])) (fun i => kk10 i.2 = some r) ?_ ?_
    ·rintro ⟨j9v11, j9x11⟩ h
     have h : kk10 j9x11 = some r := h
     rw [hkk10] at h
     dsimp only at h
     clear hkk10
     refine aw_show (m := (memOf w0 Z0 [] [(oRow j9v11 43 tyS_api_Edit j9x11)] [(fDat (tyList tyS_api_Edit) [v0_0] a0), (fDat (tyList tyS_api_Edit) [v1_0] a1)])) (S := (tab [(11, j9v11)])) ?_
     refine aw_seq ?_
     refine aw_sr ?_
     refine al_mv rfl rfl ?_
     refine al_val (ov_lenR 0 rfl rfl Tryd.underlying36 rfl) ?_
     refine al_in rfl rfl rfl rfl ?_
     refine al_nt ?_
     refine aw_cond rfl (fun hb11 => ?_) (fun hb11 => ?_)
     ·replace h := bif_t hb11 h
      refine aw_sr ?_
      refine al_as rfl rfl ?_
      refine al_as rfl rfl ?_
      refine al_nt ?_
      refine aw_ret ?_
      refine aq_then_ret ?_
      refine aq_nilR 43 tyS_api_Edit ?_
      obtain rfl := Option.some.inj h
      exact fn_ret nS [0] [] rfl rfl rfl rfl (res2 rfl rfl rfl) rfl rfl rfl (by decide)
     ·replace h := bif_f hb11 h
      refine aw_skip ?_
      refine aq_tr ?_
      refine al_mv rfl rfl ?_
      refine al_as rfl rfl ?_
      refine al_as rfl rfl ?_
      refine al_nt ?_
      refine aw_ret ?_
      obtain rfl := Option.some.inj h
      exact fn_ret j9v11 [0] [] rfl rfl rfl rfl (res2 rfl rfl rfl) rfl rfl rfl (by decide)
    ·clear hkk10
     refine aw_sr ?_
     refine al_mv rfl rfl ?_
     obtain ⟨r13, hc12, h⟩ := opt_some h
     refine al_call (vs := [j7v8]) (f_lumref_allPaths_ok fu j7v8 j7x8 hc12) [0] [] [0] (pre_own 0 rfl rfl pre_nil) rfl (by simp) (by decide) (.inr (flat_res1 (fun _ => flat_row flat_enc))) rfl Tryd.func56 rfl rfl rfl (fun v14 => ?_)
     refine al_val (ov_lenR 0 rfl rfl Tryd.underlying50 rfl) ?_
     refine al_mv rfl rfl ?_
     refine al_nt ?_
     refine aw_block ?_
     refine aw_nilR 43 tyS_api_Edit ?_
     refine aw_state (aw_loop (ι := Value × (List S_api_Edit) × Int) (fun i => (memOf w0 Z0 [] [(oRow i.1 43 tyS_api_Edit i.2.1), (oRow v14 9 tyStr r13)] [(fDat (tyList tyS_api_Edit) [v0_0] a0), (fDat (tyList tyS_api_Edit) [v1_0] a1)])) (fun i => (tab [(0, v0_0), (1, v1_0), (11, i.1), (42, v14), (43, (iq (r13.length : Int))), (44, (iq i.2.2))])) (fun q i => f_lumref_JoinEdits_L17 a0 a1 kk10 r13 fu q i.2.1 i.2.2 = some r) ?_ fu (nS, ([] : List S_api_Edit), (0 : Int)) h) (fun w a hm hs => norm hm hs [0, 1] [0, 1] [(0, v0_0), (1, v1_0), (11, nS), (42, v14), (43, (iq (r13.length : Int))), (44, (iq (0 : Int)))] (by decide) ⟨rfl, rfl, rfl, rfl, rfl, rfl, trivial⟩)
     clear h
     rintro k16 ⟨l15v11, l15x11, l15i44⟩ h
     have h : f_lumref_JoinEdits_L17 a0 a1 kk10 r13 fu k16 l15x11 l15i44 = some r := h
     obtain _ | k16 := k16
     · rw [f_lumref_JoinEdits_L17] at h; cases h
     rw [f_lumref_JoinEdits_L17] at h
     refine aw_show (m := (memOf w0 Z0 [] [(oRow l15v11 43 tyS_api_Edit l15x11), (oRow v14 9 tyStr r13)] [(fDat (tyList tyS_api_Edit) [v0_0] a0), (fDat (tyList tyS_api_Edit) [v1_0] a1)])) (S := (tab [(0, v0_0), (1, v1_0), (11, l15v11), (42, v14), (43, (iq (r13.length : Int))), (44, (iq l15i44))])) ?_
     refine aw_sr ?_
     refine al_in rfl rfl rfl rfl ?_
     refine al_nt ?_
     refine aw_seq ?_
     refine aw_cond rfl (fun hb18 => ?_) (fun hb18 => ?_)
     ·replace h := bif_t hb18 h
      refine aw_skip ?_
      refine aq_then ?_
      refine aw_seq ?_
      refine aw_block ?_
      refine aw_sr ?_
      obtain ⟨u19, hu20, h⟩ := opt_some h
      refine al_idxR 1 (at_some hu20).1 (at_some hu20).2.1 rfl rfl rfl Tryd.underlying50 sz9 rfl (fun p21 hp22 => ?_)
      refine al_val (ov_loadR (ds := [(str u19)]) 1 rfl hp22 (at_some hu20).2.2 (fun h => h) rfl Tryd.underlying9 sz9 rfl rfl rfl) ?_
      refine al_as rfl rfl ?_
      refine al_nt ?_
      refine aw_sr ?_
      refine al_mv rfl rfl ?_
      refine al_mv rfl rfl ?_
      obtain ⟨r24, hc23, h⟩ := opt_some h
      refine al_call (vs := [v1_0, (str u19)]) (f_lumref_editAt_ok fu v1_0 a1 u19 hc23) [] [] [0, 1] (pre_fz 1 rfl pre_nil) rfl (by simp) (by decide) (.inl rfl) rfl Tryd.func61 rfl rfl rfl (fun _ => ?_)
      refine al_mv rfl rfl ?_
      refine al_ex rfl rfl rfl ?_
      refine al_ex rfl rfl rfl ?_
      refine al_alloc (zs := [(str ([] : List UInt8)), (bool false), (str ([] : List UInt8)), (iq (0 : Int)), (iq (0 : Int)), (iq (0 : Int)), (str ([] : List UInt8))]) (zeroOf_to to43) rfl rfl (fun g25 => ?_)
      refine al_store (i := 0) (vs := [(str r24.1.Path), (bool r24.1.Gone), (str r24.1.Item.Path), (iq r24.1.Item.Kind), (iq r24.1.Item.Mode), (iq r24.1.Item.Time), (str r24.1.Item.Bytes)]) (cs' := [(str r24.1.Path), (bool r24.1.Gone), (str r24.1.Item.Path), (iq r24.1.Item.Kind), (iq r24.1.Item.Mode), (iq r24.1.Item.Time), (str r24.1.Item.Bytes)]) rfl rfl rfl sz43 (cv_rfl rfl) rfl (co_val rfl (co_val rfl (co_val rfl (co_val rfl (co_val rfl (co_val rfl (co_val rfl co_nil))))))) (Nat.le_of_ble_eq_true rfl) rfl rfl ?_
      refine al_as rfl rfl ?_
      refine al_nt ?_
      obtain ⟨kk27, hkk27, h⟩ := lt_some h
      refine aw_seq_join (ι := (List UInt8) × Bool × (List UInt8) × Int × Int × Int × (List UInt8)) (fun i => (memOf w0 Z0 [] [(oRow l15v11 43 tyS_api_Edit l15x11), (oBox g25 43 [(str i.1), (bool i.2.1), (str i.2.2.1), (iq i.2.2.2.1), (iq i.2.2.2.2.1), (iq i.2.2.2.2.2.1), (str i.2.2.2.2.2.2)]), (oRow v14 9 tyStr r13)] [(fDat (tyList tyS_api_Edit) [v0_0] a0), (fDat (tyList tyS_api_Edit) [v1_0] a1)])) (fun i => (tab [(0, v0_0), (1, v1_0), (11, l15v11), (14, (pq g25)), (42, v14), (43, (iq (r13.length : Int))), (44, (iq l15i44))])) (fun i => kk27 i.1 i.2.1 i.2.2.1 i.2.2.2.1 i.2.2.2.2.1 i.2.2.2.2.2.1 i.2.2.2.2.2.2 = some r) ?_ ?_
      ·rintro ⟨j26s14_0, j26b14_1, j26s14_2, j26i14_3, j26i14_4, j26i14_5, j26s14_6⟩ h
       have h : kk27 j26s14_0 j26b14_1 j26s14_2 j26i14_3 j26i14_4 j26i14_5 j26s14_6 = some r := h
       rw [hkk27] at h
       dsimp only at h
       clear hkk27
       refine aw_show (m := (memOf w0 Z0 [] [(oRow l15v11 43 tyS_api_Edit l15x11), (oBox g25 43 [(str j26s14_0), (bool j26b14_1), (str j26s14_2), (iq j26i14_3), (iq j26i14_4), (iq j26i14_5), (str j26s14_6)]), (oRow v14 9 tyStr r13)] [(fDat (tyList tyS_api_Edit) [v0_0] a0), (fDat (tyList tyS_api_Edit) [v1_0] a1)])) (S := (tab [(0, v0_0), (1, v1_0), (11, l15v11), (14, (pq g25)), (42, v14), (43, (iq (r13.length : Int))), (44, (iq l15i44))])) ?_
       refine aw_region ?_
       refine al_mv rfl rfl ?_
       refine al_val (ov_load (i := 1) (v := (ag [(str j26s14_0), (bool j26b14_1), (str j26s14_2), (iq j26i14_3), (iq j26i14_4), (iq j26i14_5), (str j26s14_6)])) rfl rfl Tryd.underlying43 sz43 rfl rfl rfl rfl) ?_
       refine al_buildSlice (τ := tyS_api_Edit) (e := 43) (k := 1) (sz := 0) (by_ := 0) (z := undef) (cs := [(str j26s14_0), (bool j26b14_1), (str j26s14_2), (iq j26i14_3), (iq j26i14_4), (iq j26i14_5), (str j26s14_6)]) (xs := [(S_api_Edit.mk j26s14_0 j26b14_1 (S_api_Item.mk j26s14_2 j26i14_3 j26i14_4 j26i14_5 j26s14_6))]) rfl (by decide) (fun w a hm hs => ⟨([(str j26s14_0), (bool j26b14_1), (str j26s14_2), (iq j26i14_3), (iq j26i14_4), (iq j26i14_5), (str j26s14_6)]).toArray, rfl, by simp only [List.map_toArray, List.map_cons, List.map_nil, hs.ev (x := .tmp 63) rfl]; exact run_bs [(ag [(str j26s14_0), (bool j26b14_1), (str j26s14_2), (iq j26i14_3), (iq j26i14_4), (iq j26i14_5), (str j26s14_6)])] [(str j26s14_0), (bool j26b14_1), (str j26s14_2), (iq j26i14_3), (iq j26i14_4), (iq j26i14_5), (str j26s14_6)] Tryd.underlying36 to43 rfl rfl (bs_cons (l := [(str j26s14_0), (bool j26b14_1), (str j26s14_2), (iq j26i14_3), (iq j26i14_4), (iq j26i14_5), (str j26s14_6)]) (cs := []) (cv_rfl rfl) rfl bs_nil) hm⟩) (fun hm => ⟨_, _, rfl, (fun _ => mkS_api_Edit rfl) hm, rfl⟩) rfl (fun v28 => ?_)
       obtain ⟨hc29, h⟩ := req_some h
       refine al_append 1 hc29.1 hc29.2 rfl (src_own (i := 1) 0 rfl) rfl rfl Tryd.underlying36 to43 rfl rfl rfl (fun v30 => ?_)
       refine al_as rfl rfl ?_
       refine al_nil ?_
       refine aq_block ?_
       refine aq_then ?_
       refine aw_region ?_
       refine al_in rfl rfl rfl rfl ?_
       refine al_mv rfl rfl ?_
       refine al_nil ?_
       exact aq_again k16 (v30, (l15x11 ++ ([(S_api_Edit.mk j26s14_0 j26b14_1 (S_api_Item.mk j26s14_2 j26i14_3 j26i14_4 j26i14_5 j26s14_6))])), (wq (l15i44 + (1 : Int)))) (Nat.lt_succ_self _) h (fun w a hm hs => norm hm hs [1, 3] [0, 1] [(0, v0_0), (1, v1_0), (11, v30), (42, v14), (43, (iq (r13.length : Int))), (44, (iq (wq (l15i44 + (1 : Int)))))] (by decide) ⟨rfl, rfl, rfl, rfl, rfl, rfl, trivial⟩)
      ·clear hkk27
       refine aw_sr ?_
       refine al_mv rfl rfl ?_
       refine al_val (ov_not rfl rfl) ?_
       refine al_nt ?_
       refine aw_cond rfl (fun hb31 => ?_) (fun hb31 => ?_)
       ·replace h := bif_t hb31 h
        refine aw_region ?_
        refine al_mv rfl rfl ?_
        refine al_mv rfl rfl ?_
        obtain ⟨r33, hc32, h⟩ := opt_some h
        refine al_call (vs := [v0_0, (str u19)]) (f_lumref_editAt_ok fu v0_0 a0 u19 hc32) [] [] [0, 1, 2] (pre_fz 0 rfl pre_nil) rfl (by simp) (by decide) (.inl rfl) rfl Tryd.func61 rfl rfl rfl (fun _ => ?_)
        refine al_mv rfl rfl ?_
        refine al_ex rfl rfl rfl ?_
        refine al_ex rfl rfl rfl ?_
        refine al_store (i := 0) (vs := [(str r33.1.Path), (bool r33.1.Gone), (str r33.1.Item.Path), (iq r33.1.Item.Kind), (iq r33.1.Item.Mode), (iq r33.1.Item.Time), (str r33.1.Item.Bytes)]) (cs' := [(str r33.1.Path), (bool r33.1.Gone), (str r33.1.Item.Path), (iq r33.1.Item.Kind), (iq r33.1.Item.Mode), (iq r33.1.Item.Time), (str r33.1.Item.Bytes)]) rfl rfl rfl sz43 (cv_rfl rfl) rfl (co_val rfl (co_val rfl (co_val rfl (co_val rfl (co_val rfl (co_val rfl (co_val rfl co_nil))))))) (Nat.le_of_ble_eq_true rfl) rfl rfl ?_
        refine al_nil ?_
        exact aq_join (r33.1.Path, r33.1.Gone, r33.1.Item.Path, r33.1.Item.Kind, r33.1.Item.Mode, r33.1.Item.Time, r33.1.Item.Bytes) h (fun w a hm hs => norm hm hs [1, 0, 2] [0, 1] [(0, v0_0), (1, v1_0), (11, l15v11), (14, (pq g25)), (42, v14), (43, (iq (r13.length : Int))), (44, (iq l15i44))] (by decide) ⟨rfl, rfl, rfl, rfl, rfl, rfl, rfl, trivial⟩)
       ·replace h := bif_f hb31 h
        refine aw_skip ?_
        exact aq_join (r24.1.Path, r24.1.Gone, r24.1.Item.Path, r24.1.Item.Kind, r24.1.Item.Mode, r24.1.Item.Time, r24.1.Item.Bytes) h (fun w a hm hs => norm hm hs [1, 0, 2] [0, 1] [(0, v0_0), (1, v1_0), (11, l15v11), (14, (pq g25)), (42, v14), (43, (iq (r13.length : Int))), (44, (iq l15i44))] (by decide) ⟨rfl, rfl, rfl, rfl, rfl, rfl, rfl, trivial⟩)
     ·replace h := bif_f hb18 h
      refine aw_exit ?_
      refine aq_then_exit ?_
      refine aq_then_exit ?_
      refine aq_block_exit ?_
      exact aq_join (l15v11, l15x11) h (fun w a hm hs => norm hm hs [0] [0, 1] [(11, l15v11)] (by decide) ⟨rfl, trivial⟩)
   ·clear hkk8
    refine aw_sr ?_
    refine al_mv rfl rfl ?_
    obtain ⟨r35, hc34, h⟩ := opt_some h
    refine al_call (vs := [v0_0]) (f_slices_Clone___api_Edit_api_Edit__ok fu v0_0 a0 hc34) [] [] [] (pre_fz 0 rfl pre_nil) rfl (by simp) (by decide) (.inl rfl) rfl Tryd.func64 rfl rfl rfl (fun v36 => ?_)
    refine al_mv rfl rfl ?_
    obtain ⟨hc37, h⟩ := req_some h
    refine al_append 0 hc37.1 hc37.2 rfl (src_dat (i := 0) 1 rfl) rfl rfl Tryd.underlying36 to43 rfl rfl rfl (fun v38 => ?_)
    refine al_val (ov_lenR 0 rfl rfl Tryd.underlying36 rfl) ?_
    refine al_mv rfl rfl ?_
    refine al_nt ?_
    refine aw_block ?_
    refine aw_nilR 9 tyStr ?_
    refine aw_state (aw_loop (ι := Value × (List (List UInt8)) × Int) (fun i => (memOf w0 Z0 [] [(oRow i.1 9 tyStr i.2.1), (oRow v38 43 tyS_api_Edit (r35 ++ a1))] [(fDat (tyList tyS_api_Edit) [v0_0] a0), (fDat (tyList tyS_api_Edit) [v1_0] a1)])) (fun i => (tab [(0, v0_0), (1, v1_0), (8, i.1), (29, v38), (30, (iq ((r35 ++ a1).length : Int))), (31, (iq i.2.2))])) (fun q i => f_lumref_JoinEdits_L41 a1 kk8 r35 q i.2.1 i.2.2 = some r) ?_ fu (nS, ([] : List (List UInt8)), (0 : Int)) h) (fun w a hm hs => norm hm hs [0, 1] [0, 1] [(0, v0_0), (1, v1_0), (8, nS), (29, v38), (30, (iq ((r35 ++ a1).length : Int))), (31, (iq (0 : Int)))] (by decide) ⟨rfl, rfl, rfl, rfl, rfl, rfl, trivial⟩)
    clear h
    rintro k40 ⟨l39v8, l39x8, l39i31⟩ h
    have h : f_lumref_JoinEdits_L41 a1 kk8 r35 k40 l39x8 l39i31 = some r := h
    obtain _ | k40 := k40
    · rw [f_lumref_JoinEdits_L41] at h; cases h
    rw [f_lumref_JoinEdits_L41] at h
    refine aw_show (m := (memOf w0 Z0 [] [(oRow l39v8 9 tyStr l39x8), (oRow v38 43 tyS_api_Edit (r35 ++ a1))] [(fDat (tyList tyS_api_Edit) [v0_0] a0), (fDat (tyList tyS_api_Edit) [v1_0] a1)])) (S := (tab [(0, v0_0), (1, v1_0), (8, l39v8), (29, v38), (30, (iq ((r35 ++ a1).length : Int))), (31, (iq l39i31))])) ?_
    refine aw_sr ?_
    refine al_in rfl rfl rfl rfl ?_
    refine al_nt ?_
    refine aw_seq ?_
    refine aw_cond rfl (fun hb42 => ?_) (fun hb42 => ?_)
    ·replace h := bif_t hb42 h
     refine aw_skip ?_
     refine aq_then ?_
     refine aw_seq ?_
     refine aw_block ?_
     refine aw_sr ?_
     obtain ⟨u43, hu44, h⟩ := opt_some h
     refine al_idxR 1 (at_some hu44).1 (at_some hu44).2.1 rfl rfl rfl Tryd.underlying36 sz43 rfl (fun p45 hp46 => ?_)
     refine al_val (ov_loadR (ds := [(str u43.Path), (bool u43.Gone), (str u43.Item.Path), (iq u43.Item.Kind), (iq u43.Item.Mode), (iq u43.Item.Time), (str u43.Item.Bytes)]) 1 rfl hp46 (at_some hu44).2.2 encS_api_Edit rfl Tryd.underlying43 sz43 rfl rfl rfl) ?_
     refine al_alloc (zs := [(str ([] : List UInt8)), (bool false), (str ([] : List UInt8)), (iq (0 : Int)), (iq (0 : Int)), (iq (0 : Int)), (str ([] : List UInt8))]) (zeroOf_to to43) rfl rfl (fun g47 => ?_)
     refine al_store (i := 0) (vs := [(str u43.Path), (bool u43.Gone), (str u43.Item.Path), (iq u43.Item.Kind), (iq u43.Item.Mode), (iq u43.Item.Time), (str u43.Item.Bytes)]) (cs' := [(str u43.Path), (bool u43.Gone), (str u43.Item.Path), (iq u43.Item.Kind), (iq u43.Item.Mode), (iq u43.Item.Time), (str u43.Item.Bytes)]) rfl rfl rfl sz43 (cv_rfl rfl) rfl (co_val rfl (co_val rfl (co_val rfl (co_val rfl (co_val rfl (co_val rfl (co_val rfl co_nil))))))) (Nat.le_of_ble_eq_true rfl) rfl rfl ?_
     refine al_nt ?_
     refine aw_region ?_
     refine al_mv rfl rfl ?_
     refine al_val (ov_fieldA (p := 0) rfl Tryd.underlying43 rfl sz9 rfl rfl rfl) ?_
     refine al_val (ov_load (i := 0) (v := (str u43.Path)) rfl rfl Tryd.underlying9 sz9 rfl rfl rfl rfl) ?_
     refine al_buildSlice (τ := tyStr) (e := 9) (k := 1) (sz := 0) (by_ := 0) (z := undef) (cs := [(str u43.Path)]) (xs := [u43.Path]) rfl (by decide) (fun w a hm hs => ⟨([(str u43.Path)]).toArray, rfl, by simp only [List.map_toArray, List.map_cons, List.map_nil, hs.ev (x := .tmp 37) rfl]; exact run_bs [(str u43.Path)] [(str u43.Path)] Tryd.underlying50 to9 rfl rfl (bs_cons (l := [(str u43.Path)]) (cs := []) (cv_rfl rfl) rfl bs_nil) hm⟩) (fun hm => ⟨_, _, rfl, (fun _ => rfl) hm, rfl⟩) rfl (fun v48 => ?_)
     obtain ⟨hc49, h⟩ := req_some h
     refine al_append 2 hc49.1 hc49.2 rfl (src_own (i := 2) 0 rfl) rfl rfl Tryd.underlying50 to9 rfl rfl rfl (fun v50 => ?_)
     refine al_as rfl rfl ?_
     refine al_nil ?_
     refine aq_block ?_
     refine aq_then ?_
     refine aw_region ?_
     refine al_in rfl rfl rfl rfl ?_
     refine al_mv rfl rfl ?_
     refine al_nil ?_
     exact aq_again k40 (v50, (l39x8 ++ ([u43.Path])), (wq (l39i31 + (1 : Int)))) (Nat.lt_succ_self _) h (fun w a hm hs => norm hm hs [2, 3] [0, 1] [(0, v0_0), (1, v1_0), (8, v50), (29, v38), (30, (iq ((r35 ++ a1).length : Int))), (31, (iq (wq (l39i31 + (1 : Int)))))] (by decide) ⟨rfl, rfl, rfl, rfl, rfl, rfl, trivial⟩)
    ·replace h := bif_f hb42 h
     refine aw_exit ?_
     refine aq_then_exit ?_
     refine aq_then_exit ?_
     refine aq_block_exit ?_
     exact aq_join (l39v8, l39x8) h (fun w a hm hs => norm hm hs [0] [0, 1] [(0, v0_0), (1, v1_0), (8, l39v8)] (by decide) ⟨rfl, rfl, rfl, trivial⟩)
def f_slices_Equal___api_Item_api_Item__L6 (a0 : (List S_api_Item)) (a1 : (List S_api_Item)) (kk3 : (Unit → Option Bool)) : Nat → Int → Option Bool
  | 0, _ => none
  | k5 + 1, l4i13 => (bif (decide (l4i13 < (a0.length : Int))) then (opt (at? a0 l4i13) fun (u8 : S_api_Item) => (opt (at? a1 l4i13) fun (u11 : S_api_Item) => (req (u8.Path.length ≤ 9223372036854775807) (req ((Lit.int .i64 u8.Kind).wf = true) (req ((Lit.int .i64 u8.Mode).wf = true) (req ((Lit.int .i64 u8.Time).wf = true) (req (u8.Bytes.length ≤ 9223372036854775807) (req (u11.Path.length ≤ 9223372036854775807) (req ((Lit.int .i64 u11.Kind).wf = true) (req ((Lit.int .i64 u11.Mode).wf = true) (req ((Lit.int .i64 u11.Time).wf = true) (req (u11.Bytes.length ≤ 9223372036854775807) (bif (!(u8 == u11)) then (some false) else (f_slices_Equal___api_Item_api_Item__L6 a0 a1 kk3 k5 (IntKind.i64.wrap (l4i13 + (1 : Int))))))))))))))))) else (kk3 ()))
def f_slices_Equal___api_Item_api_Item_ (fu : Nat) (a0 : (List S_api_Item)) (a1 : (List S_api_Item)) : Option Bool := (bif ((a0.length : Int) != (a1.length : Int)) then (some false) else (lt (fun (_ : Unit) => (some true)) fun (kk3 : Unit → Option Bool) => (f_slices_Equal___api_Item_api_Item__L6 a0 a1 kk3 fu (0 : Int))))
end Go.Proofs.YtfhifdmbdkkgaaaDoor
