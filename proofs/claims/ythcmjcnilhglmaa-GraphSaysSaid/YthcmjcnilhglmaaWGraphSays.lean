/- Walks by program. No condition. -/
import Derived.Test.YthcmjcnilhglmaaEn8
import Derived.Test.YthcmjcnilhglmaaChecked
namespace Go.Proofs.Ythcmjcnilhglmaa
open Go.RowKit Ythcmjcnilhglmaa.En
set_option linter.unusedVariables false
set_option linter.unusedSimpArgs false
theorem sz3 : szOf Try.prog 3 = some 1 := by kernel_rfl
theorem to3 : tyOf Try.prog 3 = some (1, 8, some (Value.int .i64 (0 : Int))) := by kernel_rfl
theorem sz4 : szOf Try.prog 4 = some 1 := by kernel_rfl
theorem to4 : tyOf Try.prog 4 = some (1, 1, some (Value.bool false)) := by kernel_rfl
theorem sz24 : szOf Try.prog 24 = some 1 := by kernel_rfl
theorem to24 : tyOf Try.prog 24 = some (1, 24, some (Value.slice none 0 0)) := by kernel_rfl
theorem mixed : Try.prog.follows .mixedOrders = true := by kernel_rfl
def f_graph_Check_L18 (a0 : (List (List Int))) (kk10 : (Unit → Option Int)) (u11 : (List Int)) : Nat → Int → Option Int
  | 0, _ => none
  | k17 + 1, l16i21 => (bif (decide (l16i21 < (u11.length : Int))) then (opt (at? u11 l16i21) fun (u20 : Int) => (lt (fun (j23b32 : Bool) => (bif j23b32 then (some (1 : Int)) else (f_graph_Check_L18 a0 kk10 u11 k17 (IntKind.i64.wrap (l16i21 + (1 : Int)))))) fun (kk24 : Bool → Option Int) => (bif (decide (u20 < (0 : Int))) then (kk24 true) else (kk24 (decide (u20 ≥ (a0.length : Int))))))) else (kk10 ()))
def f_graph_Check_L6 (a0 : (List (List Int))) (kk3 : (Unit → Option Int)) (fu : Nat) : Nat → Int → Option Int
  | 0, _ => none
  | k5 + 1, l4i12 => (lt (fun (l4i12 : Int) => (f_graph_Check_L6 a0 kk3 fu k5 l4i12)) fun (kk7 : Int → Option Int) => (bif (decide (l4i12 < (a0.length : Int))) then (lt (fun (_ : Unit) => (kk7 (IntKind.i64.wrap (l4i12 + (1 : Int))))) fun (kk10 : Unit → Option Int) => (opt (at? a0 l4i12) fun (u11 : (List Int)) => (bif (decide ((u11.length : Int) > (64 : Int))) then (some (2 : Int)) else (f_graph_Check_L18 a0 kk10 u11 fu (0 : Int))))) else (kk3 ())))
def f_graph_Check (fu : Nat) (a0 : (List (List Int))) : Option Int := (bif (decide ((a0.length : Int) > (200 : Int))) then (some (2 : Int)) else (lt (fun (_ : Unit) => (some (0 : Int))) fun (kk3 : Unit → Option Int) => (f_graph_Check_L6 a0 kk3 fu fu (0 : Int))))
set_option maxRecDepth 100000 in
theorem f_graph_Check_ok (fu : Nat) (v0_0 : Value) (a0 : (List (List Int))) {r : Int} (h : f_graph_Check fu a0 = some r) : FnOk Try.prog 72 [v0_0] [(fDat (tyList (tyList (tyInt .i64))) [v0_0] a0)] [] (fun (i : Unit) => { val := (Value.int .i64 r) }) := by
  unfold f_graph_Check at h
  refine fn_enter Try.func72 rfl Try.ntmps72 rfl (fun w0 Z0 => ?_)
  refine aw_seq ?_
  refine aw_region ?_
  refine al_val (ov_assign rfl rfl) ?_
  refine al_nil ?_
  refine aq_then ?_
  refine aw_seq ?_
  refine aw_seq ?_
  refine aw_region ?_
  refine al_val (ov_move rfl rfl) ?_
  refine al_val (ov_lenD 0 rfl rfl Try.underlying25 rfl) ?_
  refine al_val (ov_int rfl rfl rfl rfl) ?_
  refine al_nil ?_
  refine aq_then ?_
  refine aw_cond rfl (fun hb1 => ?_) (fun hb1 => ?_)
  · replace h := bif_t hb1 h
    refine aw_seq ?_
    refine aw_region ?_
    refine al_val (ov_assign rfl rfl) ?_
    refine al_nil ?_
    refine aq_then ?_
    refine aw_ret ?_
    refine aq_then_ret ?_
    obtain rfl := Option.some.inj h
    exact fn_ret () [] [] rfl rfl rfl rfl (res1 rfl rfl) rfl rfl rfl (by decide)
  · replace h := bif_f hb1 h
    refine aw_skip ?_
    refine aq_then ?_
    obtain ⟨kk3, hkk3, h⟩ := lt_some h
    refine aw_seq_join (ι := Unit) (fun i => (memOf w0 Z0 [] [] [(fDat (tyList (tyList (tyInt .i64))) [v0_0] a0)])) (fun i => (tab [])) (fun i => kk3 () = some r) ?_ ?_
    · rintro _ h
      have h : kk3 () = some r := h
      rw [hkk3] at h
      dsimp only at h
      clear hkk3
      refine aw_show (m := (memOf w0 Z0 [] [] [(fDat (tyList (tyList (tyInt .i64))) [v0_0] a0)])) (S := (tab [])) ?_
      refine aw_seq ?_
      refine aw_region ?_
      refine al_val (ov_assign rfl rfl) ?_
      refine al_nil ?_
      refine aq_then ?_
      refine aw_ret ?_
      obtain rfl := Option.some.inj h
      exact fn_ret () [] [] rfl rfl rfl rfl (res1 rfl rfl) rfl rfl rfl (by decide)
    · clear hkk3
      refine aw_seq ?_
      refine aw_region ?_
      refine al_val (ov_move rfl rfl) ?_
      refine al_val (ov_lenD 0 rfl rfl Try.underlying25 rfl) ?_
      refine al_val (ov_move rfl rfl) ?_
      refine al_nil ?_
      refine aq_then ?_
      refine aw_block ?_
      refine aw_state (aw_loop (ι := Int) (fun i => (memOf w0 Z0 [] [] [(fDat (tyList (tyList (tyInt .i64))) [v0_0] a0)])) (fun i => (tab [(0, v0_0), (10, v0_0), (11, (Value.int .i64 (a0.length : Int))), (12, (Value.int .i64 i))])) (fun q i => f_graph_Check_L6 a0 kk3 fu q i = some r) ?_ fu (0 : Int) h) (fun w a hm hs => norm hm hs [] [0] [(0, v0_0), (10, v0_0), (11, (Value.int .i64 (a0.length : Int))), (12, (Value.int .i64 (0 : Int)))] (by decide) ⟨rfl, rfl, rfl, rfl, trivial⟩)
      clear h
      rintro k5 l4i12 h
      have h : f_graph_Check_L6 a0 kk3 fu k5 l4i12 = some r := h
      obtain _ | k5 := k5
      · rw [f_graph_Check_L6] at h; cases h
      rw [f_graph_Check_L6] at h
      refine aw_show (m := (memOf w0 Z0 [] [] [(fDat (tyList (tyList (tyInt .i64))) [v0_0] a0)])) (S := (tab [(0, v0_0), (10, v0_0), (11, (Value.int .i64 (a0.length : Int))), (12, (Value.int .i64 l4i12))])) ?_
      obtain ⟨kk7, hkk7, h⟩ := lt_some h
      refine aw_body_join (ι := Int) (fun i => (memOf w0 Z0 [] [] [(fDat (tyList (tyList (tyInt .i64))) [v0_0] a0)])) (fun i => (tab [(0, v0_0), (10, v0_0), (11, (Value.int .i64 (a0.length : Int))), (12, (Value.int .i64 i))])) (fun i => kk7 i = some r) (fun i h => aq_again k5 i (Nat.lt_succ_self _) (by rw [hkk7] at h; exact h) (fun w a hm hs => ⟨hm, hs⟩)) ?_
      clear hkk7
      refine aw_seq ?_
      refine aw_region ?_
      refine al_val (ov_int rfl rfl rfl rfl) ?_
      refine al_nil ?_
      refine aq_then ?_
      refine aw_seq ?_
      refine aw_cond rfl (fun hb8 => ?_) (fun hb8 => ?_)
      · replace h := bif_t hb8 h
        refine aw_skip ?_
        refine aq_then ?_
        obtain ⟨kk10, hkk10, h⟩ := lt_some h
        refine aw_seq_join (ι := Unit) (fun i => (memOf w0 Z0 [] [] [(fDat (tyList (tyList (tyInt .i64))) [v0_0] a0)])) (fun i => (tab [(0, v0_0), (10, v0_0), (11, (Value.int .i64 (a0.length : Int))), (12, (Value.int .i64 l4i12))])) (fun i => kk10 () = some r) ?_ ?_
        · rintro _ h
          have h : kk10 () = some r := h
          rw [hkk10] at h
          dsimp only at h
          clear hkk10
          refine aw_show (m := (memOf w0 Z0 [] [] [(fDat (tyList (tyList (tyInt .i64))) [v0_0] a0)])) (S := (tab [(0, v0_0), (10, v0_0), (11, (Value.int .i64 (a0.length : Int))), (12, (Value.int .i64 l4i12))])) ?_
          refine aw_region ?_
          refine al_val (ov_int rfl rfl rfl rfl) ?_
          refine al_val (ov_move rfl rfl) ?_
          refine al_nil ?_
          exact aq_join (IntKind.i64.wrap (l4i12 + (1 : Int))) h (fun w a hm hs => norm hm hs [] [0] [(0, v0_0), (10, v0_0), (11, (Value.int .i64 (a0.length : Int))), (12, (Value.int .i64 (IntKind.i64.wrap (l4i12 + (1 : Int)))))] (by decide) ⟨rfl, rfl, rfl, rfl, trivial⟩)
        · clear hkk10
          refine aw_block ?_
          refine aw_seq ?_
          refine aw_region ?_
          obtain ⟨u11, hu12, h⟩ := opt_some h
          refine al_idxD 0 hu12 rfl rfl rfl Try.underlying25 sz24 rfl (fun p13 => ?_)
          refine al_loadP1 0 rfl rfl Try.underlying24 sz24 rfl rfl rfl (fun s14 => ?_)
          refine al_val (ov_assign rfl rfl) ?_
          refine al_nil ?_
          refine aq_then ?_
          refine aw_seq ?_
          refine aw_seq ?_
          refine aw_region ?_
          refine al_val (ov_move rfl rfl) ?_
          refine al_val (ov_lenD 0 rfl rfl Try.underlying24 rfl) ?_
          refine al_val (ov_int rfl rfl rfl rfl) ?_
          refine al_nil ?_
          refine aq_then ?_
          refine aw_cond rfl (fun hb15 => ?_) (fun hb15 => ?_)
          · replace h := bif_t hb15 h
            refine aw_seq ?_
            refine aw_region ?_
            refine al_val (ov_assign rfl rfl) ?_
            refine al_nil ?_
            refine aq_then ?_
            refine aw_ret ?_
            refine aq_then_ret ?_
            refine aq_block_ret ?_
            refine aq_then_ret ?_
            refine aq_then_ret ?_
            refine aq_block_ret ?_
            refine aq_then_ret ?_
            obtain rfl := Option.some.inj h
            exact fn_ret () [] [] rfl rfl rfl rfl (res1 rfl rfl) rfl rfl rfl (by decide)
          · replace h := bif_f hb15 h
            refine aw_skip ?_
            refine aq_then ?_
            refine aw_seq ?_
            refine aw_region ?_
            refine al_val (ov_move rfl rfl) ?_
            refine al_val (ov_lenD 0 rfl rfl Try.underlying24 rfl) ?_
            refine al_val (ov_move rfl rfl) ?_
            refine al_nil ?_
            refine aq_then ?_
            refine aw_block ?_
            refine aw_state (aw_loop (ι := Int) (fun i => (memOf w0 Z0 [] [] [(fDat (tyList (tyList (tyInt .i64))) [v0_0] a0), (fDat (tyList (tyInt .i64)) [s14] u11), (fPtr (tyList (tyInt .i64)) p13 u11)])) (fun i => (tab [(0, v0_0), (10, v0_0), (11, (Value.int .i64 (a0.length : Int))), (12, (Value.int .i64 l4i12)), (19, s14), (20, (Value.int .i64 (u11.length : Int))), (21, (Value.int .i64 i))])) (fun q i => f_graph_Check_L18 a0 kk10 u11 q i = some r) ?_ fu (0 : Int) h) (fun w a hm hs => norm hm hs [] [2, 0, 1] [(0, v0_0), (10, v0_0), (11, (Value.int .i64 (a0.length : Int))), (12, (Value.int .i64 l4i12)), (19, s14), (20, (Value.int .i64 (u11.length : Int))), (21, (Value.int .i64 (0 : Int)))] (by decide) ⟨rfl, rfl, rfl, rfl, rfl, rfl, rfl, trivial⟩)
            clear h
            rintro k17 l16i21 h
            have h : f_graph_Check_L18 a0 kk10 u11 k17 l16i21 = some r := h
            obtain _ | k17 := k17
            · rw [f_graph_Check_L18] at h; cases h
            rw [f_graph_Check_L18] at h
            refine aw_show (m := (memOf w0 Z0 [] [] [(fDat (tyList (tyList (tyInt .i64))) [v0_0] a0), (fDat (tyList (tyInt .i64)) [s14] u11), (fPtr (tyList (tyInt .i64)) p13 u11)])) (S := (tab [(0, v0_0), (10, v0_0), (11, (Value.int .i64 (a0.length : Int))), (12, (Value.int .i64 l4i12)), (19, s14), (20, (Value.int .i64 (u11.length : Int))), (21, (Value.int .i64 l16i21))])) ?_
            refine aw_seq ?_
            refine aw_region ?_
            refine al_val (ov_int rfl rfl rfl rfl) ?_
            refine al_nil ?_
            refine aq_then ?_
            refine aw_seq ?_
            refine aw_cond rfl (fun hb19 => ?_) (fun hb19 => ?_)
            · replace h := bif_t hb19 h
              refine aw_skip ?_
              refine aq_then ?_
              refine aw_seq ?_
              refine aw_block ?_
              refine aw_seq ?_
              refine aw_region ?_
              obtain ⟨u20, hu21, h⟩ := opt_some h
              refine al_idxD 1 hu21 rfl rfl rfl Try.underlying24 sz3 rfl (fun p22 => ?_)
              refine al_val (ov_loadP (ds := [(Value.int .i64 u20)]) 0 rfl (fun h => h) rfl Try.underlying3 sz3 rfl rfl rfl) ?_
              refine al_val (ov_assign rfl rfl) ?_
              refine al_nil ?_
              refine aq_then ?_
              obtain ⟨kk24, hkk24, h⟩ := lt_some h
              refine aw_seq_join (ι := Bool) (fun i => (memOf w0 Z0 [] [] [(fDat (tyList (tyList (tyInt .i64))) [v0_0] a0), (fDat (tyList (tyInt .i64)) [s14] u11), (fPtr (tyInt .i64) p22 u20), (fPtr (tyList (tyInt .i64)) p13 u11)])) (fun i => (tab [(0, v0_0), (10, v0_0), (11, (Value.int .i64 (a0.length : Int))), (12, (Value.int .i64 l4i12)), (19, s14), (20, (Value.int .i64 (u11.length : Int))), (21, (Value.int .i64 l16i21)), (32, (Value.bool i))])) (fun i => kk24 i = some r) ?_ ?_
              · rintro j23b32 h
                have h : kk24 j23b32 = some r := h
                rw [hkk24] at h
                dsimp only at h
                clear hkk24
                refine aw_show (m := (memOf w0 Z0 [] [] [(fDat (tyList (tyList (tyInt .i64))) [v0_0] a0), (fDat (tyList (tyInt .i64)) [s14] u11), (fPtr (tyInt .i64) p22 u20), (fPtr (tyList (tyInt .i64)) p13 u11)])) (S := (tab [(0, v0_0), (10, v0_0), (11, (Value.int .i64 (a0.length : Int))), (12, (Value.int .i64 l4i12)), (19, s14), (20, (Value.int .i64 (u11.length : Int))), (21, (Value.int .i64 l16i21)), (32, (Value.bool j23b32))])) ?_
                refine aw_cond rfl (fun hb25 => ?_) (fun hb25 => ?_)
                · replace h := bif_t hb25 h
                  refine aw_seq ?_
                  refine aw_region ?_
                  refine al_val (ov_assign rfl rfl) ?_
                  refine al_nil ?_
                  refine aq_then ?_
                  refine aw_ret ?_
                  refine aq_block_ret ?_
                  refine aq_then_ret ?_
                  refine aq_then_ret ?_
                  refine aq_block_ret ?_
                  refine aq_block_ret ?_
                  refine aq_then_ret ?_
                  refine aq_then_ret ?_
                  refine aq_block_ret ?_
                  refine aq_then_ret ?_
                  obtain rfl := Option.some.inj h
                  exact fn_ret () [] [] rfl rfl rfl rfl (res1 rfl rfl) rfl rfl rfl (by decide)
                · replace h := bif_f hb25 h
                  refine aw_skip ?_
                  refine aq_block ?_
                  refine aq_then ?_
                  refine aw_region ?_
                  refine al_val (ov_int rfl rfl rfl rfl) ?_
                  refine al_val (ov_move rfl rfl) ?_
                  refine al_nil ?_
                  exact aq_again k17 (IntKind.i64.wrap (l16i21 + (1 : Int))) (Nat.lt_succ_self _) h (fun w a hm hs => norm hm hs [] [0, 1, 3] [(0, v0_0), (10, v0_0), (11, (Value.int .i64 (a0.length : Int))), (12, (Value.int .i64 l4i12)), (19, s14), (20, (Value.int .i64 (u11.length : Int))), (21, (Value.int .i64 (IntKind.i64.wrap (l16i21 + (1 : Int)))))] (by decide) ⟨rfl, rfl, rfl, rfl, rfl, rfl, rfl, trivial⟩)
              · clear hkk24
                refine aw_region ?_
                refine al_val (ov_move rfl rfl) ?_
                refine al_val (ov_int rfl rfl rfl rfl) ?_
                refine al_val (ov_move rfl rfl) ?_
                refine al_caseB 27 rfl (fun hb26 => ?_) (fun hb26 => ?_)
                · replace h := bif_t hb26 h
                  refine al_skip ?_
                  refine al_skip ?_
                  refine al_skip ?_
                  refine al_skip ?_
                  refine al_val (ov_pick_t rfl rfl rfl) ?_
                  refine al_nil ?_
                  exact aq_join true h (fun w a hm hs => norm hm hs [] [1, 2, 0, 3] [(0, v0_0), (10, v0_0), (11, (Value.int .i64 (a0.length : Int))), (12, (Value.int .i64 l4i12)), (19, s14), (20, (Value.int .i64 (u11.length : Int))), (21, (Value.int .i64 l16i21)), (32, (Value.bool true))] (by decide) ⟨rfl, rfl, rfl, rfl, rfl, rfl, rfl, rfl, trivial⟩)
                · replace h := bif_f hb26 h
                  refine al_val (ov_move rfl rfl) ?_
                  refine al_val (ov_move rfl rfl) ?_
                  refine al_val (ov_lenD 1 rfl rfl Try.underlying25 rfl) ?_
                  refine al_val (ov_int rfl rfl rfl rfl) ?_
                  refine al_val (ov_pick_f rfl rfl rfl) ?_
                  refine al_nil ?_
                  exact aq_join (decide (u20 ≥ (a0.length : Int))) h (fun w a hm hs => norm hm hs [] [1, 2, 0, 3] [(0, v0_0), (10, v0_0), (11, (Value.int .i64 (a0.length : Int))), (12, (Value.int .i64 l4i12)), (19, s14), (20, (Value.int .i64 (u11.length : Int))), (21, (Value.int .i64 l16i21)), (32, (Value.bool (decide (u20 ≥ (a0.length : Int)))))] (by decide) ⟨rfl, rfl, rfl, rfl, rfl, rfl, rfl, rfl, trivial⟩)
            · replace h := bif_f hb19 h
              refine aw_exit ?_
              refine aq_then_exit ?_
              refine aq_then_exit ?_
              refine aq_block_exit ?_
              refine aq_block ?_
              exact aq_join () h (fun w a hm hs => norm hm hs [] [0] [(0, v0_0), (10, v0_0), (11, (Value.int .i64 (a0.length : Int))), (12, (Value.int .i64 l4i12))] (by decide) ⟨rfl, rfl, rfl, rfl, trivial⟩)
      · replace h := bif_f hb8 h
        refine aw_exit ?_
        refine aq_then_exit ?_
        refine aq_then_exit ?_
        refine aq_block_exit ?_
        exact aq_join () h (fun w a hm hs => norm hm hs [] [0] [] (by decide) trivial)
def f_graph_Closure_L9 (a0 : (List (List Int))) (kk4 : ((List Bool) → Option (List Bool))) : Nat → (List Bool) → (List Int) → Option (List Bool)
  | 0, _, _ => none
  | k8 + 1, l7x5, l7x6 => (bif (decide ((l7x6.length : Int) > (0 : Int))) then (opt (at? l7x6 (IntKind.i64.wrap ((l7x6.length : Int) - (1 : Int)))) fun (u11 : Int) => (req (0 ≤ (IntKind.i64.wrap ((l7x6.length : Int) - (1 : Int))) ∧ (IntKind.i64.wrap ((l7x6.length : Int) - (1 : Int))) ≤ (l7x6.length : Int)) (opt (at? l7x5 u11) fun (u17 : Bool) => (bif (!u17) then (opt (at? l7x5 u11) fun (u22 : Bool) => (opt (at? a0 u11) fun (u26 : (List Int)) => (req ((((l7x6.take ((IntKind.i64.wrap ((l7x6.length : Int) - (1 : Int)))).toNat).length + u26.length) * 8 : Nat) ≤ 140737488355328 ∧ (l7x6.take ((IntKind.i64.wrap ((l7x6.length : Int) - (1 : Int)))).toNat).length + u26.length ≤ 9223372036854775807) (f_graph_Closure_L9 a0 kk4 k8 (l7x5.set (u11).toNat true) ((l7x6.take ((IntKind.i64.wrap ((l7x6.length : Int) - (1 : Int)))).toNat) ++ u26))))) else (f_graph_Closure_L9 a0 kk4 k8 l7x5 (l7x6.take ((IntKind.i64.wrap ((l7x6.length : Int) - (1 : Int)))).toNat)))))) else (kk4 l7x5))
def f_graph_Closure (fu : Nat) (a0 : (List (List Int))) (a1 : (List Int)) : Option (List Bool) := (req (0 ≤ (a0.length : Int) ∧ 1 * (a0.length : Int) ≤ 281474976710656 ∧ (a0.length : Int) ≤ 9223372036854775807) (lt (fun (j3x5 : (List Bool)) => (some j3x5)) fun (kk4 : (List Bool) → Option (List Bool)) => (req (((([] : List Int).length + a1.length) * 8 : Nat) ≤ 140737488355328 ∧ ([] : List Int).length + a1.length ≤ 9223372036854775807) (f_graph_Closure_L9 a0 kk4 fu (List.replicate ((a0.length : Int)).toNat false) (([] : List Int) ++ a1)))))
set_option maxRecDepth 100000 in
theorem f_graph_Closure_ok (fu : Nat) (v0_0 : Value) (a0 : (List (List Int))) (v1_0 : Value) (a1 : (List Int)) {r : (List Bool)} (h : f_graph_Closure fu a0 a1 = some r) : FnOk Try.prog 106 [v0_0, v1_0] [(fDat (tyList (tyList (tyInt .i64))) [v0_0] a0), (fDat (tyList (tyInt .i64)) [v1_0] a1)] [] (fun (i : Value) => { val := i, own := [(oRow i 4 tyBool r)] }) := by
  unfold f_graph_Closure at h
  refine fn_enter Try.func106 rfl Try.ntmps106 rfl (fun w0 Z0 => ?_)
  refine aw_seq ?_
  refine aw_region ?_
  refine al_val (ov_assign rfl rfl) ?_
  refine al_nil ?_
  refine aq_then ?_
  refine aw_seq ?_
  refine aw_region ?_
  refine al_val (ov_move rfl rfl) ?_
  refine al_val (ov_lenD 0 rfl rfl Try.underlying25 rfl) ?_
  obtain ⟨hc1, h⟩ := req_some h
  refine al_make (τ := tyBool) (x0 := false) hc1.1 hc1.2.1 hc1.2.2 rfl rfl Try.underlying110 to4 (fun _ _ => rfl) rfl rfl (fun v2 => ?_)
  refine al_val (ov_assign rfl rfl) ?_
  refine al_nil ?_
  refine aq_then ?_
  obtain ⟨kk4, hkk4, h⟩ := lt_some h
  refine aw_seq_join (ι := (List Bool)) (fun i => (memOf w0 Z0 [] [(oRow v2 4 tyBool i)] [(fDat (tyList (tyList (tyInt .i64))) [v0_0] a0), (fDat (tyList (tyInt .i64)) [v1_0] a1)])) (fun i => (tab [(5, v2)])) (fun i => kk4 i = some r) ?_ ?_
  · rintro j3x5 h
    have h : kk4 j3x5 = some r := h
    rw [hkk4] at h
    dsimp only at h
    clear hkk4
    refine aw_show (m := (memOf w0 Z0 [] [(oRow v2 4 tyBool j3x5)] [(fDat (tyList (tyList (tyInt .i64))) [v0_0] a0), (fDat (tyList (tyInt .i64)) [v1_0] a1)])) (S := (tab [(5, v2)])) ?_
    refine aw_seq ?_
    refine aw_region ?_
    refine al_val (ov_move rfl rfl) ?_
    refine al_val (ov_assign rfl rfl) ?_
    refine al_nil ?_
    refine aq_then ?_
    refine aw_ret ?_
    obtain rfl := Option.some.inj h
    exact fn_ret v2 [0] [] rfl rfl rfl rfl (res1 rfl rfl) rfl rfl rfl (by decide)
  · clear hkk4
    refine aw_seq ?_
    refine aw_region ?_
    refine al_val (ov_move rfl rfl) ?_
    refine al_nilR 3 (tyInt .i64) ?_
    obtain ⟨hc5, h⟩ := req_some h
    refine al_append 0 hc5.1 hc5.2 rfl (src_dat (i := 0) 1 rfl) rfl rfl Try.underlying24 to3 rfl rfl rfl (fun v6 => ?_)
    refine al_val (ov_assign rfl rfl) ?_
    refine al_nil ?_
    refine aq_then ?_
    refine aw_block ?_
    refine aw_state (aw_loop (ι := (List Bool) × Value × (List Int)) (fun i => (memOf w0 Z0 [] [(oRow v2 4 tyBool i.1), (oRow i.2.1 3 (tyInt .i64) i.2.2)] [(fDat (tyList (tyList (tyInt .i64))) [v0_0] a0), (fDat (tyList (tyInt .i64)) [v1_0] a1)])) (fun i => (tab [(0, v0_0), (5, v2), (6, i.2.1)])) (fun q i => f_graph_Closure_L9 a0 kk4 q i.1 i.2.2 = some r) ?_ fu ((List.replicate ((a0.length : Int)).toNat false), v6, (([] : List Int) ++ a1)) h) (fun w a hm hs => norm hm hs [1, 0] [0, 1] [(0, v0_0), (5, v2), (6, v6)] (by decide) ⟨rfl, rfl, rfl, trivial⟩)
    clear h
    rintro k8 ⟨l7x5, l7v6, l7x6⟩ h
    have h : f_graph_Closure_L9 a0 kk4 k8 l7x5 l7x6 = some r := h
    obtain _ | k8 := k8
    · rw [f_graph_Closure_L9] at h; cases h
    rw [f_graph_Closure_L9] at h
    refine aw_show (m := (memOf w0 Z0 [] [(oRow v2 4 tyBool l7x5), (oRow l7v6 3 (tyInt .i64) l7x6)] [(fDat (tyList (tyList (tyInt .i64))) [v0_0] a0), (fDat (tyList (tyInt .i64)) [v1_0] a1)])) (S := (tab [(0, v0_0), (5, v2), (6, l7v6)])) ?_
    refine aw_seq ?_
    refine aw_seq ?_
    refine aw_region ?_
    refine al_val (ov_move rfl rfl) ?_
    refine al_val (ov_lenR 1 rfl rfl Try.underlying24 rfl) ?_
    refine al_val (ov_int rfl rfl rfl rfl) ?_
    refine al_nil ?_
    refine aq_then ?_
    refine aw_cond rfl (fun hb10 => ?_) (fun hb10 => ?_)
    · replace h := bif_t hb10 h
      refine aw_skip ?_
      refine aq_then ?_
      refine aw_block ?_
      refine aw_seq ?_
      refine aw_region ?_
      refine al_val (ov_move rfl rfl) ?_
      refine al_val (ov_move rfl rfl) ?_
      refine al_val (ov_lenR 1 rfl rfl Try.underlying24 rfl) ?_
      refine al_val (ov_int rfl rfl rfl rfl) ?_
      obtain ⟨u11, hu12, h⟩ := opt_some h
      refine al_idxR 1 (at_some hu12).1 (at_some hu12).2.1 rfl rfl rfl Try.underlying24 sz3 rfl (fun p13 hp14 => ?_)
      refine al_val (ov_loadR (ds := [(Value.int .i64 u11)]) 1 rfl hp14 (at_some hu12).2.2 (fun h => h) rfl Try.underlying3 sz3 rfl rfl rfl) ?_
      refine al_val (ov_assign rfl rfl) ?_
      refine al_nil ?_
      refine aq_then ?_
      refine aw_seq ?_
      refine aw_region ?_
      refine al_val (ov_move rfl rfl) ?_
      refine al_val (ov_move rfl rfl) ?_
      refine al_val (ov_lenR 1 rfl rfl Try.underlying24 rfl) ?_
      refine al_val (ov_int rfl rfl rfl rfl) ?_
      obtain ⟨hc15, h⟩ := req_some h
      refine al_cutR 1 hc15.1 hc15.2 rfl rfl rfl Try.underlying24 sz3 rfl (fun s16 => ?_)
      refine al_val (ov_assign rfl rfl) ?_
      refine al_nil ?_
      refine aq_then ?_
      refine aw_seq ?_
      refine aw_region ?_
      refine al_val (ov_move rfl rfl) ?_
      refine al_val (ov_move rfl rfl) ?_
      obtain ⟨u17, hu18, h⟩ := opt_some h
      refine al_idxR 0 (at_some hu18).1 (at_some hu18).2.1 rfl rfl rfl Try.underlying110 sz4 rfl (fun p19 hp20 => ?_)
      refine al_val (ov_loadR (ds := [(Value.bool u17)]) 0 rfl hp20 (at_some hu18).2.2 (fun h => h) rfl Try.underlying4 sz4 rfl rfl rfl) ?_
      refine al_val (ov_not rfl rfl) ?_
      refine al_nil ?_
      refine aq_then ?_
      refine aw_cond rfl (fun hb21 => ?_) (fun hb21 => ?_)
      · replace h := bif_t hb21 h
        refine aw_seq ?_
        refine aw_region ?_
        refine al_val (ov_move rfl rfl) ?_
        refine al_val (ov_move rfl rfl) ?_
        obtain ⟨u22, hu23, h⟩ := opt_some h
        refine al_idxR 0 (at_some hu23).1 (at_some hu23).2.1 rfl rfl rfl Try.underlying110 sz4 rfl (fun p24 hp25 => ?_)
        refine al_storeR (k := (u11).toNat) (x := true) (vs := [(Value.bool true)]) 0 rfl hp25 (idx_lt hu23) rfl rfl rfl (fun _ => rfl) sz4 rfl ?_
        refine al_nil ?_
        refine aq_then ?_
        refine aw_region ?_
        refine al_val (ov_move rfl rfl) ?_
        refine al_val (ov_move rfl rfl) ?_
        refine al_val (ov_move rfl rfl) ?_
        obtain ⟨u26, hu27, h⟩ := opt_some h
        refine al_idxD 0 hu27 rfl rfl rfl Try.underlying25 sz24 rfl (fun p28 => ?_)
        refine al_loadP1 0 rfl rfl Try.underlying24 sz24 rfl rfl rfl (fun s29 => ?_)
        obtain ⟨hc30, h⟩ := req_some h
        refine al_append 1 hc30.1 hc30.2 rfl (src_dat (i := 1) 0 rfl) rfl rfl Try.underlying24 to3 rfl rfl rfl (fun v31 => ?_)
        refine al_val (ov_assign rfl rfl) ?_
        refine al_nil ?_
        refine aq_block ?_
        exact aq_again k8 ((l7x5.set (u11).toNat true), v31, ((l7x6.take ((IntKind.i64.wrap ((l7x6.length : Int) - (1 : Int)))).toNat) ++ u26)) (Nat.lt_succ_self _) h (fun w a hm hs => norm hm hs [0, 1] [2, 3] [(0, v0_0), (5, v2), (6, v31)] (by decide) ⟨rfl, rfl, rfl, trivial⟩)
      · replace h := bif_f hb21 h
        refine aw_skip ?_
        refine aq_block ?_
        exact aq_again k8 (l7x5, s16, (l7x6.take ((IntKind.i64.wrap ((l7x6.length : Int) - (1 : Int)))).toNat)) (Nat.lt_succ_self _) h (fun w a hm hs => norm hm hs [0, 1] [0, 1] [(0, v0_0), (5, v2), (6, s16)] (by decide) ⟨rfl, rfl, rfl, trivial⟩)
    · replace h := bif_f hb10 h
      refine aw_exit ?_
      refine aq_then_exit ?_
      refine aq_then_exit ?_
      refine aq_block_exit ?_
      exact aq_join l7x5 h (fun w a hm hs => norm hm hs [0] [0, 1] [(5, v2)] (by decide) ⟨rfl, trivial⟩)
def f_graph_Reach_L12 (a0 : (List (List Int))) (a1 : (List Int)) (kk6 : (Unit → Option ((List Bool) × Int))) : Nat → Int → Option ((List Bool) × Int)
  | 0, _ => none
  | k11 + 1, l10i19 => (bif (decide (l10i19 < (a1.length : Int))) then (opt (at? a1 l10i19) fun (u14 : Int) => (lt (fun (j17b30 : Bool) => (bif j17b30 then (some (([] : List Bool), (1 : Int))) else (f_graph_Reach_L12 a0 a1 kk6 k11 (IntKind.i64.wrap (l10i19 + (1 : Int)))))) fun (kk18 : Bool → Option ((List Bool) × Int)) => (bif (decide (u14 < (0 : Int))) then (kk18 true) else (kk18 (decide (u14 ≥ (a0.length : Int))))))) else (kk6 ()))
def f_graph_Reach (fu : Nat) (a0 : (List (List Int))) (a1 : (List Int)) : Option ((List Bool) × Int) := (opt (f_graph_Check fu a0) fun (r2 : Int) => (bif (r2 != (0 : Int)) then (some (([] : List Bool), r2)) else (bif (decide ((a1.length : Int) > (64 : Int))) then (some (([] : List Bool), (2 : Int))) else (lt (fun (_ : Unit) => (opt (f_graph_Closure fu a0 a1) fun (r8 : (List Bool)) => (some (r8, (0 : Int))))) fun (kk6 : Unit → Option ((List Bool) × Int)) => (f_graph_Reach_L12 a0 a1 kk6 fu (0 : Int))))))
set_option maxRecDepth 100000 in
theorem f_graph_Reach_ok (fu : Nat) (v0_0 : Value) (a0 : (List (List Int))) (v1_0 : Value) (a1 : (List Int)) {r : ((List Bool) × Int)} (h : f_graph_Reach fu a0 a1 = some r) : FnOk Try.prog 68 [v0_0, v1_0] [(fDat (tyList (tyList (tyInt .i64))) [v0_0] a0), (fDat (tyList (tyInt .i64)) [v1_0] a1)] [] (fun (i : Value) => { val := (Value.tuple #[i, (Value.int .i64 r.2)]), own := [(oRow i 4 tyBool r.1)] }) := by
  unfold f_graph_Reach at h
  refine fn_enter Try.func68 rfl Try.ntmps68 rfl (fun w0 Z0 => ?_)
  refine aw_seq ?_
  refine aw_region ?_
  refine al_val (ov_assign rfl rfl) ?_
  refine al_val (ov_assign rfl rfl) ?_
  refine al_nil ?_
  refine aq_then ?_
  refine aw_seq ?_
  refine aw_seq ?_
  refine aw_region ?_
  refine al_val (ov_move rfl rfl) ?_
  obtain ⟨r2, hc1, h⟩ := opt_some h
  refine al_call (vs := [v0_0]) (f_graph_Check_ok fu v0_0 a0 hc1) [] [] [] (pre_fz 0 rfl pre_nil) rfl (by simp) (by decide) (.inl rfl) rfl Try.func72 rfl rfl rfl (fun _ => ?_)
  refine al_val (ov_assign rfl rfl) ?_
  refine al_nil ?_
  refine aq_then ?_
  refine aw_seq ?_
  refine aw_region ?_
  refine al_val (ov_move rfl rfl) ?_
  refine al_val (ov_int rfl rfl rfl rfl) ?_
  refine al_nil ?_
  refine aq_then ?_
  refine aw_cond rfl (fun hb3 => ?_) (fun hb3 => ?_)
  · replace h := bif_t hb3 h
    refine aw_seq ?_
    refine aw_region ?_
    refine al_val (ov_move rfl rfl) ?_
    refine al_val (ov_assign rfl rfl) ?_
    refine al_val (ov_assign rfl rfl) ?_
    refine al_nil ?_
    refine aq_then ?_
    refine aw_ret ?_
    refine aq_then_ret ?_
    refine aq_nilR 4 tyBool ?_
    obtain rfl := Option.some.inj h
    exact fn_ret (Value.slice none 0 0) [0] [] rfl rfl rfl rfl (res2 rfl rfl rfl) rfl rfl rfl (by decide)
  · replace h := bif_f hb3 h
    refine aw_skip ?_
    refine aq_then ?_
    refine aw_seq ?_
    refine aw_seq ?_
    refine aw_region ?_
    refine al_val (ov_move rfl rfl) ?_
    refine al_val (ov_lenD 1 rfl rfl Try.underlying24 rfl) ?_
    refine al_val (ov_int rfl rfl rfl rfl) ?_
    refine al_nil ?_
    refine aq_then ?_
    refine aw_cond rfl (fun hb4 => ?_) (fun hb4 => ?_)
    · replace h := bif_t hb4 h
      refine aw_seq ?_
      refine aw_region ?_
      refine al_val (ov_assign rfl rfl) ?_
      refine al_val (ov_assign rfl rfl) ?_
      refine al_nil ?_
      refine aq_then ?_
      refine aw_ret ?_
      refine aq_then_ret ?_
      refine aq_nilR 4 tyBool ?_
      obtain rfl := Option.some.inj h
      exact fn_ret (Value.slice none 0 0) [0] [] rfl rfl rfl rfl (res2 rfl rfl rfl) rfl rfl rfl (by decide)
    · replace h := bif_f hb4 h
      refine aw_skip ?_
      refine aq_then ?_
      obtain ⟨kk6, hkk6, h⟩ := lt_some h
      refine aw_seq_join (ι := Unit) (fun i => (memOf w0 Z0 [] [] [(fDat (tyList (tyList (tyInt .i64))) [v0_0] a0), (fDat (tyList (tyInt .i64)) [v1_0] a1)])) (fun i => (tab [(0, v0_0), (1, v1_0)])) (fun i => kk6 () = some r) ?_ ?_
      · rintro _ h
        have h : kk6 () = some r := h
        rw [hkk6] at h
        dsimp only at h
        clear hkk6
        refine aw_show (m := (memOf w0 Z0 [] [] [(fDat (tyList (tyList (tyInt .i64))) [v0_0] a0), (fDat (tyList (tyInt .i64)) [v1_0] a1)])) (S := (tab [(0, v0_0), (1, v1_0)])) ?_
        refine aw_seq ?_
        refine aw_region ?_
        refine al_val (ov_move rfl rfl) ?_
        refine al_val (ov_move rfl rfl) ?_
        obtain ⟨r8, hc7, h⟩ := opt_some h
        refine al_call (vs := [v0_0, v1_0]) (f_graph_Closure_ok fu v0_0 a0 v1_0 a1 hc7) [] [] [] (pre_fz 0 rfl (pre_fz 1 rfl pre_nil)) rfl (by simp) (by decide) (.inl rfl) rfl Try.func106 rfl rfl rfl (fun v9 => ?_)
        refine al_val (ov_assign rfl rfl) ?_
        refine al_val (ov_assign rfl rfl) ?_
        refine al_nil ?_
        refine aq_then ?_
        refine aw_ret ?_
        obtain rfl := Option.some.inj h
        exact fn_ret v9 [0] [] rfl rfl rfl rfl (res2 rfl rfl rfl) rfl rfl rfl (by decide)
      · clear hkk6
        refine aw_seq ?_
        refine aw_region ?_
        refine al_val (ov_move rfl rfl) ?_
        refine al_val (ov_lenD 1 rfl rfl Try.underlying24 rfl) ?_
        refine al_val (ov_move rfl rfl) ?_
        refine al_nil ?_
        refine aq_then ?_
        refine aw_block ?_
        refine aw_state (aw_loop (ι := Int) (fun i => (memOf w0 Z0 [] [] [(fDat (tyList (tyList (tyInt .i64))) [v0_0] a0), (fDat (tyList (tyInt .i64)) [v1_0] a1)])) (fun i => (tab [(0, v0_0), (1, v1_0), (17, v1_0), (18, (Value.int .i64 (a1.length : Int))), (19, (Value.int .i64 i))])) (fun q i => f_graph_Reach_L12 a0 a1 kk6 q i = some r) ?_ fu (0 : Int) h) (fun w a hm hs => norm hm hs [] [0, 1] [(0, v0_0), (1, v1_0), (17, v1_0), (18, (Value.int .i64 (a1.length : Int))), (19, (Value.int .i64 (0 : Int)))] (by decide) ⟨rfl, rfl, rfl, rfl, rfl, trivial⟩)
        clear h
        rintro k11 l10i19 h
        have h : f_graph_Reach_L12 a0 a1 kk6 k11 l10i19 = some r := h
        obtain _ | k11 := k11
        · rw [f_graph_Reach_L12] at h; cases h
        rw [f_graph_Reach_L12] at h
        refine aw_show (m := (memOf w0 Z0 [] [] [(fDat (tyList (tyList (tyInt .i64))) [v0_0] a0), (fDat (tyList (tyInt .i64)) [v1_0] a1)])) (S := (tab [(0, v0_0), (1, v1_0), (17, v1_0), (18, (Value.int .i64 (a1.length : Int))), (19, (Value.int .i64 l10i19))])) ?_
        refine aw_seq ?_
        refine aw_region ?_
        refine al_val (ov_int rfl rfl rfl rfl) ?_
        refine al_nil ?_
        refine aq_then ?_
        refine aw_seq ?_
        refine aw_cond rfl (fun hb13 => ?_) (fun hb13 => ?_)
        · replace h := bif_t hb13 h
          refine aw_skip ?_
          refine aq_then ?_
          refine aw_seq ?_
          refine aw_block ?_
          refine aw_seq ?_
          refine aw_region ?_
          obtain ⟨u14, hu15, h⟩ := opt_some h
          refine al_idxD 1 hu15 rfl rfl rfl Try.underlying24 sz3 rfl (fun p16 => ?_)
          refine al_val (ov_loadP (ds := [(Value.int .i64 u14)]) 0 rfl (fun h => h) rfl Try.underlying3 sz3 rfl rfl rfl) ?_
          refine al_val (ov_assign rfl rfl) ?_
          refine al_nil ?_
          refine aq_then ?_
          obtain ⟨kk18, hkk18, h⟩ := lt_some h
          refine aw_seq_join (ι := Bool) (fun i => (memOf w0 Z0 [] [] [(fDat (tyList (tyList (tyInt .i64))) [v0_0] a0), (fDat (tyList (tyInt .i64)) [v1_0] a1), (fPtr (tyInt .i64) p16 u14)])) (fun i => (tab [(0, v0_0), (1, v1_0), (17, v1_0), (18, (Value.int .i64 (a1.length : Int))), (19, (Value.int .i64 l10i19)), (30, (Value.bool i))])) (fun i => kk18 i = some r) ?_ ?_
          · rintro j17b30 h
            have h : kk18 j17b30 = some r := h
            rw [hkk18] at h
            dsimp only at h
            clear hkk18
            refine aw_show (m := (memOf w0 Z0 [] [] [(fDat (tyList (tyList (tyInt .i64))) [v0_0] a0), (fDat (tyList (tyInt .i64)) [v1_0] a1), (fPtr (tyInt .i64) p16 u14)])) (S := (tab [(0, v0_0), (1, v1_0), (17, v1_0), (18, (Value.int .i64 (a1.length : Int))), (19, (Value.int .i64 l10i19)), (30, (Value.bool j17b30))])) ?_
            refine aw_cond rfl (fun hb19 => ?_) (fun hb19 => ?_)
            · replace h := bif_t hb19 h
              refine aw_seq ?_
              refine aw_region ?_
              refine al_val (ov_assign rfl rfl) ?_
              refine al_val (ov_assign rfl rfl) ?_
              refine al_nil ?_
              refine aq_then ?_
              refine aw_ret ?_
              refine aq_block_ret ?_
              refine aq_then_ret ?_
              refine aq_then_ret ?_
              refine aq_block_ret ?_
              refine aq_then_ret ?_
              refine aq_nilR 4 tyBool ?_
              obtain rfl := Option.some.inj h
              exact fn_ret (Value.slice none 0 0) [0] [] rfl rfl rfl rfl (res2 rfl rfl rfl) rfl rfl rfl (by decide)
            · replace h := bif_f hb19 h
              refine aw_skip ?_
              refine aq_block ?_
              refine aq_then ?_
              refine aw_region ?_
              refine al_val (ov_int rfl rfl rfl rfl) ?_
              refine al_val (ov_move rfl rfl) ?_
              refine al_nil ?_
              exact aq_again k11 (IntKind.i64.wrap (l10i19 + (1 : Int))) (Nat.lt_succ_self _) h (fun w a hm hs => norm hm hs [] [0, 1] [(0, v0_0), (1, v1_0), (17, v1_0), (18, (Value.int .i64 (a1.length : Int))), (19, (Value.int .i64 (IntKind.i64.wrap (l10i19 + (1 : Int)))))] (by decide) ⟨rfl, rfl, rfl, rfl, rfl, trivial⟩)
          · clear hkk18
            refine aw_region ?_
            refine al_val (ov_move rfl rfl) ?_
            refine al_val (ov_int rfl rfl rfl rfl) ?_
            refine al_val (ov_move rfl rfl) ?_
            refine al_caseB 25 rfl (fun hb20 => ?_) (fun hb20 => ?_)
            · replace h := bif_t hb20 h
              refine al_skip ?_
              refine al_skip ?_
              refine al_skip ?_
              refine al_skip ?_
              refine al_val (ov_pick_t rfl rfl rfl) ?_
              refine al_nil ?_
              exact aq_join true h (fun w a hm hs => norm hm hs [] [1, 2, 0] [(0, v0_0), (1, v1_0), (17, v1_0), (18, (Value.int .i64 (a1.length : Int))), (19, (Value.int .i64 l10i19)), (30, (Value.bool true))] (by decide) ⟨rfl, rfl, rfl, rfl, rfl, rfl, trivial⟩)
            · replace h := bif_f hb20 h
              refine al_val (ov_move rfl rfl) ?_
              refine al_val (ov_move rfl rfl) ?_
              refine al_val (ov_lenD 1 rfl rfl Try.underlying25 rfl) ?_
              refine al_val (ov_int rfl rfl rfl rfl) ?_
              refine al_val (ov_pick_f rfl rfl rfl) ?_
              refine al_nil ?_
              exact aq_join (decide (u14 ≥ (a0.length : Int))) h (fun w a hm hs => norm hm hs [] [1, 2, 0] [(0, v0_0), (1, v1_0), (17, v1_0), (18, (Value.int .i64 (a1.length : Int))), (19, (Value.int .i64 l10i19)), (30, (Value.bool (decide (u14 ≥ (a0.length : Int)))))] (by decide) ⟨rfl, rfl, rfl, rfl, rfl, rfl, trivial⟩)
        · replace h := bif_f hb13 h
          refine aw_exit ?_
          refine aq_then_exit ?_
          refine aq_then_exit ?_
          refine aq_block_exit ?_
          exact aq_join () h (fun w a hm hs => norm hm hs [] [0, 1] [(0, v0_0), (1, v1_0)] (by decide) ⟨rfl, rfl, trivial⟩)
def f_lumref_pointErr_L6 (a0 : (List Int)) (a1 : Int) (kk3 : (Unit → Option Int)) : Nat → Int → Option Int
  | 0, _ => none
  | k5 + 1, l4i12 => (bif (decide (l4i12 < (a0.length : Int))) then (opt (at? a0 l4i12) fun (u8 : Int) => (lt (fun (j11b22 : Bool) => (bif j11b22 then (some (1 : Int)) else (f_lumref_pointErr_L6 a0 a1 kk3 k5 (IntKind.i64.wrap (l4i12 + (1 : Int)))))) fun (kk12 : Bool → Option Int) => (bif (decide (u8 < (0 : Int))) then (kk12 true) else (kk12 (decide (u8 ≥ a1)))))) else (kk3 ()))
def f_lumref_pointErr (fu : Nat) (a0 : (List Int)) (a1 : Int) : Option Int := (bif (decide ((a0.length : Int) > (64 : Int))) then (some (2 : Int)) else (lt (fun (_ : Unit) => (some (0 : Int))) fun (kk3 : Unit → Option Int) => (f_lumref_pointErr_L6 a0 a1 kk3 fu (0 : Int))))
set_option maxRecDepth 100000 in
theorem f_lumref_pointErr_ok (fu : Nat) (v0_0 : Value) (a0 : (List Int)) (a1 : Int) {r : Int} (h : f_lumref_pointErr fu a0 a1 = some r) : FnOk Try.prog 107 [v0_0, (Value.int .i64 a1)] [(fDat (tyList (tyInt .i64)) [v0_0] a0)] [] (fun (i : Unit) => { val := (Value.int .i64 r) }) := by
  unfold f_lumref_pointErr at h
  refine fn_enter Try.func107 rfl Try.ntmps107 rfl (fun w0 Z0 => ?_)
  refine aw_seq ?_
  refine aw_region ?_
  refine al_val (ov_assign rfl rfl) ?_
  refine al_nil ?_
  refine aq_then ?_
  refine aw_seq ?_
  refine aw_seq ?_
  refine aw_region ?_
  refine al_val (ov_move rfl rfl) ?_
  refine al_val (ov_lenD 0 rfl rfl Try.underlying24 rfl) ?_
  refine al_val (ov_int rfl rfl rfl rfl) ?_
  refine al_nil ?_
  refine aq_then ?_
  refine aw_cond rfl (fun hb1 => ?_) (fun hb1 => ?_)
  · replace h := bif_t hb1 h
    refine aw_seq ?_
    refine aw_region ?_
    refine al_val (ov_assign rfl rfl) ?_
    refine al_nil ?_
    refine aq_then ?_
    refine aw_ret ?_
    refine aq_then_ret ?_
    obtain rfl := Option.some.inj h
    exact fn_ret () [] [] rfl rfl rfl rfl (res1 rfl rfl) rfl rfl rfl (by decide)
  · replace h := bif_f hb1 h
    refine aw_skip ?_
    refine aq_then ?_
    obtain ⟨kk3, hkk3, h⟩ := lt_some h
    refine aw_seq_join (ι := Unit) (fun i => (memOf w0 Z0 [] [] [(fDat (tyList (tyInt .i64)) [v0_0] a0)])) (fun i => (tab [])) (fun i => kk3 () = some r) ?_ ?_
    · rintro _ h
      have h : kk3 () = some r := h
      rw [hkk3] at h
      dsimp only at h
      clear hkk3
      refine aw_show (m := (memOf w0 Z0 [] [] [(fDat (tyList (tyInt .i64)) [v0_0] a0)])) (S := (tab [])) ?_
      refine aw_seq ?_
      refine aw_region ?_
      refine al_val (ov_assign rfl rfl) ?_
      refine al_nil ?_
      refine aq_then ?_
      refine aw_ret ?_
      obtain rfl := Option.some.inj h
      exact fn_ret () [] [] rfl rfl rfl rfl (res1 rfl rfl) rfl rfl rfl (by decide)
    · clear hkk3
      refine aw_seq ?_
      refine aw_region ?_
      refine al_val (ov_move rfl rfl) ?_
      refine al_val (ov_lenD 0 rfl rfl Try.underlying24 rfl) ?_
      refine al_val (ov_move rfl rfl) ?_
      refine al_nil ?_
      refine aq_then ?_
      refine aw_block ?_
      refine aw_state (aw_loop (ι := Int) (fun i => (memOf w0 Z0 [] [] [(fDat (tyList (tyInt .i64)) [v0_0] a0)])) (fun i => (tab [(1, (Value.int .i64 a1)), (10, v0_0), (11, (Value.int .i64 (a0.length : Int))), (12, (Value.int .i64 i))])) (fun q i => f_lumref_pointErr_L6 a0 a1 kk3 q i = some r) ?_ fu (0 : Int) h) (fun w a hm hs => norm hm hs [] [0] [(1, (Value.int .i64 a1)), (10, v0_0), (11, (Value.int .i64 (a0.length : Int))), (12, (Value.int .i64 (0 : Int)))] (by decide) ⟨rfl, rfl, rfl, rfl, trivial⟩)
      clear h
      rintro k5 l4i12 h
      have h : f_lumref_pointErr_L6 a0 a1 kk3 k5 l4i12 = some r := h
      obtain _ | k5 := k5
      · rw [f_lumref_pointErr_L6] at h; cases h
      rw [f_lumref_pointErr_L6] at h
      refine aw_show (m := (memOf w0 Z0 [] [] [(fDat (tyList (tyInt .i64)) [v0_0] a0)])) (S := (tab [(1, (Value.int .i64 a1)), (10, v0_0), (11, (Value.int .i64 (a0.length : Int))), (12, (Value.int .i64 l4i12))])) ?_
      refine aw_seq ?_
      refine aw_region ?_
      refine al_val (ov_int rfl rfl rfl rfl) ?_
      refine al_nil ?_
      refine aq_then ?_
      refine aw_seq ?_
      refine aw_cond rfl (fun hb7 => ?_) (fun hb7 => ?_)
      · replace h := bif_t hb7 h
        refine aw_skip ?_
        refine aq_then ?_
        refine aw_seq ?_
        refine aw_block ?_
        refine aw_seq ?_
        refine aw_region ?_
        obtain ⟨u8, hu9, h⟩ := opt_some h
        refine al_idxD 0 hu9 rfl rfl rfl Try.underlying24 sz3 rfl (fun p10 => ?_)
        refine al_val (ov_loadP (ds := [(Value.int .i64 u8)]) 0 rfl (fun h => h) rfl Try.underlying3 sz3 rfl rfl rfl) ?_
        refine al_val (ov_assign rfl rfl) ?_
        refine al_nil ?_
        refine aq_then ?_
        obtain ⟨kk12, hkk12, h⟩ := lt_some h
        refine aw_seq_join (ι := Bool) (fun i => (memOf w0 Z0 [] [] [(fDat (tyList (tyInt .i64)) [v0_0] a0), (fPtr (tyInt .i64) p10 u8)])) (fun i => (tab [(1, (Value.int .i64 a1)), (10, v0_0), (11, (Value.int .i64 (a0.length : Int))), (12, (Value.int .i64 l4i12)), (22, (Value.bool i))])) (fun i => kk12 i = some r) ?_ ?_
        · rintro j11b22 h
          have h : kk12 j11b22 = some r := h
          rw [hkk12] at h
          dsimp only at h
          clear hkk12
          refine aw_show (m := (memOf w0 Z0 [] [] [(fDat (tyList (tyInt .i64)) [v0_0] a0), (fPtr (tyInt .i64) p10 u8)])) (S := (tab [(1, (Value.int .i64 a1)), (10, v0_0), (11, (Value.int .i64 (a0.length : Int))), (12, (Value.int .i64 l4i12)), (22, (Value.bool j11b22))])) ?_
          refine aw_cond rfl (fun hb13 => ?_) (fun hb13 => ?_)
          · replace h := bif_t hb13 h
            refine aw_seq ?_
            refine aw_region ?_
            refine al_val (ov_assign rfl rfl) ?_
            refine al_nil ?_
            refine aq_then ?_
            refine aw_ret ?_
            refine aq_block_ret ?_
            refine aq_then_ret ?_
            refine aq_then_ret ?_
            refine aq_block_ret ?_
            refine aq_then_ret ?_
            obtain rfl := Option.some.inj h
            exact fn_ret () [] [] rfl rfl rfl rfl (res1 rfl rfl) rfl rfl rfl (by decide)
          · replace h := bif_f hb13 h
            refine aw_skip ?_
            refine aq_block ?_
            refine aq_then ?_
            refine aw_region ?_
            refine al_val (ov_int rfl rfl rfl rfl) ?_
            refine al_val (ov_move rfl rfl) ?_
            refine al_nil ?_
            exact aq_again k5 (IntKind.i64.wrap (l4i12 + (1 : Int))) (Nat.lt_succ_self _) h (fun w a hm hs => norm hm hs [] [0] [(1, (Value.int .i64 a1)), (10, v0_0), (11, (Value.int .i64 (a0.length : Int))), (12, (Value.int .i64 (IntKind.i64.wrap (l4i12 + (1 : Int)))))] (by decide) ⟨rfl, rfl, rfl, rfl, trivial⟩)
        · clear hkk12
          refine aw_region ?_
          refine al_val (ov_move rfl rfl) ?_
          refine al_val (ov_int rfl rfl rfl rfl) ?_
          refine al_val (ov_move rfl rfl) ?_
          refine al_caseB 18 rfl (fun hb14 => ?_) (fun hb14 => ?_)
          · replace h := bif_t hb14 h
            refine al_skip ?_
            refine al_skip ?_
            refine al_skip ?_
            refine al_val (ov_pick_t rfl rfl rfl) ?_
            refine al_nil ?_
            exact aq_join true h (fun w a hm hs => norm hm hs [] [1, 0] [(1, (Value.int .i64 a1)), (10, v0_0), (11, (Value.int .i64 (a0.length : Int))), (12, (Value.int .i64 l4i12)), (22, (Value.bool true))] (by decide) ⟨rfl, rfl, rfl, rfl, rfl, trivial⟩)
          · replace h := bif_f hb14 h
            refine al_val (ov_move rfl rfl) ?_
            refine al_val (ov_move rfl rfl) ?_
            refine al_val (ov_int rfl rfl rfl rfl) ?_
            refine al_val (ov_pick_f rfl rfl rfl) ?_
            refine al_nil ?_
            exact aq_join (decide (u8 ≥ a1)) h (fun w a hm hs => norm hm hs [] [1, 0] [(1, (Value.int .i64 a1)), (10, v0_0), (11, (Value.int .i64 (a0.length : Int))), (12, (Value.int .i64 l4i12)), (22, (Value.bool (decide (u8 ≥ a1))))] (by decide) ⟨rfl, rfl, rfl, rfl, rfl, trivial⟩)
      · replace h := bif_f hb7 h
        refine aw_exit ?_
        refine aq_then_exit ?_
        refine aq_then_exit ?_
        refine aq_block_exit ?_
        exact aq_join () h (fun w a hm hs => norm hm hs [] [0] [] (by decide) trivial)
def f_lumref_Graph_L6 (a0 : (List (List Int))) (kk3 : (Unit → Option Int)) (fu : Nat) : Nat → Int → Option Int
  | 0, _ => none
  | k5 + 1, l4i11 => (bif (decide (l4i11 < (a0.length : Int))) then (opt (at? a0 l4i11) fun (u8 : (List Int)) => (opt (f_lumref_pointErr fu u8 (a0.length : Int)) fun (r13 : Int) => (bif (r13 != (0 : Int)) then (some r13) else (f_lumref_Graph_L6 a0 kk3 fu k5 (IntKind.i64.wrap (l4i11 + (1 : Int))))))) else (kk3 ()))
def f_lumref_Graph (fu : Nat) (a0 : (List (List Int))) : Option Int := (bif (decide ((a0.length : Int) > (200 : Int))) then (some (2 : Int)) else (lt (fun (_ : Unit) => (some (0 : Int))) fun (kk3 : Unit → Option Int) => (f_lumref_Graph_L6 a0 kk3 fu fu (0 : Int))))
set_option maxRecDepth 100000 in
theorem f_lumref_Graph_ok (fu : Nat) (v0_0 : Value) (a0 : (List (List Int))) {r : Int} (h : f_lumref_Graph fu a0 = some r) : FnOk Try.prog 73 [v0_0] [(fDat (tyList (tyList (tyInt .i64))) [v0_0] a0)] [] (fun (i : Unit) => { val := (Value.int .i64 r) }) := by
  unfold f_lumref_Graph at h
  refine fn_enter Try.func73 rfl Try.ntmps73 rfl (fun w0 Z0 => ?_)
  refine aw_seq ?_
  refine aw_region ?_
  refine al_val (ov_assign rfl rfl) ?_
  refine al_nil ?_
  refine aq_then ?_
  refine aw_seq ?_
  refine aw_seq ?_
  refine aw_region ?_
  refine al_val (ov_move rfl rfl) ?_
  refine al_val (ov_lenD 0 rfl rfl Try.underlying25 rfl) ?_
  refine al_val (ov_int rfl rfl rfl rfl) ?_
  refine al_nil ?_
  refine aq_then ?_
  refine aw_cond rfl (fun hb1 => ?_) (fun hb1 => ?_)
  · replace h := bif_t hb1 h
    refine aw_seq ?_
    refine aw_region ?_
    refine al_val (ov_assign rfl rfl) ?_
    refine al_nil ?_
    refine aq_then ?_
    refine aw_ret ?_
    refine aq_then_ret ?_
    obtain rfl := Option.some.inj h
    exact fn_ret () [] [] rfl rfl rfl rfl (res1 rfl rfl) rfl rfl rfl (by decide)
  · replace h := bif_f hb1 h
    refine aw_skip ?_
    refine aq_then ?_
    obtain ⟨kk3, hkk3, h⟩ := lt_some h
    refine aw_seq_join (ι := Unit) (fun i => (memOf w0 Z0 [] [] [(fDat (tyList (tyList (tyInt .i64))) [v0_0] a0)])) (fun i => (tab [])) (fun i => kk3 () = some r) ?_ ?_
    · rintro _ h
      have h : kk3 () = some r := h
      rw [hkk3] at h
      dsimp only at h
      clear hkk3
      refine aw_show (m := (memOf w0 Z0 [] [] [(fDat (tyList (tyList (tyInt .i64))) [v0_0] a0)])) (S := (tab [])) ?_
      refine aw_seq ?_
      refine aw_region ?_
      refine al_val (ov_assign rfl rfl) ?_
      refine al_nil ?_
      refine aq_then ?_
      refine aw_ret ?_
      obtain rfl := Option.some.inj h
      exact fn_ret () [] [] rfl rfl rfl rfl (res1 rfl rfl) rfl rfl rfl (by decide)
    · clear hkk3
      refine aw_seq ?_
      refine aw_region ?_
      refine al_val (ov_move rfl rfl) ?_
      refine al_val (ov_lenD 0 rfl rfl Try.underlying25 rfl) ?_
      refine al_val (ov_move rfl rfl) ?_
      refine al_nil ?_
      refine aq_then ?_
      refine aw_block ?_
      refine aw_state (aw_loop (ι := Int) (fun i => (memOf w0 Z0 [] [] [(fDat (tyList (tyList (tyInt .i64))) [v0_0] a0)])) (fun i => (tab [(0, v0_0), (9, v0_0), (10, (Value.int .i64 (a0.length : Int))), (11, (Value.int .i64 i))])) (fun q i => f_lumref_Graph_L6 a0 kk3 fu q i = some r) ?_ fu (0 : Int) h) (fun w a hm hs => norm hm hs [] [0] [(0, v0_0), (9, v0_0), (10, (Value.int .i64 (a0.length : Int))), (11, (Value.int .i64 (0 : Int)))] (by decide) ⟨rfl, rfl, rfl, rfl, trivial⟩)
      clear h
      rintro k5 l4i11 h
      have h : f_lumref_Graph_L6 a0 kk3 fu k5 l4i11 = some r := h
      obtain _ | k5 := k5
      · rw [f_lumref_Graph_L6] at h; cases h
      rw [f_lumref_Graph_L6] at h
      refine aw_show (m := (memOf w0 Z0 [] [] [(fDat (tyList (tyList (tyInt .i64))) [v0_0] a0)])) (S := (tab [(0, v0_0), (9, v0_0), (10, (Value.int .i64 (a0.length : Int))), (11, (Value.int .i64 l4i11))])) ?_
      refine aw_seq ?_
      refine aw_region ?_
      refine al_val (ov_int rfl rfl rfl rfl) ?_
      refine al_nil ?_
      refine aq_then ?_
      refine aw_seq ?_
      refine aw_cond rfl (fun hb7 => ?_) (fun hb7 => ?_)
      · replace h := bif_t hb7 h
        refine aw_skip ?_
        refine aq_then ?_
        refine aw_seq ?_
        refine aw_block ?_
        refine aw_seq ?_
        refine aw_region ?_
        obtain ⟨u8, hu9, h⟩ := opt_some h
        refine al_idxD 0 hu9 rfl rfl rfl Try.underlying25 sz24 rfl (fun p10 => ?_)
        refine al_loadP1 0 rfl rfl Try.underlying24 sz24 rfl rfl rfl (fun s11 => ?_)
        refine al_val (ov_assign rfl rfl) ?_
        refine al_nil ?_
        refine aq_then ?_
        refine aw_seq ?_
        refine aw_region ?_
        refine al_val (ov_move rfl rfl) ?_
        refine al_val (ov_move rfl rfl) ?_
        refine al_val (ov_lenD 2 rfl rfl Try.underlying25 rfl) ?_
        obtain ⟨r13, hc12, h⟩ := opt_some h
        refine al_call (vs := [s11, (Value.int .i64 (a0.length : Int))]) (f_lumref_pointErr_ok fu s11 u8 (a0.length : Int) hc12) [] [] [] (pre_fz 0 rfl pre_nil) rfl (by simp) (by decide) (.inl rfl) rfl Try.func107 rfl rfl rfl (fun _ => ?_)
        refine al_val (ov_assign rfl rfl) ?_
        refine al_nil ?_
        refine aq_then ?_
        refine aw_seq ?_
        refine aw_region ?_
        refine al_val (ov_move rfl rfl) ?_
        refine al_val (ov_int rfl rfl rfl rfl) ?_
        refine al_nil ?_
        refine aq_then ?_
        refine aw_cond rfl (fun hb14 => ?_) (fun hb14 => ?_)
        · replace h := bif_t hb14 h
          refine aw_seq ?_
          refine aw_region ?_
          refine al_val (ov_move rfl rfl) ?_
          refine al_val (ov_assign rfl rfl) ?_
          refine al_nil ?_
          refine aq_then ?_
          refine aw_ret ?_
          refine aq_block_ret ?_
          refine aq_then_ret ?_
          refine aq_then_ret ?_
          refine aq_block_ret ?_
          refine aq_then_ret ?_
          obtain rfl := Option.some.inj h
          exact fn_ret () [] [] rfl rfl rfl rfl (res1 rfl rfl) rfl rfl rfl (by decide)
        · replace h := bif_f hb14 h
          refine aw_skip ?_
          refine aq_block ?_
          refine aq_then ?_
          refine aw_region ?_
          refine al_val (ov_int rfl rfl rfl rfl) ?_
          refine al_val (ov_move rfl rfl) ?_
          refine al_nil ?_
          exact aq_again k5 (IntKind.i64.wrap (l4i11 + (1 : Int))) (Nat.lt_succ_self _) h (fun w a hm hs => norm hm hs [] [2] [(0, v0_0), (9, v0_0), (10, (Value.int .i64 (a0.length : Int))), (11, (Value.int .i64 (IntKind.i64.wrap (l4i11 + (1 : Int)))))] (by decide) ⟨rfl, rfl, rfl, rfl, trivial⟩)
      · replace h := bif_f hb7 h
        refine aw_exit ?_
        refine aq_then_exit ?_
        refine aq_then_exit ?_
        refine aq_block_exit ?_
        exact aq_join () h (fun w a hm hs => norm hm hs [] [0] [] (by decide) trivial)
def f_lumref_reached_L27 (l14i31 : Int) (kk20 : ((List Bool) → Option (List Bool))) (u21 : (List Int)) : Nat → (List Bool) → Int → Option (List Bool)
  | 0, _, _ => none
  | k26 + 1, l25x5, l25i38 => (bif (decide (l25i38 < (u21.length : Int))) then (lt (fun (j29x5 : (List Bool)) => (f_lumref_reached_L27 l14i31 kk20 u21 k26 j29x5 (IntKind.i64.wrap (l25i38 + (1 : Int))))) fun (kk30 : (List Bool) → Option (List Bool)) => (opt (at? u21 l25i38) fun (u31 : Int) => (opt (at? l25x5 l14i31) fun (u34 : Bool) => (bif u34 then (opt (at? l25x5 u31) fun (u39 : Bool) => (kk30 (l25x5.set (u31).toNat true))) else (kk30 l25x5))))) else (kk20 l25x5))
def f_lumref_reached_L16 (a0 : (List (List Int))) (kk13 : ((List Bool) → Option (List Bool))) (fu : Nat) : Nat → (List Bool) → Int → Option (List Bool)
  | 0, _, _ => none
  | k15 + 1, l14x5, l14i31 => (lt (fun (l14x5 : (List Bool)) (l14i31 : Int) => (f_lumref_reached_L16 a0 kk13 fu k15 l14x5 l14i31)) fun (kk17 : (List Bool) → Int → Option (List Bool)) => (bif (decide (l14i31 < (a0.length : Int))) then (lt (fun (j19x5 : (List Bool)) => (kk17 j19x5 (IntKind.i64.wrap (l14i31 + (1 : Int))))) fun (kk20 : (List Bool) → Option (List Bool)) => (opt (at? a0 l14i31) fun (u21 : (List Int)) => (f_lumref_reached_L27 l14i31 kk20 u21 fu l14x5 (0 : Int)))) else (kk13 l14x5)))
def f_lumref_reached_L9 (a0 : (List (List Int))) (kk6 : ((List Bool) → Option (List Bool))) (fu : Nat) : Nat → (List Bool) → Int → Option (List Bool)
  | 0, _, _ => none
  | k8 + 1, l7x5, l7i27 => (lt (fun (l7x5 : (List Bool)) (l7i27 : Int) => (f_lumref_reached_L9 a0 kk6 fu k8 l7x5 l7i27)) fun (kk10 : (List Bool) → Int → Option (List Bool)) => (bif (decide (l7i27 < (a0.length : Int))) then (lt (fun (j12x5 : (List Bool)) => (kk10 j12x5 (IntKind.i64.wrap (l7i27 + (1 : Int))))) fun (kk13 : (List Bool) → Option (List Bool)) => (f_lumref_reached_L16 a0 kk13 fu fu l7x5 (0 : Int))) else (kk6 l7x5)))
def f_lumref_reached_L45 (a1 : (List Int)) (kk4 : ((List Bool) → Option (List Bool))) : Nat → (List Bool) → Int → Option (List Bool)
  | 0, _, _ => none
  | k44 + 1, l43x5, l43i17 => (bif (decide (l43i17 < (a1.length : Int))) then (opt (at? a1 l43i17) fun (u47 : Int) => (opt (at? l43x5 u47) fun (u50 : Bool) => (f_lumref_reached_L45 a1 kk4 k44 (l43x5.set (u47).toNat true) (IntKind.i64.wrap (l43i17 + (1 : Int)))))) else (kk4 l43x5))
def f_lumref_reached (fu : Nat) (a0 : (List (List Int))) (a1 : (List Int)) : Option (List Bool) := (req (0 ≤ (a0.length : Int) ∧ 1 * (a0.length : Int) ≤ 281474976710656 ∧ (a0.length : Int) ≤ 9223372036854775807) (lt (fun (j3x5 : (List Bool)) => (lt (fun (j5x5 : (List Bool)) => (some j5x5)) fun (kk6 : (List Bool) → Option (List Bool)) => (f_lumref_reached_L9 a0 kk6 fu fu j3x5 (0 : Int)))) fun (kk4 : (List Bool) → Option (List Bool)) => (f_lumref_reached_L45 a1 kk4 fu (List.replicate ((a0.length : Int)).toNat false) (0 : Int))))
set_option maxRecDepth 100000 in
theorem f_lumref_reached_ok (fu : Nat) (v0_0 : Value) (a0 : (List (List Int))) (v1_0 : Value) (a1 : (List Int)) {r : (List Bool)} (h : f_lumref_reached fu a0 a1 = some r) : FnOk Try.prog 108 [v0_0, v1_0] [(fDat (tyList (tyList (tyInt .i64))) [v0_0] a0), (fDat (tyList (tyInt .i64)) [v1_0] a1)] [] (fun (i : Value) => { val := i, own := [(oRow i 4 tyBool r)] }) := by
  unfold f_lumref_reached at h
  refine fn_enter Try.func108 rfl Try.ntmps108 rfl (fun w0 Z0 => ?_)
  refine aw_seq ?_
  refine aw_region ?_
  refine al_val (ov_assign rfl rfl) ?_
  refine al_nil ?_
  refine aq_then ?_
  refine aw_seq ?_
  refine aw_region ?_
  refine al_val (ov_move rfl rfl) ?_
  refine al_val (ov_lenD 0 rfl rfl Try.underlying25 rfl) ?_
  obtain ⟨hc1, h⟩ := req_some h
  refine al_make (τ := tyBool) (x0 := false) hc1.1 hc1.2.1 hc1.2.2 rfl rfl Try.underlying110 to4 (fun _ _ => rfl) rfl rfl (fun v2 => ?_)
  refine al_val (ov_assign rfl rfl) ?_
  refine al_nil ?_
  refine aq_then ?_
  obtain ⟨kk4, hkk4, h⟩ := lt_some h
  refine aw_seq_join (ι := (List Bool)) (fun i => (memOf w0 Z0 [] [(oRow v2 4 tyBool i)] [(fDat (tyList (tyList (tyInt .i64))) [v0_0] a0), (fDat (tyList (tyInt .i64)) [v1_0] a1)])) (fun i => (tab [(0, v0_0), (5, v2)])) (fun i => kk4 i = some r) ?_ ?_
  · rintro j3x5 h
    have h : kk4 j3x5 = some r := h
    rw [hkk4] at h
    dsimp only at h
    clear hkk4
    refine aw_show (m := (memOf w0 Z0 [] [(oRow v2 4 tyBool j3x5)] [(fDat (tyList (tyList (tyInt .i64))) [v0_0] a0), (fDat (tyList (tyInt .i64)) [v1_0] a1)])) (S := (tab [(0, v0_0), (5, v2)])) ?_
    obtain ⟨kk6, hkk6, h⟩ := lt_some h
    refine aw_seq_join (ι := (List Bool)) (fun i => (memOf w0 Z0 [] [(oRow v2 4 tyBool i)] [(fDat (tyList (tyList (tyInt .i64))) [v0_0] a0), (fDat (tyList (tyInt .i64)) [v1_0] a1)])) (fun i => (tab [(5, v2)])) (fun i => kk6 i = some r) ?_ ?_
    · rintro j5x5 h
      have h : kk6 j5x5 = some r := h
      rw [hkk6] at h
      dsimp only at h
      clear hkk6
      refine aw_show (m := (memOf w0 Z0 [] [(oRow v2 4 tyBool j5x5)] [(fDat (tyList (tyList (tyInt .i64))) [v0_0] a0), (fDat (tyList (tyInt .i64)) [v1_0] a1)])) (S := (tab [(5, v2)])) ?_
      refine aw_seq ?_
      refine aw_region ?_
      refine al_val (ov_move rfl rfl) ?_
      refine al_val (ov_assign rfl rfl) ?_
      refine al_nil ?_
      refine aq_then ?_
      refine aw_ret ?_
      obtain rfl := Option.some.inj h
      exact fn_ret v2 [0] [] rfl rfl rfl rfl (res1 rfl rfl) rfl rfl rfl (by decide)
    · clear hkk6
      refine aw_seq ?_
      refine aw_region ?_
      refine al_val (ov_move rfl rfl) ?_
      refine al_val (ov_lenD 0 rfl rfl Try.underlying25 rfl) ?_
      refine al_val (ov_move rfl rfl) ?_
      refine al_nil ?_
      refine aq_then ?_
      refine aw_block ?_
      refine aw_state (aw_loop (ι := (List Bool) × Int) (fun i => (memOf w0 Z0 [] [(oRow v2 4 tyBool i.1)] [(fDat (tyList (tyList (tyInt .i64))) [v0_0] a0), (fDat (tyList (tyInt .i64)) [v1_0] a1)])) (fun i => (tab [(0, v0_0), (5, v2), (26, (Value.int .i64 (a0.length : Int))), (27, (Value.int .i64 i.2))])) (fun q i => f_lumref_reached_L9 a0 kk6 fu q i.1 i.2 = some r) ?_ fu (j3x5, (0 : Int)) h) (fun w a hm hs => norm hm hs [0] [0, 1] [(0, v0_0), (5, v2), (26, (Value.int .i64 (a0.length : Int))), (27, (Value.int .i64 (0 : Int)))] (by decide) ⟨rfl, rfl, rfl, rfl, trivial⟩)
      clear h
      rintro k8 ⟨l7x5, l7i27⟩ h
      have h : f_lumref_reached_L9 a0 kk6 fu k8 l7x5 l7i27 = some r := h
      obtain _ | k8 := k8
      · rw [f_lumref_reached_L9] at h; cases h
      rw [f_lumref_reached_L9] at h
      refine aw_show (m := (memOf w0 Z0 [] [(oRow v2 4 tyBool l7x5)] [(fDat (tyList (tyList (tyInt .i64))) [v0_0] a0), (fDat (tyList (tyInt .i64)) [v1_0] a1)])) (S := (tab [(0, v0_0), (5, v2), (26, (Value.int .i64 (a0.length : Int))), (27, (Value.int .i64 l7i27))])) ?_
      obtain ⟨kk10, hkk10, h⟩ := lt_some h
      refine aw_body_join (ι := (List Bool) × Int) (fun i => (memOf w0 Z0 [] [(oRow v2 4 tyBool i.1)] [(fDat (tyList (tyList (tyInt .i64))) [v0_0] a0), (fDat (tyList (tyInt .i64)) [v1_0] a1)])) (fun i => (tab [(0, v0_0), (5, v2), (26, (Value.int .i64 (a0.length : Int))), (27, (Value.int .i64 i.2))])) (fun i => kk10 i.1 i.2 = some r) (fun i h => aq_again k8 i (Nat.lt_succ_self _) (by rw [hkk10] at h; exact h) (fun w a hm hs => ⟨hm, hs⟩)) ?_
      clear hkk10
      refine aw_seq ?_
      refine aw_region ?_
      refine al_val (ov_int rfl rfl rfl rfl) ?_
      refine al_nil ?_
      refine aq_then ?_
      refine aw_seq ?_
      refine aw_cond rfl (fun hb11 => ?_) (fun hb11 => ?_)
      · replace h := bif_t hb11 h
        refine aw_skip ?_
        refine aq_then ?_
        obtain ⟨kk13, hkk13, h⟩ := lt_some h
        refine aw_seq_join (ι := (List Bool)) (fun i => (memOf w0 Z0 [] [(oRow v2 4 tyBool i)] [(fDat (tyList (tyList (tyInt .i64))) [v0_0] a0), (fDat (tyList (tyInt .i64)) [v1_0] a1)])) (fun i => (tab [(0, v0_0), (5, v2), (26, (Value.int .i64 (a0.length : Int))), (27, (Value.int .i64 l7i27))])) (fun i => kk13 i = some r) ?_ ?_
        · rintro j12x5 h
          have h : kk13 j12x5 = some r := h
          rw [hkk13] at h
          dsimp only at h
          clear hkk13
          refine aw_show (m := (memOf w0 Z0 [] [(oRow v2 4 tyBool j12x5)] [(fDat (tyList (tyList (tyInt .i64))) [v0_0] a0), (fDat (tyList (tyInt .i64)) [v1_0] a1)])) (S := (tab [(0, v0_0), (5, v2), (26, (Value.int .i64 (a0.length : Int))), (27, (Value.int .i64 l7i27))])) ?_
          refine aw_region ?_
          refine al_val (ov_int rfl rfl rfl rfl) ?_
          refine al_val (ov_move rfl rfl) ?_
          refine al_nil ?_
          exact aq_join (j12x5, (IntKind.i64.wrap (l7i27 + (1 : Int)))) h (fun w a hm hs => norm hm hs [0] [0, 1] [(0, v0_0), (5, v2), (26, (Value.int .i64 (a0.length : Int))), (27, (Value.int .i64 (IntKind.i64.wrap (l7i27 + (1 : Int)))))] (by decide) ⟨rfl, rfl, rfl, rfl, trivial⟩)
        · clear hkk13
          refine aw_block ?_
          refine aw_seq ?_
          refine aw_region ?_
          refine al_val (ov_move rfl rfl) ?_
          refine al_val (ov_lenD 0 rfl rfl Try.underlying25 rfl) ?_
          refine al_val (ov_move rfl rfl) ?_
          refine al_nil ?_
          refine aq_then ?_
          refine aw_block ?_
          refine aw_state (aw_loop (ι := (List Bool) × Int) (fun i => (memOf w0 Z0 [] [(oRow v2 4 tyBool i.1)] [(fDat (tyList (tyList (tyInt .i64))) [v0_0] a0), (fDat (tyList (tyInt .i64)) [v1_0] a1)])) (fun i => (tab [(0, v0_0), (5, v2), (26, (Value.int .i64 (a0.length : Int))), (27, (Value.int .i64 l7i27)), (29, v0_0), (30, (Value.int .i64 (a0.length : Int))), (31, (Value.int .i64 i.2))])) (fun q i => f_lumref_reached_L16 a0 kk13 fu q i.1 i.2 = some r) ?_ fu (l7x5, (0 : Int)) h) (fun w a hm hs => norm hm hs [0] [0, 1] [(0, v0_0), (5, v2), (26, (Value.int .i64 (a0.length : Int))), (27, (Value.int .i64 l7i27)), (29, v0_0), (30, (Value.int .i64 (a0.length : Int))), (31, (Value.int .i64 (0 : Int)))] (by decide) ⟨rfl, rfl, rfl, rfl, rfl, rfl, rfl, trivial⟩)
          clear h
          rintro k15 ⟨l14x5, l14i31⟩ h
          have h : f_lumref_reached_L16 a0 kk13 fu k15 l14x5 l14i31 = some r := h
          obtain _ | k15 := k15
          · rw [f_lumref_reached_L16] at h; cases h
          rw [f_lumref_reached_L16] at h
          refine aw_show (m := (memOf w0 Z0 [] [(oRow v2 4 tyBool l14x5)] [(fDat (tyList (tyList (tyInt .i64))) [v0_0] a0), (fDat (tyList (tyInt .i64)) [v1_0] a1)])) (S := (tab [(0, v0_0), (5, v2), (26, (Value.int .i64 (a0.length : Int))), (27, (Value.int .i64 l7i27)), (29, v0_0), (30, (Value.int .i64 (a0.length : Int))), (31, (Value.int .i64 l14i31))])) ?_
          obtain ⟨kk17, hkk17, h⟩ := lt_some h
          refine aw_body_join (ι := (List Bool) × Int) (fun i => (memOf w0 Z0 [] [(oRow v2 4 tyBool i.1)] [(fDat (tyList (tyList (tyInt .i64))) [v0_0] a0), (fDat (tyList (tyInt .i64)) [v1_0] a1)])) (fun i => (tab [(0, v0_0), (5, v2), (26, (Value.int .i64 (a0.length : Int))), (27, (Value.int .i64 l7i27)), (29, v0_0), (30, (Value.int .i64 (a0.length : Int))), (31, (Value.int .i64 i.2))])) (fun i => kk17 i.1 i.2 = some r) (fun i h => aq_again k15 i (Nat.lt_succ_self _) (by rw [hkk17] at h; exact h) (fun w a hm hs => ⟨hm, hs⟩)) ?_
          clear hkk17
          refine aw_seq ?_
          refine aw_region ?_
          refine al_val (ov_int rfl rfl rfl rfl) ?_
          refine al_nil ?_
          refine aq_then ?_
          refine aw_seq ?_
          refine aw_cond rfl (fun hb18 => ?_) (fun hb18 => ?_)
          · replace h := bif_t hb18 h
            refine aw_skip ?_
            refine aq_then ?_
            obtain ⟨kk20, hkk20, h⟩ := lt_some h
            refine aw_seq_join (ι := (List Bool)) (fun i => (memOf w0 Z0 [] [(oRow v2 4 tyBool i)] [(fDat (tyList (tyList (tyInt .i64))) [v0_0] a0), (fDat (tyList (tyInt .i64)) [v1_0] a1)])) (fun i => (tab [(0, v0_0), (5, v2), (26, (Value.int .i64 (a0.length : Int))), (27, (Value.int .i64 l7i27)), (29, v0_0), (30, (Value.int .i64 (a0.length : Int))), (31, (Value.int .i64 l14i31))])) (fun i => kk20 i = some r) ?_ ?_
            · rintro j19x5 h
              have h : kk20 j19x5 = some r := h
              rw [hkk20] at h
              dsimp only at h
              clear hkk20
              refine aw_show (m := (memOf w0 Z0 [] [(oRow v2 4 tyBool j19x5)] [(fDat (tyList (tyList (tyInt .i64))) [v0_0] a0), (fDat (tyList (tyInt .i64)) [v1_0] a1)])) (S := (tab [(0, v0_0), (5, v2), (26, (Value.int .i64 (a0.length : Int))), (27, (Value.int .i64 l7i27)), (29, v0_0), (30, (Value.int .i64 (a0.length : Int))), (31, (Value.int .i64 l14i31))])) ?_
              refine aw_region ?_
              refine al_val (ov_int rfl rfl rfl rfl) ?_
              refine al_val (ov_move rfl rfl) ?_
              refine al_nil ?_
              exact aq_join (j19x5, (IntKind.i64.wrap (l14i31 + (1 : Int)))) h (fun w a hm hs => norm hm hs [0] [0, 1] [(0, v0_0), (5, v2), (26, (Value.int .i64 (a0.length : Int))), (27, (Value.int .i64 l7i27)), (29, v0_0), (30, (Value.int .i64 (a0.length : Int))), (31, (Value.int .i64 (IntKind.i64.wrap (l14i31 + (1 : Int)))))] (by decide) ⟨rfl, rfl, rfl, rfl, rfl, rfl, rfl, trivial⟩)
            · clear hkk20
              refine aw_block ?_
              refine aw_seq ?_
              refine aw_region ?_
              refine al_val (ov_move rfl rfl) ?_
              obtain ⟨u21, hu22, h⟩ := opt_some h
              refine al_idxD 0 hu22 rfl rfl rfl Try.underlying25 sz24 rfl (fun p23 => ?_)
              refine al_loadP1 0 rfl rfl Try.underlying24 sz24 rfl rfl rfl (fun s24 => ?_)
              refine al_val (ov_assign rfl rfl) ?_
              refine al_val (ov_assign rfl rfl) ?_
              refine al_nil ?_
              refine aq_then ?_
              refine aw_seq ?_
              refine aw_region ?_
              refine al_val (ov_move rfl rfl) ?_
              refine al_val (ov_lenD 0 rfl rfl Try.underlying24 rfl) ?_
              refine al_val (ov_move rfl rfl) ?_
              refine al_nil ?_
              refine aq_then ?_
              refine aw_block ?_
              refine aw_state (aw_loop (ι := (List Bool) × Int) (fun i => (memOf w0 Z0 [] [(oRow v2 4 tyBool i.1)] [(fDat (tyList (tyList (tyInt .i64))) [v0_0] a0), (fDat (tyList (tyInt .i64)) [s24] u21), (fPtr (tyList (tyInt .i64)) p23 u21), (fDat (tyList (tyInt .i64)) [v1_0] a1)])) (fun i => (tab [(0, v0_0), (5, v2), (8, (Value.int .i64 l14i31)), (26, (Value.int .i64 (a0.length : Int))), (27, (Value.int .i64 l7i27)), (29, v0_0), (30, (Value.int .i64 (a0.length : Int))), (31, (Value.int .i64 l14i31)), (36, s24), (37, (Value.int .i64 (u21.length : Int))), (38, (Value.int .i64 i.2))])) (fun q i => f_lumref_reached_L27 l14i31 kk20 u21 q i.1 i.2 = some r) ?_ fu (l14x5, (0 : Int)) h) (fun w a hm hs => norm hm hs [0] [2, 0, 1, 3] [(0, v0_0), (5, v2), (8, (Value.int .i64 l14i31)), (26, (Value.int .i64 (a0.length : Int))), (27, (Value.int .i64 l7i27)), (29, v0_0), (30, (Value.int .i64 (a0.length : Int))), (31, (Value.int .i64 l14i31)), (36, s24), (37, (Value.int .i64 (u21.length : Int))), (38, (Value.int .i64 (0 : Int)))] (by decide) ⟨rfl, rfl, rfl, rfl, rfl, rfl, rfl, rfl, rfl, rfl, rfl, trivial⟩)
              clear h
              rintro k26 ⟨l25x5, l25i38⟩ h
              have h : f_lumref_reached_L27 l14i31 kk20 u21 k26 l25x5 l25i38 = some r := h
              obtain _ | k26 := k26
              · rw [f_lumref_reached_L27] at h; cases h
              rw [f_lumref_reached_L27] at h
              refine aw_show (m := (memOf w0 Z0 [] [(oRow v2 4 tyBool l25x5)] [(fDat (tyList (tyList (tyInt .i64))) [v0_0] a0), (fDat (tyList (tyInt .i64)) [s24] u21), (fPtr (tyList (tyInt .i64)) p23 u21), (fDat (tyList (tyInt .i64)) [v1_0] a1)])) (S := (tab [(0, v0_0), (5, v2), (8, (Value.int .i64 l14i31)), (26, (Value.int .i64 (a0.length : Int))), (27, (Value.int .i64 l7i27)), (29, v0_0), (30, (Value.int .i64 (a0.length : Int))), (31, (Value.int .i64 l14i31)), (36, s24), (37, (Value.int .i64 (u21.length : Int))), (38, (Value.int .i64 l25i38))])) ?_
              refine aw_seq ?_
              refine aw_region ?_
              refine al_val (ov_int rfl rfl rfl rfl) ?_
              refine al_nil ?_
              refine aq_then ?_
              refine aw_seq ?_
              refine aw_cond rfl (fun hb28 => ?_) (fun hb28 => ?_)
              · replace h := bif_t hb28 h
                refine aw_skip ?_
                refine aq_then ?_
                obtain ⟨kk30, hkk30, h⟩ := lt_some h
                refine aw_seq_join (ι := (List Bool)) (fun i => (memOf w0 Z0 [] [(oRow v2 4 tyBool i)] [(fDat (tyList (tyList (tyInt .i64))) [v0_0] a0), (fDat (tyList (tyInt .i64)) [s24] u21), (fPtr (tyList (tyInt .i64)) p23 u21), (fDat (tyList (tyInt .i64)) [v1_0] a1)])) (fun i => (tab [(0, v0_0), (5, v2), (8, (Value.int .i64 l14i31)), (26, (Value.int .i64 (a0.length : Int))), (27, (Value.int .i64 l7i27)), (29, v0_0), (30, (Value.int .i64 (a0.length : Int))), (31, (Value.int .i64 l14i31)), (36, s24), (37, (Value.int .i64 (u21.length : Int))), (38, (Value.int .i64 l25i38))])) (fun i => kk30 i = some r) ?_ ?_
                · rintro j29x5 h
                  have h : kk30 j29x5 = some r := h
                  rw [hkk30] at h
                  dsimp only at h
                  clear hkk30
                  refine aw_show (m := (memOf w0 Z0 [] [(oRow v2 4 tyBool j29x5)] [(fDat (tyList (tyList (tyInt .i64))) [v0_0] a0), (fDat (tyList (tyInt .i64)) [s24] u21), (fPtr (tyList (tyInt .i64)) p23 u21), (fDat (tyList (tyInt .i64)) [v1_0] a1)])) (S := (tab [(0, v0_0), (5, v2), (8, (Value.int .i64 l14i31)), (26, (Value.int .i64 (a0.length : Int))), (27, (Value.int .i64 l7i27)), (29, v0_0), (30, (Value.int .i64 (a0.length : Int))), (31, (Value.int .i64 l14i31)), (36, s24), (37, (Value.int .i64 (u21.length : Int))), (38, (Value.int .i64 l25i38))])) ?_
                  refine aw_region ?_
                  refine al_val (ov_int rfl rfl rfl rfl) ?_
                  refine al_val (ov_move rfl rfl) ?_
                  refine al_nil ?_
                  exact aq_again k26 (j29x5, (IntKind.i64.wrap (l25i38 + (1 : Int)))) (Nat.lt_succ_self _) h (fun w a hm hs => norm hm hs [0] [0, 1, 2, 3] [(0, v0_0), (5, v2), (8, (Value.int .i64 l14i31)), (26, (Value.int .i64 (a0.length : Int))), (27, (Value.int .i64 l7i27)), (29, v0_0), (30, (Value.int .i64 (a0.length : Int))), (31, (Value.int .i64 l14i31)), (36, s24), (37, (Value.int .i64 (u21.length : Int))), (38, (Value.int .i64 (IntKind.i64.wrap (l25i38 + (1 : Int)))))] (by decide) ⟨rfl, rfl, rfl, rfl, rfl, rfl, rfl, rfl, rfl, rfl, rfl, trivial⟩)
                · clear hkk30
                  refine aw_block ?_
                  refine aw_seq ?_
                  refine aw_region ?_
                  obtain ⟨u31, hu32, h⟩ := opt_some h
                  refine al_idxD 1 hu32 rfl rfl rfl Try.underlying24 sz3 rfl (fun p33 => ?_)
                  refine al_val (ov_loadP (ds := [(Value.int .i64 u31)]) 0 rfl (fun h => h) rfl Try.underlying3 sz3 rfl rfl rfl) ?_
                  refine al_val (ov_assign rfl rfl) ?_
                  refine al_nil ?_
                  refine aq_then ?_
                  refine aw_seq ?_
                  refine aw_region ?_
                  refine al_val (ov_move rfl rfl) ?_
                  refine al_val (ov_move rfl rfl) ?_
                  obtain ⟨u34, hu35, h⟩ := opt_some h
                  refine al_idxR 0 (at_some hu35).1 (at_some hu35).2.1 rfl rfl rfl Try.underlying110 sz4 rfl (fun p36 hp37 => ?_)
                  refine al_val (ov_loadR (ds := [(Value.bool u34)]) 0 rfl hp37 (at_some hu35).2.2 (fun h => h) rfl Try.underlying4 sz4 rfl rfl rfl) ?_
                  refine al_nil ?_
                  refine aq_then ?_
                  refine aw_cond rfl (fun hb38 => ?_) (fun hb38 => ?_)
                  · replace h := bif_t hb38 h
                    refine aw_region ?_
                    refine al_val (ov_move rfl rfl) ?_
                    refine al_val (ov_move rfl rfl) ?_
                    obtain ⟨u39, hu40, h⟩ := opt_some h
                    refine al_idxR 0 (at_some hu40).1 (at_some hu40).2.1 rfl rfl rfl Try.underlying110 sz4 rfl (fun p41 hp42 => ?_)
                    refine al_storeR (k := (u31).toNat) (x := true) (vs := [(Value.bool true)]) 0 rfl hp42 (idx_lt hu40) rfl rfl rfl (fun _ => rfl) sz4 rfl ?_
                    refine al_nil ?_
                    refine aq_block ?_
                    exact aq_join (l25x5.set (u31).toNat true) h (fun w a hm hs => norm hm hs [0] [1, 2, 3, 4] [(0, v0_0), (5, v2), (8, (Value.int .i64 l14i31)), (26, (Value.int .i64 (a0.length : Int))), (27, (Value.int .i64 l7i27)), (29, v0_0), (30, (Value.int .i64 (a0.length : Int))), (31, (Value.int .i64 l14i31)), (36, s24), (37, (Value.int .i64 (u21.length : Int))), (38, (Value.int .i64 l25i38))] (by decide) ⟨rfl, rfl, rfl, rfl, rfl, rfl, rfl, rfl, rfl, rfl, rfl, trivial⟩)
                  · replace h := bif_f hb38 h
                    refine aw_skip ?_
                    refine aq_block ?_
                    exact aq_join l25x5 h (fun w a hm hs => norm hm hs [0] [1, 2, 3, 4] [(0, v0_0), (5, v2), (8, (Value.int .i64 l14i31)), (26, (Value.int .i64 (a0.length : Int))), (27, (Value.int .i64 l7i27)), (29, v0_0), (30, (Value.int .i64 (a0.length : Int))), (31, (Value.int .i64 l14i31)), (36, s24), (37, (Value.int .i64 (u21.length : Int))), (38, (Value.int .i64 l25i38))] (by decide) ⟨rfl, rfl, rfl, rfl, rfl, rfl, rfl, rfl, rfl, rfl, rfl, trivial⟩)
              · replace h := bif_f hb28 h
                refine aw_exit ?_
                refine aq_then_exit ?_
                refine aq_then_exit ?_
                refine aq_block_exit ?_
                refine aq_block ?_
                exact aq_join l25x5 h (fun w a hm hs => norm hm hs [0] [0, 3] [(0, v0_0), (5, v2), (26, (Value.int .i64 (a0.length : Int))), (27, (Value.int .i64 l7i27)), (29, v0_0), (30, (Value.int .i64 (a0.length : Int))), (31, (Value.int .i64 l14i31))] (by decide) ⟨rfl, rfl, rfl, rfl, rfl, rfl, rfl, trivial⟩)
          · replace h := bif_f hb18 h
            refine aw_exit ?_
            refine aq_then_exit ?_
            refine aq_then_exit ?_
            refine aq_block_exit ?_
            refine aq_block ?_
            exact aq_join l14x5 h (fun w a hm hs => norm hm hs [0] [0, 1] [(0, v0_0), (5, v2), (26, (Value.int .i64 (a0.length : Int))), (27, (Value.int .i64 l7i27))] (by decide) ⟨rfl, rfl, rfl, rfl, trivial⟩)
      · replace h := bif_f hb11 h
        refine aw_exit ?_
        refine aq_then_exit ?_
        refine aq_then_exit ?_
        refine aq_block_exit ?_
        exact aq_join l7x5 h (fun w a hm hs => norm hm hs [0] [0, 1] [(5, v2)] (by decide) ⟨rfl, trivial⟩)
  · clear hkk4
    refine aw_seq ?_
    refine aw_region ?_
    refine al_val (ov_move rfl rfl) ?_
    refine al_val (ov_lenD 1 rfl rfl Try.underlying24 rfl) ?_
    refine al_val (ov_move rfl rfl) ?_
    refine al_nil ?_
    refine aq_then ?_
    refine aw_block ?_
    refine aw_state (aw_loop (ι := (List Bool) × Int) (fun i => (memOf w0 Z0 [] [(oRow v2 4 tyBool i.1)] [(fDat (tyList (tyList (tyInt .i64))) [v0_0] a0), (fDat (tyList (tyInt .i64)) [v1_0] a1)])) (fun i => (tab [(0, v0_0), (5, v2), (15, v1_0), (16, (Value.int .i64 (a1.length : Int))), (17, (Value.int .i64 i.2))])) (fun q i => f_lumref_reached_L45 a1 kk4 q i.1 i.2 = some r) ?_ fu ((List.replicate ((a0.length : Int)).toNat false), (0 : Int)) h) (fun w a hm hs => norm hm hs [0] [0, 1] [(0, v0_0), (5, v2), (15, v1_0), (16, (Value.int .i64 (a1.length : Int))), (17, (Value.int .i64 (0 : Int)))] (by decide) ⟨rfl, rfl, rfl, rfl, rfl, trivial⟩)
    clear h
    rintro k44 ⟨l43x5, l43i17⟩ h
    have h : f_lumref_reached_L45 a1 kk4 k44 l43x5 l43i17 = some r := h
    obtain _ | k44 := k44
    · rw [f_lumref_reached_L45] at h; cases h
    rw [f_lumref_reached_L45] at h
    refine aw_show (m := (memOf w0 Z0 [] [(oRow v2 4 tyBool l43x5)] [(fDat (tyList (tyList (tyInt .i64))) [v0_0] a0), (fDat (tyList (tyInt .i64)) [v1_0] a1)])) (S := (tab [(0, v0_0), (5, v2), (15, v1_0), (16, (Value.int .i64 (a1.length : Int))), (17, (Value.int .i64 l43i17))])) ?_
    refine aw_seq ?_
    refine aw_region ?_
    refine al_val (ov_int rfl rfl rfl rfl) ?_
    refine al_nil ?_
    refine aq_then ?_
    refine aw_seq ?_
    refine aw_cond rfl (fun hb46 => ?_) (fun hb46 => ?_)
    · replace h := bif_t hb46 h
      refine aw_skip ?_
      refine aq_then ?_
      refine aw_seq ?_
      refine aw_block ?_
      refine aw_seq ?_
      refine aw_region ?_
      obtain ⟨u47, hu48, h⟩ := opt_some h
      refine al_idxD 1 hu48 rfl rfl rfl Try.underlying24 sz3 rfl (fun p49 => ?_)
      refine al_val (ov_loadP (ds := [(Value.int .i64 u47)]) 0 rfl (fun h => h) rfl Try.underlying3 sz3 rfl rfl rfl) ?_
      refine al_val (ov_assign rfl rfl) ?_
      refine al_nil ?_
      refine aq_then ?_
      refine aw_region ?_
      refine al_val (ov_move rfl rfl) ?_
      refine al_val (ov_move rfl rfl) ?_
      obtain ⟨u50, hu51, h⟩ := opt_some h
      refine al_idxR 0 (at_some hu51).1 (at_some hu51).2.1 rfl rfl rfl Try.underlying110 sz4 rfl (fun p52 hp53 => ?_)
      refine al_storeR (k := (u47).toNat) (x := true) (vs := [(Value.bool true)]) 0 rfl hp53 (idx_lt hu51) rfl rfl rfl (fun _ => rfl) sz4 rfl ?_
      refine al_nil ?_
      refine aq_block ?_
      refine aq_then ?_
      refine aw_region ?_
      refine al_val (ov_int rfl rfl rfl rfl) ?_
      refine al_val (ov_move rfl rfl) ?_
      refine al_nil ?_
      exact aq_again k44 ((l43x5.set (u47).toNat true), (IntKind.i64.wrap (l43i17 + (1 : Int)))) (Nat.lt_succ_self _) h (fun w a hm hs => norm hm hs [0] [1, 2] [(0, v0_0), (5, v2), (15, v1_0), (16, (Value.int .i64 (a1.length : Int))), (17, (Value.int .i64 (IntKind.i64.wrap (l43i17 + (1 : Int)))))] (by decide) ⟨rfl, rfl, rfl, rfl, rfl, trivial⟩)
    · replace h := bif_f hb46 h
      refine aw_exit ?_
      refine aq_then_exit ?_
      refine aq_then_exit ?_
      refine aq_block_exit ?_
      exact aq_join l43x5 h (fun w a hm hs => norm hm hs [0] [0, 1] [(0, v0_0), (5, v2)] (by decide) ⟨rfl, rfl, trivial⟩)
def f_lumref_Reach (fu : Nat) (a0 : (List (List Int))) (a1 : (List Int)) : Option ((List Bool) × Int) := (opt (f_lumref_Graph fu a0) fun (r2 : Int) => (bif (r2 != (0 : Int)) then (some (([] : List Bool), r2)) else (opt (f_lumref_pointErr fu a1 (a0.length : Int)) fun (r5 : Int) => (bif (r5 != (0 : Int)) then (some (([] : List Bool), r5)) else (opt (f_lumref_reached fu a0 a1) fun (r8 : (List Bool)) => (some (r8, (0 : Int))))))))
set_option maxRecDepth 100000 in
theorem f_lumref_Reach_ok (fu : Nat) (v0_0 : Value) (a0 : (List (List Int))) (v1_0 : Value) (a1 : (List Int)) {r : ((List Bool) × Int)} (h : f_lumref_Reach fu a0 a1 = some r) : FnOk Try.prog 69 [v0_0, v1_0] [(fDat (tyList (tyList (tyInt .i64))) [v0_0] a0), (fDat (tyList (tyInt .i64)) [v1_0] a1)] [] (fun (i : Value) => { val := (Value.tuple #[i, (Value.int .i64 r.2)]), own := [(oRow i 4 tyBool r.1)] }) := by
  unfold f_lumref_Reach at h
  refine fn_enter Try.func69 rfl Try.ntmps69 rfl (fun w0 Z0 => ?_)
  refine aw_seq ?_
  refine aw_region ?_
  refine al_val (ov_assign rfl rfl) ?_
  refine al_val (ov_assign rfl rfl) ?_
  refine al_nil ?_
  refine aq_then ?_
  refine aw_seq ?_
  refine aw_seq ?_
  refine aw_region ?_
  refine al_val (ov_move rfl rfl) ?_
  obtain ⟨r2, hc1, h⟩ := opt_some h
  refine al_call (vs := [v0_0]) (f_lumref_Graph_ok fu v0_0 a0 hc1) [] [] [] (pre_fz 0 rfl pre_nil) rfl (by simp) (by decide) (.inl rfl) rfl Try.func73 rfl rfl rfl (fun _ => ?_)
  refine al_val (ov_assign rfl rfl) ?_
  refine al_nil ?_
  refine aq_then ?_
  refine aw_seq ?_
  refine aw_region ?_
  refine al_val (ov_move rfl rfl) ?_
  refine al_val (ov_int rfl rfl rfl rfl) ?_
  refine al_nil ?_
  refine aq_then ?_
  refine aw_cond rfl (fun hb3 => ?_) (fun hb3 => ?_)
  · replace h := bif_t hb3 h
    refine aw_seq ?_
    refine aw_region ?_
    refine al_val (ov_move rfl rfl) ?_
    refine al_val (ov_assign rfl rfl) ?_
    refine al_val (ov_assign rfl rfl) ?_
    refine al_nil ?_
    refine aq_then ?_
    refine aw_ret ?_
    refine aq_then_ret ?_
    refine aq_nilR 4 tyBool ?_
    obtain rfl := Option.some.inj h
    exact fn_ret (Value.slice none 0 0) [0] [] rfl rfl rfl rfl (res2 rfl rfl rfl) rfl rfl rfl (by decide)
  · replace h := bif_f hb3 h
    refine aw_skip ?_
    refine aq_then ?_
    refine aw_seq ?_
    refine aw_seq ?_
    refine aw_region ?_
    refine al_val (ov_move rfl rfl) ?_
    refine al_val (ov_move rfl rfl) ?_
    refine al_val (ov_lenD 0 rfl rfl Try.underlying25 rfl) ?_
    obtain ⟨r5, hc4, h⟩ := opt_some h
    refine al_call (vs := [v1_0, (Value.int .i64 (a0.length : Int))]) (f_lumref_pointErr_ok fu v1_0 a1 (a0.length : Int) hc4) [] [] [] (pre_fz 1 rfl pre_nil) rfl (by simp) (by decide) (.inl rfl) rfl Try.func107 rfl rfl rfl (fun _ => ?_)
    refine al_val (ov_assign rfl rfl) ?_
    refine al_nil ?_
    refine aq_then ?_
    refine aw_seq ?_
    refine aw_region ?_
    refine al_val (ov_move rfl rfl) ?_
    refine al_val (ov_int rfl rfl rfl rfl) ?_
    refine al_nil ?_
    refine aq_then ?_
    refine aw_cond rfl (fun hb6 => ?_) (fun hb6 => ?_)
    · replace h := bif_t hb6 h
      refine aw_seq ?_
      refine aw_region ?_
      refine al_val (ov_move rfl rfl) ?_
      refine al_val (ov_assign rfl rfl) ?_
      refine al_val (ov_assign rfl rfl) ?_
      refine al_nil ?_
      refine aq_then ?_
      refine aw_ret ?_
      refine aq_then_ret ?_
      refine aq_nilR 4 tyBool ?_
      obtain rfl := Option.some.inj h
      exact fn_ret (Value.slice none 0 0) [0] [] rfl rfl rfl rfl (res2 rfl rfl rfl) rfl rfl rfl (by decide)
    · replace h := bif_f hb6 h
      refine aw_skip ?_
      refine aq_then ?_
      refine aw_seq ?_
      refine aw_region ?_
      refine al_val (ov_move rfl rfl) ?_
      refine al_val (ov_move rfl rfl) ?_
      obtain ⟨r8, hc7, h⟩ := opt_some h
      refine al_call (vs := [v0_0, v1_0]) (f_lumref_reached_ok fu v0_0 a0 v1_0 a1 hc7) [] [] [] (pre_fz 0 rfl (pre_fz 1 rfl pre_nil)) rfl (by simp) (by decide) (.inl rfl) rfl Try.func108 rfl rfl rfl (fun v9 => ?_)
      refine al_val (ov_assign rfl rfl) ?_
      refine al_val (ov_assign rfl rfl) ?_
      refine al_nil ?_
      refine aq_then ?_
      refine aw_ret ?_
      obtain rfl := Option.some.inj h
      exact fn_ret v9 [0] [] rfl rfl rfl rfl (res2 rfl rfl rfl) rfl rfl rfl (by decide)
def f_graph_Order_L42 (l8x5 : (List Bool)) (kk21 : (Unit → Option ((List Int) × Int))) (u22 : (List Int)) (kk32 : (Unit → Option ((List Int) × Int))) : Nat → Int → Option ((List Int) × Int)
  | 0, _ => none
  | k41 + 1, l40i37 => (bif (decide (l40i37 < (u22.length : Int))) then (opt (at? u22 l40i37) fun (u44 : Int) => (opt (at? l8x5 u44) fun (u47 : Bool) => (bif (!u47) then (kk21 ()) else (f_graph_Order_L42 l8x5 kk21 u22 kk32 k41 (IntKind.i64.wrap (l40i37 + (1 : Int))))))) else (kk32 ()))
def f_graph_Order_L17 (a0 : (List (List Int))) (l8x5 : (List Bool)) (l8x6 : (List Int)) (kk11 : ((List Bool) → (List Int) → Option ((List Int) × Int))) (kk14 : (Unit → Option ((List Int) × Int))) (fu : Nat) : Nat → Int → Option ((List Int) × Int)
  | 0, _ => none
  | k16 + 1, l15i26 => (lt (fun (l15i26 : Int) => (f_graph_Order_L17 a0 l8x5 l8x6 kk11 kk14 fu k16 l15i26)) fun (kk18 : Int → Option ((List Int) × Int)) => (bif (decide (l15i26 < (a0.length : Int))) then (lt (fun (_ : Unit) => (kk18 (IntKind.i64.wrap (l15i26 + (1 : Int))))) fun (kk21 : Unit → Option ((List Int) × Int)) => (opt (at? a0 l15i26) fun (u22 : (List Int)) => (opt (at? l8x5 l15i26) fun (u26 : Bool) => (bif u26 then (kk21 ()) else (lt (fun (_ : Unit) => (opt (at? l8x5 l15i26) fun (u33 : Bool) => (req (((l8x6.length + ([l15i26]).length) * 8 : Nat) ≤ 140737488355328 ∧ l8x6.length + ([l15i26]).length ≤ 9223372036854775807) (kk11 (l8x5.set (l15i26).toNat true) (l8x6 ++ ([l15i26])))))) fun (kk32 : Unit → Option ((List Int) × Int)) => (f_graph_Order_L42 l8x5 kk21 u22 kk32 fu (0 : Int))))))) else (kk14 ())))
def f_graph_Order_L10 (a0 : (List (List Int))) (kk7 : ((List Int) → Option ((List Int) × Int))) (fu : Nat) : Nat → (List Bool) → (List Int) → Option ((List Int) × Int)
  | 0, _, _ => none
  | k9 + 1, l8x5, l8x6 => (lt (fun (l8x5 : (List Bool)) (l8x6 : (List Int)) => (f_graph_Order_L10 a0 kk7 fu k9 l8x5 l8x6)) fun (kk11 : (List Bool) → (List Int) → Option ((List Int) × Int)) => (bif (decide ((l8x6.length : Int) < (a0.length : Int))) then (lt (fun (_ : Unit) => (some (([] : List Int), (4 : Int)))) fun (kk14 : Unit → Option ((List Int) × Int)) => (f_graph_Order_L17 a0 l8x5 l8x6 kk11 kk14 fu fu (0 : Int))) else (kk7 l8x6)))
def f_graph_Order (fu : Nat) (a0 : (List (List Int))) : Option ((List Int) × Int) := (opt (f_graph_Check fu a0) fun (r2 : Int) => (bif (r2 != (0 : Int)) then (some (([] : List Int), r2)) else (req (0 ≤ (a0.length : Int) ∧ 1 * (a0.length : Int) ≤ 281474976710656 ∧ (a0.length : Int) ≤ 9223372036854775807) (lt (fun (j6x6 : (List Int)) => (some (j6x6, (0 : Int)))) fun (kk7 : (List Int) → Option ((List Int) × Int)) => (f_graph_Order_L10 a0 kk7 fu fu (List.replicate ((a0.length : Int)).toNat false) ([] : List Int))))))
set_option maxRecDepth 100000 in
theorem f_graph_Order_ok (fu : Nat) (v0_0 : Value) (a0 : (List (List Int))) {r : ((List Int) × Int)} (h : f_graph_Order fu a0 = some r) : FnOk Try.prog 70 [v0_0] [(fDat (tyList (tyList (tyInt .i64))) [v0_0] a0)] [] (fun (i : Value) => { val := (Value.tuple #[i, (Value.int .i64 r.2)]), own := [(oRow i 3 (tyInt .i64) r.1)] }) := by
  unfold f_graph_Order at h
  refine fn_enter Try.func70 rfl Try.ntmps70 rfl (fun w0 Z0 => ?_)
  refine aw_seq ?_
  refine aw_region ?_
  refine al_val (ov_assign rfl rfl) ?_
  refine al_val (ov_assign rfl rfl) ?_
  refine al_nil ?_
  refine aq_then ?_
  refine aw_scope ?_
  refine aw_seq ?_
  refine aw_seq ?_
  refine aw_region ?_
  refine al_val (ov_move rfl rfl) ?_
  obtain ⟨r2, hc1, h⟩ := opt_some h
  refine al_call (vs := [v0_0]) (f_graph_Check_ok fu v0_0 a0 hc1) [] [] [] (pre_fz 0 rfl pre_nil) rfl (by simp) (by decide) (.inl rfl) rfl Try.func72 rfl rfl rfl (fun _ => ?_)
  refine al_val (ov_assign rfl rfl) ?_
  refine al_nil ?_
  refine aq_then ?_
  refine aw_seq ?_
  refine aw_region ?_
  refine al_val (ov_move rfl rfl) ?_
  refine al_val (ov_int rfl rfl rfl rfl) ?_
  refine al_nil ?_
  refine aq_then ?_
  refine aw_cond rfl (fun hb3 => ?_) (fun hb3 => ?_)
  · replace h := bif_t hb3 h
    refine aw_seq ?_
    refine aw_region ?_
    refine al_val (ov_move rfl rfl) ?_
    refine al_val (ov_assign rfl rfl) ?_
    refine al_val (ov_assign rfl rfl) ?_
    refine al_nil ?_
    refine aq_then ?_
    refine aw_ret ?_
    refine aq_then_ret ?_
    refine aq_scope_ret ?_
    refine aq_nilR 3 (tyInt .i64) ?_
    obtain rfl := Option.some.inj h
    exact fn_ret (Value.slice none 0 0) [0] [] rfl rfl rfl rfl (res2 rfl rfl rfl) rfl rfl rfl (by decide)
  · replace h := bif_f hb3 h
    refine aw_skip ?_
    refine aq_then ?_
    refine aw_seq ?_
    refine aw_region ?_
    refine al_val (ov_move rfl rfl) ?_
    refine al_val (ov_lenD 0 rfl rfl Try.underlying25 rfl) ?_
    obtain ⟨hc4, h⟩ := req_some h
    refine al_make (τ := tyBool) (x0 := false) hc4.1 hc4.2.1 hc4.2.2 rfl rfl Try.underlying110 to4 (fun _ _ => rfl) rfl rfl (fun v5 => ?_)
    refine al_val (ov_assign rfl rfl) ?_
    refine al_nil ?_
    refine aq_then ?_
    refine aw_seq ?_
    refine aw_region ?_
    refine al_val (ov_assign rfl rfl) ?_
    refine al_nil ?_
    refine aq_then ?_
    refine aw_seq ?_
    refine aw_label ?_
    refine aq_then ?_
    obtain ⟨kk7, hkk7, h⟩ := lt_some h
    refine aw_seq_join (ι := Value × (List Int)) (fun i => (memOf w0 Z0 [] [(oRow i.1 3 (tyInt .i64) i.2)] [(fDat (tyList (tyList (tyInt .i64))) [v0_0] a0)])) (fun i => (tab [(6, i.1)])) (fun i => kk7 i.2 = some r) ?_ ?_
    · rintro ⟨j6v6, j6x6⟩ h
      have h : kk7 j6x6 = some r := h
      rw [hkk7] at h
      dsimp only at h
      clear hkk7
      refine aw_show (m := (memOf w0 Z0 [] [(oRow j6v6 3 (tyInt .i64) j6x6)] [(fDat (tyList (tyList (tyInt .i64))) [v0_0] a0)])) (S := (tab [(6, j6v6)])) ?_
      refine aw_seq ?_
      refine aw_region ?_
      refine al_val (ov_move rfl rfl) ?_
      refine al_val (ov_assign rfl rfl) ?_
      refine al_val (ov_assign rfl rfl) ?_
      refine al_nil ?_
      refine aq_then ?_
      refine aw_ret ?_
      refine aq_scope_ret ?_
      obtain rfl := Option.some.inj h
      exact fn_ret j6v6 [0] [] rfl rfl rfl rfl (res2 rfl rfl rfl) rfl rfl rfl (by decide)
    · clear hkk7
      refine aw_block ?_
      refine aw_nilR 3 (tyInt .i64) ?_
      refine aw_state (aw_loop (ι := (List Bool) × Value × (List Int)) (fun i => (memOf w0 Z0 [] [(oRow v5 4 tyBool i.1), (oRow i.2.1 3 (tyInt .i64) i.2.2)] [(fDat (tyList (tyList (tyInt .i64))) [v0_0] a0)])) (fun i => (tab [(0, v0_0), (5, v5), (6, i.2.1)])) (fun q i => f_graph_Order_L10 a0 kk7 fu q i.1 i.2.2 = some r) ?_ fu ((List.replicate ((a0.length : Int)).toNat false), (Value.slice none 0 0), ([] : List Int)) h) (fun w a hm hs => norm hm hs [1, 0] [0] [(0, v0_0), (5, v5), (6, (Value.slice none 0 0))] (by decide) ⟨rfl, rfl, rfl, trivial⟩)
      clear h
      rintro k9 ⟨l8x5, l8v6, l8x6⟩ h
      have h : f_graph_Order_L10 a0 kk7 fu k9 l8x5 l8x6 = some r := h
      obtain _ | k9 := k9
      · rw [f_graph_Order_L10] at h; cases h
      rw [f_graph_Order_L10] at h
      refine aw_show (m := (memOf w0 Z0 [] [(oRow v5 4 tyBool l8x5), (oRow l8v6 3 (tyInt .i64) l8x6)] [(fDat (tyList (tyList (tyInt .i64))) [v0_0] a0)])) (S := (tab [(0, v0_0), (5, v5), (6, l8v6)])) ?_
      obtain ⟨kk11, hkk11, h⟩ := lt_some h
      refine aw_body_join (ι := (List Bool) × Value × (List Int)) (fun i => (memOf w0 Z0 [] [(oRow v5 4 tyBool i.1), (oRow i.2.1 3 (tyInt .i64) i.2.2)] [(fDat (tyList (tyList (tyInt .i64))) [v0_0] a0)])) (fun i => (tab [(0, v0_0), (5, v5), (6, i.2.1)])) (fun i => kk11 i.1 i.2.2 = some r) (fun i h => aq_again k9 i (Nat.lt_succ_self _) (by rw [hkk11] at h; exact h) (fun w a hm hs => ⟨hm, hs⟩)) ?_
      clear hkk11
      refine aw_seq ?_
      refine aw_seq ?_
      refine aw_region ?_
      refine al_val (ov_move rfl rfl) ?_
      refine al_val (ov_lenR 1 rfl rfl Try.underlying24 rfl) ?_
      refine al_val (ov_move rfl rfl) ?_
      refine al_val (ov_lenD 0 rfl rfl Try.underlying25 rfl) ?_
      refine al_val (ov_int rfl rfl rfl rfl) ?_
      refine al_nil ?_
      refine aq_then ?_
      refine aw_cond rfl (fun hb12 => ?_) (fun hb12 => ?_)
      · replace h := bif_t hb12 h
        refine aw_skip ?_
        refine aq_then ?_
        refine aw_block ?_
        refine aw_scope ?_
        refine aw_seq ?_
        refine aw_label ?_
        refine aq_then ?_
        obtain ⟨kk14, hkk14, h⟩ := lt_some h
        refine aw_seq_join (ι := Unit) (fun i => (memOf w0 Z0 [] [] [(fDat (tyList (tyList (tyInt .i64))) [v0_0] a0)])) (fun i => (tab [])) (fun i => kk14 () = some r) ?_ ?_
        · rintro _ h
          have h : kk14 () = some r := h
          rw [hkk14] at h
          dsimp only at h
          clear hkk14
          refine aw_show (m := (memOf w0 Z0 [] [] [(fDat (tyList (tyList (tyInt .i64))) [v0_0] a0)])) (S := (tab [])) ?_
          refine aw_seq ?_
          refine aw_region ?_
          refine al_val (ov_assign rfl rfl) ?_
          refine al_val (ov_assign rfl rfl) ?_
          refine al_nil ?_
          refine aq_then ?_
          refine aw_ret ?_
          refine aq_scope_ret ?_
          refine aq_block_ret ?_
          refine aq_then_ret ?_
          refine aq_block_ret ?_
          refine aq_then_ret ?_
          refine aq_scope_ret ?_
          refine aq_nilR 3 (tyInt .i64) ?_
          obtain rfl := Option.some.inj h
          exact fn_ret (Value.slice none 0 0) [0] [] rfl rfl rfl rfl (res2 rfl rfl rfl) rfl rfl rfl (by decide)
        · clear hkk14
          refine aw_seq ?_
          refine aw_region ?_
          refine al_val (ov_move rfl rfl) ?_
          refine al_val (ov_lenD 0 rfl rfl Try.underlying25 rfl) ?_
          refine al_val (ov_move rfl rfl) ?_
          refine al_nil ?_
          refine aq_then ?_
          refine aw_block ?_
          refine aw_state (aw_loop (ι := Int) (fun i => (memOf w0 Z0 [] [(oRow v5 4 tyBool l8x5), (oRow l8v6 3 (tyInt .i64) l8x6)] [(fDat (tyList (tyList (tyInt .i64))) [v0_0] a0)])) (fun i => (tab [(0, v0_0), (5, v5), (6, l8v6), (24, v0_0), (25, (Value.int .i64 (a0.length : Int))), (26, (Value.int .i64 i))])) (fun q i => f_graph_Order_L17 a0 l8x5 l8x6 kk11 kk14 fu q i = some r) ?_ fu (0 : Int) h) (fun w a hm hs => norm hm hs [0, 1] [0] [(0, v0_0), (5, v5), (6, l8v6), (24, v0_0), (25, (Value.int .i64 (a0.length : Int))), (26, (Value.int .i64 (0 : Int)))] (by decide) ⟨rfl, rfl, rfl, rfl, rfl, rfl, trivial⟩)
          clear h
          rintro k16 l15i26 h
          have h : f_graph_Order_L17 a0 l8x5 l8x6 kk11 kk14 fu k16 l15i26 = some r := h
          obtain _ | k16 := k16
          · rw [f_graph_Order_L17] at h; cases h
          rw [f_graph_Order_L17] at h
          refine aw_show (m := (memOf w0 Z0 [] [(oRow v5 4 tyBool l8x5), (oRow l8v6 3 (tyInt .i64) l8x6)] [(fDat (tyList (tyList (tyInt .i64))) [v0_0] a0)])) (S := (tab [(0, v0_0), (5, v5), (6, l8v6), (24, v0_0), (25, (Value.int .i64 (a0.length : Int))), (26, (Value.int .i64 l15i26))])) ?_
          obtain ⟨kk18, hkk18, h⟩ := lt_some h
          refine aw_body_join (ι := Int) (fun i => (memOf w0 Z0 [] [(oRow v5 4 tyBool l8x5), (oRow l8v6 3 (tyInt .i64) l8x6)] [(fDat (tyList (tyList (tyInt .i64))) [v0_0] a0)])) (fun i => (tab [(0, v0_0), (5, v5), (6, l8v6), (24, v0_0), (25, (Value.int .i64 (a0.length : Int))), (26, (Value.int .i64 i))])) (fun i => kk18 i = some r) (fun i h => aq_again k16 i (Nat.lt_succ_self _) (by rw [hkk18] at h; exact h) (fun w a hm hs => ⟨hm, hs⟩)) ?_
          clear hkk18
          refine aw_seq ?_
          refine aw_region ?_
          refine al_val (ov_int rfl rfl rfl rfl) ?_
          refine al_nil ?_
          refine aq_then ?_
          refine aw_seq ?_
          refine aw_cond rfl (fun hb19 => ?_) (fun hb19 => ?_)
          · replace h := bif_t hb19 h
            refine aw_skip ?_
            refine aq_then ?_
            obtain ⟨kk21, hkk21, h⟩ := lt_some h
            refine aw_seq_join (ι := Unit) (fun i => (memOf w0 Z0 [] [(oRow v5 4 tyBool l8x5), (oRow l8v6 3 (tyInt .i64) l8x6)] [(fDat (tyList (tyList (tyInt .i64))) [v0_0] a0)])) (fun i => (tab [(0, v0_0), (5, v5), (6, l8v6), (24, v0_0), (25, (Value.int .i64 (a0.length : Int))), (26, (Value.int .i64 l15i26))])) (fun i => kk21 () = some r) ?_ ?_
            · rintro _ h
              have h : kk21 () = some r := h
              rw [hkk21] at h
              dsimp only at h
              clear hkk21
              refine aw_show (m := (memOf w0 Z0 [] [(oRow v5 4 tyBool l8x5), (oRow l8v6 3 (tyInt .i64) l8x6)] [(fDat (tyList (tyList (tyInt .i64))) [v0_0] a0)])) (S := (tab [(0, v0_0), (5, v5), (6, l8v6), (24, v0_0), (25, (Value.int .i64 (a0.length : Int))), (26, (Value.int .i64 l15i26))])) ?_
              refine aw_region ?_
              refine al_val (ov_int rfl rfl rfl rfl) ?_
              refine al_val (ov_move rfl rfl) ?_
              refine al_nil ?_
              exact aq_join (IntKind.i64.wrap (l15i26 + (1 : Int))) h (fun w a hm hs => norm hm hs [0, 1] [0] [(0, v0_0), (5, v5), (6, l8v6), (24, v0_0), (25, (Value.int .i64 (a0.length : Int))), (26, (Value.int .i64 (IntKind.i64.wrap (l15i26 + (1 : Int)))))] (by decide) ⟨rfl, rfl, rfl, rfl, rfl, rfl, trivial⟩)
            · clear hkk21
              refine aw_block ?_
              refine aw_seq ?_
              refine aw_region ?_
              refine al_val (ov_move rfl rfl) ?_
              obtain ⟨u22, hu23, h⟩ := opt_some h
              refine al_idxD 0 hu23 rfl rfl rfl Try.underlying25 sz24 rfl (fun p24 => ?_)
              refine al_loadP1 0 rfl rfl Try.underlying24 sz24 rfl rfl rfl (fun s25 => ?_)
              refine al_val (ov_assign rfl rfl) ?_
              refine al_val (ov_assign rfl rfl) ?_
              refine al_nil ?_
              refine aq_then ?_
              refine aw_seq ?_
              refine aw_seq ?_
              refine aw_region ?_
              refine al_val (ov_move rfl rfl) ?_
              refine al_val (ov_move rfl rfl) ?_
              obtain ⟨u26, hu27, h⟩ := opt_some h
              refine al_idxR 0 (at_some hu27).1 (at_some hu27).2.1 rfl rfl rfl Try.underlying110 sz4 rfl (fun p28 hp29 => ?_)
              refine al_val (ov_loadR (ds := [(Value.bool u26)]) 0 rfl hp29 (at_some hu27).2.2 (fun h => h) rfl Try.underlying4 sz4 rfl rfl rfl) ?_
              refine al_nil ?_
              refine aq_then ?_
              refine aw_cond rfl (fun hb30 => ?_) (fun hb30 => ?_)
              · replace h := bif_t hb30 h
                refine aw_exit ?_
                refine aq_then_exit ?_
                refine aq_block_exit ?_
                exact aq_join () h (fun w a hm hs => norm hm hs [0, 1] [2] [(0, v0_0), (5, v5), (6, l8v6), (24, v0_0), (25, (Value.int .i64 (a0.length : Int))), (26, (Value.int .i64 l15i26))] (by decide) ⟨rfl, rfl, rfl, rfl, rfl, rfl, trivial⟩)
              · replace h := bif_f hb30 h
                refine aw_skip ?_
                refine aq_then ?_
                obtain ⟨kk32, hkk32, h⟩ := lt_some h
                refine aw_seq_join (ι := Unit) (fun i => (memOf w0 Z0 [] [(oRow v5 4 tyBool l8x5), (oRow l8v6 3 (tyInt .i64) l8x6)] [(fDat (tyList (tyList (tyInt .i64))) [v0_0] a0), (fDat (tyList (tyInt .i64)) [s25] u22), (fPtr (tyList (tyInt .i64)) p24 u22)])) (fun i => (tab [(0, v0_0), (5, v5), (6, l8v6), (7, (Value.int .i64 l15i26))])) (fun i => kk32 () = some r) ?_ ?_
                · rintro _ h
                  have h : kk32 () = some r := h
                  rw [hkk32] at h
                  dsimp only at h
                  clear hkk32
                  refine aw_show (m := (memOf w0 Z0 [] [(oRow v5 4 tyBool l8x5), (oRow l8v6 3 (tyInt .i64) l8x6)] [(fDat (tyList (tyList (tyInt .i64))) [v0_0] a0), (fDat (tyList (tyInt .i64)) [s25] u22), (fPtr (tyList (tyInt .i64)) p24 u22)])) (S := (tab [(0, v0_0), (5, v5), (6, l8v6), (7, (Value.int .i64 l15i26))])) ?_
                  refine aw_seq ?_
                  refine aw_region ?_
                  refine al_val (ov_move rfl rfl) ?_
                  refine al_val (ov_move rfl rfl) ?_
                  obtain ⟨u33, hu34, h⟩ := opt_some h
                  refine al_idxR 0 (at_some hu34).1 (at_some hu34).2.1 rfl rfl rfl Try.underlying110 sz4 rfl (fun p35 hp36 => ?_)
                  refine al_storeR (k := (l15i26).toNat) (x := true) (vs := [(Value.bool true)]) 0 rfl hp36 (idx_lt hu34) rfl rfl rfl (fun _ => rfl) sz4 rfl ?_
                  refine al_nil ?_
                  refine aq_then ?_
                  refine aw_seq ?_
                  refine aw_region ?_
                  refine al_val (ov_move rfl rfl) ?_
                  refine al_val (ov_move rfl rfl) ?_
                  refine al_buildSlice (τ := (tyInt .i64)) (e := 3) (k := 1) (sz := 0) (by_ := 0) (z := undef) (cs := [(Value.int .i64 l15i26)]) (xs := [l15i26]) rfl (by decide) (fun w a hs => ⟨#[(Value.int .i64 l15i26)], rfl, by simp only [List.map_toArray, List.map_cons, List.map_nil, hs.ev (x := .tmp 51) rfl]; exact run_bs [(Value.int .i64 l15i26)] [(Value.int .i64 l15i26)] Try.underlying24 to3 rfl rfl rfl rfl w⟩) (fun hm => ⟨_, _, rfl, (fun _ => rfl) hm, rfl⟩) rfl (fun v37 => ?_)
                  obtain ⟨hc38, h⟩ := req_some h
                  refine al_append 2 hc38.1 hc38.2 rfl (src_own (i := 2) 0 rfl) rfl rfl Try.underlying24 to3 rfl rfl rfl (fun v39 => ?_)
                  refine al_val (ov_assign rfl rfl) ?_
                  refine al_nil ?_
                  refine aq_then ?_
                  refine aw_exit ?_
                  refine aq_block_other rfl ?_
                  refine aq_then_exit ?_
                  refine aq_then_exit ?_
                  refine aq_block_other rfl ?_
                  refine aq_then_exit ?_
                  refine aq_scope_exit ?_
                  refine aq_block_exit ?_
                  exact aq_join ((l8x5.set (l15i26).toNat true), v39, (l8x6 ++ ([l15i26]))) h (fun w a hm hs => norm hm hs [1, 2] [0] [(0, v0_0), (5, v5), (6, v39)] (by decide) ⟨rfl, rfl, rfl, trivial⟩)
                · clear hkk32
                  refine aw_seq ?_
                  refine aw_region ?_
                  refine al_val (ov_move rfl rfl) ?_
                  refine al_val (ov_lenD 0 rfl rfl Try.underlying24 rfl) ?_
                  refine al_val (ov_move rfl rfl) ?_
                  refine al_nil ?_
                  refine aq_then ?_
                  refine aw_block ?_
                  refine aw_state (aw_loop (ι := Int) (fun i => (memOf w0 Z0 [] [(oRow v5 4 tyBool l8x5), (oRow l8v6 3 (tyInt .i64) l8x6)] [(fDat (tyList (tyList (tyInt .i64))) [v0_0] a0), (fDat (tyList (tyInt .i64)) [s25] u22), (fPtr (tyList (tyInt .i64)) p24 u22)])) (fun i => (tab [(0, v0_0), (5, v5), (6, l8v6), (7, (Value.int .i64 l15i26)), (24, v0_0), (25, (Value.int .i64 (a0.length : Int))), (26, (Value.int .i64 l15i26)), (35, s25), (36, (Value.int .i64 (u22.length : Int))), (37, (Value.int .i64 i))])) (fun q i => f_graph_Order_L42 l8x5 kk21 u22 kk32 q i = some r) ?_ fu (0 : Int) h) (fun w a hm hs => norm hm hs [0, 1] [2, 0, 1] [(0, v0_0), (5, v5), (6, l8v6), (7, (Value.int .i64 l15i26)), (24, v0_0), (25, (Value.int .i64 (a0.length : Int))), (26, (Value.int .i64 l15i26)), (35, s25), (36, (Value.int .i64 (u22.length : Int))), (37, (Value.int .i64 (0 : Int)))] (by decide) ⟨rfl, rfl, rfl, rfl, rfl, rfl, rfl, rfl, rfl, rfl, trivial⟩)
                  clear h
                  rintro k41 l40i37 h
                  have h : f_graph_Order_L42 l8x5 kk21 u22 kk32 k41 l40i37 = some r := h
                  obtain _ | k41 := k41
                  · rw [f_graph_Order_L42] at h; cases h
                  rw [f_graph_Order_L42] at h
                  refine aw_show (m := (memOf w0 Z0 [] [(oRow v5 4 tyBool l8x5), (oRow l8v6 3 (tyInt .i64) l8x6)] [(fDat (tyList (tyList (tyInt .i64))) [v0_0] a0), (fDat (tyList (tyInt .i64)) [s25] u22), (fPtr (tyList (tyInt .i64)) p24 u22)])) (S := (tab [(0, v0_0), (5, v5), (6, l8v6), (7, (Value.int .i64 l15i26)), (24, v0_0), (25, (Value.int .i64 (a0.length : Int))), (26, (Value.int .i64 l15i26)), (35, s25), (36, (Value.int .i64 (u22.length : Int))), (37, (Value.int .i64 l40i37))])) ?_
                  refine aw_seq ?_
                  refine aw_region ?_
                  refine al_val (ov_int rfl rfl rfl rfl) ?_
                  refine al_nil ?_
                  refine aq_then ?_
                  refine aw_seq ?_
                  refine aw_cond rfl (fun hb43 => ?_) (fun hb43 => ?_)
                  · replace h := bif_t hb43 h
                    refine aw_skip ?_
                    refine aq_then ?_
                    refine aw_seq ?_
                    refine aw_block ?_
                    refine aw_seq ?_
                    refine aw_region ?_
                    obtain ⟨u44, hu45, h⟩ := opt_some h
                    refine al_idxD 1 hu45 rfl rfl rfl Try.underlying24 sz3 rfl (fun p46 => ?_)
                    refine al_val (ov_loadP (ds := [(Value.int .i64 u44)]) 0 rfl (fun h => h) rfl Try.underlying3 sz3 rfl rfl rfl) ?_
                    refine al_val (ov_assign rfl rfl) ?_
                    refine al_nil ?_
                    refine aq_then ?_
                    refine aw_seq ?_
                    refine aw_region ?_
                    refine al_val (ov_move rfl rfl) ?_
                    refine al_val (ov_move rfl rfl) ?_
                    obtain ⟨u47, hu48, h⟩ := opt_some h
                    refine al_idxR 0 (at_some hu48).1 (at_some hu48).2.1 rfl rfl rfl Try.underlying110 sz4 rfl (fun p49 hp50 => ?_)
                    refine al_val (ov_loadR (ds := [(Value.bool u47)]) 0 rfl hp50 (at_some hu48).2.2 (fun h => h) rfl Try.underlying4 sz4 rfl rfl rfl) ?_
                    refine al_val (ov_not rfl rfl) ?_
                    refine al_nil ?_
                    refine aq_then ?_
                    refine aw_cond rfl (fun hb51 => ?_) (fun hb51 => ?_)
                    · replace h := bif_t hb51 h
                      refine aw_exit ?_
                      refine aq_block_other rfl ?_
                      refine aq_then_exit ?_
                      refine aq_then_exit ?_
                      refine aq_block_other rfl ?_
                      refine aq_then_exit ?_
                      refine aq_block_exit ?_
                      exact aq_join () h (fun w a hm hs => norm hm hs [0, 1] [1] [(0, v0_0), (5, v5), (6, l8v6), (24, v0_0), (25, (Value.int .i64 (a0.length : Int))), (26, (Value.int .i64 l15i26))] (by decide) ⟨rfl, rfl, rfl, rfl, rfl, rfl, trivial⟩)
                    · replace h := bif_f hb51 h
                      refine aw_skip ?_
                      refine aq_block ?_
                      refine aq_then ?_
                      refine aw_region ?_
                      refine al_val (ov_int rfl rfl rfl rfl) ?_
                      refine al_val (ov_move rfl rfl) ?_
                      refine al_nil ?_
                      exact aq_again k41 (IntKind.i64.wrap (l40i37 + (1 : Int))) (Nat.lt_succ_self _) h (fun w a hm hs => norm hm hs [0, 1] [1, 2, 3] [(0, v0_0), (5, v5), (6, l8v6), (7, (Value.int .i64 l15i26)), (24, v0_0), (25, (Value.int .i64 (a0.length : Int))), (26, (Value.int .i64 l15i26)), (35, s25), (36, (Value.int .i64 (u22.length : Int))), (37, (Value.int .i64 (IntKind.i64.wrap (l40i37 + (1 : Int)))))] (by decide) ⟨rfl, rfl, rfl, rfl, rfl, rfl, rfl, rfl, rfl, rfl, trivial⟩)
                  · replace h := bif_f hb43 h
                    refine aw_exit ?_
                    refine aq_then_exit ?_
                    refine aq_then_exit ?_
                    refine aq_block_exit ?_
                    exact aq_join () h (fun w a hm hs => norm hm hs [0, 1] [0, 1, 2] [(0, v0_0), (5, v5), (6, l8v6), (7, (Value.int .i64 l15i26))] (by decide) ⟨rfl, rfl, rfl, rfl, trivial⟩)
          · replace h := bif_f hb19 h
            refine aw_exit ?_
            refine aq_then_exit ?_
            refine aq_then_exit ?_
            refine aq_block_exit ?_
            exact aq_join () h (fun w a hm hs => norm hm hs [] [0] [] (by decide) trivial)
      · replace h := bif_f hb12 h
        refine aw_exit ?_
        refine aq_then_exit ?_
        refine aq_then_exit ?_
        refine aq_block_exit ?_
        exact aq_join (l8v6, l8x6) h (fun w a hm hs => norm hm hs [1] [0] [(6, l8v6)] (by decide) ⟨rfl, trivial⟩)
def f_lumref_has_L5 (a0 : (List Int)) (a1 : Int) (kk2 : (Unit → Option Bool)) : Nat → Int → Option Bool
  | 0, _ => none
  | k4 + 1, l3i9 => (bif (decide (l3i9 < (a0.length : Int))) then (opt (at? a0 l3i9) fun (u7 : Int) => (bif (u7 == a1) then (some true) else (f_lumref_has_L5 a0 a1 kk2 k4 (IntKind.i64.wrap (l3i9 + (1 : Int)))))) else (kk2 ()))
def f_lumref_has (fu : Nat) (a0 : (List Int)) (a1 : Int) : Option Bool := (lt (fun (_ : Unit) => (some false)) fun (kk2 : Unit → Option Bool) => (f_lumref_has_L5 a0 a1 kk2 fu (0 : Int)))
set_option maxRecDepth 100000 in
theorem f_lumref_has_ok (fu : Nat) (v0_0 : Value) (a0 : (List Int)) (a1 : Int) {r : Bool} (h : f_lumref_has fu a0 a1 = some r) : FnOk Try.prog 109 [v0_0, (Value.int .i64 a1)] [(fDat (tyList (tyInt .i64)) [v0_0] a0)] [] (fun (i : Unit) => { val := (Value.bool r) }) := by
  unfold f_lumref_has at h
  refine fn_enter Try.func109 rfl Try.ntmps109 rfl (fun w0 Z0 => ?_)
  refine aw_seq ?_
  refine aw_region ?_
  refine al_val (ov_assign rfl rfl) ?_
  refine al_nil ?_
  refine aq_then ?_
  obtain ⟨kk2, hkk2, h⟩ := lt_some h
  refine aw_seq_join (ι := Unit) (fun i => (memOf w0 Z0 [] [] [(fDat (tyList (tyInt .i64)) [v0_0] a0)])) (fun i => (tab [])) (fun i => kk2 () = some r) ?_ ?_
  · rintro _ h
    have h : kk2 () = some r := h
    rw [hkk2] at h
    dsimp only at h
    clear hkk2
    refine aw_show (m := (memOf w0 Z0 [] [] [(fDat (tyList (tyInt .i64)) [v0_0] a0)])) (S := (tab [])) ?_
    refine aw_seq ?_
    refine aw_region ?_
    refine al_val (ov_assign rfl rfl) ?_
    refine al_nil ?_
    refine aq_then ?_
    refine aw_ret ?_
    obtain rfl := Option.some.inj h
    exact fn_ret () [] [] rfl rfl rfl rfl (res1 rfl rfl) rfl rfl rfl (by decide)
  · clear hkk2
    refine aw_seq ?_
    refine aw_region ?_
    refine al_val (ov_move rfl rfl) ?_
    refine al_val (ov_lenD 0 rfl rfl Try.underlying24 rfl) ?_
    refine al_val (ov_move rfl rfl) ?_
    refine al_nil ?_
    refine aq_then ?_
    refine aw_block ?_
    refine aw_state (aw_loop (ι := Int) (fun i => (memOf w0 Z0 [] [] [(fDat (tyList (tyInt .i64)) [v0_0] a0)])) (fun i => (tab [(1, (Value.int .i64 a1)), (7, v0_0), (8, (Value.int .i64 (a0.length : Int))), (9, (Value.int .i64 i))])) (fun q i => f_lumref_has_L5 a0 a1 kk2 q i = some r) ?_ fu (0 : Int) h) (fun w a hm hs => norm hm hs [] [0] [(1, (Value.int .i64 a1)), (7, v0_0), (8, (Value.int .i64 (a0.length : Int))), (9, (Value.int .i64 (0 : Int)))] (by decide) ⟨rfl, rfl, rfl, rfl, trivial⟩)
    clear h
    rintro k4 l3i9 h
    have h : f_lumref_has_L5 a0 a1 kk2 k4 l3i9 = some r := h
    obtain _ | k4 := k4
    · rw [f_lumref_has_L5] at h; cases h
    rw [f_lumref_has_L5] at h
    refine aw_show (m := (memOf w0 Z0 [] [] [(fDat (tyList (tyInt .i64)) [v0_0] a0)])) (S := (tab [(1, (Value.int .i64 a1)), (7, v0_0), (8, (Value.int .i64 (a0.length : Int))), (9, (Value.int .i64 l3i9))])) ?_
    refine aw_seq ?_
    refine aw_region ?_
    refine al_val (ov_int rfl rfl rfl rfl) ?_
    refine al_nil ?_
    refine aq_then ?_
    refine aw_seq ?_
    refine aw_cond rfl (fun hb6 => ?_) (fun hb6 => ?_)
    · replace h := bif_t hb6 h
      refine aw_skip ?_
      refine aq_then ?_
      refine aw_seq ?_
      refine aw_block ?_
      refine aw_seq ?_
      refine aw_region ?_
      obtain ⟨u7, hu8, h⟩ := opt_some h
      refine al_idxD 0 hu8 rfl rfl rfl Try.underlying24 sz3 rfl (fun p9 => ?_)
      refine al_val (ov_loadP (ds := [(Value.int .i64 u7)]) 0 rfl (fun h => h) rfl Try.underlying3 sz3 rfl rfl rfl) ?_
      refine al_val (ov_assign rfl rfl) ?_
      refine al_nil ?_
      refine aq_then ?_
      refine aw_seq ?_
      refine aw_region ?_
      refine al_val (ov_move rfl rfl) ?_
      refine al_val (ov_move rfl rfl) ?_
      refine al_val (ov_int rfl rfl rfl rfl) ?_
      refine al_nil ?_
      refine aq_then ?_
      refine aw_cond rfl (fun hb10 => ?_) (fun hb10 => ?_)
      · replace h := bif_t hb10 h
        refine aw_seq ?_
        refine aw_region ?_
        refine al_val (ov_assign rfl rfl) ?_
        refine al_nil ?_
        refine aq_then ?_
        refine aw_ret ?_
        refine aq_block_ret ?_
        refine aq_then_ret ?_
        refine aq_then_ret ?_
        refine aq_block_ret ?_
        refine aq_then_ret ?_
        obtain rfl := Option.some.inj h
        exact fn_ret () [] [] rfl rfl rfl rfl (res1 rfl rfl) rfl rfl rfl (by decide)
      · replace h := bif_f hb10 h
        refine aw_skip ?_
        refine aq_block ?_
        refine aq_then ?_
        refine aw_region ?_
        refine al_val (ov_int rfl rfl rfl rfl) ?_
        refine al_val (ov_move rfl rfl) ?_
        refine al_nil ?_
        exact aq_again k4 (IntKind.i64.wrap (l3i9 + (1 : Int))) (Nat.lt_succ_self _) h (fun w a hm hs => norm hm hs [] [1] [(1, (Value.int .i64 a1)), (7, v0_0), (8, (Value.int .i64 (a0.length : Int))), (9, (Value.int .i64 (IntKind.i64.wrap (l3i9 + (1 : Int)))))] (by decide) ⟨rfl, rfl, rfl, rfl, trivial⟩)
    · replace h := bif_f hb6 h
      refine aw_exit ?_
      refine aq_then_exit ?_
      refine aq_then_exit ?_
      refine aq_block_exit ?_
      exact aq_join () h (fun w a hm hs => norm hm hs [] [0] [] (by decide) trivial)
def f_lumref_Order_L37 (l6x5 : (List Int)) (u26 : (List Int)) (kk33 : (Bool → Option ((List Int) × Int))) (fu : Nat) : Nat → Bool → Int → Option ((List Int) × Int)
  | 0, _, _ => none
  | k36 + 1, l35b9, l35i34 => (bif (decide (l35i34 < (u26.length : Int))) then (lt (fun (j39b9 : Bool) => (f_lumref_Order_L37 l6x5 u26 kk33 fu k36 j39b9 (IntKind.i64.wrap (l35i34 + (1 : Int))))) fun (kk40 : Bool → Option ((List Int) × Int)) => (opt (at? u26 l35i34) fun (u41 : Int) => (bif l35b9 then (opt (f_lumref_has fu l6x5 u41) fun (r46 : Bool) => (kk40 r46)) else (kk40 false)))) else (kk33 l35b9))
def f_lumref_Order_L21 (a0 : (List (List Int))) (l6x5 : (List Int)) (kk14 : (Int → Option ((List Int) × Int))) (fu : Nat) : Nat → Int → Option ((List Int) × Int)
  | 0, _ => none
  | k20 + 1, l19i23 => (lt (fun (l19i23 : Int) => (f_lumref_Order_L21 a0 l6x5 kk14 fu k20 l19i23)) fun (kk22 : Int → Option ((List Int) × Int)) => (bif (decide (l19i23 < (a0.length : Int))) then (lt (fun (_ : Unit) => (kk22 (IntKind.i64.wrap (l19i23 + (1 : Int))))) fun (kk25 : Unit → Option ((List Int) × Int)) => (opt (at? a0 l19i23) fun (u26 : (List Int)) => (opt (f_lumref_has fu l6x5 l19i23) fun (r31 : Bool) => (lt (fun (j32b9 : Bool) => (bif j32b9 then (kk14 l19i23) else (kk25 ()))) fun (kk33 : Bool → Option ((List Int) × Int)) => (f_lumref_Order_L37 l6x5 u26 kk33 fu fu (!r31) (0 : Int)))))) else (kk14 (-1 : Int))))
def f_lumref_Order_L8 (a0 : (List (List Int))) (kk5 : ((List Int) → Option ((List Int) × Int))) (fu : Nat) : Nat → (List Int) → Int → Option ((List Int) × Int)
  | 0, _, _ => none
  | k7 + 1, l6x5, l6i19 => (lt (fun (l6x5 : (List Int)) (l6i19 : Int) => (f_lumref_Order_L8 a0 kk5 fu k7 l6x5 l6i19)) fun (kk9 : (List Int) → Int → Option ((List Int) × Int)) => (bif (decide (l6i19 < (a0.length : Int))) then (lt (fun (j11x5 : (List Int)) => (kk9 j11x5 (IntKind.i64.wrap (l6i19 + (1 : Int))))) fun (kk12 : (List Int) → Option ((List Int) × Int)) => (lt (fun (j13i6 : Int) => (bif (decide (j13i6 < (0 : Int))) then (some (([] : List Int), (4 : Int))) else (req (((l6x5.length + ([j13i6]).length) * 8 : Nat) ≤ 140737488355328 ∧ l6x5.length + ([j13i6]).length ≤ 9223372036854775807) (kk12 (l6x5 ++ ([j13i6])))))) fun (kk14 : Int → Option ((List Int) × Int)) => (f_lumref_Order_L21 a0 l6x5 kk14 fu fu (0 : Int)))) else (kk5 l6x5)))
def f_lumref_Order (fu : Nat) (a0 : (List (List Int))) : Option ((List Int) × Int) := (opt (f_lumref_Graph fu a0) fun (r2 : Int) => (bif (r2 != (0 : Int)) then (some (([] : List Int), r2)) else (lt (fun (j4x5 : (List Int)) => (some (j4x5, (0 : Int)))) fun (kk5 : (List Int) → Option ((List Int) × Int)) => (f_lumref_Order_L8 a0 kk5 fu fu ([] : List Int) (0 : Int)))))
set_option maxRecDepth 100000 in
theorem f_lumref_Order_ok (fu : Nat) (v0_0 : Value) (a0 : (List (List Int))) {r : ((List Int) × Int)} (h : f_lumref_Order fu a0 = some r) : FnOk Try.prog 71 [v0_0] [(fDat (tyList (tyList (tyInt .i64))) [v0_0] a0)] [] (fun (i : Value) => { val := (Value.tuple #[i, (Value.int .i64 r.2)]), own := [(oRow i 3 (tyInt .i64) r.1)] }) := by
  unfold f_lumref_Order at h
  refine fn_enter Try.func71 rfl Try.ntmps71 rfl (fun w0 Z0 => ?_)
  refine aw_seq ?_
  refine aw_region ?_
  refine al_val (ov_assign rfl rfl) ?_
  refine al_val (ov_assign rfl rfl) ?_
  refine al_nil ?_
  refine aq_then ?_
  refine aw_seq ?_
  refine aw_seq ?_
  refine aw_region ?_
  refine al_val (ov_move rfl rfl) ?_
  obtain ⟨r2, hc1, h⟩ := opt_some h
  refine al_call (vs := [v0_0]) (f_lumref_Graph_ok fu v0_0 a0 hc1) [] [] [] (pre_fz 0 rfl pre_nil) rfl (by simp) (by decide) (.inl rfl) rfl Try.func73 rfl rfl rfl (fun _ => ?_)
  refine al_val (ov_assign rfl rfl) ?_
  refine al_nil ?_
  refine aq_then ?_
  refine aw_seq ?_
  refine aw_region ?_
  refine al_val (ov_move rfl rfl) ?_
  refine al_val (ov_int rfl rfl rfl rfl) ?_
  refine al_nil ?_
  refine aq_then ?_
  refine aw_cond rfl (fun hb3 => ?_) (fun hb3 => ?_)
  · replace h := bif_t hb3 h
    refine aw_seq ?_
    refine aw_region ?_
    refine al_val (ov_move rfl rfl) ?_
    refine al_val (ov_assign rfl rfl) ?_
    refine al_val (ov_assign rfl rfl) ?_
    refine al_nil ?_
    refine aq_then ?_
    refine aw_ret ?_
    refine aq_then_ret ?_
    refine aq_nilR 3 (tyInt .i64) ?_
    obtain rfl := Option.some.inj h
    exact fn_ret (Value.slice none 0 0) [0] [] rfl rfl rfl rfl (res2 rfl rfl rfl) rfl rfl rfl (by decide)
  · replace h := bif_f hb3 h
    refine aw_skip ?_
    refine aq_then ?_
    refine aw_seq ?_
    refine aw_region ?_
    refine al_val (ov_assign rfl rfl) ?_
    refine al_nil ?_
    refine aq_then ?_
    obtain ⟨kk5, hkk5, h⟩ := lt_some h
    refine aw_seq_join (ι := Value × (List Int)) (fun i => (memOf w0 Z0 [] [(oRow i.1 3 (tyInt .i64) i.2)] [(fDat (tyList (tyList (tyInt .i64))) [v0_0] a0)])) (fun i => (tab [(5, i.1)])) (fun i => kk5 i.2 = some r) ?_ ?_
    · rintro ⟨j4v5, j4x5⟩ h
      have h : kk5 j4x5 = some r := h
      rw [hkk5] at h
      dsimp only at h
      clear hkk5
      refine aw_show (m := (memOf w0 Z0 [] [(oRow j4v5 3 (tyInt .i64) j4x5)] [(fDat (tyList (tyList (tyInt .i64))) [v0_0] a0)])) (S := (tab [(5, j4v5)])) ?_
      refine aw_seq ?_
      refine aw_region ?_
      refine al_val (ov_move rfl rfl) ?_
      refine al_val (ov_assign rfl rfl) ?_
      refine al_val (ov_assign rfl rfl) ?_
      refine al_nil ?_
      refine aq_then ?_
      refine aw_ret ?_
      obtain rfl := Option.some.inj h
      exact fn_ret j4v5 [0] [] rfl rfl rfl rfl (res2 rfl rfl rfl) rfl rfl rfl (by decide)
    · clear hkk5
      refine aw_seq ?_
      refine aw_region ?_
      refine al_val (ov_move rfl rfl) ?_
      refine al_val (ov_lenD 0 rfl rfl Try.underlying25 rfl) ?_
      refine al_val (ov_move rfl rfl) ?_
      refine al_nil ?_
      refine aq_then ?_
      refine aw_block ?_
      refine aw_nilR 3 (tyInt .i64) ?_
      refine aw_state (aw_loop (ι := Value × (List Int) × Int) (fun i => (memOf w0 Z0 [] [(oRow i.1 3 (tyInt .i64) i.2.1)] [(fDat (tyList (tyList (tyInt .i64))) [v0_0] a0)])) (fun i => (tab [(0, v0_0), (5, i.1), (18, (Value.int .i64 (a0.length : Int))), (19, (Value.int .i64 i.2.2))])) (fun q i => f_lumref_Order_L8 a0 kk5 fu q i.2.1 i.2.2 = some r) ?_ fu ((Value.slice none 0 0), ([] : List Int), (0 : Int)) h) (fun w a hm hs => norm hm hs [0] [0] [(0, v0_0), (5, (Value.slice none 0 0)), (18, (Value.int .i64 (a0.length : Int))), (19, (Value.int .i64 (0 : Int)))] (by decide) ⟨rfl, rfl, rfl, rfl, trivial⟩)
      clear h
      rintro k7 ⟨l6v5, l6x5, l6i19⟩ h
      have h : f_lumref_Order_L8 a0 kk5 fu k7 l6x5 l6i19 = some r := h
      obtain _ | k7 := k7
      · rw [f_lumref_Order_L8] at h; cases h
      rw [f_lumref_Order_L8] at h
      refine aw_show (m := (memOf w0 Z0 [] [(oRow l6v5 3 (tyInt .i64) l6x5)] [(fDat (tyList (tyList (tyInt .i64))) [v0_0] a0)])) (S := (tab [(0, v0_0), (5, l6v5), (18, (Value.int .i64 (a0.length : Int))), (19, (Value.int .i64 l6i19))])) ?_
      obtain ⟨kk9, hkk9, h⟩ := lt_some h
      refine aw_body_join (ι := Value × (List Int) × Int) (fun i => (memOf w0 Z0 [] [(oRow i.1 3 (tyInt .i64) i.2.1)] [(fDat (tyList (tyList (tyInt .i64))) [v0_0] a0)])) (fun i => (tab [(0, v0_0), (5, i.1), (18, (Value.int .i64 (a0.length : Int))), (19, (Value.int .i64 i.2.2))])) (fun i => kk9 i.2.1 i.2.2 = some r) (fun i h => aq_again k7 i (Nat.lt_succ_self _) (by rw [hkk9] at h; exact h) (fun w a hm hs => ⟨hm, hs⟩)) ?_
      clear hkk9
      refine aw_seq ?_
      refine aw_region ?_
      refine al_val (ov_int rfl rfl rfl rfl) ?_
      refine al_nil ?_
      refine aq_then ?_
      refine aw_seq ?_
      refine aw_cond rfl (fun hb10 => ?_) (fun hb10 => ?_)
      · replace h := bif_t hb10 h
        refine aw_skip ?_
        refine aq_then ?_
        obtain ⟨kk12, hkk12, h⟩ := lt_some h
        refine aw_seq_join (ι := Value × (List Int)) (fun i => (memOf w0 Z0 [] [(oRow i.1 3 (tyInt .i64) i.2)] [(fDat (tyList (tyList (tyInt .i64))) [v0_0] a0)])) (fun i => (tab [(0, v0_0), (5, i.1), (18, (Value.int .i64 (a0.length : Int))), (19, (Value.int .i64 l6i19))])) (fun i => kk12 i.2 = some r) ?_ ?_
        · rintro ⟨j11v5, j11x5⟩ h
          have h : kk12 j11x5 = some r := h
          rw [hkk12] at h
          dsimp only at h
          clear hkk12
          refine aw_show (m := (memOf w0 Z0 [] [(oRow j11v5 3 (tyInt .i64) j11x5)] [(fDat (tyList (tyList (tyInt .i64))) [v0_0] a0)])) (S := (tab [(0, v0_0), (5, j11v5), (18, (Value.int .i64 (a0.length : Int))), (19, (Value.int .i64 l6i19))])) ?_
          refine aw_region ?_
          refine al_val (ov_int rfl rfl rfl rfl) ?_
          refine al_val (ov_move rfl rfl) ?_
          refine al_nil ?_
          exact aq_join (j11v5, j11x5, (IntKind.i64.wrap (l6i19 + (1 : Int)))) h (fun w a hm hs => norm hm hs [0] [0] [(0, v0_0), (5, j11v5), (18, (Value.int .i64 (a0.length : Int))), (19, (Value.int .i64 (IntKind.i64.wrap (l6i19 + (1 : Int)))))] (by decide) ⟨rfl, rfl, rfl, rfl, trivial⟩)
        · clear hkk12
          refine aw_block ?_
          refine aw_seq ?_
          refine aw_region ?_
          refine al_val (ov_assign rfl rfl) ?_
          refine al_nil ?_
          refine aq_then ?_
          obtain ⟨kk14, hkk14, h⟩ := lt_some h
          refine aw_seq_join (ι := Int) (fun i => (memOf w0 Z0 [] [(oRow l6v5 3 (tyInt .i64) l6x5)] [(fDat (tyList (tyList (tyInt .i64))) [v0_0] a0)])) (fun i => (tab [(0, v0_0), (5, l6v5), (6, (Value.int .i64 i)), (18, (Value.int .i64 (a0.length : Int))), (19, (Value.int .i64 l6i19))])) (fun i => kk14 i = some r) ?_ ?_
          · rintro j13i6 h
            have h : kk14 j13i6 = some r := h
            rw [hkk14] at h
            dsimp only at h
            clear hkk14
            refine aw_show (m := (memOf w0 Z0 [] [(oRow l6v5 3 (tyInt .i64) l6x5)] [(fDat (tyList (tyList (tyInt .i64))) [v0_0] a0)])) (S := (tab [(0, v0_0), (5, l6v5), (6, (Value.int .i64 j13i6)), (18, (Value.int .i64 (a0.length : Int))), (19, (Value.int .i64 l6i19))])) ?_
            refine aw_seq ?_
            refine aw_seq ?_
            refine aw_region ?_
            refine al_val (ov_move rfl rfl) ?_
            refine al_val (ov_int rfl rfl rfl rfl) ?_
            refine al_nil ?_
            refine aq_then ?_
            refine aw_cond rfl (fun hb15 => ?_) (fun hb15 => ?_)
            · replace h := bif_t hb15 h
              refine aw_seq ?_
              refine aw_region ?_
              refine al_val (ov_assign rfl rfl) ?_
              refine al_val (ov_assign rfl rfl) ?_
              refine al_nil ?_
              refine aq_then ?_
              refine aw_ret ?_
              refine aq_then_ret ?_
              refine aq_block_ret ?_
              refine aq_then_ret ?_
              refine aq_then_ret ?_
              refine aq_block_ret ?_
              refine aq_then_ret ?_
              refine aq_nilR 3 (tyInt .i64) ?_
              obtain rfl := Option.some.inj h
              exact fn_ret (Value.slice none 0 0) [0] [] rfl rfl rfl rfl (res2 rfl rfl rfl) rfl rfl rfl (by decide)
            · replace h := bif_f hb15 h
              refine aw_skip ?_
              refine aq_then ?_
              refine aw_region ?_
              refine al_val (ov_move rfl rfl) ?_
              refine al_val (ov_move rfl rfl) ?_
              refine al_buildSlice (τ := (tyInt .i64)) (e := 3) (k := 1) (sz := 0) (by_ := 0) (z := undef) (cs := [(Value.int .i64 j13i6)]) (xs := [j13i6]) rfl (by decide) (fun w a hs => ⟨#[(Value.int .i64 j13i6)], rfl, by simp only [List.map_toArray, List.map_cons, List.map_nil, hs.ev (x := .tmp 51) rfl]; exact run_bs [(Value.int .i64 j13i6)] [(Value.int .i64 j13i6)] Try.underlying24 to3 rfl rfl rfl rfl w⟩) (fun hm => ⟨_, _, rfl, (fun _ => rfl) hm, rfl⟩) rfl (fun v16 => ?_)
              obtain ⟨hc17, h⟩ := req_some h
              refine al_append 1 hc17.1 hc17.2 rfl (src_own (i := 1) 0 rfl) rfl rfl Try.underlying24 to3 rfl rfl rfl (fun v18 => ?_)
              refine al_val (ov_assign rfl rfl) ?_
              refine al_nil ?_
              refine aq_block ?_
              exact aq_join (v18, (l6x5 ++ ([j13i6]))) h (fun w a hm hs => norm hm hs [1] [0] [(0, v0_0), (5, v18), (18, (Value.int .i64 (a0.length : Int))), (19, (Value.int .i64 l6i19))] (by decide) ⟨rfl, rfl, rfl, rfl, trivial⟩)
          · clear hkk14
            refine aw_seq ?_
            refine aw_region ?_
            refine al_val (ov_move rfl rfl) ?_
            refine al_val (ov_lenD 0 rfl rfl Try.underlying25 rfl) ?_
            refine al_val (ov_move rfl rfl) ?_
            refine al_nil ?_
            refine aq_then ?_
            refine aw_block ?_
            refine aw_state (aw_loop (ι := Int) (fun i => (memOf w0 Z0 [] [(oRow l6v5 3 (tyInt .i64) l6x5)] [(fDat (tyList (tyList (tyInt .i64))) [v0_0] a0)])) (fun i => (tab [(0, v0_0), (5, l6v5), (6, (Value.int .i64 (-1 : Int))), (18, (Value.int .i64 (a0.length : Int))), (19, (Value.int .i64 l6i19)), (21, v0_0), (22, (Value.int .i64 (a0.length : Int))), (23, (Value.int .i64 i))])) (fun q i => f_lumref_Order_L21 a0 l6x5 kk14 fu q i = some r) ?_ fu (0 : Int) h) (fun w a hm hs => norm hm hs [0] [0] [(0, v0_0), (5, l6v5), (6, (Value.int .i64 (-1 : Int))), (18, (Value.int .i64 (a0.length : Int))), (19, (Value.int .i64 l6i19)), (21, v0_0), (22, (Value.int .i64 (a0.length : Int))), (23, (Value.int .i64 (0 : Int)))] (by decide) ⟨rfl, rfl, rfl, rfl, rfl, rfl, rfl, rfl, trivial⟩)
            clear h
            rintro k20 l19i23 h
            have h : f_lumref_Order_L21 a0 l6x5 kk14 fu k20 l19i23 = some r := h
            obtain _ | k20 := k20
            · rw [f_lumref_Order_L21] at h; cases h
            rw [f_lumref_Order_L21] at h
            refine aw_show (m := (memOf w0 Z0 [] [(oRow l6v5 3 (tyInt .i64) l6x5)] [(fDat (tyList (tyList (tyInt .i64))) [v0_0] a0)])) (S := (tab [(0, v0_0), (5, l6v5), (6, (Value.int .i64 (-1 : Int))), (18, (Value.int .i64 (a0.length : Int))), (19, (Value.int .i64 l6i19)), (21, v0_0), (22, (Value.int .i64 (a0.length : Int))), (23, (Value.int .i64 l19i23))])) ?_
            obtain ⟨kk22, hkk22, h⟩ := lt_some h
            refine aw_body_join (ι := Int) (fun i => (memOf w0 Z0 [] [(oRow l6v5 3 (tyInt .i64) l6x5)] [(fDat (tyList (tyList (tyInt .i64))) [v0_0] a0)])) (fun i => (tab [(0, v0_0), (5, l6v5), (6, (Value.int .i64 (-1 : Int))), (18, (Value.int .i64 (a0.length : Int))), (19, (Value.int .i64 l6i19)), (21, v0_0), (22, (Value.int .i64 (a0.length : Int))), (23, (Value.int .i64 i))])) (fun i => kk22 i = some r) (fun i h => aq_again k20 i (Nat.lt_succ_self _) (by rw [hkk22] at h; exact h) (fun w a hm hs => ⟨hm, hs⟩)) ?_
            clear hkk22
            refine aw_seq ?_
            refine aw_region ?_
            refine al_val (ov_int rfl rfl rfl rfl) ?_
            refine al_nil ?_
            refine aq_then ?_
            refine aw_seq ?_
            refine aw_cond rfl (fun hb23 => ?_) (fun hb23 => ?_)
            · replace h := bif_t hb23 h
              refine aw_skip ?_
              refine aq_then ?_
              obtain ⟨kk25, hkk25, h⟩ := lt_some h
              refine aw_seq_join (ι := Unit) (fun i => (memOf w0 Z0 [] [(oRow l6v5 3 (tyInt .i64) l6x5)] [(fDat (tyList (tyList (tyInt .i64))) [v0_0] a0)])) (fun i => (tab [(0, v0_0), (5, l6v5), (6, (Value.int .i64 (-1 : Int))), (18, (Value.int .i64 (a0.length : Int))), (19, (Value.int .i64 l6i19)), (21, v0_0), (22, (Value.int .i64 (a0.length : Int))), (23, (Value.int .i64 l19i23))])) (fun i => kk25 () = some r) ?_ ?_
              · rintro _ h
                have h : kk25 () = some r := h
                rw [hkk25] at h
                dsimp only at h
                clear hkk25
                refine aw_show (m := (memOf w0 Z0 [] [(oRow l6v5 3 (tyInt .i64) l6x5)] [(fDat (tyList (tyList (tyInt .i64))) [v0_0] a0)])) (S := (tab [(0, v0_0), (5, l6v5), (6, (Value.int .i64 (-1 : Int))), (18, (Value.int .i64 (a0.length : Int))), (19, (Value.int .i64 l6i19)), (21, v0_0), (22, (Value.int .i64 (a0.length : Int))), (23, (Value.int .i64 l19i23))])) ?_
                refine aw_region ?_
                refine al_val (ov_int rfl rfl rfl rfl) ?_
                refine al_val (ov_move rfl rfl) ?_
                refine al_nil ?_
                exact aq_join (IntKind.i64.wrap (l19i23 + (1 : Int))) h (fun w a hm hs => norm hm hs [0] [0] [(0, v0_0), (5, l6v5), (6, (Value.int .i64 (-1 : Int))), (18, (Value.int .i64 (a0.length : Int))), (19, (Value.int .i64 l6i19)), (21, v0_0), (22, (Value.int .i64 (a0.length : Int))), (23, (Value.int .i64 (IntKind.i64.wrap (l19i23 + (1 : Int)))))] (by decide) ⟨rfl, rfl, rfl, rfl, rfl, rfl, rfl, rfl, trivial⟩)
              · clear hkk25
                refine aw_block ?_
                refine aw_seq ?_
                refine aw_region ?_
                refine al_val (ov_move rfl rfl) ?_
                obtain ⟨u26, hu27, h⟩ := opt_some h
                refine al_idxD 0 hu27 rfl rfl rfl Try.underlying25 sz24 rfl (fun p28 => ?_)
                refine al_loadP1 0 rfl rfl Try.underlying24 sz24 rfl rfl rfl (fun s29 => ?_)
                refine al_val (ov_assign rfl rfl) ?_
                refine al_val (ov_assign rfl rfl) ?_
                refine al_nil ?_
                refine aq_then ?_
                refine aw_seq ?_
                refine aw_region ?_
                refine al_val (ov_move rfl rfl) ?_
                refine al_val (ov_move rfl rfl) ?_
                obtain ⟨r31, hc30, h⟩ := opt_some h
                refine al_call (vs := [l6v5, (Value.int .i64 l19i23)]) (f_lumref_has_ok fu l6v5 l6x5 l19i23 hc30) [0] [] [0] (pre_own 0 rfl rfl pre_nil) rfl (by simp) (by decide) (.inr flat_res0) rfl Try.func109 rfl rfl rfl (fun _ => ?_)
                refine al_val (ov_not rfl rfl) ?_
                refine al_val (ov_assign rfl rfl) ?_
                refine al_nil ?_
                refine aq_then ?_
                obtain ⟨kk33, hkk33, h⟩ := lt_some h
                refine aw_seq_join (ι := Bool) (fun i => (memOf w0 Z0 [] [(oRow l6v5 3 (tyInt .i64) l6x5)] [(fDat (tyList (tyList (tyInt .i64))) [v0_0] a0), (fDat (tyList (tyInt .i64)) [s29] u26), (fPtr (tyList (tyInt .i64)) p28 u26)])) (fun i => (tab [(0, v0_0), (5, l6v5), (6, (Value.int .i64 (-1 : Int))), (7, (Value.int .i64 l19i23)), (9, (Value.bool i)), (18, (Value.int .i64 (a0.length : Int))), (19, (Value.int .i64 l6i19)), (21, v0_0), (22, (Value.int .i64 (a0.length : Int))), (23, (Value.int .i64 l19i23))])) (fun i => kk33 i = some r) ?_ ?_
                · rintro j32b9 h
                  have h : kk33 j32b9 = some r := h
                  rw [hkk33] at h
                  dsimp only at h
                  clear hkk33
                  refine aw_show (m := (memOf w0 Z0 [] [(oRow l6v5 3 (tyInt .i64) l6x5)] [(fDat (tyList (tyList (tyInt .i64))) [v0_0] a0), (fDat (tyList (tyInt .i64)) [s29] u26), (fPtr (tyList (tyInt .i64)) p28 u26)])) (S := (tab [(0, v0_0), (5, l6v5), (6, (Value.int .i64 (-1 : Int))), (7, (Value.int .i64 l19i23)), (9, (Value.bool j32b9)), (18, (Value.int .i64 (a0.length : Int))), (19, (Value.int .i64 l6i19)), (21, v0_0), (22, (Value.int .i64 (a0.length : Int))), (23, (Value.int .i64 l19i23))])) ?_
                  refine aw_seq ?_
                  refine aw_region ?_
                  refine al_val (ov_move rfl rfl) ?_
                  refine al_nil ?_
                  refine aq_then ?_
                  refine aw_cond rfl (fun hb34 => ?_) (fun hb34 => ?_)
                  · replace h := bif_t hb34 h
                    refine aw_seq ?_
                    refine aw_region ?_
                    refine al_val (ov_move rfl rfl) ?_
                    refine al_val (ov_assign rfl rfl) ?_
                    refine al_nil ?_
                    refine aq_then ?_
                    refine aw_exit ?_
                    refine aq_block_other rfl ?_
                    refine aq_then_exit ?_
                    refine aq_then_exit ?_
                    refine aq_block_exit ?_
                    exact aq_join l19i23 h (fun w a hm hs => norm hm hs [0] [0] [(0, v0_0), (5, l6v5), (6, (Value.int .i64 l19i23)), (18, (Value.int .i64 (a0.length : Int))), (19, (Value.int .i64 l6i19))] (by decide) ⟨rfl, rfl, rfl, rfl, rfl, trivial⟩)
                  · replace h := bif_f hb34 h
                    refine aw_skip ?_
                    refine aq_block ?_
                    exact aq_join () h (fun w a hm hs => norm hm hs [0] [0] [(0, v0_0), (5, l6v5), (6, (Value.int .i64 (-1 : Int))), (18, (Value.int .i64 (a0.length : Int))), (19, (Value.int .i64 l6i19)), (21, v0_0), (22, (Value.int .i64 (a0.length : Int))), (23, (Value.int .i64 l19i23))] (by decide) ⟨rfl, rfl, rfl, rfl, rfl, rfl, rfl, rfl, trivial⟩)
                · clear hkk33
                  refine aw_seq ?_
                  refine aw_region ?_
                  refine al_val (ov_move rfl rfl) ?_
                  refine al_val (ov_lenD 0 rfl rfl Try.underlying24 rfl) ?_
                  refine al_val (ov_move rfl rfl) ?_
                  refine al_nil ?_
                  refine aq_then ?_
                  refine aw_block ?_
                  refine aw_state (aw_loop (ι := Bool × Int) (fun i => (memOf w0 Z0 [] [(oRow l6v5 3 (tyInt .i64) l6x5)] [(fDat (tyList (tyList (tyInt .i64))) [v0_0] a0), (fDat (tyList (tyInt .i64)) [s29] u26), (fPtr (tyList (tyInt .i64)) p28 u26)])) (fun i => (tab [(0, v0_0), (5, l6v5), (6, (Value.int .i64 (-1 : Int))), (7, (Value.int .i64 l19i23)), (9, (Value.bool i.1)), (18, (Value.int .i64 (a0.length : Int))), (19, (Value.int .i64 l6i19)), (21, v0_0), (22, (Value.int .i64 (a0.length : Int))), (23, (Value.int .i64 l19i23)), (32, s29), (33, (Value.int .i64 (u26.length : Int))), (34, (Value.int .i64 i.2))])) (fun q i => f_lumref_Order_L37 l6x5 u26 kk33 fu q i.1 i.2 = some r) ?_ fu ((!r31), (0 : Int)) h) (fun w a hm hs => norm hm hs [0] [2, 0, 1] [(0, v0_0), (5, l6v5), (6, (Value.int .i64 (-1 : Int))), (7, (Value.int .i64 l19i23)), (9, (Value.bool (!r31))), (18, (Value.int .i64 (a0.length : Int))), (19, (Value.int .i64 l6i19)), (21, v0_0), (22, (Value.int .i64 (a0.length : Int))), (23, (Value.int .i64 l19i23)), (32, s29), (33, (Value.int .i64 (u26.length : Int))), (34, (Value.int .i64 (0 : Int)))] (by decide) ⟨rfl, rfl, rfl, rfl, rfl, rfl, rfl, rfl, rfl, rfl, rfl, rfl, rfl, trivial⟩)
                  clear h
                  rintro k36 ⟨l35b9, l35i34⟩ h
                  have h : f_lumref_Order_L37 l6x5 u26 kk33 fu k36 l35b9 l35i34 = some r := h
                  obtain _ | k36 := k36
                  · rw [f_lumref_Order_L37] at h; cases h
                  rw [f_lumref_Order_L37] at h
                  refine aw_show (m := (memOf w0 Z0 [] [(oRow l6v5 3 (tyInt .i64) l6x5)] [(fDat (tyList (tyList (tyInt .i64))) [v0_0] a0), (fDat (tyList (tyInt .i64)) [s29] u26), (fPtr (tyList (tyInt .i64)) p28 u26)])) (S := (tab [(0, v0_0), (5, l6v5), (6, (Value.int .i64 (-1 : Int))), (7, (Value.int .i64 l19i23)), (9, (Value.bool l35b9)), (18, (Value.int .i64 (a0.length : Int))), (19, (Value.int .i64 l6i19)), (21, v0_0), (22, (Value.int .i64 (a0.length : Int))), (23, (Value.int .i64 l19i23)), (32, s29), (33, (Value.int .i64 (u26.length : Int))), (34, (Value.int .i64 l35i34))])) ?_
                  refine aw_seq ?_
                  refine aw_region ?_
                  refine al_val (ov_int rfl rfl rfl rfl) ?_
                  refine al_nil ?_
                  refine aq_then ?_
                  refine aw_seq ?_
                  refine aw_cond rfl (fun hb38 => ?_) (fun hb38 => ?_)
                  · replace h := bif_t hb38 h
                    refine aw_skip ?_
                    refine aq_then ?_
                    obtain ⟨kk40, hkk40, h⟩ := lt_some h
                    refine aw_seq_join (ι := Bool) (fun i => (memOf w0 Z0 [] [(oRow l6v5 3 (tyInt .i64) l6x5)] [(fDat (tyList (tyList (tyInt .i64))) [v0_0] a0), (fDat (tyList (tyInt .i64)) [s29] u26), (fPtr (tyList (tyInt .i64)) p28 u26)])) (fun i => (tab [(0, v0_0), (5, l6v5), (6, (Value.int .i64 (-1 : Int))), (7, (Value.int .i64 l19i23)), (9, (Value.bool i)), (18, (Value.int .i64 (a0.length : Int))), (19, (Value.int .i64 l6i19)), (21, v0_0), (22, (Value.int .i64 (a0.length : Int))), (23, (Value.int .i64 l19i23)), (32, s29), (33, (Value.int .i64 (u26.length : Int))), (34, (Value.int .i64 l35i34))])) (fun i => kk40 i = some r) ?_ ?_
                    · rintro j39b9 h
                      have h : kk40 j39b9 = some r := h
                      rw [hkk40] at h
                      dsimp only at h
                      clear hkk40
                      refine aw_show (m := (memOf w0 Z0 [] [(oRow l6v5 3 (tyInt .i64) l6x5)] [(fDat (tyList (tyList (tyInt .i64))) [v0_0] a0), (fDat (tyList (tyInt .i64)) [s29] u26), (fPtr (tyList (tyInt .i64)) p28 u26)])) (S := (tab [(0, v0_0), (5, l6v5), (6, (Value.int .i64 (-1 : Int))), (7, (Value.int .i64 l19i23)), (9, (Value.bool j39b9)), (18, (Value.int .i64 (a0.length : Int))), (19, (Value.int .i64 l6i19)), (21, v0_0), (22, (Value.int .i64 (a0.length : Int))), (23, (Value.int .i64 l19i23)), (32, s29), (33, (Value.int .i64 (u26.length : Int))), (34, (Value.int .i64 l35i34))])) ?_
                      refine aw_region ?_
                      refine al_val (ov_int rfl rfl rfl rfl) ?_
                      refine al_val (ov_move rfl rfl) ?_
                      refine al_nil ?_
                      exact aq_again k36 (j39b9, (IntKind.i64.wrap (l35i34 + (1 : Int)))) (Nat.lt_succ_self _) h (fun w a hm hs => norm hm hs [0] [0, 1, 2] [(0, v0_0), (5, l6v5), (6, (Value.int .i64 (-1 : Int))), (7, (Value.int .i64 l19i23)), (9, (Value.bool j39b9)), (18, (Value.int .i64 (a0.length : Int))), (19, (Value.int .i64 l6i19)), (21, v0_0), (22, (Value.int .i64 (a0.length : Int))), (23, (Value.int .i64 l19i23)), (32, s29), (33, (Value.int .i64 (u26.length : Int))), (34, (Value.int .i64 (IntKind.i64.wrap (l35i34 + (1 : Int)))))] (by decide) ⟨rfl, rfl, rfl, rfl, rfl, rfl, rfl, rfl, rfl, rfl, rfl, rfl, rfl, trivial⟩)
                    · clear hkk40
                      refine aw_block ?_
                      refine aw_seq ?_
                      refine aw_region ?_
                      obtain ⟨u41, hu42, h⟩ := opt_some h
                      refine al_idxD 1 hu42 rfl rfl rfl Try.underlying24 sz3 rfl (fun p43 => ?_)
                      refine al_val (ov_loadP (ds := [(Value.int .i64 u41)]) 0 rfl (fun h => h) rfl Try.underlying3 sz3 rfl rfl rfl) ?_
                      refine al_val (ov_assign rfl rfl) ?_
                      refine al_nil ?_
                      refine aq_then ?_
                      refine aw_region ?_
                      refine al_val (ov_move rfl rfl) ?_
                      refine al_val (ov_move rfl rfl) ?_
                      refine al_caseB 39 rfl (fun hb44 => ?_) (fun hb44 => ?_)
                      · replace h := bif_t hb44 h
                        refine al_val (ov_move rfl rfl) ?_
                        refine al_val (ov_move rfl rfl) ?_
                        obtain ⟨r46, hc45, h⟩ := opt_some h
                        refine al_call (vs := [l6v5, (Value.int .i64 u41)]) (f_lumref_has_ok fu l6v5 l6x5 u41 hc45) [0] [] [0] (pre_own 0 rfl rfl pre_nil) rfl (by simp) (by decide) (.inr flat_res0) rfl Try.func109 rfl rfl rfl (fun _ => ?_)
                        refine al_val (ov_pick_t rfl rfl rfl) ?_
                        refine al_val (ov_assign rfl rfl) ?_
                        refine al_nil ?_
                        refine aq_block ?_
                        exact aq_join r46 h (fun w a hm hs => norm hm hs [0] [1, 2, 3] [(0, v0_0), (5, l6v5), (6, (Value.int .i64 (-1 : Int))), (7, (Value.int .i64 l19i23)), (9, (Value.bool r46)), (18, (Value.int .i64 (a0.length : Int))), (19, (Value.int .i64 l6i19)), (21, v0_0), (22, (Value.int .i64 (a0.length : Int))), (23, (Value.int .i64 l19i23)), (32, s29), (33, (Value.int .i64 (u26.length : Int))), (34, (Value.int .i64 l35i34))] (by decide) ⟨rfl, rfl, rfl, rfl, rfl, rfl, rfl, rfl, rfl, rfl, rfl, rfl, rfl, trivial⟩)
                      · replace h := bif_f hb44 h
                        refine al_skip ?_
                        refine al_skip ?_
                        refine al_skip ?_
                        refine al_val (ov_pick_f rfl rfl rfl) ?_
                        refine al_val (ov_assign rfl rfl) ?_
                        refine al_nil ?_
                        refine aq_block ?_
                        exact aq_join false h (fun w a hm hs => norm hm hs [0] [1, 2, 3] [(0, v0_0), (5, l6v5), (6, (Value.int .i64 (-1 : Int))), (7, (Value.int .i64 l19i23)), (9, (Value.bool false)), (18, (Value.int .i64 (a0.length : Int))), (19, (Value.int .i64 l6i19)), (21, v0_0), (22, (Value.int .i64 (a0.length : Int))), (23, (Value.int .i64 l19i23)), (32, s29), (33, (Value.int .i64 (u26.length : Int))), (34, (Value.int .i64 l35i34))] (by decide) ⟨rfl, rfl, rfl, rfl, rfl, rfl, rfl, rfl, rfl, rfl, rfl, rfl, rfl, trivial⟩)
                  · replace h := bif_f hb38 h
                    refine aw_exit ?_
                    refine aq_then_exit ?_
                    refine aq_then_exit ?_
                    refine aq_block_exit ?_
                    exact aq_join l35b9 h (fun w a hm hs => norm hm hs [0] [0, 1, 2] [(0, v0_0), (5, l6v5), (6, (Value.int .i64 (-1 : Int))), (7, (Value.int .i64 l19i23)), (9, (Value.bool l35b9)), (18, (Value.int .i64 (a0.length : Int))), (19, (Value.int .i64 l6i19)), (21, v0_0), (22, (Value.int .i64 (a0.length : Int))), (23, (Value.int .i64 l19i23))] (by decide) ⟨rfl, rfl, rfl, rfl, rfl, rfl, rfl, rfl, rfl, rfl, trivial⟩)
            · replace h := bif_f hb23 h
              refine aw_exit ?_
              refine aq_then_exit ?_
              refine aq_then_exit ?_
              refine aq_block_exit ?_
              exact aq_join (-1 : Int) h (fun w a hm hs => norm hm hs [0] [0] [(0, v0_0), (5, l6v5), (6, (Value.int .i64 (-1 : Int))), (18, (Value.int .i64 (a0.length : Int))), (19, (Value.int .i64 l6i19))] (by decide) ⟨rfl, rfl, rfl, rfl, rfl, trivial⟩)
      · replace h := bif_f hb10 h
        refine aw_exit ?_
        refine aq_then_exit ?_
        refine aq_then_exit ?_
        refine aq_block_exit ?_
        exact aq_join (l6v5, l6x5) h (fun w a hm hs => norm hm hs [0] [0] [(5, l6v5)] (by decide) ⟨rfl, trivial⟩)
def f_slices_Equal___bool_bool__L6 (a0 : (List Bool)) (a1 : (List Bool)) (kk3 : (Unit → Option Bool)) : Nat → Int → Option Bool
  | 0, _ => none
  | k5 + 1, l4i13 => (bif (decide (l4i13 < (a0.length : Int))) then (opt (at? a0 l4i13) fun (u8 : Bool) => (opt (at? a1 l4i13) fun (u11 : Bool) => (bif (u8 != u11) then (some false) else (f_slices_Equal___bool_bool__L6 a0 a1 kk3 k5 (IntKind.i64.wrap (l4i13 + (1 : Int))))))) else (kk3 ()))
def f_slices_Equal___bool_bool_ (fu : Nat) (a0 : (List Bool)) (a1 : (List Bool)) : Option Bool := (bif ((a0.length : Int) != (a1.length : Int)) then (some false) else (lt (fun (_ : Unit) => (some true)) fun (kk3 : Unit → Option Bool) => (f_slices_Equal___bool_bool__L6 a0 a1 kk3 fu (0 : Int))))
set_option maxRecDepth 100000 in
theorem f_slices_Equal___bool_bool__ok (fu : Nat) (v0_0 : Value) (a0 : (List Bool)) (v1_0 : Value) (a1 : (List Bool)) {r : Bool} (h : f_slices_Equal___bool_bool_ fu a0 a1 = some r) : FnOk Try.prog 74 [v0_0, v1_0] [(fDat (tyList tyBool) [v0_0] a0), (fDat (tyList tyBool) [v1_0] a1)] [] (fun (i : Unit) => { val := (Value.bool r) }) := by
  unfold f_slices_Equal___bool_bool_ at h
  refine fn_enter Try.func74 rfl Try.ntmps74 rfl (fun w0 Z0 => ?_)
  refine aw_seq ?_
  refine aw_region ?_
  refine al_val (ov_assign rfl rfl) ?_
  refine al_nil ?_
  refine aq_then ?_
  refine aw_seq ?_
  refine aw_seq ?_
  refine aw_region ?_
  refine al_val (ov_move rfl rfl) ?_
  refine al_val (ov_lenD 0 rfl rfl Try.underlying110 rfl) ?_
  refine al_val (ov_move rfl rfl) ?_
  refine al_val (ov_lenD 1 rfl rfl Try.underlying110 rfl) ?_
  refine al_val (ov_int rfl rfl rfl rfl) ?_
  refine al_nil ?_
  refine aq_then ?_
  refine aw_cond rfl (fun hb1 => ?_) (fun hb1 => ?_)
  · replace h := bif_t hb1 h
    refine aw_seq ?_
    refine aw_region ?_
    refine al_val (ov_assign rfl rfl) ?_
    refine al_nil ?_
    refine aq_then ?_
    refine aw_ret ?_
    refine aq_then_ret ?_
    obtain rfl := Option.some.inj h
    exact fn_ret () [] [] rfl rfl rfl rfl (res1 rfl rfl) rfl rfl rfl (by decide)
  · replace h := bif_f hb1 h
    refine aw_skip ?_
    refine aq_then ?_
    obtain ⟨kk3, hkk3, h⟩ := lt_some h
    refine aw_seq_join (ι := Unit) (fun i => (memOf w0 Z0 [] [] [(fDat (tyList tyBool) [v0_0] a0), (fDat (tyList tyBool) [v1_0] a1)])) (fun i => (tab [])) (fun i => kk3 () = some r) ?_ ?_
    · rintro _ h
      have h : kk3 () = some r := h
      rw [hkk3] at h
      dsimp only at h
      clear hkk3
      refine aw_show (m := (memOf w0 Z0 [] [] [(fDat (tyList tyBool) [v0_0] a0), (fDat (tyList tyBool) [v1_0] a1)])) (S := (tab [])) ?_
      refine aw_seq ?_
      refine aw_region ?_
      refine al_val (ov_assign rfl rfl) ?_
      refine al_nil ?_
      refine aq_then ?_
      refine aw_ret ?_
      obtain rfl := Option.some.inj h
      exact fn_ret () [] [] rfl rfl rfl rfl (res1 rfl rfl) rfl rfl rfl (by decide)
    · clear hkk3
      refine aw_seq ?_
      refine aw_region ?_
      refine al_val (ov_move rfl rfl) ?_
      refine al_val (ov_lenD 0 rfl rfl Try.underlying110 rfl) ?_
      refine al_val (ov_move rfl rfl) ?_
      refine al_nil ?_
      refine aq_then ?_
      refine aw_block ?_
      refine aw_state (aw_loop (ι := Int) (fun i => (memOf w0 Z0 [] [] [(fDat (tyList tyBool) [v0_0] a0), (fDat (tyList tyBool) [v1_0] a1)])) (fun i => (tab [(0, v0_0), (1, v1_0), (12, (Value.int .i64 (a0.length : Int))), (13, (Value.int .i64 i))])) (fun q i => f_slices_Equal___bool_bool__L6 a0 a1 kk3 q i = some r) ?_ fu (0 : Int) h) (fun w a hm hs => norm hm hs [] [0, 1] [(0, v0_0), (1, v1_0), (12, (Value.int .i64 (a0.length : Int))), (13, (Value.int .i64 (0 : Int)))] (by decide) ⟨rfl, rfl, rfl, rfl, trivial⟩)
      clear h
      rintro k5 l4i13 h
      have h : f_slices_Equal___bool_bool__L6 a0 a1 kk3 k5 l4i13 = some r := h
      obtain _ | k5 := k5
      · rw [f_slices_Equal___bool_bool__L6] at h; cases h
      rw [f_slices_Equal___bool_bool__L6] at h
      refine aw_show (m := (memOf w0 Z0 [] [] [(fDat (tyList tyBool) [v0_0] a0), (fDat (tyList tyBool) [v1_0] a1)])) (S := (tab [(0, v0_0), (1, v1_0), (12, (Value.int .i64 (a0.length : Int))), (13, (Value.int .i64 l4i13))])) ?_
      refine aw_seq ?_
      refine aw_region ?_
      refine al_val (ov_int rfl rfl rfl rfl) ?_
      refine al_nil ?_
      refine aq_then ?_
      refine aw_seq ?_
      refine aw_cond rfl (fun hb7 => ?_) (fun hb7 => ?_)
      · replace h := bif_t hb7 h
        refine aw_skip ?_
        refine aq_then ?_
        refine aw_seq ?_
        refine aw_block ?_
        refine aw_seq ?_
        refine aw_region ?_
        refine al_val (ov_move rfl rfl) ?_
        refine al_val (ov_assign rfl rfl) ?_
        refine al_nil ?_
        refine aq_then ?_
        refine aw_seq ?_
        obtain ⟨u8, hu9, h⟩ := opt_some h
        obtain ⟨u11, hu12, h⟩ := opt_some h
        refine aw_region_draw 8 [(16, (fun u => fEq u v0_0)), (17, (fun u => fEq u (Value.int .i64 l4i13))), (18, (fun p10 => (fPtr tyBool p10 u8))), (19, (fun u => fEq u (Value.bool u8))), (20, (fun u => fEq u v1_0)), (21, (fun u => fEq u (Value.int .i64 l4i13))), (22, (fun p13 => (fPtr tyBool p13 u11))), (23, (fun u => fEq u (Value.bool u11)))] (tab [(0, v0_0), (1, v1_0), (5, (Value.int .i64 l4i13)), (12, (Value.int .i64 (a0.length : Int))), (13, (Value.int .i64 l4i13))]) mixed (by kernel_rfl) rfl rfl rfl (fun a hs => hs.tab _ (allT_mem ⟨rfl, rfl, rfl, rfl, rfl, trivial⟩)) ⟨⟨rfl, ld_val (ov_move rfl rfl)⟩, ⟨rfl, ld_val (ov_move rfl rfl)⟩, ⟨rfl, ld_eq (j := 0) rfl rfl (ld_eq (j := 1) rfl rfl (ld_of (of_idxD 0 hu9 rfl rfl rfl Try.underlying110 sz4 rfl)))⟩, ⟨rfl, ld_fact (j := 2) rfl rfl (fun p10 => ld_val (ov_loadP (ds := [(Value.bool u8)]) 0 rfl (fun h => h) rfl Try.underlying4 sz4 rfl rfl rfl))⟩, ⟨rfl, ld_val (ov_move rfl rfl)⟩, ⟨rfl, ld_val (ov_move rfl rfl)⟩, ⟨rfl, ld_eq (j := 4) rfl rfl (ld_eq (j := 5) rfl rfl (ld_of (of_idxD 1 hu12 rfl rfl rfl Try.underlying110 sz4 rfl)))⟩, ⟨rfl, ld_fact (j := 6) rfl rfl (fun p13 => ld_val (ov_loadP (ds := [(Value.bool u11)]) 0 rfl (fun h => h) rfl Try.underlying4 sz4 rfl rfl rfl))⟩, trivial⟩ ?_
        refine tl_eq 3 rfl ?_
        refine tl_eq 7 rfl ?_
        refine tl_done ?_
        refine al_val (ov_boolNe Try.underlying4 rfl rfl rfl) ?_
        refine al_nil ?_
        refine aq_then ?_
        refine aw_cond rfl (fun hb14 => ?_) (fun hb14 => ?_)
        · replace h := bif_t hb14 h
          refine aw_seq ?_
          refine aw_region ?_
          refine al_val (ov_assign rfl rfl) ?_
          refine al_nil ?_
          refine aq_then ?_
          refine aw_ret ?_
          refine aq_block_ret ?_
          refine aq_then_ret ?_
          refine aq_then_ret ?_
          refine aq_block_ret ?_
          refine aq_then_ret ?_
          obtain rfl := Option.some.inj h
          exact fn_ret () [] [] rfl rfl rfl rfl (res1 rfl rfl) rfl rfl rfl (by decide)
        · replace h := bif_f hb14 h
          refine aw_skip ?_
          refine aq_block ?_
          refine aq_then ?_
          refine aw_region ?_
          refine al_val (ov_int rfl rfl rfl rfl) ?_
          refine al_val (ov_move rfl rfl) ?_
          refine al_nil ?_
          exact aq_again k5 (IntKind.i64.wrap (l4i13 + (1 : Int))) (Nat.lt_succ_self _) h (fun w a hm hs => norm hm hs [] [0, 1] [(0, v0_0), (1, v1_0), (12, (Value.int .i64 (a0.length : Int))), (13, (Value.int .i64 (IntKind.i64.wrap (l4i13 + (1 : Int)))))] (by decide) ⟨rfl, rfl, rfl, rfl, trivial⟩)
      · replace h := bif_f hb7 h
        refine aw_exit ?_
        refine aq_then_exit ?_
        refine aq_then_exit ?_
        refine aq_block_exit ?_
        exact aq_join () h (fun w a hm hs => norm hm hs [] [0, 1] [] (by decide) trivial)
def f_slices_Equal___int_int__L6 (a0 : (List Int)) (a1 : (List Int)) (kk3 : (Unit → Option Bool)) : Nat → Int → Option Bool
  | 0, _ => none
  | k5 + 1, l4i13 => (bif (decide (l4i13 < (a0.length : Int))) then (opt (at? a0 l4i13) fun (u8 : Int) => (opt (at? a1 l4i13) fun (u11 : Int) => (bif (u8 != u11) then (some false) else (f_slices_Equal___int_int__L6 a0 a1 kk3 k5 (IntKind.i64.wrap (l4i13 + (1 : Int))))))) else (kk3 ()))
def f_slices_Equal___int_int_ (fu : Nat) (a0 : (List Int)) (a1 : (List Int)) : Option Bool := (bif ((a0.length : Int) != (a1.length : Int)) then (some false) else (lt (fun (_ : Unit) => (some true)) fun (kk3 : Unit → Option Bool) => (f_slices_Equal___int_int__L6 a0 a1 kk3 fu (0 : Int))))
set_option maxRecDepth 100000 in
theorem f_slices_Equal___int_int__ok (fu : Nat) (v0_0 : Value) (a0 : (List Int)) (v1_0 : Value) (a1 : (List Int)) {r : Bool} (h : f_slices_Equal___int_int_ fu a0 a1 = some r) : FnOk Try.prog 37 [v0_0, v1_0] [(fDat (tyList (tyInt .i64)) [v0_0] a0), (fDat (tyList (tyInt .i64)) [v1_0] a1)] [] (fun (i : Unit) => { val := (Value.bool r) }) := by
  unfold f_slices_Equal___int_int_ at h
  refine fn_enter Try.func37 rfl Try.ntmps37 rfl (fun w0 Z0 => ?_)
  refine aw_seq ?_
  refine aw_region ?_
  refine al_val (ov_assign rfl rfl) ?_
  refine al_nil ?_
  refine aq_then ?_
  refine aw_seq ?_
  refine aw_seq ?_
  refine aw_region ?_
  refine al_val (ov_move rfl rfl) ?_
  refine al_val (ov_lenD 0 rfl rfl Try.underlying24 rfl) ?_
  refine al_val (ov_move rfl rfl) ?_
  refine al_val (ov_lenD 1 rfl rfl Try.underlying24 rfl) ?_
  refine al_val (ov_int rfl rfl rfl rfl) ?_
  refine al_nil ?_
  refine aq_then ?_
  refine aw_cond rfl (fun hb1 => ?_) (fun hb1 => ?_)
  · replace h := bif_t hb1 h
    refine aw_seq ?_
    refine aw_region ?_
    refine al_val (ov_assign rfl rfl) ?_
    refine al_nil ?_
    refine aq_then ?_
    refine aw_ret ?_
    refine aq_then_ret ?_
    obtain rfl := Option.some.inj h
    exact fn_ret () [] [] rfl rfl rfl rfl (res1 rfl rfl) rfl rfl rfl (by decide)
  · replace h := bif_f hb1 h
    refine aw_skip ?_
    refine aq_then ?_
    obtain ⟨kk3, hkk3, h⟩ := lt_some h
    refine aw_seq_join (ι := Unit) (fun i => (memOf w0 Z0 [] [] [(fDat (tyList (tyInt .i64)) [v0_0] a0), (fDat (tyList (tyInt .i64)) [v1_0] a1)])) (fun i => (tab [])) (fun i => kk3 () = some r) ?_ ?_
    · rintro _ h
      have h : kk3 () = some r := h
      rw [hkk3] at h
      dsimp only at h
      clear hkk3
      refine aw_show (m := (memOf w0 Z0 [] [] [(fDat (tyList (tyInt .i64)) [v0_0] a0), (fDat (tyList (tyInt .i64)) [v1_0] a1)])) (S := (tab [])) ?_
      refine aw_seq ?_
      refine aw_region ?_
      refine al_val (ov_assign rfl rfl) ?_
      refine al_nil ?_
      refine aq_then ?_
      refine aw_ret ?_
      obtain rfl := Option.some.inj h
      exact fn_ret () [] [] rfl rfl rfl rfl (res1 rfl rfl) rfl rfl rfl (by decide)
    · clear hkk3
      refine aw_seq ?_
      refine aw_region ?_
      refine al_val (ov_move rfl rfl) ?_
      refine al_val (ov_lenD 0 rfl rfl Try.underlying24 rfl) ?_
      refine al_val (ov_move rfl rfl) ?_
      refine al_nil ?_
      refine aq_then ?_
      refine aw_block ?_
      refine aw_state (aw_loop (ι := Int) (fun i => (memOf w0 Z0 [] [] [(fDat (tyList (tyInt .i64)) [v0_0] a0), (fDat (tyList (tyInt .i64)) [v1_0] a1)])) (fun i => (tab [(0, v0_0), (1, v1_0), (12, (Value.int .i64 (a0.length : Int))), (13, (Value.int .i64 i))])) (fun q i => f_slices_Equal___int_int__L6 a0 a1 kk3 q i = some r) ?_ fu (0 : Int) h) (fun w a hm hs => norm hm hs [] [0, 1] [(0, v0_0), (1, v1_0), (12, (Value.int .i64 (a0.length : Int))), (13, (Value.int .i64 (0 : Int)))] (by decide) ⟨rfl, rfl, rfl, rfl, trivial⟩)
      clear h
      rintro k5 l4i13 h
      have h : f_slices_Equal___int_int__L6 a0 a1 kk3 k5 l4i13 = some r := h
      obtain _ | k5 := k5
      · rw [f_slices_Equal___int_int__L6] at h; cases h
      rw [f_slices_Equal___int_int__L6] at h
      refine aw_show (m := (memOf w0 Z0 [] [] [(fDat (tyList (tyInt .i64)) [v0_0] a0), (fDat (tyList (tyInt .i64)) [v1_0] a1)])) (S := (tab [(0, v0_0), (1, v1_0), (12, (Value.int .i64 (a0.length : Int))), (13, (Value.int .i64 l4i13))])) ?_
      refine aw_seq ?_
      refine aw_region ?_
      refine al_val (ov_int rfl rfl rfl rfl) ?_
      refine al_nil ?_
      refine aq_then ?_
      refine aw_seq ?_
      refine aw_cond rfl (fun hb7 => ?_) (fun hb7 => ?_)
      · replace h := bif_t hb7 h
        refine aw_skip ?_
        refine aq_then ?_
        refine aw_seq ?_
        refine aw_block ?_
        refine aw_seq ?_
        refine aw_region ?_
        refine al_val (ov_move rfl rfl) ?_
        refine al_val (ov_assign rfl rfl) ?_
        refine al_nil ?_
        refine aq_then ?_
        refine aw_seq ?_
        obtain ⟨u8, hu9, h⟩ := opt_some h
        obtain ⟨u11, hu12, h⟩ := opt_some h
        refine aw_region_draw 8 [(16, (fun u => fEq u v0_0)), (17, (fun u => fEq u (Value.int .i64 l4i13))), (18, (fun p10 => (fPtr (tyInt .i64) p10 u8))), (19, (fun u => fEq u (Value.int .i64 u8))), (20, (fun u => fEq u v1_0)), (21, (fun u => fEq u (Value.int .i64 l4i13))), (22, (fun p13 => (fPtr (tyInt .i64) p13 u11))), (23, (fun u => fEq u (Value.int .i64 u11)))] (tab [(0, v0_0), (1, v1_0), (5, (Value.int .i64 l4i13)), (12, (Value.int .i64 (a0.length : Int))), (13, (Value.int .i64 l4i13))]) mixed (by kernel_rfl) rfl rfl rfl (fun a hs => hs.tab _ (allT_mem ⟨rfl, rfl, rfl, rfl, rfl, trivial⟩)) ⟨⟨rfl, ld_val (ov_move rfl rfl)⟩, ⟨rfl, ld_val (ov_move rfl rfl)⟩, ⟨rfl, ld_eq (j := 0) rfl rfl (ld_eq (j := 1) rfl rfl (ld_of (of_idxD 0 hu9 rfl rfl rfl Try.underlying24 sz3 rfl)))⟩, ⟨rfl, ld_fact (j := 2) rfl rfl (fun p10 => ld_val (ov_loadP (ds := [(Value.int .i64 u8)]) 0 rfl (fun h => h) rfl Try.underlying3 sz3 rfl rfl rfl))⟩, ⟨rfl, ld_val (ov_move rfl rfl)⟩, ⟨rfl, ld_val (ov_move rfl rfl)⟩, ⟨rfl, ld_eq (j := 4) rfl rfl (ld_eq (j := 5) rfl rfl (ld_of (of_idxD 1 hu12 rfl rfl rfl Try.underlying24 sz3 rfl)))⟩, ⟨rfl, ld_fact (j := 6) rfl rfl (fun p13 => ld_val (ov_loadP (ds := [(Value.int .i64 u11)]) 0 rfl (fun h => h) rfl Try.underlying3 sz3 rfl rfl rfl))⟩, trivial⟩ ?_
        refine tl_eq 3 rfl ?_
        refine tl_eq 7 rfl ?_
        refine tl_done ?_
        refine al_val (ov_int rfl rfl rfl rfl) ?_
        refine al_nil ?_
        refine aq_then ?_
        refine aw_cond rfl (fun hb14 => ?_) (fun hb14 => ?_)
        · replace h := bif_t hb14 h
          refine aw_seq ?_
          refine aw_region ?_
          refine al_val (ov_assign rfl rfl) ?_
          refine al_nil ?_
          refine aq_then ?_
          refine aw_ret ?_
          refine aq_block_ret ?_
          refine aq_then_ret ?_
          refine aq_then_ret ?_
          refine aq_block_ret ?_
          refine aq_then_ret ?_
          obtain rfl := Option.some.inj h
          exact fn_ret () [] [] rfl rfl rfl rfl (res1 rfl rfl) rfl rfl rfl (by decide)
        · replace h := bif_f hb14 h
          refine aw_skip ?_
          refine aq_block ?_
          refine aq_then ?_
          refine aw_region ?_
          refine al_val (ov_int rfl rfl rfl rfl) ?_
          refine al_val (ov_move rfl rfl) ?_
          refine al_nil ?_
          exact aq_again k5 (IntKind.i64.wrap (l4i13 + (1 : Int))) (Nat.lt_succ_self _) h (fun w a hm hs => norm hm hs [] [0, 1] [(0, v0_0), (1, v1_0), (12, (Value.int .i64 (a0.length : Int))), (13, (Value.int .i64 (IntKind.i64.wrap (l4i13 + (1 : Int)))))] (by decide) ⟨rfl, rfl, rfl, rfl, trivial⟩)
      · replace h := bif_f hb7 h
        refine aw_exit ?_
        refine aq_then_exit ?_
        refine aq_then_exit ?_
        refine aq_block_exit ?_
        exact aq_join () h (fun w a hm hs => norm hm hs [] [0, 1] [] (by decide) trivial)
def f_lumlaw_GraphSays (fu : Nat) (a0 : (List (List Int))) (a1 : (List Int)) : Option Bool := (opt (f_graph_Reach fu a0 a1) fun (r2 : ((List Bool) × Int)) => (opt (f_lumref_Reach fu a0 a1) fun (r5 : ((List Bool) × Int)) => (opt (f_graph_Order fu a0) fun (r8 : ((List Int) × Int)) => (opt (f_lumref_Order fu a0) fun (r11 : ((List Int) × Int)) => (lt (fun (j13x11 : (List Int)) => (lt (fun (j15b4 : Bool) => (some j15b4)) fun (kk16 : Bool → Option Bool) => (opt (f_graph_Check fu a0) fun (r18 : Int) => (opt (f_lumref_Graph fu a0) fun (r20 : Int) => (bif (r18 == r20) then (opt (f_slices_Equal___bool_bool_ fu r2.1 r5.1) fun (r23 : Bool) => (bif r23 then (bif (r2.2 == r5.2) then (opt (f_slices_Equal___int_int_ fu r8.1 j13x11) fun (r27 : Bool) => (bif r27 then (kk16 (r8.2 == r11.2)) else (kk16 false))) else (kk16 false)) else (kk16 false))) else (kk16 false)))))) fun (kk14 : (List Int) → Option Bool) => (bif (r11.2 != (0 : Int)) then (kk14 ([] : List Int)) else (kk14 r11.1)))))))
set_option maxRecDepth 100000 in
theorem f_lumlaw_GraphSays_ok (fu : Nat) (v0_0 : Value) (a0 : (List (List Int))) (v1_0 : Value) (a1 : (List Int)) {r : Bool} (h : f_lumlaw_GraphSays fu a0 a1 = some r) : FnOk Try.prog 14 [v0_0, v1_0] [(fDat (tyList (tyList (tyInt .i64))) [v0_0] a0), (fDat (tyList (tyInt .i64)) [v1_0] a1)] [] (fun (i : Unit) => { val := (Value.bool r) }) := by
  unfold f_lumlaw_GraphSays at h
  refine fn_enter Try.func14 rfl Try.ntmps14 rfl (fun w0 Z0 => ?_)
  refine aw_seq ?_
  refine aw_region ?_
  refine al_val (ov_assign rfl rfl) ?_
  refine al_nil ?_
  refine aq_then ?_
  refine aw_seq ?_
  refine aw_region ?_
  refine al_val (ov_move rfl rfl) ?_
  refine al_val (ov_move rfl rfl) ?_
  obtain ⟨r2, hc1, h⟩ := opt_some h
  refine al_call (vs := [v0_0, v1_0]) (f_graph_Reach_ok fu v0_0 a0 v1_0 a1 hc1) [] [] [] (pre_fz 0 rfl (pre_fz 1 rfl pre_nil)) rfl (by simp) (by decide) (.inl rfl) rfl Try.func68 rfl rfl rfl (fun v3 => ?_)
  refine al_val (ov_move rfl rfl) ?_
  refine al_val (ov_extract rfl rfl rfl) ?_
  refine al_val (ov_extract rfl rfl rfl) ?_
  refine al_val (ov_assign rfl rfl) ?_
  refine al_val (ov_assign rfl rfl) ?_
  refine al_nil ?_
  refine aq_then ?_
  refine aw_seq ?_
  refine aw_region ?_
  refine al_val (ov_move rfl rfl) ?_
  refine al_val (ov_move rfl rfl) ?_
  obtain ⟨r5, hc4, h⟩ := opt_some h
  refine al_call (vs := [v0_0, v1_0]) (f_lumref_Reach_ok fu v0_0 a0 v1_0 a1 hc4) [] [] [0] (pre_fz 0 rfl (pre_fz 1 rfl pre_nil)) rfl (by simp) (by decide) (.inl rfl) rfl Try.func69 rfl rfl rfl (fun v6 => ?_)
  refine al_val (ov_move rfl rfl) ?_
  refine al_val (ov_extract rfl rfl rfl) ?_
  refine al_val (ov_extract rfl rfl rfl) ?_
  refine al_val (ov_assign rfl rfl) ?_
  refine al_val (ov_assign rfl rfl) ?_
  refine al_nil ?_
  refine aq_then ?_
  refine aw_seq ?_
  refine aw_region ?_
  refine al_val (ov_move rfl rfl) ?_
  obtain ⟨r8, hc7, h⟩ := opt_some h
  refine al_call (vs := [v0_0]) (f_graph_Order_ok fu v0_0 a0 hc7) [] [] [0, 1] (pre_fz 0 rfl pre_nil) rfl (by simp) (by decide) (.inl rfl) rfl Try.func70 rfl rfl rfl (fun v9 => ?_)
  refine al_val (ov_move rfl rfl) ?_
  refine al_val (ov_extract rfl rfl rfl) ?_
  refine al_val (ov_extract rfl rfl rfl) ?_
  refine al_val (ov_assign rfl rfl) ?_
  refine al_val (ov_assign rfl rfl) ?_
  refine al_nil ?_
  refine aq_then ?_
  refine aw_seq ?_
  refine aw_region ?_
  refine al_val (ov_move rfl rfl) ?_
  obtain ⟨r11, hc10, h⟩ := opt_some h
  refine al_call (vs := [v0_0]) (f_lumref_Order_ok fu v0_0 a0 hc10) [] [] [0, 1, 2] (pre_fz 0 rfl pre_nil) rfl (by simp) (by decide) (.inl rfl) rfl Try.func71 rfl rfl rfl (fun v12 => ?_)
  refine al_val (ov_move rfl rfl) ?_
  refine al_val (ov_extract rfl rfl rfl) ?_
  refine al_val (ov_extract rfl rfl rfl) ?_
  refine al_val (ov_assign rfl rfl) ?_
  refine al_val (ov_assign rfl rfl) ?_
  refine al_nil ?_
  refine aq_then ?_
  obtain ⟨kk14, hkk14, h⟩ := lt_some h
  refine aw_seq_join (ι := Value × (List Int)) (fun i => (memOf w0 Z0 [] [(oRow v3 4 tyBool r2.1), (oRow v6 4 tyBool r5.1), (oRow v9 3 (tyInt .i64) r8.1), (oRow i.1 3 (tyInt .i64) i.2)] [(fDat (tyList (tyList (tyInt .i64))) [v0_0] a0), (fDat (tyList (tyInt .i64)) [v1_0] a1)])) (fun i => (tab [(0, v0_0), (5, v3), (6, (Value.int .i64 r2.2)), (7, v6), (8, (Value.int .i64 r5.2)), (9, v9), (10, (Value.int .i64 r8.2)), (11, i.1), (12, (Value.int .i64 r11.2))])) (fun i => kk14 i.2 = some r) ?_ ?_
  · rintro ⟨j13v11, j13x11⟩ h
    have h : kk14 j13x11 = some r := h
    rw [hkk14] at h
    dsimp only at h
    clear hkk14
    refine aw_show (m := (memOf w0 Z0 [] [(oRow v3 4 tyBool r2.1), (oRow v6 4 tyBool r5.1), (oRow v9 3 (tyInt .i64) r8.1), (oRow j13v11 3 (tyInt .i64) j13x11)] [(fDat (tyList (tyList (tyInt .i64))) [v0_0] a0), (fDat (tyList (tyInt .i64)) [v1_0] a1)])) (S := (tab [(0, v0_0), (5, v3), (6, (Value.int .i64 r2.2)), (7, v6), (8, (Value.int .i64 r5.2)), (9, v9), (10, (Value.int .i64 r8.2)), (11, j13v11), (12, (Value.int .i64 r11.2))])) ?_
    obtain ⟨kk16, hkk16, h⟩ := lt_some h
    refine aw_seq_join (ι := Bool) (fun i => (memOf w0 Z0 [] [] [(fDat (tyList (tyList (tyInt .i64))) [v0_0] a0), (fDat (tyList (tyInt .i64)) [v1_0] a1)])) (fun i => (tab [(4, (Value.bool i))])) (fun i => kk16 i = some r) ?_ ?_
    · rintro j15b4 h
      have h : kk16 j15b4 = some r := h
      rw [hkk16] at h
      dsimp only at h
      clear hkk16
      refine aw_show (m := (memOf w0 Z0 [] [] [(fDat (tyList (tyList (tyInt .i64))) [v0_0] a0), (fDat (tyList (tyInt .i64)) [v1_0] a1)])) (S := (tab [(4, (Value.bool j15b4))])) ?_
      refine aw_ret ?_
      obtain rfl := Option.some.inj h
      exact fn_ret () [] [] rfl rfl rfl rfl (res1 rfl rfl) rfl rfl rfl (by decide)
    · clear hkk16
      refine aw_region ?_
      refine al_val (ov_move rfl rfl) ?_
      obtain ⟨r18, hc17, h⟩ := opt_some h
      refine al_call (vs := [v0_0]) (f_graph_Check_ok fu v0_0 a0 hc17) [] [] [0, 1, 2, 3] (pre_fz 0 rfl pre_nil) rfl (by simp) (by decide) (.inl rfl) rfl Try.func72 rfl rfl rfl (fun _ => ?_)
      refine al_val (ov_move rfl rfl) ?_
      obtain ⟨r20, hc19, h⟩ := opt_some h
      refine al_call (vs := [v0_0]) (f_lumref_Graph_ok fu v0_0 a0 hc19) [] [] [0, 1, 2, 3] (pre_fz 0 rfl pre_nil) rfl (by simp) (by decide) (.inl rfl) rfl Try.func73 rfl rfl rfl (fun _ => ?_)
      refine al_val (ov_int rfl rfl rfl rfl) ?_
      refine al_val (ov_move rfl rfl) ?_
      refine al_caseB 42 rfl (fun hb21 => ?_) (fun hb21 => ?_)
      · replace h := bif_t hb21 h
        refine al_val (ov_move rfl rfl) ?_
        refine al_val (ov_move rfl rfl) ?_
        obtain ⟨r23, hc22, h⟩ := opt_some h
        refine al_call (vs := [v3, v6]) (f_slices_Equal___bool_bool__ok fu v3 r2.1 v6 r5.1 hc22) [0, 1] [] [0, 1, 2, 3] (pre_own 0 rfl rfl (pre_own 1 rfl rfl pre_nil)) rfl (by simp) (by decide) (.inr flat_res0) rfl Try.func74 rfl rfl rfl (fun _ => ?_)
        refine al_val (ov_pick_t rfl rfl rfl) ?_
        refine al_val (ov_move rfl rfl) ?_
        refine al_caseB 47 rfl (fun hb24 => ?_) (fun hb24 => ?_)
        · replace h := bif_t hb24 h
          refine al_val (ov_move rfl rfl) ?_
          refine al_val (ov_move rfl rfl) ?_
          refine al_val (ov_int rfl rfl rfl rfl) ?_
          refine al_val (ov_pick_t rfl rfl rfl) ?_
          refine al_val (ov_move rfl rfl) ?_
          refine al_caseB 52 rfl (fun hb25 => ?_) (fun hb25 => ?_)
          · replace h := bif_t hb25 h
            refine al_val (ov_move rfl rfl) ?_
            refine al_val (ov_move rfl rfl) ?_
            obtain ⟨r27, hc26, h⟩ := opt_some h
            refine al_call (vs := [v9, j13v11]) (f_slices_Equal___int_int__ok fu v9 r8.1 j13v11 j13x11 hc26) [2, 3] [] [0, 1, 2, 3] (pre_own 2 rfl rfl (pre_own 3 rfl rfl pre_nil)) rfl (by simp) (by decide) (.inr flat_res0) rfl Try.func37 rfl rfl rfl (fun _ => ?_)
            refine al_val (ov_pick_t rfl rfl rfl) ?_
            refine al_val (ov_move rfl rfl) ?_
            refine al_caseB 57 rfl (fun hb28 => ?_) (fun hb28 => ?_)
            · replace h := bif_t hb28 h
              refine al_val (ov_move rfl rfl) ?_
              refine al_val (ov_move rfl rfl) ?_
              refine al_val (ov_int rfl rfl rfl rfl) ?_
              refine al_val (ov_pick_t rfl rfl rfl) ?_
              refine al_val (ov_assign rfl rfl) ?_
              refine al_nil ?_
              exact aq_join (r8.2 == r11.2) h (fun w a hm hs => norm hm hs [] [0, 1] [(4, (Value.bool (r8.2 == r11.2)))] (by decide) ⟨rfl, trivial⟩)
            · replace h := bif_f hb28 h
              refine al_skip ?_
              refine al_skip ?_
              refine al_skip ?_
              refine al_val (ov_pick_f rfl rfl rfl) ?_
              refine al_val (ov_assign rfl rfl) ?_
              refine al_nil ?_
              exact aq_join false h (fun w a hm hs => norm hm hs [] [0, 1] [(4, (Value.bool false))] (by decide) ⟨rfl, trivial⟩)
          · replace h := bif_f hb25 h
            refine al_skip ?_
            refine al_skip ?_
            refine al_skip ?_
            refine al_val (ov_pick_f rfl rfl rfl) ?_
            refine al_val (ov_move rfl rfl) ?_
            refine al_skip ?_
            refine al_skip ?_
            refine al_skip ?_
            refine al_val (ov_pick_f rfl rfl rfl) ?_
            refine al_val (ov_assign rfl rfl) ?_
            refine al_nil ?_
            exact aq_join false h (fun w a hm hs => norm hm hs [] [0, 1] [(4, (Value.bool false))] (by decide) ⟨rfl, trivial⟩)
        · replace h := bif_f hb24 h
          refine al_skip ?_
          refine al_skip ?_
          refine al_skip ?_
          refine al_val (ov_pick_f rfl rfl rfl) ?_
          refine al_val (ov_move rfl rfl) ?_
          refine al_skip ?_
          refine al_skip ?_
          refine al_skip ?_
          refine al_val (ov_pick_f rfl rfl rfl) ?_
          refine al_val (ov_move rfl rfl) ?_
          refine al_skip ?_
          refine al_skip ?_
          refine al_skip ?_
          refine al_val (ov_pick_f rfl rfl rfl) ?_
          refine al_val (ov_assign rfl rfl) ?_
          refine al_nil ?_
          exact aq_join false h (fun w a hm hs => norm hm hs [] [0, 1] [(4, (Value.bool false))] (by decide) ⟨rfl, trivial⟩)
      · replace h := bif_f hb21 h
        refine al_skip ?_
        refine al_skip ?_
        refine al_skip ?_
        refine al_val (ov_pick_f rfl rfl rfl) ?_
        refine al_val (ov_move rfl rfl) ?_
        refine al_skip ?_
        refine al_skip ?_
        refine al_skip ?_
        refine al_val (ov_pick_f rfl rfl rfl) ?_
        refine al_val (ov_move rfl rfl) ?_
        refine al_skip ?_
        refine al_skip ?_
        refine al_skip ?_
        refine al_val (ov_pick_f rfl rfl rfl) ?_
        refine al_val (ov_move rfl rfl) ?_
        refine al_skip ?_
        refine al_skip ?_
        refine al_skip ?_
        refine al_val (ov_pick_f rfl rfl rfl) ?_
        refine al_val (ov_assign rfl rfl) ?_
        refine al_nil ?_
        exact aq_join false h (fun w a hm hs => norm hm hs [] [0, 1] [(4, (Value.bool false))] (by decide) ⟨rfl, trivial⟩)
  · clear hkk14
    refine aw_seq ?_
    refine aw_region ?_
    refine al_val (ov_move rfl rfl) ?_
    refine al_val (ov_int rfl rfl rfl rfl) ?_
    refine al_nil ?_
    refine aq_then ?_
    refine aw_cond rfl (fun hb29 => ?_) (fun hb29 => ?_)
    · replace h := bif_t hb29 h
      refine aw_region ?_
      refine al_val (ov_assign rfl rfl) ?_
      refine al_nil ?_
      refine aq_nilR 3 (tyInt .i64) ?_
      exact aq_join ((Value.slice none 0 0), ([] : List Int)) h (fun w a hm hs => norm hm hs [4, 3, 2, 0] [0, 1] [(0, v0_0), (5, v3), (6, (Value.int .i64 r2.2)), (7, v6), (8, (Value.int .i64 r5.2)), (9, v9), (10, (Value.int .i64 r8.2)), (11, (Value.slice none 0 0)), (12, (Value.int .i64 r11.2))] (by decide) ⟨rfl, rfl, rfl, rfl, rfl, rfl, rfl, rfl, rfl, trivial⟩)
    · replace h := bif_f hb29 h
      refine aw_skip ?_
      exact aq_join (v12, r11.1) h (fun w a hm hs => norm hm hs [3, 2, 1, 0] [0, 1] [(0, v0_0), (5, v3), (6, (Value.int .i64 r2.2)), (7, v6), (8, (Value.int .i64 r5.2)), (9, v9), (10, (Value.int .i64 r8.2)), (11, v12), (12, (Value.int .i64 r11.2))] (by decide) ⟨rfl, rfl, rfl, rfl, rfl, rfl, rfl, rfl, rfl, trivial⟩)
end Go.Proofs.Ythcmjcnilhglmaa
