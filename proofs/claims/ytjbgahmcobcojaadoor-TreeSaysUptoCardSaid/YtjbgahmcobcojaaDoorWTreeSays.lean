/- Walks by program. No condition. -/
import Derived.Test.YtjbgahmcobcojaaDoorEn19
import Derived.Test.YtjbgahmcobcojaaDoorChecked
import Derived.Test.YtjbgahmcobcojaaDoorEnU
import Derived.Test.YtjbgahmcobcojaaDoorShTrim
import Derived.Test.YtjbgahmcobcojaaDoorShBEApp
import Derived.Test.YtjbgahmcobcojaaDoorEnM
import Derived.Test.YtjbgahmcobcojaaDoorEnB
import Derived.Test.YtjbgahmcobcojaaDoorWTreeSays_a
namespace Go.Proofs.YtjbgahmcobcojaaDoor
open Go.RowKit YtjbgahmcobcojaaDoor.En
set_option linter.unusedVariables false
set_option linter.unusedSimpArgs false
set_option maxRecDepth 100000 in
theorem f_tree_Find_1_ok (fu : Nat) (v0_5 : Value) (a0 : S_api_Node) (c1 : Value) (a1 : (List UInt8)) {r : Bool} (h : f_tree_Find_1 fu a0 a1 = some r) : FnOk Tryd.prog 66 [(ag [(str a0.Name), (Value.int .i64 a0.Kind), (Value.int .i64 a0.Mode), (Value.int .i64 a0.Time), (Value.int .i64 a0.Size), v0_5, (str a0.Link)]), c1] [(fDat (tyList tyA8u8) [v0_5] a0.Parts), (fPtr tyStr c1 a1)] [] (fun (i : Unit) => { val := (Value.bool r) }) := by
  unfold f_tree_Find_1 at h
  refine fn_enter Tryd.func66 rfl Tryd.ntmps66 rfl (fun w0 Z0 => ?_)
  refine aw_seq ?_
  refine aw_region ?_
  refine al_box (vs := [(str a0.Name), (Value.int .i64 a0.Kind), (Value.int .i64 a0.Mode), (Value.int .i64 a0.Time), (Value.int .i64 a0.Size), v0_5, (str a0.Link)]) rfl (cv_rfl rfl) rfl (fun g1 => ?_)
  refine al_val (ov_assign rfl rfl) ?_
  refine al_nil ?_
  refine aq_then ?_
  refine aw_seq ?_
  refine aw_region ?_
  refine al_val (ov_fieldA (p := 0) rfl Tryd.underlying40 rfl sz9 rfl rfl rfl) ?_
  refine al_val (ov_load (i := 0) (v := (str a0.Name)) rfl rfl Tryd.underlying9 sz9 rfl rfl rfl rfl) ?_
  refine al_val (ov_loadP (ds := [(str a1)]) 1 rfl (fun h => h) rfl Tryd.underlying9 sz9 rfl rfl rfl) ?_
  refine al_val (ov_strCmp rfl rfl rfl rfl) ?_
  refine al_val (ov_assign rfl rfl) ?_
  refine al_nil ?_
  refine aq_then ?_
  refine aw_ret ?_
  obtain rfl := Option.some.inj h
  exact fn_ret () [] [] rfl rfl rfl rfl (res1 rfl rfl) rfl rfl rfl (by decide)
-- STUCK slices.IndexFunc[[]lumberroom/api.Node,lumberroom/api.Node]: lty ['func', [40], [4], False]
def f_slices_IndexFunc___api_Node_api_Node__F66_L5 (a0 : (List S_api_Node)) (a1_0 : (List UInt8)) (kk2 : (Unit → Option Int)) (fu : Nat) : Nat → Int → Option Int
  | 0, _ => none
  | k4 + 1, l3i8 => (bif (decide (l3i8 < (a0.length : Int))) then (opt (at? a0 l3i8) fun (u7 : S_api_Node) => (opt (f_tree_Find_1 fu u7 a1_0) fun (r13 : Bool) => (bif r13 then (some l3i8) else (f_slices_IndexFunc___api_Node_api_Node__F66_L5 a0 a1_0 kk2 fu k4 (IntKind.i64.wrap (l3i8 + (1 : Int))))))) else (kk2 ()))
def f_slices_IndexFunc___api_Node_api_Node__F66 (fu : Nat) (a0 : (List S_api_Node)) (a1_0 : (List UInt8)) : Option Int := (lt (fun (_ : Unit) => (some (-1 : Int))) fun (kk2 : Unit → Option Int) => (f_slices_IndexFunc___api_Node_api_Node__F66_L5 a0 a1_0 kk2 fu fu (0 : Int)))
set_option maxRecDepth 100000 in
theorem f_slices_IndexFunc___api_Node_api_Node__F66_ok (fu : Nat) (v0_0 : Value) (a0 : (List S_api_Node)) (c1_0 : Value) (a1_0 : (List UInt8)) {r : Int} (h : f_slices_IndexFunc___api_Node_api_Node__F66 fu a0 a1_0 = some r) : FnOk Tryd.prog 21 [v0_0, (Value.func (.func 66) #[] #[c1_0])] [(fDat (tyList tyS_api_Node) [v0_0] a0), (fPtr tyStr c1_0 a1_0)] [] (fun (i : Unit) => { val := (Value.int .i64 r) }) := by
  unfold f_slices_IndexFunc___api_Node_api_Node__F66 at h
  refine fn_enter Tryd.func21 rfl Tryd.ntmps21 rfl (fun w0 Z0 => ?_)
  refine aw_seq ?_
  refine aw_region ?_
  refine al_val (ov_assign rfl rfl) ?_
  refine al_nil ?_
  refine aq_then ?_
  obtain ⟨kk2, hkk2, h⟩ := lt_some h
  refine aw_seq_join (ι := Unit) (fun i => (memOf w0 Z0 [] [] [(fDat (tyList tyS_api_Node) [v0_0] a0), (fPtr tyStr c1_0 a1_0)])) (fun i => (tab [])) (fun i => kk2 () = some r) ?_ ?_
  · rintro _ h
    have h : kk2 () = some r := h
    rw [hkk2] at h
    dsimp only at h
    clear hkk2
    refine aw_show (m := (memOf w0 Z0 [] [] [(fDat (tyList tyS_api_Node) [v0_0] a0), (fPtr tyStr c1_0 a1_0)])) (S := (tab [])) ?_
    refine aw_seq ?_
    refine aw_region ?_
    refine al_val (ov_assign rfl rfl) ?_
    refine al_nil ?_
    refine aq_then ?_
    refine aw_ret ?_
    obtain rfl := Option.some.inj h
    exact fn_ret () [] [] rfl rfl rfl rfl (res1 rfl rfl) rfl rfl rfl (by decide)
  · clear hkk2
    refine aw_seq ?_
    refine aw_region ?_
    refine al_val (ov_move rfl rfl) ?_
    refine al_val (ov_lenD 0 rfl rfl Tryd.underlying32 rfl) ?_
    refine al_val (ov_move rfl rfl) ?_
    refine al_nil ?_
    refine aq_then ?_
    refine aw_block ?_
    refine aw_state (aw_loop (ι := Int) (fun i => (memOf w0 Z0 [] [] [(fDat (tyList tyS_api_Node) [v0_0] a0), (fPtr tyStr c1_0 a1_0)])) (fun i => (tab [(0, v0_0), (1, (Value.func (.func 66) #[] #[c1_0])), (7, (Value.int .i64 (a0.length : Int))), (8, (Value.int .i64 i))])) (fun q i => f_slices_IndexFunc___api_Node_api_Node__F66_L5 a0 a1_0 kk2 fu q i = some r) ?_ fu (0 : Int) h) (fun w a hm hs => norm hm hs [] [0, 1] [(0, v0_0), (1, (Value.func (.func 66) #[] #[c1_0])), (7, (Value.int .i64 (a0.length : Int))), (8, (Value.int .i64 (0 : Int)))] (by decide) ⟨rfl, rfl, rfl, rfl, trivial⟩)
    clear h
    rintro k4 l3i8 h
    have h : f_slices_IndexFunc___api_Node_api_Node__F66_L5 a0 a1_0 kk2 fu k4 l3i8 = some r := h
    obtain _ | k4 := k4
    · rw [f_slices_IndexFunc___api_Node_api_Node__F66_L5] at h; cases h
    rw [f_slices_IndexFunc___api_Node_api_Node__F66_L5] at h
    refine aw_show (m := (memOf w0 Z0 [] [] [(fDat (tyList tyS_api_Node) [v0_0] a0), (fPtr tyStr c1_0 a1_0)])) (S := (tab [(0, v0_0), (1, (Value.func (.func 66) #[] #[c1_0])), (7, (Value.int .i64 (a0.length : Int))), (8, (Value.int .i64 l3i8))])) ?_
    refine aw_seq ?_
    refine aw_region ?_
    refine al_val (ov_int rfl rfl rfl rfl) ?_
    refine al_nil ?_
    refine aq_then ?_
    refine aw_seq ?_
    refine aw_cond rfl (fun hb6 => ?_) (fun hb6 => ?_)
    · replace h := bif_t hb6 h
      refine aw_skip ?_
      refine aq_then ?_
      refine aw_seq ?_
      refine aw_block ?_
      refine aw_seq ?_
      refine aw_region ?_
      refine al_val (ov_move rfl rfl) ?_
      refine al_val (ov_assign rfl rfl) ?_
      refine al_nil ?_
      refine aq_then ?_
      refine aw_seq ?_
      refine aw_region ?_
      refine al_val (ov_move rfl rfl) ?_
      refine al_val (ov_move rfl rfl) ?_
      refine al_val (ov_move rfl rfl) ?_
      obtain ⟨u7, hu8, h⟩ := opt_some h
      refine al_idxD 0 hu8 rfl rfl rfl Tryd.underlying32 sz40 rfl (fun p9 => ?_)
      refine al_loadPA 0 rfl rfl Tryd.underlying40 sz40 rfl rfl (fun cs11 => ?_)
      refine al_use (ι := Value) 0 rfl (fun j => cs11 = [(str u7.Name), (Value.int .i64 u7.Kind), (Value.int .i64 u7.Mode), (Value.int .i64 u7.Time), (Value.int .i64 u7.Size), j, (str u7.Link)]) (fun j => [(fDat (tyList tyA8u8) [j] u7.Parts)]) encnS_api_Node (fun s10 hq => ?_)
      subst hq
      obtain ⟨r13, hc12, h⟩ := opt_some h
      refine al_callF (vs := [(ag [(str u7.Name), (Value.int .i64 u7.Kind), (Value.int .i64 u7.Mode), (Value.int .i64 u7.Time), (Value.int .i64 u7.Size), s10, (str u7.Link)])]) (caps := [c1_0]) (f_tree_Find_1_ok fu s10 u7 c1_0 a1_0 hc12) rfl [] [] [] (pre_fz 0 rfl (pre_fz 4 rfl pre_nil)) rfl (by simp) (by decide) (.inl rfl) rfl rfl Tryd.func66 rfl rfl rfl (fun _ => ?_)
      refine al_nil ?_
      refine aq_then ?_
      refine aw_cond rfl (fun hb14 => ?_) (fun hb14 => ?_)
      · replace h := bif_t hb14 h
        refine aw_seq ?_
        refine aw_region ?_
        refine al_val (ov_move rfl rfl) ?_
        refine al_val (ov_assign rfl rfl) ?_
        refine al_nil ?_
        refine aq_then ?_
        refine aw_ret ?_
        refine aq_block_ret ?_
        refine aq_then_ret ?_
        refine aq_then_ret ?_
        refine aq_block_ret ?_
        refine aq_then_ret ?_
        obtain rfl := Option.some.inj h
        exact fn_ret () [] [] rfl rfl rfl rfl (res1 rfl rfl) rfl rfl rfl (by decide)
      · replace h := bif_f hb14 h
        refine aw_skip ?_
        refine aq_block ?_
        refine aq_then ?_
        refine aw_region ?_
        refine al_val (ov_int rfl rfl rfl rfl) ?_
        refine al_val (ov_move rfl rfl) ?_
        refine al_nil ?_
        exact aq_again k4 (IntKind.i64.wrap (l3i8 + (1 : Int))) (Nat.lt_succ_self _) h (fun w a hm hs => norm hm hs [] [3, 4] [(0, v0_0), (1, (Value.func (.func 66) #[] #[c1_0])), (7, (Value.int .i64 (a0.length : Int))), (8, (Value.int .i64 (IntKind.i64.wrap (l3i8 + (1 : Int)))))] (by decide) ⟨rfl, rfl, rfl, rfl, trivial⟩)
    · replace h := bif_f hb6 h
      refine aw_exit ?_
      refine aq_then_exit ?_
      refine aq_then_exit ?_
      refine aq_block_exit ?_
      exact aq_join () h (fun w a hm hs => norm hm hs [] [0, 1] [] (by decide) trivial)
def f_tree_Find (fu : Nat) (a0 : (List S_api_Node)) (a1 : (List UInt8)) : Option (Int × Int) := (opt (f_tree_Check fu a0) fun (r3 : Int) => (bif (r3 != (0 : Int)) then (some ((0 : Int), r3)) else (opt (f_slices_IndexFunc___api_Node_api_Node__F66 fu a0 a1) fun (r6 : Int) => (bif (decide (r6 < (0 : Int))) then (some ((0 : Int), (9 : Int))) else (some (r6, (0 : Int)))))))
set_option maxRecDepth 100000 in
theorem f_tree_Find_ok (fu : Nat) (v0_0 : Value) (a0 : (List S_api_Node)) (a1 : (List UInt8)) {r : (Int × Int)} (h : f_tree_Find fu a0 a1 = some r) : FnOk Tryd.prog 20 [v0_0, (str a1)] [(fDat (tyList tyS_api_Node) [v0_0] a0), uTabs] [] (fun (i : Unit) => { val := (Value.tuple #[(Value.int .i64 r.1), (Value.int .i64 r.2)]) }) := by
  unfold f_tree_Find at h
  refine fn_enter Tryd.func20 rfl Tryd.ntmps20 rfl (fun w0 Z0 => ?_)
  refine aw_seq ?_
  refine aw_region ?_
  refine al_box (vs := [(str a1)]) rfl (cv_rfl rfl) rfl (fun g1 => ?_)
  refine al_val (ov_assign rfl rfl) ?_
  refine al_val (ov_assign rfl rfl) ?_
  refine al_nil ?_
  refine aq_then ?_
  refine aw_seq ?_
  refine aw_seq ?_
  refine aw_region ?_
  refine al_val (ov_move rfl rfl) ?_
  obtain ⟨r3, hc2, h⟩ := opt_some h
  refine al_call (vs := [v0_0]) (f_tree_Check_ok fu v0_0 a0 hc2) [] [] [0] (pre_fz 0 rfl (pre_fz 1 rfl pre_nil)) rfl (by simp) (by decide) (.inl rfl) rfl Tryd.func23 rfl rfl rfl (fun _ => ?_)
  refine al_val (ov_assign rfl rfl) ?_
  refine al_nil ?_
  refine aq_then ?_
  refine aw_seq ?_
  refine aw_region ?_
  refine al_val (ov_move rfl rfl) ?_
  refine al_val (ov_int rfl rfl rfl rfl) ?_
  refine al_nil ?_
  refine aq_then ?_
  refine aw_cond rfl (fun hb4 => ?_) (fun hb4 => ?_)
  · replace h := bif_t hb4 h
    refine aw_seq ?_
    refine aw_region ?_
    refine al_val (ov_move rfl rfl) ?_
    refine al_val (ov_assign rfl rfl) ?_
    refine al_val (ov_assign rfl rfl) ?_
    refine al_nil ?_
    refine aq_then ?_
    refine aw_ret ?_
    refine aq_then_ret ?_
    obtain rfl := Option.some.inj h
    exact fn_ret () [] [] rfl rfl rfl rfl (res2 rfl rfl rfl) rfl rfl rfl (by decide)
  · replace h := bif_f hb4 h
    refine aw_skip ?_
    refine aq_then ?_
    refine aw_seq ?_
    refine aw_region ?_
    refine al_val (ov_move rfl rfl) ?_
    refine al_val (ov_makeFunc2 (vs := [(ptr g1 0)]) rfl rfl) ?_
    obtain ⟨r6, hc5, h⟩ := opt_some h
    refine al_call (vs := [v0_0, (Value.func (.func 66) #[] #[(ptr g1 0)])]) (f_slices_IndexFunc___api_Node_api_Node__F66_ok fu v0_0 a0 (ptr g1 0) a1 hc5) [0] [] [0] (pre_fz 0 rfl (pre_boxP (x := a1) 0 rfl rfl (fun _ _ => rfl) pre_nil)) rfl (by simp) (by decide) (.inr flat_res0) rfl Tryd.func21 rfl rfl rfl (fun _ => ?_)
    refine al_val (ov_assign rfl rfl) ?_
    refine al_nil ?_
    refine aq_then ?_
    refine aw_seq ?_
    refine aw_seq ?_
    refine aw_region ?_
    refine al_val (ov_move rfl rfl) ?_
    refine al_val (ov_int rfl rfl rfl rfl) ?_
    refine al_nil ?_
    refine aq_then ?_
    refine aw_cond rfl (fun hb7 => ?_) (fun hb7 => ?_)
    · replace h := bif_t hb7 h
      refine aw_seq ?_
      refine aw_region ?_
      refine al_val (ov_assign rfl rfl) ?_
      refine al_val (ov_assign rfl rfl) ?_
      refine al_nil ?_
      refine aq_then ?_
      refine aw_ret ?_
      refine aq_then_ret ?_
      obtain rfl := Option.some.inj h
      exact fn_ret () [] [] rfl rfl rfl rfl (res2 rfl rfl rfl) rfl rfl rfl (by decide)
    · replace h := bif_f hb7 h
      refine aw_skip ?_
      refine aq_then ?_
      refine aw_seq ?_
      refine aw_region ?_
      refine al_val (ov_move rfl rfl) ?_
      refine al_val (ov_assign rfl rfl) ?_
      refine al_val (ov_assign rfl rfl) ?_
      refine al_nil ?_
      refine aq_then ?_
      refine aw_ret ?_
      obtain rfl := Option.some.inj h
      exact fn_ret () [] [] rfl rfl rfl rfl (res2 rfl rfl rfl) rfl rfl rfl (by decide)
def f_lumlaw_TreeSays_1 (fu : Nat) (a0 : S_api_Node) (a1 : (List UInt8)) : Option Bool := (some (a0.Name == a1))
set_option maxRecDepth 100000 in
theorem f_lumlaw_TreeSays_1_ok (fu : Nat) (v0_5 : Value) (a0 : S_api_Node) (c1 : Value) (a1 : (List UInt8)) {r : Bool} (h : f_lumlaw_TreeSays_1 fu a0 a1 = some r) : FnOk Tryd.prog 22 [(ag [(str a0.Name), (Value.int .i64 a0.Kind), (Value.int .i64 a0.Mode), (Value.int .i64 a0.Time), (Value.int .i64 a0.Size), v0_5, (str a0.Link)]), c1] [(fDat (tyList tyA8u8) [v0_5] a0.Parts), (fPtr tyStr c1 a1)] [] (fun (i : Unit) => { val := (Value.bool r) }) := by
  unfold f_lumlaw_TreeSays_1 at h
  refine fn_enter Tryd.func22 rfl Tryd.ntmps22 rfl (fun w0 Z0 => ?_)
  refine aw_seq ?_
  refine aw_region ?_
  refine al_box (vs := [(str a0.Name), (Value.int .i64 a0.Kind), (Value.int .i64 a0.Mode), (Value.int .i64 a0.Time), (Value.int .i64 a0.Size), v0_5, (str a0.Link)]) rfl (cv_rfl rfl) rfl (fun g1 => ?_)
  refine al_val (ov_assign rfl rfl) ?_
  refine al_nil ?_
  refine aq_then ?_
  refine aw_seq ?_
  refine aw_region ?_
  refine al_val (ov_fieldA (p := 0) rfl Tryd.underlying40 rfl sz9 rfl rfl rfl) ?_
  refine al_val (ov_load (i := 0) (v := (str a0.Name)) rfl rfl Tryd.underlying9 sz9 rfl rfl rfl rfl) ?_
  refine al_val (ov_loadP (ds := [(str a1)]) 1 rfl (fun h => h) rfl Tryd.underlying9 sz9 rfl rfl rfl) ?_
  refine al_val (ov_strCmp rfl rfl rfl rfl) ?_
  refine al_val (ov_assign rfl rfl) ?_
  refine al_nil ?_
  refine aq_then ?_
  refine aw_ret ?_
  obtain rfl := Option.some.inj h
  exact fn_ret () [] [] rfl rfl rfl rfl (res1 rfl rfl) rfl rfl rfl (by decide)
def f_slices_IndexFunc___api_Node_api_Node__F22_L5 (a0 : (List S_api_Node)) (a1_0 : (List UInt8)) (kk2 : (Unit → Option Int)) (fu : Nat) : Nat → Int → Option Int
  | 0, _ => none
  | k4 + 1, l3i8 => (bif (decide (l3i8 < (a0.length : Int))) then (opt (at? a0 l3i8) fun (u7 : S_api_Node) => (opt (f_lumlaw_TreeSays_1 fu u7 a1_0) fun (r13 : Bool) => (bif r13 then (some l3i8) else (f_slices_IndexFunc___api_Node_api_Node__F22_L5 a0 a1_0 kk2 fu k4 (IntKind.i64.wrap (l3i8 + (1 : Int))))))) else (kk2 ()))
def f_slices_IndexFunc___api_Node_api_Node__F22 (fu : Nat) (a0 : (List S_api_Node)) (a1_0 : (List UInt8)) : Option Int := (lt (fun (_ : Unit) => (some (-1 : Int))) fun (kk2 : Unit → Option Int) => (f_slices_IndexFunc___api_Node_api_Node__F22_L5 a0 a1_0 kk2 fu fu (0 : Int)))
set_option maxRecDepth 100000 in
theorem f_slices_IndexFunc___api_Node_api_Node__F22_ok (fu : Nat) (v0_0 : Value) (a0 : (List S_api_Node)) (c1_0 : Value) (a1_0 : (List UInt8)) {r : Int} (h : f_slices_IndexFunc___api_Node_api_Node__F22 fu a0 a1_0 = some r) : FnOk Tryd.prog 21 [v0_0, (Value.func (.func 22) #[] #[c1_0])] [(fDat (tyList tyS_api_Node) [v0_0] a0), (fPtr tyStr c1_0 a1_0)] [] (fun (i : Unit) => { val := (Value.int .i64 r) }) := by
  unfold f_slices_IndexFunc___api_Node_api_Node__F22 at h
  refine fn_enter Tryd.func21 rfl Tryd.ntmps21 rfl (fun w0 Z0 => ?_)
  refine aw_seq ?_
  refine aw_region ?_
  refine al_val (ov_assign rfl rfl) ?_
  refine al_nil ?_
  refine aq_then ?_
  obtain ⟨kk2, hkk2, h⟩ := lt_some h
  refine aw_seq_join (ι := Unit) (fun i => (memOf w0 Z0 [] [] [(fDat (tyList tyS_api_Node) [v0_0] a0), (fPtr tyStr c1_0 a1_0)])) (fun i => (tab [])) (fun i => kk2 () = some r) ?_ ?_
  · rintro _ h
    have h : kk2 () = some r := h
    rw [hkk2] at h
    dsimp only at h
    clear hkk2
    refine aw_show (m := (memOf w0 Z0 [] [] [(fDat (tyList tyS_api_Node) [v0_0] a0), (fPtr tyStr c1_0 a1_0)])) (S := (tab [])) ?_
    refine aw_seq ?_
    refine aw_region ?_
    refine al_val (ov_assign rfl rfl) ?_
    refine al_nil ?_
    refine aq_then ?_
    refine aw_ret ?_
    obtain rfl := Option.some.inj h
    exact fn_ret () [] [] rfl rfl rfl rfl (res1 rfl rfl) rfl rfl rfl (by decide)
  · clear hkk2
    refine aw_seq ?_
    refine aw_region ?_
    refine al_val (ov_move rfl rfl) ?_
    refine al_val (ov_lenD 0 rfl rfl Tryd.underlying32 rfl) ?_
    refine al_val (ov_move rfl rfl) ?_
    refine al_nil ?_
    refine aq_then ?_
    refine aw_block ?_
    refine aw_state (aw_loop (ι := Int) (fun i => (memOf w0 Z0 [] [] [(fDat (tyList tyS_api_Node) [v0_0] a0), (fPtr tyStr c1_0 a1_0)])) (fun i => (tab [(0, v0_0), (1, (Value.func (.func 22) #[] #[c1_0])), (7, (Value.int .i64 (a0.length : Int))), (8, (Value.int .i64 i))])) (fun q i => f_slices_IndexFunc___api_Node_api_Node__F22_L5 a0 a1_0 kk2 fu q i = some r) ?_ fu (0 : Int) h) (fun w a hm hs => norm hm hs [] [0, 1] [(0, v0_0), (1, (Value.func (.func 22) #[] #[c1_0])), (7, (Value.int .i64 (a0.length : Int))), (8, (Value.int .i64 (0 : Int)))] (by decide) ⟨rfl, rfl, rfl, rfl, trivial⟩)
    clear h
    rintro k4 l3i8 h
    have h : f_slices_IndexFunc___api_Node_api_Node__F22_L5 a0 a1_0 kk2 fu k4 l3i8 = some r := h
    obtain _ | k4 := k4
    · rw [f_slices_IndexFunc___api_Node_api_Node__F22_L5] at h; cases h
    rw [f_slices_IndexFunc___api_Node_api_Node__F22_L5] at h
    refine aw_show (m := (memOf w0 Z0 [] [] [(fDat (tyList tyS_api_Node) [v0_0] a0), (fPtr tyStr c1_0 a1_0)])) (S := (tab [(0, v0_0), (1, (Value.func (.func 22) #[] #[c1_0])), (7, (Value.int .i64 (a0.length : Int))), (8, (Value.int .i64 l3i8))])) ?_
    refine aw_seq ?_
    refine aw_region ?_
    refine al_val (ov_int rfl rfl rfl rfl) ?_
    refine al_nil ?_
    refine aq_then ?_
    refine aw_seq ?_
    refine aw_cond rfl (fun hb6 => ?_) (fun hb6 => ?_)
    · replace h := bif_t hb6 h
      refine aw_skip ?_
      refine aq_then ?_
      refine aw_seq ?_
      refine aw_block ?_
      refine aw_seq ?_
      refine aw_region ?_
      refine al_val (ov_move rfl rfl) ?_
      refine al_val (ov_assign rfl rfl) ?_
      refine al_nil ?_
      refine aq_then ?_
      refine aw_seq ?_
      refine aw_region ?_
      refine al_val (ov_move rfl rfl) ?_
      refine al_val (ov_move rfl rfl) ?_
      refine al_val (ov_move rfl rfl) ?_
      obtain ⟨u7, hu8, h⟩ := opt_some h
      refine al_idxD 0 hu8 rfl rfl rfl Tryd.underlying32 sz40 rfl (fun p9 => ?_)
      refine al_loadPA 0 rfl rfl Tryd.underlying40 sz40 rfl rfl (fun cs11 => ?_)
      refine al_use (ι := Value) 0 rfl (fun j => cs11 = [(str u7.Name), (Value.int .i64 u7.Kind), (Value.int .i64 u7.Mode), (Value.int .i64 u7.Time), (Value.int .i64 u7.Size), j, (str u7.Link)]) (fun j => [(fDat (tyList tyA8u8) [j] u7.Parts)]) encnS_api_Node (fun s10 hq => ?_)
      subst hq
      obtain ⟨r13, hc12, h⟩ := opt_some h
      refine al_callF (vs := [(ag [(str u7.Name), (Value.int .i64 u7.Kind), (Value.int .i64 u7.Mode), (Value.int .i64 u7.Time), (Value.int .i64 u7.Size), s10, (str u7.Link)])]) (caps := [c1_0]) (f_lumlaw_TreeSays_1_ok fu s10 u7 c1_0 a1_0 hc12) rfl [] [] [] (pre_fz 0 rfl (pre_fz 4 rfl pre_nil)) rfl (by simp) (by decide) (.inl rfl) rfl rfl Tryd.func22 rfl rfl rfl (fun _ => ?_)
      refine al_nil ?_
      refine aq_then ?_
      refine aw_cond rfl (fun hb14 => ?_) (fun hb14 => ?_)
      · replace h := bif_t hb14 h
        refine aw_seq ?_
        refine aw_region ?_
        refine al_val (ov_move rfl rfl) ?_
        refine al_val (ov_assign rfl rfl) ?_
        refine al_nil ?_
        refine aq_then ?_
        refine aw_ret ?_
        refine aq_block_ret ?_
        refine aq_then_ret ?_
        refine aq_then_ret ?_
        refine aq_block_ret ?_
        refine aq_then_ret ?_
        obtain rfl := Option.some.inj h
        exact fn_ret () [] [] rfl rfl rfl rfl (res1 rfl rfl) rfl rfl rfl (by decide)
      · replace h := bif_f hb14 h
        refine aw_skip ?_
        refine aq_block ?_
        refine aq_then ?_
        refine aw_region ?_
        refine al_val (ov_int rfl rfl rfl rfl) ?_
        refine al_val (ov_move rfl rfl) ?_
        refine al_nil ?_
        exact aq_again k4 (IntKind.i64.wrap (l3i8 + (1 : Int))) (Nat.lt_succ_self _) h (fun w a hm hs => norm hm hs [] [3, 4] [(0, v0_0), (1, (Value.func (.func 22) #[] #[c1_0])), (7, (Value.int .i64 (a0.length : Int))), (8, (Value.int .i64 (IntKind.i64.wrap (l3i8 + (1 : Int)))))] (by decide) ⟨rfl, rfl, rfl, rfl, trivial⟩)
    · replace h := bif_f hb6 h
      refine aw_exit ?_
      refine aq_then_exit ?_
      refine aq_then_exit ?_
      refine aq_block_exit ?_
      exact aq_join () h (fun w a hm hs => norm hm hs [] [0, 1] [] (by decide) trivial)
def f_lumlaw_TreeSays (fu : Nat) (a0 : (List S_api_Node)) (a1 : (List UInt8)) : Option Bool := (opt (f_lumref_Nodes fu a0) fun (r3 : Int) => (opt (f_tree_Write fu a0) fun (r5 : ((List UInt8) × Int)) => (opt (f_lumref_TreeWrite fu a0) fun (r7 : ((List UInt8) × Int)) => (opt (f_tree_Find fu a0 a1) fun (r9 : (Int × Int)) => (lt (fun (j10i12 : Int) (j10i13 : Int) => (lt (fun (j12b4 : Bool) => (some j12b4)) fun (kk13 : Bool → Option Bool) => (opt (f_tree_Check fu a0) fun (r15 : Int) => (bif (r15 == r3) then (bif (r5.1 == r7.1) then (bif (r5.2 == r7.2) then (bif (r9.1 == j10i12) then (kk13 (r9.2 == j10i13)) else (kk13 false)) else (kk13 false)) else (kk13 false)) else (kk13 false))))) fun (kk11 : Int → Int → Option Bool) => (bif (r3 == (0 : Int)) then (opt (f_slices_IndexFunc___api_Node_api_Node__F22 fu a0 a1) fun (r22 : Int) => (bif (decide (r22 < (0 : Int))) then (kk11 (0 : Int) (9 : Int)) else (kk11 r22 r3))) else (kk11 (0 : Int) r3)))))))
set_option maxRecDepth 100000 in
theorem f_lumlaw_TreeSays_ok (fu : Nat) (v0_0 : Value) (a0 : (List S_api_Node)) (a1 : (List UInt8)) {r : Bool} (h : f_lumlaw_TreeSays fu a0 a1 = some r) : FnOk Tryd.prog 4 [v0_0, (str a1)] [(fDat (tyList tyS_api_Node) [v0_0] a0), uMax, uTabs] [] (fun (i : Unit) => { val := (Value.bool r) }) := by
  unfold f_lumlaw_TreeSays at h
  refine fn_enter Tryd.func4 rfl Tryd.ntmps4 rfl (fun w0 Z0 => ?_)
  refine aw_seq ?_
  refine aw_region ?_
  refine al_box (vs := [(str a1)]) rfl (cv_rfl rfl) rfl (fun g1 => ?_)
  refine al_val (ov_assign rfl rfl) ?_
  refine al_nil ?_
  refine aq_then ?_
  refine aw_seq ?_
  refine aw_region ?_
  refine al_val (ov_move rfl rfl) ?_
  obtain ⟨r3, hc2, h⟩ := opt_some h
  refine al_call (vs := [v0_0]) (f_lumref_Nodes_ok fu v0_0 a0 hc2) [] [] [0] (pre_fz 0 rfl pre_nil) rfl (by simp) (by decide) (.inl rfl) rfl Tryd.func17 rfl rfl rfl (fun _ => ?_)
  refine al_val (ov_assign rfl rfl) ?_
  refine al_nil ?_
  refine aq_then ?_
  refine aw_seq ?_
  refine aw_region ?_
  refine al_val (ov_move rfl rfl) ?_
  obtain ⟨r5, hc4, h⟩ := opt_some h
  refine al_call (vs := [v0_0]) (f_tree_Write_ok fu v0_0 a0 hc4) [] [] [0] (pre_fz 0 rfl (pre_fz 1 rfl (pre_fz 2 rfl pre_nil))) rfl (by simp) (by decide) (.inl rfl) rfl Tryd.func18 rfl rfl rfl (fun _ => ?_)
  refine al_val (ov_move rfl rfl) ?_
  refine al_val (ov_extract rfl rfl rfl) ?_
  refine al_val (ov_extract rfl rfl rfl) ?_
  refine al_val (ov_assign rfl rfl) ?_
  refine al_val (ov_assign rfl rfl) ?_
  refine al_nil ?_
  refine aq_then ?_
  refine aw_seq ?_
  refine aw_region ?_
  refine al_val (ov_move rfl rfl) ?_
  obtain ⟨r7, hc6, h⟩ := opt_some h
  refine al_call (vs := [v0_0]) (f_lumref_TreeWrite_ok fu v0_0 a0 hc6) [] [] [0] (pre_fz 0 rfl (pre_fz 1 rfl pre_nil)) rfl (by simp) (by decide) (.inl rfl) rfl Tryd.func19 rfl rfl rfl (fun _ => ?_)
  refine al_val (ov_move rfl rfl) ?_
  refine al_val (ov_extract rfl rfl rfl) ?_
  refine al_val (ov_extract rfl rfl rfl) ?_
  refine al_val (ov_assign rfl rfl) ?_
  refine al_val (ov_assign rfl rfl) ?_
  refine al_nil ?_
  refine aq_then ?_
  refine aw_seq ?_
  refine aw_region ?_
  refine al_val (ov_move rfl rfl) ?_
  refine al_val (ov_load (i := 0) (v := (str a1)) rfl rfl Tryd.underlying9 sz9 rfl rfl rfl rfl) ?_
  obtain ⟨r9, hc8, h⟩ := opt_some h
  refine al_call (vs := [v0_0, (str a1)]) (f_tree_Find_ok fu v0_0 a0 a1 hc8) [] [] [0] (pre_fz 0 rfl (pre_fz 2 rfl pre_nil)) rfl (by simp) (by decide) (.inl rfl) rfl Tryd.func20 rfl rfl rfl (fun _ => ?_)
  refine al_val (ov_move rfl rfl) ?_
  refine al_val (ov_extract rfl rfl rfl) ?_
  refine al_val (ov_extract rfl rfl rfl) ?_
  refine al_val (ov_assign rfl rfl) ?_
  refine al_val (ov_assign rfl rfl) ?_
  refine al_nil ?_
  refine aq_then ?_
  refine aw_seq ?_
  refine aw_region ?_
  refine al_val (ov_move rfl rfl) ?_
  refine al_val (ov_assign rfl rfl) ?_
  refine al_val (ov_assign rfl rfl) ?_
  refine al_nil ?_
  refine aq_then ?_
  obtain ⟨kk11, hkk11, h⟩ := lt_some h
  refine aw_seq_join (ι := Int × Int) (fun i => (memOf w0 Z0 [] [] [(fDat (tyList tyS_api_Node) [v0_0] a0), uMax, uTabs])) (fun i => (tab [(0, v0_0), (5, (Value.int .i64 r3)), (6, (str r5.1)), (7, (Value.int .i64 r5.2)), (8, (str r7.1)), (9, (Value.int .i64 r7.2)), (10, (Value.int .i64 r9.1)), (11, (Value.int .i64 r9.2)), (12, (Value.int .i64 i.1)), (13, (Value.int .i64 i.2))])) (fun i => kk11 i.1 i.2 = some r) ?_ ?_
  · rintro ⟨j10i12, j10i13⟩ h
    have h : kk11 j10i12 j10i13 = some r := h
    rw [hkk11] at h
    dsimp only at h
    clear hkk11
    refine aw_show (m := (memOf w0 Z0 [] [] [(fDat (tyList tyS_api_Node) [v0_0] a0), uMax, uTabs])) (S := (tab [(0, v0_0), (5, (Value.int .i64 r3)), (6, (str r5.1)), (7, (Value.int .i64 r5.2)), (8, (str r7.1)), (9, (Value.int .i64 r7.2)), (10, (Value.int .i64 r9.1)), (11, (Value.int .i64 r9.2)), (12, (Value.int .i64 j10i12)), (13, (Value.int .i64 j10i13))])) ?_
    obtain ⟨kk13, hkk13, h⟩ := lt_some h
    refine aw_seq_join (ι := Bool) (fun i => (memOf w0 Z0 [] [] [(fDat (tyList tyS_api_Node) [v0_0] a0), uMax, uTabs])) (fun i => (tab [(4, (Value.bool i))])) (fun i => kk13 i = some r) ?_ ?_
    · rintro j12b4 h
      have h : kk13 j12b4 = some r := h
      rw [hkk13] at h
      dsimp only at h
      clear hkk13
      refine aw_show (m := (memOf w0 Z0 [] [] [(fDat (tyList tyS_api_Node) [v0_0] a0), uMax, uTabs])) (S := (tab [(4, (Value.bool j12b4))])) ?_
      refine aw_ret ?_
      obtain rfl := Option.some.inj h
      exact fn_ret () [] [] rfl rfl rfl rfl (res1 rfl rfl) rfl rfl rfl (by decide)
    · clear hkk13
      refine aw_region ?_
      refine al_val (ov_move rfl rfl) ?_
      obtain ⟨r15, hc14, h⟩ := opt_some h
      refine al_call (vs := [v0_0]) (f_tree_Check_ok fu v0_0 a0 hc14) [] [] [] (pre_fz 0 rfl (pre_fz 2 rfl pre_nil)) rfl (by simp) (by decide) (.inl rfl) rfl Tryd.func23 rfl rfl rfl (fun _ => ?_)
      refine al_val (ov_move rfl rfl) ?_
      refine al_val (ov_int rfl rfl rfl rfl) ?_
      refine al_val (ov_move rfl rfl) ?_
      refine al_caseB 44 rfl (fun hb16 => ?_) (fun hb16 => ?_)
      · replace h := bif_t hb16 h
        refine al_val (ov_move rfl rfl) ?_
        refine al_val (ov_move rfl rfl) ?_
        refine al_val (ov_strCmp rfl rfl rfl rfl) ?_
        refine al_val (ov_pick_t rfl rfl rfl) ?_
        refine al_val (ov_move rfl rfl) ?_
        refine al_caseB 49 rfl (fun hb17 => ?_) (fun hb17 => ?_)
        · replace h := bif_t hb17 h
          refine al_val (ov_move rfl rfl) ?_
          refine al_val (ov_move rfl rfl) ?_
          refine al_val (ov_int rfl rfl rfl rfl) ?_
          refine al_val (ov_pick_t rfl rfl rfl) ?_
          refine al_val (ov_move rfl rfl) ?_
          refine al_caseB 54 rfl (fun hb18 => ?_) (fun hb18 => ?_)
          · replace h := bif_t hb18 h
            refine al_val (ov_move rfl rfl) ?_
            refine al_val (ov_move rfl rfl) ?_
            refine al_val (ov_int rfl rfl rfl rfl) ?_
            refine al_val (ov_pick_t rfl rfl rfl) ?_
            refine al_val (ov_move rfl rfl) ?_
            refine al_caseB 59 rfl (fun hb19 => ?_) (fun hb19 => ?_)
            · replace h := bif_t hb19 h
              refine al_val (ov_move rfl rfl) ?_
              refine al_val (ov_move rfl rfl) ?_
              refine al_val (ov_int rfl rfl rfl rfl) ?_
              refine al_val (ov_pick_t rfl rfl rfl) ?_
              refine al_val (ov_assign rfl rfl) ?_
              refine al_nil ?_
              exact aq_join (r9.2 == j10i13) h (fun w a hm hs => norm hm hs [] [0, 1, 2] [(4, (Value.bool (r9.2 == j10i13)))] (by decide) ⟨rfl, trivial⟩)
            · replace h := bif_f hb19 h
              refine al_skip ?_
              refine al_skip ?_
              refine al_skip ?_
              refine al_val (ov_pick_f rfl rfl rfl) ?_
              refine al_val (ov_assign rfl rfl) ?_
              refine al_nil ?_
              exact aq_join false h (fun w a hm hs => norm hm hs [] [0, 1, 2] [(4, (Value.bool false))] (by decide) ⟨rfl, trivial⟩)
          · replace h := bif_f hb18 h
            refine al_skip ?_
            refine al_skip ?_
            refine al_skip ?_
            refine al_val (ov_pick_f rfl rfl rfl) ?_
            refine al_val (ov_move rfl rfl) ?_
            refine al_skip ?_
            refine al_skip ?_
            refine al_skip ?_
            refine al_val (ov_pick_f rfl rfl rfl) ?_
            refine al_val (ov_assign rfl rfl) ?_
            refine al_nil ?_
            exact aq_join false h (fun w a hm hs => norm hm hs [] [0, 1, 2] [(4, (Value.bool false))] (by decide) ⟨rfl, trivial⟩)
        · replace h := bif_f hb17 h
          refine al_skip ?_
          refine al_skip ?_
          refine al_skip ?_
          refine al_val (ov_pick_f rfl rfl rfl) ?_
          refine al_val (ov_move rfl rfl) ?_
          refine al_skip ?_
          refine al_skip ?_
          refine al_skip ?_
          refine al_val (ov_pick_f rfl rfl rfl) ?_
          refine al_val (ov_move rfl rfl) ?_
          refine al_skip ?_
          refine al_skip ?_
          refine al_skip ?_
          refine al_val (ov_pick_f rfl rfl rfl) ?_
          refine al_val (ov_assign rfl rfl) ?_
          refine al_nil ?_
          exact aq_join false h (fun w a hm hs => norm hm hs [] [0, 1, 2] [(4, (Value.bool false))] (by decide) ⟨rfl, trivial⟩)
      · replace h := bif_f hb16 h
        refine al_skip ?_
        refine al_skip ?_
        refine al_skip ?_
        refine al_val (ov_pick_f rfl rfl rfl) ?_
        refine al_val (ov_move rfl rfl) ?_
        refine al_skip ?_
        refine al_skip ?_
        refine al_skip ?_
        refine al_val (ov_pick_f rfl rfl rfl) ?_
        refine al_val (ov_move rfl rfl) ?_
        refine al_skip ?_
        refine al_skip ?_
        refine al_skip ?_
        refine al_val (ov_pick_f rfl rfl rfl) ?_
        refine al_val (ov_move rfl rfl) ?_
        refine al_skip ?_
        refine al_skip ?_
        refine al_skip ?_
        refine al_val (ov_pick_f rfl rfl rfl) ?_
        refine al_val (ov_assign rfl rfl) ?_
        refine al_nil ?_
        exact aq_join false h (fun w a hm hs => norm hm hs [] [0, 1, 2] [(4, (Value.bool false))] (by decide) ⟨rfl, trivial⟩)
  · clear hkk11
    refine aw_seq ?_
    refine aw_region ?_
    refine al_val (ov_move rfl rfl) ?_
    refine al_val (ov_int rfl rfl rfl rfl) ?_
    refine al_nil ?_
    refine aq_then ?_
    refine aw_cond rfl (fun hb20 => ?_) (fun hb20 => ?_)
    · replace h := bif_t hb20 h
      refine aw_seq ?_
      refine aw_region ?_
      refine al_val (ov_move rfl rfl) ?_
      refine al_val (ov_makeFunc2 (vs := [(ptr g1 0)]) rfl rfl) ?_
      obtain ⟨r22, hc21, h⟩ := opt_some h
      refine al_call (vs := [v0_0, (Value.func (.func 22) #[] #[(ptr g1 0)])]) (f_slices_IndexFunc___api_Node_api_Node__F22_ok fu v0_0 a0 (ptr g1 0) a1 hc21) [0] [] [0] (pre_fz 0 rfl (pre_boxP (x := a1) 0 rfl rfl (fun _ _ => rfl) pre_nil)) rfl (by simp) (by decide) (.inr flat_res0) rfl Tryd.func21 rfl rfl rfl (fun _ => ?_)
      refine al_val (ov_assign rfl rfl) ?_
      refine al_nil ?_
      refine aq_then ?_
      refine aw_seq ?_
      refine aw_region ?_
      refine al_val (ov_move rfl rfl) ?_
      refine al_val (ov_int rfl rfl rfl rfl) ?_
      refine al_nil ?_
      refine aq_then ?_
      refine aw_cond rfl (fun hb23 => ?_) (fun hb23 => ?_)
      · replace h := bif_t hb23 h
        refine aw_region ?_
        refine al_val (ov_assign rfl rfl) ?_
        refine al_val (ov_assign rfl rfl) ?_
        refine al_nil ?_
        exact aq_join ((0 : Int), (9 : Int)) h (fun w a hm hs => norm hm hs [] [0, 1, 2] [(0, v0_0), (5, (Value.int .i64 r3)), (6, (str r5.1)), (7, (Value.int .i64 r5.2)), (8, (str r7.1)), (9, (Value.int .i64 r7.2)), (10, (Value.int .i64 r9.1)), (11, (Value.int .i64 r9.2)), (12, (Value.int .i64 (0 : Int))), (13, (Value.int .i64 (9 : Int)))] (by decide) ⟨rfl, rfl, rfl, rfl, rfl, rfl, rfl, rfl, rfl, rfl, trivial⟩)
      · replace h := bif_f hb23 h
        refine aw_skip ?_
        exact aq_join (r22, r3) h (fun w a hm hs => norm hm hs [] [0, 1, 2] [(0, v0_0), (5, (Value.int .i64 r3)), (6, (str r5.1)), (7, (Value.int .i64 r5.2)), (8, (str r7.1)), (9, (Value.int .i64 r7.2)), (10, (Value.int .i64 r9.1)), (11, (Value.int .i64 r9.2)), (12, (Value.int .i64 r22)), (13, (Value.int .i64 r3))] (by decide) ⟨rfl, rfl, rfl, rfl, rfl, rfl, rfl, rfl, rfl, rfl, trivial⟩)
    · replace h := bif_f hb20 h
      refine aw_skip ?_
      exact aq_join ((0 : Int), r3) h (fun w a hm hs => norm hm hs [] [0, 1, 2] [(0, v0_0), (5, (Value.int .i64 r3)), (6, (str r5.1)), (7, (Value.int .i64 r5.2)), (8, (str r7.1)), (9, (Value.int .i64 r7.2)), (10, (Value.int .i64 r9.1)), (11, (Value.int .i64 r9.2)), (12, (Value.int .i64 (0 : Int))), (13, (Value.int .i64 r3))] (by decide) ⟨rfl, rfl, rfl, rfl, rfl, rfl, rfl, rfl, rfl, rfl, trivial⟩)
end Go.Proofs.YtjbgahmcobcojaaDoor
