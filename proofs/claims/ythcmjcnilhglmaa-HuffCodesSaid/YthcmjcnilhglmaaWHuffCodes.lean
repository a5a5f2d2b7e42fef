/- Walks by program. No condition. -/
import Derived.Test.YthcmjcnilhglmaaEn8
import Derived.Test.YthcmjcnilhglmaaChecked
namespace Go.Proofs.Ythcmjcnilhglmaa
open Go.RowKit Ythcmjcnilhglmaa.En
set_option linter.unusedVariables false
set_option linter.unusedSimpArgs false
theorem sz3 : szOf Try.prog 3 = some 1 := by kernel_rfl
theorem to3 : tyOf Try.prog 3 = some (1, 8, some (Value.int .i64 (0 : Int))) := by kernel_rfl
theorem mixed : Try.prog.follows .mixedOrders = true := by kernel_rfl
-- STUCK slices.IndexFunc[[]int,int]: lty ['func', [3], [4], False]
-- STUCK slices.ContainsFunc[[]int,int]: lty ['func', [3], [4], False]
def f_huff_Kraft_1 (fu : Nat) (a0 : Int) : Option Bool := (lt (fun (j1b2 : Bool) => (some j1b2)) fun (kk2 : Bool → Option Bool) => (bif (decide (a0 < (0 : Int))) then (kk2 true) else (kk2 (decide (a0 > (48 : Int))))))
set_option maxRecDepth 100000 in
theorem f_huff_Kraft_1_ok (fu : Nat) (a0 : Int) {r : Bool} (h : f_huff_Kraft_1 fu a0 = some r) : FnOk Try.prog 82 [(Value.int .i64 a0)] [] [] (fun (i : Unit) => { val := (Value.bool r) }) := by
  unfold f_huff_Kraft_1 at h
  refine fn_enter Try.func82 rfl Try.ntmps82 rfl (fun w0 Z0 => ?_)
  refine aw_seq ?_
  refine aw_region ?_
  refine al_val (ov_assign rfl rfl) ?_
  refine al_nil ?_
  refine aq_then ?_
  obtain ⟨kk2, hkk2, h⟩ := lt_some h
  refine aw_seq_join (ι := Bool) (fun i => (memOf w0 Z0 [] [] [])) (fun i => (tab [(2, (Value.bool i))])) (fun i => kk2 i = some r) ?_ ?_
  · rintro j1b2 h
    have h : kk2 j1b2 = some r := h
    rw [hkk2] at h
    dsimp only at h
    clear hkk2
    refine aw_show (m := (memOf w0 Z0 [] [] [])) (S := (tab [(2, (Value.bool j1b2))])) ?_
    refine aw_ret ?_
    obtain rfl := Option.some.inj h
    exact fn_ret () [] [] rfl rfl rfl rfl (res1 rfl rfl) rfl rfl rfl (by decide)
  · clear hkk2
    refine aw_region ?_
    refine al_val (ov_move rfl rfl) ?_
    refine al_val (ov_int rfl rfl rfl rfl) ?_
    refine al_val (ov_move rfl rfl) ?_
    refine al_caseB 5 rfl (fun hb3 => ?_) (fun hb3 => ?_)
    · replace h := bif_t hb3 h
      refine al_skip ?_
      refine al_skip ?_
      refine al_val (ov_pick_t rfl rfl rfl) ?_
      refine al_val (ov_assign rfl rfl) ?_
      refine al_nil ?_
      exact aq_join true h (fun w a hm hs => norm hm hs [] [] [(2, (Value.bool true))] (by decide) ⟨rfl, trivial⟩)
    · replace h := bif_f hb3 h
      refine al_val (ov_move rfl rfl) ?_
      refine al_val (ov_int rfl rfl rfl rfl) ?_
      refine al_val (ov_pick_f rfl rfl rfl) ?_
      refine al_val (ov_assign rfl rfl) ?_
      refine al_nil ?_
      exact aq_join (decide (a0 > (48 : Int))) h (fun w a hm hs => norm hm hs [] [] [(2, (Value.bool (decide (a0 > (48 : Int)))))] (by decide) ⟨rfl, trivial⟩)
def f_slices_IndexFunc___int_int__F82_L5 (a0 : (List Int)) (kk2 : (Unit → Option Int)) (fu : Nat) : Nat → Int → Option Int
  | 0, _ => none
  | k4 + 1, l3i8 => (bif (decide (l3i8 < (a0.length : Int))) then (opt (at? a0 l3i8) fun (u7 : Int) => (opt (f_huff_Kraft_1 fu u7) fun (r11 : Bool) => (bif r11 then (some l3i8) else (f_slices_IndexFunc___int_int__F82_L5 a0 kk2 fu k4 (IntKind.i64.wrap (l3i8 + (1 : Int))))))) else (kk2 ()))
def f_slices_IndexFunc___int_int__F82 (fu : Nat) (a0 : (List Int)) : Option Int := (lt (fun (_ : Unit) => (some (-1 : Int))) fun (kk2 : Unit → Option Int) => (f_slices_IndexFunc___int_int__F82_L5 a0 kk2 fu fu (0 : Int)))
set_option maxRecDepth 100000 in
theorem f_slices_IndexFunc___int_int__F82_ok (fu : Nat) (v0_0 : Value) (a0 : (List Int)) {r : Int} (h : f_slices_IndexFunc___int_int__F82 fu a0 = some r) : FnOk Try.prog 110 [v0_0, (Value.func (.func 82) #[] #[])] [(fDat (tyList (tyInt .i64)) [v0_0] a0)] [] (fun (i : Unit) => { val := (Value.int .i64 r) }) := by
  unfold f_slices_IndexFunc___int_int__F82 at h
  refine fn_enter Try.func110 rfl Try.ntmps110 rfl (fun w0 Z0 => ?_)
  refine aw_seq ?_
  refine aw_region ?_
  refine al_val (ov_assign rfl rfl) ?_
  refine al_nil ?_
  refine aq_then ?_
  obtain ⟨kk2, hkk2, h⟩ := lt_some h
  refine aw_seq_join (ι := Unit) (fun i => (memOf w0 Z0 [] [] [(fDat (tyList (tyInt .i64)) [v0_0] a0)])) (fun i => (tab [])) (fun i => kk2 () = some r) ?_ ?_
  · rintro _ h
    have h : kk2 () = some r := h
    rw [hkk2] at h
    dsimp only at h
    clear hkk2
    refine aw_show (m := (memOf w0 Z0 [] [] [(fDat (tyList (tyInt .i64)) [v0_0] a0)])) (S := (tab [])) ?_
    refine aw_seq ?_
    refine aw_region ?_
    refine al_val (ov_assign rfl rfl) ?_
    refine al_nil ?_
    refine aq_then ?_
    refine aw_ret ?_
    obtain rfl := Option.some.inj h
    exact fn_ret () [] [] rfl rfl rfl rfl (res1 rfl rfl) rfl rfl rfl (by decide)
  · clear hkk2
    refine aw_seq ?_
    refine aw_region ?_
    refine al_val (ov_move rfl rfl) ?_
    refine al_val (ov_lenD 0 rfl rfl Try.underlying24 rfl) ?_
    refine al_val (ov_move rfl rfl) ?_
    refine al_nil ?_
    refine aq_then ?_
    refine aw_block ?_
    refine aw_state (aw_loop (ι := Int) (fun i => (memOf w0 Z0 [] [] [(fDat (tyList (tyInt .i64)) [v0_0] a0)])) (fun i => (tab [(0, v0_0), (1, (Value.func (.func 82) #[] #[])), (7, (Value.int .i64 (a0.length : Int))), (8, (Value.int .i64 i))])) (fun q i => f_slices_IndexFunc___int_int__F82_L5 a0 kk2 fu q i = some r) ?_ fu (0 : Int) h) (fun w a hm hs => norm hm hs [] [0] [(0, v0_0), (1, (Value.func (.func 82) #[] #[])), (7, (Value.int .i64 (a0.length : Int))), (8, (Value.int .i64 (0 : Int)))] (by decide) ⟨rfl, rfl, rfl, rfl, trivial⟩)
    clear h
    rintro k4 l3i8 h
    have h : f_slices_IndexFunc___int_int__F82_L5 a0 kk2 fu k4 l3i8 = some r := h
    obtain _ | k4 := k4
    · rw [f_slices_IndexFunc___int_int__F82_L5] at h; cases h
    rw [f_slices_IndexFunc___int_int__F82_L5] at h
    refine aw_show (m := (memOf w0 Z0 [] [] [(fDat (tyList (tyInt .i64)) [v0_0] a0)])) (S := (tab [(0, v0_0), (1, (Value.func (.func 82) #[] #[])), (7, (Value.int .i64 (a0.length : Int))), (8, (Value.int .i64 l3i8))])) ?_
    refine aw_seq ?_
    refine aw_region ?_
    refine al_val (ov_int rfl rfl rfl rfl) ?_
    refine al_nil ?_
    refine aq_then ?_
    refine aw_seq ?_
    refine aw_cond rfl (fun hb6 => ?_) (fun hb6 => ?_)
    · replace h := bif_t hb6 h
      refine aw_skip ?_
      refine aq_then ?_
      refine aw_seq ?_
      refine aw_block ?_
      refine aw_seq ?_
      refine aw_region ?_
      refine al_val (ov_move rfl rfl) ?_
      refine al_val (ov_assign rfl rfl) ?_
      refine al_nil ?_
      refine aq_then ?_
      refine aw_seq ?_
      refine aw_region ?_
      refine al_val (ov_move rfl rfl) ?_
      refine al_val (ov_move rfl rfl) ?_
      refine al_val (ov_move rfl rfl) ?_
      obtain ⟨u7, hu8, h⟩ := opt_some h
      refine al_idxD 0 hu8 rfl rfl rfl Try.underlying24 sz3 rfl (fun p9 => ?_)
      refine al_val (ov_loadP (ds := [(Value.int .i64 u7)]) 0 rfl (fun h => h) rfl Try.underlying3 sz3 rfl rfl rfl) ?_
      obtain ⟨r11, hc10, h⟩ := opt_some h
      refine al_callF (vs := [(Value.int .i64 u7)]) (caps := []) (f_huff_Kraft_1_ok fu u7 hc10) rfl [] [] [] pre_nil rfl (by simp) (by decide) (.inl rfl) rfl rfl Try.func82 rfl rfl rfl (fun _ => ?_)
      refine al_nil ?_
      refine aq_then ?_
      refine aw_cond rfl (fun hb12 => ?_) (fun hb12 => ?_)
      · replace h := bif_t hb12 h
        refine aw_seq ?_
        refine aw_region ?_
        refine al_val (ov_move rfl rfl) ?_
        refine al_val (ov_assign rfl rfl) ?_
        refine al_nil ?_
        refine aq_then ?_
        refine aw_ret ?_
        refine aq_block_ret ?_
        refine aq_then_ret ?_
        refine aq_then_ret ?_
        refine aq_block_ret ?_
        refine aq_then_ret ?_
        obtain rfl := Option.some.inj h
        exact fn_ret () [] [] rfl rfl rfl rfl (res1 rfl rfl) rfl rfl rfl (by decide)
      · replace h := bif_f hb12 h
        refine aw_skip ?_
        refine aq_block ?_
        refine aq_then ?_
        refine aw_region ?_
        refine al_val (ov_int rfl rfl rfl rfl) ?_
        refine al_val (ov_move rfl rfl) ?_
        refine al_nil ?_
        exact aq_again k4 (IntKind.i64.wrap (l3i8 + (1 : Int))) (Nat.lt_succ_self _) h (fun w a hm hs => norm hm hs [] [1] [(0, v0_0), (1, (Value.func (.func 82) #[] #[])), (7, (Value.int .i64 (a0.length : Int))), (8, (Value.int .i64 (IntKind.i64.wrap (l3i8 + (1 : Int)))))] (by decide) ⟨rfl, rfl, rfl, rfl, trivial⟩)
    · replace h := bif_f hb6 h
      refine aw_exit ?_
      refine aq_then_exit ?_
      refine aq_then_exit ?_
      refine aq_block_exit ?_
      exact aq_join () h (fun w a hm hs => norm hm hs [] [0] [] (by decide) trivial)
def f_slices_ContainsFunc___int_int__F82 (fu : Nat) (a0 : (List Int)) : Option Bool := (opt (f_slices_IndexFunc___int_int__F82 fu a0) fun (r2 : Int) => (some (decide (r2 ≥ (0 : Int)))))
set_option maxRecDepth 100000 in
theorem f_slices_ContainsFunc___int_int__F82_ok (fu : Nat) (v0_0 : Value) (a0 : (List Int)) {r : Bool} (h : f_slices_ContainsFunc___int_int__F82 fu a0 = some r) : FnOk Try.prog 81 [v0_0, (Value.func (.func 82) #[] #[])] [(fDat (tyList (tyInt .i64)) [v0_0] a0)] [] (fun (i : Unit) => { val := (Value.bool r) }) := by
  unfold f_slices_ContainsFunc___int_int__F82 at h
  refine fn_enter Try.func81 rfl Try.ntmps81 rfl (fun w0 Z0 => ?_)
  refine aw_seq ?_
  refine aw_region ?_
  refine al_val (ov_assign rfl rfl) ?_
  refine al_nil ?_
  refine aq_then ?_
  refine aw_seq ?_
  refine aw_region ?_
  refine al_val (ov_move rfl rfl) ?_
  refine al_val (ov_move rfl rfl) ?_
  obtain ⟨r2, hc1, h⟩ := opt_some h
  refine al_call (vs := [v0_0, (Value.func (.func 82) #[] #[])]) (f_slices_IndexFunc___int_int__F82_ok fu v0_0 a0 hc1) [] [] [] (pre_fz 0 rfl pre_nil) rfl (by simp) (by decide) (.inl rfl) rfl Try.func110 rfl rfl rfl (fun _ => ?_)
  refine al_val (ov_int rfl rfl rfl rfl) ?_
  refine al_val (ov_assign rfl rfl) ?_
  refine al_nil ?_
  refine aq_then ?_
  refine aw_ret ?_
  obtain rfl := Option.some.inj h
  exact fn_ret () [] [] rfl rfl rfl rfl (res1 rfl rfl) rfl rfl rfl (by decide)
def f_huff_Kraft_L8 (a0 : (List Int)) (kk5 : (Int → Option (Int × Int))) : Nat → Int → Int → Option (Int × Int)
  | 0, _, _ => none
  | k7 + 1, l6i4, l6i21 => (bif (decide (l6i21 < (a0.length : Int))) then (lt (fun (j10i4 : Int) => (f_huff_Kraft_L8 a0 kk5 k7 j10i4 (IntKind.i64.wrap (l6i21 + (1 : Int))))) fun (kk11 : Int → Option (Int × Int)) => (opt (at? a0 l6i21) fun (u12 : Int) => (bif (decide (u12 > (0 : Int))) then (req (0 ≤ (IntKind.i64.wrap ((48 : Int) - u12))) (kk11 (IntKind.i64.wrap (l6i4 + (IntKind.i64.wrap ((1 : Int) * 2 ^ min ((IntKind.i64.wrap ((48 : Int) - u12))).toNat (IntKind.bits .i64))))))) else (kk11 l6i4)))) else (kk5 l6i4))
def f_huff_Kraft (fu : Nat) (a0 : (List Int)) : Option (Int × Int) := (lt (fun (j1b18 : Bool) => (bif j1b18 then (some ((0 : Int), (1 : Int))) else (lt (fun (j4i4 : Int) => (some (j4i4, (0 : Int)))) fun (kk5 : Int → Option (Int × Int)) => (f_huff_Kraft_L8 a0 kk5 fu (0 : Int) (0 : Int))))) fun (kk2 : Bool → Option (Int × Int)) => (bif (decide ((a0.length : Int) < (1 : Int))) then (kk2 true) else (bif (decide ((a0.length : Int) > (256 : Int))) then (kk2 true) else (opt (f_slices_ContainsFunc___int_int__F82 fu a0) fun (r20 : Bool) => (kk2 r20)))))
set_option maxRecDepth 100000 in
theorem f_huff_Kraft_ok (fu : Nat) (v0_0 : Value) (a0 : (List Int)) {r : (Int × Int)} (h : f_huff_Kraft fu a0 = some r) : FnOk Try.prog 33 [v0_0] [(fDat (tyList (tyInt .i64)) [v0_0] a0)] [] (fun (i : Unit) => { val := (Value.tuple #[(Value.int .i64 r.1), (Value.int .i64 r.2)]) }) := by
  unfold f_huff_Kraft at h
  refine fn_enter Try.func33 rfl Try.ntmps33 rfl (fun w0 Z0 => ?_)
  refine aw_seq ?_
  refine aw_region ?_
  refine al_val (ov_assign rfl rfl) ?_
  refine al_val (ov_assign rfl rfl) ?_
  refine al_nil ?_
  refine aq_then ?_
  refine aw_seq ?_
  obtain ⟨kk2, hkk2, h⟩ := lt_some h
  refine aw_seq_join (ι := Bool) (fun i => (memOf w0 Z0 [] [] [(fDat (tyList (tyInt .i64)) [v0_0] a0)])) (fun i => (tab [(0, v0_0), (18, (Value.bool i))])) (fun i => kk2 i = some r) ?_ ?_
  · rintro j1b18 h
    have h : kk2 j1b18 = some r := h
    rw [hkk2] at h
    dsimp only at h
    clear hkk2
    refine aw_show (m := (memOf w0 Z0 [] [] [(fDat (tyList (tyInt .i64)) [v0_0] a0)])) (S := (tab [(0, v0_0), (18, (Value.bool j1b18))])) ?_
    refine aw_cond rfl (fun hb3 => ?_) (fun hb3 => ?_)
    · replace h := bif_t hb3 h
      refine aw_seq ?_
      refine aw_region ?_
      refine al_val (ov_assign rfl rfl) ?_
      refine al_val (ov_assign rfl rfl) ?_
      refine al_nil ?_
      refine aq_then ?_
      refine aw_ret ?_
      refine aq_then_ret ?_
      obtain rfl := Option.some.inj h
      exact fn_ret () [] [] rfl rfl rfl rfl (res2 rfl rfl rfl) rfl rfl rfl (by decide)
    · replace h := bif_f hb3 h
      refine aw_skip ?_
      refine aq_then ?_
      refine aw_seq ?_
      refine aw_region ?_
      refine al_val (ov_assign rfl rfl) ?_
      refine al_nil ?_
      refine aq_then ?_
      obtain ⟨kk5, hkk5, h⟩ := lt_some h
      refine aw_seq_join (ι := Int) (fun i => (memOf w0 Z0 [] [] [(fDat (tyList (tyInt .i64)) [v0_0] a0)])) (fun i => (tab [(4, (Value.int .i64 i))])) (fun i => kk5 i = some r) ?_ ?_
      · rintro j4i4 h
        have h : kk5 j4i4 = some r := h
        rw [hkk5] at h
        dsimp only at h
        clear hkk5
        refine aw_show (m := (memOf w0 Z0 [] [] [(fDat (tyList (tyInt .i64)) [v0_0] a0)])) (S := (tab [(4, (Value.int .i64 j4i4))])) ?_
        refine aw_seq ?_
        refine aw_region ?_
        refine al_val (ov_move rfl rfl) ?_
        refine al_val (ov_assign rfl rfl) ?_
        refine al_val (ov_assign rfl rfl) ?_
        refine al_nil ?_
        refine aq_then ?_
        refine aw_ret ?_
        obtain rfl := Option.some.inj h
        exact fn_ret () [] [] rfl rfl rfl rfl (res2 rfl rfl rfl) rfl rfl rfl (by decide)
      · clear hkk5
        refine aw_seq ?_
        refine aw_region ?_
        refine al_val (ov_move rfl rfl) ?_
        refine al_val (ov_lenD 0 rfl rfl Try.underlying24 rfl) ?_
        refine al_val (ov_move rfl rfl) ?_
        refine al_nil ?_
        refine aq_then ?_
        refine aw_block ?_
        refine aw_state (aw_loop (ι := Int × Int) (fun i => (memOf w0 Z0 [] [] [(fDat (tyList (tyInt .i64)) [v0_0] a0)])) (fun i => (tab [(4, (Value.int .i64 i.1)), (19, v0_0), (20, (Value.int .i64 (a0.length : Int))), (21, (Value.int .i64 i.2))])) (fun q i => f_huff_Kraft_L8 a0 kk5 q i.1 i.2 = some r) ?_ fu ((0 : Int), (0 : Int)) h) (fun w a hm hs => norm hm hs [] [0] [(4, (Value.int .i64 (0 : Int))), (19, v0_0), (20, (Value.int .i64 (a0.length : Int))), (21, (Value.int .i64 (0 : Int)))] (by decide) ⟨rfl, rfl, rfl, rfl, trivial⟩)
        clear h
        rintro k7 ⟨l6i4, l6i21⟩ h
        have h : f_huff_Kraft_L8 a0 kk5 k7 l6i4 l6i21 = some r := h
        obtain _ | k7 := k7
        · rw [f_huff_Kraft_L8] at h; cases h
        rw [f_huff_Kraft_L8] at h
        refine aw_show (m := (memOf w0 Z0 [] [] [(fDat (tyList (tyInt .i64)) [v0_0] a0)])) (S := (tab [(4, (Value.int .i64 l6i4)), (19, v0_0), (20, (Value.int .i64 (a0.length : Int))), (21, (Value.int .i64 l6i21))])) ?_
        refine aw_seq ?_
        refine aw_region ?_
        refine al_val (ov_int rfl rfl rfl rfl) ?_
        refine al_nil ?_
        refine aq_then ?_
        refine aw_seq ?_
        refine aw_cond rfl (fun hb9 => ?_) (fun hb9 => ?_)
        · replace h := bif_t hb9 h
          refine aw_skip ?_
          refine aq_then ?_
          obtain ⟨kk11, hkk11, h⟩ := lt_some h
          refine aw_seq_join (ι := Int) (fun i => (memOf w0 Z0 [] [] [(fDat (tyList (tyInt .i64)) [v0_0] a0)])) (fun i => (tab [(4, (Value.int .i64 i)), (19, v0_0), (20, (Value.int .i64 (a0.length : Int))), (21, (Value.int .i64 l6i21))])) (fun i => kk11 i = some r) ?_ ?_
          · rintro j10i4 h
            have h : kk11 j10i4 = some r := h
            rw [hkk11] at h
            dsimp only at h
            clear hkk11
            refine aw_show (m := (memOf w0 Z0 [] [] [(fDat (tyList (tyInt .i64)) [v0_0] a0)])) (S := (tab [(4, (Value.int .i64 j10i4)), (19, v0_0), (20, (Value.int .i64 (a0.length : Int))), (21, (Value.int .i64 l6i21))])) ?_
            refine aw_region ?_
            refine al_val (ov_int rfl rfl rfl rfl) ?_
            refine al_val (ov_move rfl rfl) ?_
            refine al_nil ?_
            exact aq_again k7 (j10i4, (IntKind.i64.wrap (l6i21 + (1 : Int)))) (Nat.lt_succ_self _) h (fun w a hm hs => norm hm hs [] [0] [(4, (Value.int .i64 j10i4)), (19, v0_0), (20, (Value.int .i64 (a0.length : Int))), (21, (Value.int .i64 (IntKind.i64.wrap (l6i21 + (1 : Int)))))] (by decide) ⟨rfl, rfl, rfl, rfl, trivial⟩)
          · clear hkk11
            refine aw_block ?_
            refine aw_seq ?_
            refine aw_region ?_
            obtain ⟨u12, hu13, h⟩ := opt_some h
            refine al_idxD 0 hu13 rfl rfl rfl Try.underlying24 sz3 rfl (fun p14 => ?_)
            refine al_val (ov_loadP (ds := [(Value.int .i64 u12)]) 0 rfl (fun h => h) rfl Try.underlying3 sz3 rfl rfl rfl) ?_
            refine al_val (ov_assign rfl rfl) ?_
            refine al_nil ?_
            refine aq_then ?_
            refine aw_seq ?_
            refine aw_region ?_
            refine al_val (ov_move rfl rfl) ?_
            refine al_val (ov_int rfl rfl rfl rfl) ?_
            refine al_nil ?_
            refine aq_then ?_
            refine aw_cond rfl (fun hb15 => ?_) (fun hb15 => ?_)
            · replace h := bif_t hb15 h
              refine aw_region ?_
              refine al_val (ov_move rfl rfl) ?_
              refine al_val (ov_move rfl rfl) ?_
              refine al_val (ov_int rfl rfl rfl rfl) ?_
              obtain ⟨hc16, h⟩ := req_some h
              refine al_val (ov_shl hc16 rfl rfl rfl) ?_
              refine al_val (ov_int rfl rfl rfl rfl) ?_
              refine al_val (ov_assign rfl rfl) ?_
              refine al_nil ?_
              refine aq_block ?_
              exact aq_join (IntKind.i64.wrap (l6i4 + (IntKind.i64.wrap ((1 : Int) * 2 ^ min ((IntKind.i64.wrap ((48 : Int) - u12))).toNat (IntKind.bits .i64))))) h (fun w a hm hs => norm hm hs [] [1] [(4, (Value.int .i64 (IntKind.i64.wrap (l6i4 + (IntKind.i64.wrap ((1 : Int) * 2 ^ min ((IntKind.i64.wrap ((48 : Int) - u12))).toNat (IntKind.bits .i64))))))), (19, v0_0), (20, (Value.int .i64 (a0.length : Int))), (21, (Value.int .i64 l6i21))] (by decide) ⟨rfl, rfl, rfl, rfl, trivial⟩)
            · replace h := bif_f hb15 h
              refine aw_skip ?_
              refine aq_block ?_
              exact aq_join l6i4 h (fun w a hm hs => norm hm hs [] [1] [(4, (Value.int .i64 l6i4)), (19, v0_0), (20, (Value.int .i64 (a0.length : Int))), (21, (Value.int .i64 l6i21))] (by decide) ⟨rfl, rfl, rfl, rfl, trivial⟩)
        · replace h := bif_f hb9 h
          refine aw_exit ?_
          refine aq_then_exit ?_
          refine aq_then_exit ?_
          refine aq_block_exit ?_
          exact aq_join l6i4 h (fun w a hm hs => norm hm hs [] [0] [(4, (Value.int .i64 l6i4))] (by decide) ⟨rfl, trivial⟩)
  · clear hkk2
    refine aw_region ?_
    refine al_val (ov_move rfl rfl) ?_
    refine al_val (ov_lenD 0 rfl rfl Try.underlying24 rfl) ?_
    refine al_val (ov_int rfl rfl rfl rfl) ?_
    refine al_val (ov_move rfl rfl) ?_
    refine al_caseB 10 rfl (fun hb17 => ?_) (fun hb17 => ?_)
    · replace h := bif_t hb17 h
      refine al_skip ?_
      refine al_skip ?_
      refine al_skip ?_
      refine al_val (ov_pick_t rfl rfl rfl) ?_
      refine al_val (ov_move rfl rfl) ?_
      refine al_skip ?_
      refine al_skip ?_
      refine al_val (ov_pick_t rfl rfl rfl) ?_
      refine al_nil ?_
      exact aq_join true h (fun w a hm hs => norm hm hs [] [0] [(0, v0_0), (18, (Value.bool true))] (by decide) ⟨rfl, rfl, trivial⟩)
    · replace h := bif_f hb17 h
      refine al_val (ov_move rfl rfl) ?_
      refine al_val (ov_lenD 0 rfl rfl Try.underlying24 rfl) ?_
      refine al_val (ov_int rfl rfl rfl rfl) ?_
      refine al_val (ov_pick_f rfl rfl rfl) ?_
      refine al_val (ov_move rfl rfl) ?_
      refine al_caseB 15 rfl (fun hb18 => ?_) (fun hb18 => ?_)
      · replace h := bif_t hb18 h
        refine al_skip ?_
        refine al_skip ?_
        refine al_val (ov_pick_t rfl rfl rfl) ?_
        refine al_nil ?_
        exact aq_join true h (fun w a hm hs => norm hm hs [] [0] [(0, v0_0), (18, (Value.bool true))] (by decide) ⟨rfl, rfl, trivial⟩)
      · replace h := bif_f hb18 h
        refine al_val (ov_move rfl rfl) ?_
        obtain ⟨r20, hc19, h⟩ := opt_some h
        refine al_call (vs := [v0_0, (Value.func (.func 82) #[] #[])]) (f_slices_ContainsFunc___int_int__F82_ok fu v0_0 a0 hc19) [] [] [] (pre_fz 0 rfl pre_nil) rfl (by simp) (by decide) (.inl rfl) rfl Try.func81 rfl rfl rfl (fun _ => ?_)
        refine al_val (ov_pick_f rfl rfl rfl) ?_
        refine al_nil ?_
        exact aq_join r20 h (fun w a hm hs => norm hm hs [] [0] [(0, v0_0), (18, (Value.bool r20))] (by decide) ⟨rfl, rfl, trivial⟩)
def f_lumref_Kraft_L24 (u13 : Int) (kk20 : (Int → Option (Int × Int))) : Nat → Int → Int → Option (Int × Int)
  | 0, _, _ => none
  | k23 + 1, l22i7, l22i30 => (bif (decide (l22i30 < (IntKind.i64.wrap ((48 : Int) - u13)))) then (f_lumref_Kraft_L24 u13 kk20 k23 (IntKind.i64.wrap (l22i7 * (2 : Int))) (IntKind.i64.wrap (l22i30 + (1 : Int)))) else (kk20 l22i7))
def f_lumref_Kraft_L8 (a0 : (List Int)) (kk5 : (Int → Option (Int × Int))) (fu : Nat) : Nat → Int → Int → Option (Int × Int)
  | 0, _, _ => none
  | k7 + 1, l6i4, l6i18 => (lt (fun (l6i4 : Int) (l6i18 : Int) => (f_lumref_Kraft_L8 a0 kk5 fu k7 l6i4 l6i18)) fun (kk9 : Int → Int → Option (Int × Int)) => (bif (decide (l6i18 < (a0.length : Int))) then (lt (fun (j11i4 : Int) => (kk9 j11i4 (IntKind.i64.wrap (l6i18 + (1 : Int))))) fun (kk12 : Int → Option (Int × Int)) => (opt (at? a0 l6i18) fun (u13 : Int) => (lt (fun (j16b27 : Bool) => (bif j16b27 then (some ((0 : Int), (1 : Int))) else (lt (fun (j19i7 : Int) => (bif (decide (u13 > (0 : Int))) then (kk12 (IntKind.i64.wrap (l6i4 + j19i7))) else (kk12 l6i4))) fun (kk20 : Int → Option (Int × Int)) => (f_lumref_Kraft_L24 u13 kk20 fu (1 : Int) (0 : Int))))) fun (kk17 : Bool → Option (Int × Int)) => (bif (decide (u13 < (0 : Int))) then (kk17 true) else (kk17 (decide (u13 > (48 : Int)))))))) else (kk5 l6i4)))
def f_lumref_Kraft (fu : Nat) (a0 : (List Int)) : Option (Int × Int) := (lt (fun (j1b15 : Bool) => (bif j1b15 then (some ((0 : Int), (1 : Int))) else (lt (fun (j4i4 : Int) => (some (j4i4, (0 : Int)))) fun (kk5 : Int → Option (Int × Int)) => (f_lumref_Kraft_L8 a0 kk5 fu fu (0 : Int) (0 : Int))))) fun (kk2 : Bool → Option (Int × Int)) => (bif ((a0.length : Int) == (0 : Int)) then (kk2 true) else (kk2 (decide ((a0.length : Int) > (256 : Int))))))
set_option maxRecDepth 100000 in
theorem f_lumref_Kraft_ok (fu : Nat) (v0_0 : Value) (a0 : (List Int)) {r : (Int × Int)} (h : f_lumref_Kraft fu a0 = some r) : FnOk Try.prog 34 [v0_0] [(fDat (tyList (tyInt .i64)) [v0_0] a0)] [] (fun (i : Unit) => { val := (Value.tuple #[(Value.int .i64 r.1), (Value.int .i64 r.2)]) }) := by
  unfold f_lumref_Kraft at h
  refine fn_enter Try.func34 rfl Try.ntmps34 rfl (fun w0 Z0 => ?_)
  refine aw_seq ?_
  refine aw_region ?_
  refine al_val (ov_assign rfl rfl) ?_
  refine al_val (ov_assign rfl rfl) ?_
  refine al_nil ?_
  refine aq_then ?_
  refine aw_seq ?_
  obtain ⟨kk2, hkk2, h⟩ := lt_some h
  refine aw_seq_join (ι := Bool) (fun i => (memOf w0 Z0 [] [] [(fDat (tyList (tyInt .i64)) [v0_0] a0)])) (fun i => (tab [(0, v0_0), (15, (Value.bool i))])) (fun i => kk2 i = some r) ?_ ?_
  · rintro j1b15 h
    have h : kk2 j1b15 = some r := h
    rw [hkk2] at h
    dsimp only at h
    clear hkk2
    refine aw_show (m := (memOf w0 Z0 [] [] [(fDat (tyList (tyInt .i64)) [v0_0] a0)])) (S := (tab [(0, v0_0), (15, (Value.bool j1b15))])) ?_
    refine aw_cond rfl (fun hb3 => ?_) (fun hb3 => ?_)
    · replace h := bif_t hb3 h
      refine aw_seq ?_
      refine aw_region ?_
      refine al_val (ov_assign rfl rfl) ?_
      refine al_val (ov_assign rfl rfl) ?_
      refine al_nil ?_
      refine aq_then ?_
      refine aw_ret ?_
      refine aq_then_ret ?_
      obtain rfl := Option.some.inj h
      exact fn_ret () [] [] rfl rfl rfl rfl (res2 rfl rfl rfl) rfl rfl rfl (by decide)
    · replace h := bif_f hb3 h
      refine aw_skip ?_
      refine aq_then ?_
      refine aw_seq ?_
      refine aw_region ?_
      refine al_val (ov_assign rfl rfl) ?_
      refine al_nil ?_
      refine aq_then ?_
      obtain ⟨kk5, hkk5, h⟩ := lt_some h
      refine aw_seq_join (ι := Int) (fun i => (memOf w0 Z0 [] [] [(fDat (tyList (tyInt .i64)) [v0_0] a0)])) (fun i => (tab [(4, (Value.int .i64 i))])) (fun i => kk5 i = some r) ?_ ?_
      · rintro j4i4 h
        have h : kk5 j4i4 = some r := h
        rw [hkk5] at h
        dsimp only at h
        clear hkk5
        refine aw_show (m := (memOf w0 Z0 [] [] [(fDat (tyList (tyInt .i64)) [v0_0] a0)])) (S := (tab [(4, (Value.int .i64 j4i4))])) ?_
        refine aw_seq ?_
        refine aw_region ?_
        refine al_val (ov_move rfl rfl) ?_
        refine al_val (ov_assign rfl rfl) ?_
        refine al_val (ov_assign rfl rfl) ?_
        refine al_nil ?_
        refine aq_then ?_
        refine aw_ret ?_
        obtain rfl := Option.some.inj h
        exact fn_ret () [] [] rfl rfl rfl rfl (res2 rfl rfl rfl) rfl rfl rfl (by decide)
      · clear hkk5
        refine aw_seq ?_
        refine aw_region ?_
        refine al_val (ov_move rfl rfl) ?_
        refine al_val (ov_lenD 0 rfl rfl Try.underlying24 rfl) ?_
        refine al_val (ov_move rfl rfl) ?_
        refine al_nil ?_
        refine aq_then ?_
        refine aw_block ?_
        refine aw_state (aw_loop (ι := Int × Int) (fun i => (memOf w0 Z0 [] [] [(fDat (tyList (tyInt .i64)) [v0_0] a0)])) (fun i => (tab [(4, (Value.int .i64 i.1)), (16, v0_0), (17, (Value.int .i64 (a0.length : Int))), (18, (Value.int .i64 i.2))])) (fun q i => f_lumref_Kraft_L8 a0 kk5 fu q i.1 i.2 = some r) ?_ fu ((0 : Int), (0 : Int)) h) (fun w a hm hs => norm hm hs [] [0] [(4, (Value.int .i64 (0 : Int))), (16, v0_0), (17, (Value.int .i64 (a0.length : Int))), (18, (Value.int .i64 (0 : Int)))] (by decide) ⟨rfl, rfl, rfl, rfl, trivial⟩)
        clear h
        rintro k7 ⟨l6i4, l6i18⟩ h
        have h : f_lumref_Kraft_L8 a0 kk5 fu k7 l6i4 l6i18 = some r := h
        obtain _ | k7 := k7
        · rw [f_lumref_Kraft_L8] at h; cases h
        rw [f_lumref_Kraft_L8] at h
        refine aw_show (m := (memOf w0 Z0 [] [] [(fDat (tyList (tyInt .i64)) [v0_0] a0)])) (S := (tab [(4, (Value.int .i64 l6i4)), (16, v0_0), (17, (Value.int .i64 (a0.length : Int))), (18, (Value.int .i64 l6i18))])) ?_
        obtain ⟨kk9, hkk9, h⟩ := lt_some h
        refine aw_body_join (ι := Int × Int) (fun i => (memOf w0 Z0 [] [] [(fDat (tyList (tyInt .i64)) [v0_0] a0)])) (fun i => (tab [(4, (Value.int .i64 i.1)), (16, v0_0), (17, (Value.int .i64 (a0.length : Int))), (18, (Value.int .i64 i.2))])) (fun i => kk9 i.1 i.2 = some r) (fun i h => aq_again k7 i (Nat.lt_succ_self _) (by rw [hkk9] at h; exact h) (fun w a hm hs => ⟨hm, hs⟩)) ?_
        clear hkk9
        refine aw_seq ?_
        refine aw_region ?_
        refine al_val (ov_int rfl rfl rfl rfl) ?_
        refine al_nil ?_
        refine aq_then ?_
        refine aw_seq ?_
        refine aw_cond rfl (fun hb10 => ?_) (fun hb10 => ?_)
        · replace h := bif_t hb10 h
          refine aw_skip ?_
          refine aq_then ?_
          obtain ⟨kk12, hkk12, h⟩ := lt_some h
          refine aw_seq_join (ι := Int) (fun i => (memOf w0 Z0 [] [] [(fDat (tyList (tyInt .i64)) [v0_0] a0)])) (fun i => (tab [(4, (Value.int .i64 i)), (16, v0_0), (17, (Value.int .i64 (a0.length : Int))), (18, (Value.int .i64 l6i18))])) (fun i => kk12 i = some r) ?_ ?_
          · rintro j11i4 h
            have h : kk12 j11i4 = some r := h
            rw [hkk12] at h
            dsimp only at h
            clear hkk12
            refine aw_show (m := (memOf w0 Z0 [] [] [(fDat (tyList (tyInt .i64)) [v0_0] a0)])) (S := (tab [(4, (Value.int .i64 j11i4)), (16, v0_0), (17, (Value.int .i64 (a0.length : Int))), (18, (Value.int .i64 l6i18))])) ?_
            refine aw_region ?_
            refine al_val (ov_int rfl rfl rfl rfl) ?_
            refine al_val (ov_move rfl rfl) ?_
            refine al_nil ?_
            exact aq_join (j11i4, (IntKind.i64.wrap (l6i18 + (1 : Int)))) h (fun w a hm hs => norm hm hs [] [0] [(4, (Value.int .i64 j11i4)), (16, v0_0), (17, (Value.int .i64 (a0.length : Int))), (18, (Value.int .i64 (IntKind.i64.wrap (l6i18 + (1 : Int)))))] (by decide) ⟨rfl, rfl, rfl, rfl, trivial⟩)
          · clear hkk12
            refine aw_block ?_
            refine aw_seq ?_
            refine aw_region ?_
            obtain ⟨u13, hu14, h⟩ := opt_some h
            refine al_idxD 0 hu14 rfl rfl rfl Try.underlying24 sz3 rfl (fun p15 => ?_)
            refine al_val (ov_loadP (ds := [(Value.int .i64 u13)]) 0 rfl (fun h => h) rfl Try.underlying3 sz3 rfl rfl rfl) ?_
            refine al_val (ov_assign rfl rfl) ?_
            refine al_nil ?_
            refine aq_then ?_
            refine aw_seq ?_
            obtain ⟨kk17, hkk17, h⟩ := lt_some h
            refine aw_seq_join (ι := Bool) (fun i => (memOf w0 Z0 [] [] [(fDat (tyList (tyInt .i64)) [v0_0] a0), (fPtr (tyInt .i64) p15 u13)])) (fun i => (tab [(4, (Value.int .i64 l6i4)), (6, (Value.int .i64 u13)), (16, v0_0), (17, (Value.int .i64 (a0.length : Int))), (18, (Value.int .i64 l6i18)), (27, (Value.bool i))])) (fun i => kk17 i = some r) ?_ ?_
            · rintro j16b27 h
              have h : kk17 j16b27 = some r := h
              rw [hkk17] at h
              dsimp only at h
              clear hkk17
              refine aw_show (m := (memOf w0 Z0 [] [] [(fDat (tyList (tyInt .i64)) [v0_0] a0), (fPtr (tyInt .i64) p15 u13)])) (S := (tab [(4, (Value.int .i64 l6i4)), (6, (Value.int .i64 u13)), (16, v0_0), (17, (Value.int .i64 (a0.length : Int))), (18, (Value.int .i64 l6i18)), (27, (Value.bool j16b27))])) ?_
              refine aw_cond rfl (fun hb18 => ?_) (fun hb18 => ?_)
              · replace h := bif_t hb18 h
                refine aw_seq ?_
                refine aw_region ?_
                refine al_val (ov_assign rfl rfl) ?_
                refine al_val (ov_assign rfl rfl) ?_
                refine al_nil ?_
                refine aq_then ?_
                refine aw_ret ?_
                refine aq_then_ret ?_
                refine aq_block_ret ?_
                refine aq_then_ret ?_
                refine aq_then_ret ?_
                refine aq_block_ret ?_
                refine aq_then_ret ?_
                obtain rfl := Option.some.inj h
                exact fn_ret () [] [] rfl rfl rfl rfl (res2 rfl rfl rfl) rfl rfl rfl (by decide)
              · replace h := bif_f hb18 h
                refine aw_skip ?_
                refine aq_then ?_
                refine aw_seq ?_
                refine aw_region ?_
                refine al_val (ov_assign rfl rfl) ?_
                refine al_nil ?_
                refine aq_then ?_
                obtain ⟨kk20, hkk20, h⟩ := lt_some h
                refine aw_seq_join (ι := Int) (fun i => (memOf w0 Z0 [] [] [(fDat (tyList (tyInt .i64)) [v0_0] a0), (fPtr (tyInt .i64) p15 u13)])) (fun i => (tab [(4, (Value.int .i64 l6i4)), (6, (Value.int .i64 u13)), (7, (Value.int .i64 i)), (16, v0_0), (17, (Value.int .i64 (a0.length : Int))), (18, (Value.int .i64 l6i18))])) (fun i => kk20 i = some r) ?_ ?_
                · rintro j19i7 h
                  have h : kk20 j19i7 = some r := h
                  rw [hkk20] at h
                  dsimp only at h
                  clear hkk20
                  refine aw_show (m := (memOf w0 Z0 [] [] [(fDat (tyList (tyInt .i64)) [v0_0] a0), (fPtr (tyInt .i64) p15 u13)])) (S := (tab [(4, (Value.int .i64 l6i4)), (6, (Value.int .i64 u13)), (7, (Value.int .i64 j19i7)), (16, v0_0), (17, (Value.int .i64 (a0.length : Int))), (18, (Value.int .i64 l6i18))])) ?_
                  refine aw_seq ?_
                  refine aw_region ?_
                  refine al_val (ov_move rfl rfl) ?_
                  refine al_val (ov_int rfl rfl rfl rfl) ?_
                  refine al_nil ?_
                  refine aq_then ?_
                  refine aw_cond rfl (fun hb21 => ?_) (fun hb21 => ?_)
                  · replace h := bif_t hb21 h
                    refine aw_region ?_
                    refine al_val (ov_move rfl rfl) ?_
                    refine al_val (ov_move rfl rfl) ?_
                    refine al_val (ov_int rfl rfl rfl rfl) ?_
                    refine al_val (ov_assign rfl rfl) ?_
                    refine al_nil ?_
                    refine aq_block ?_
                    exact aq_join (IntKind.i64.wrap (l6i4 + j19i7)) h (fun w a hm hs => norm hm hs [] [0] [(4, (Value.int .i64 (IntKind.i64.wrap (l6i4 + j19i7)))), (16, v0_0), (17, (Value.int .i64 (a0.length : Int))), (18, (Value.int .i64 l6i18))] (by decide) ⟨rfl, rfl, rfl, rfl, trivial⟩)
                  · replace h := bif_f hb21 h
                    refine aw_skip ?_
                    refine aq_block ?_
                    exact aq_join l6i4 h (fun w a hm hs => norm hm hs [] [0] [(4, (Value.int .i64 l6i4)), (16, v0_0), (17, (Value.int .i64 (a0.length : Int))), (18, (Value.int .i64 l6i18))] (by decide) ⟨rfl, rfl, rfl, rfl, trivial⟩)
                · clear hkk20
                  refine aw_seq ?_
                  refine aw_region ?_
                  refine al_val (ov_move rfl rfl) ?_
                  refine al_val (ov_int rfl rfl rfl rfl) ?_
                  refine al_val (ov_move rfl rfl) ?_
                  refine al_nil ?_
                  refine aq_then ?_
                  refine aw_block ?_
                  refine aw_state (aw_loop (ι := Int × Int) (fun i => (memOf w0 Z0 [] [] [(fDat (tyList (tyInt .i64)) [v0_0] a0), (fPtr (tyInt .i64) p15 u13)])) (fun i => (tab [(4, (Value.int .i64 l6i4)), (6, (Value.int .i64 u13)), (7, (Value.int .i64 i.1)), (16, v0_0), (17, (Value.int .i64 (a0.length : Int))), (18, (Value.int .i64 l6i18)), (29, (Value.int .i64 (IntKind.i64.wrap ((48 : Int) - u13)))), (30, (Value.int .i64 i.2))])) (fun q i => f_lumref_Kraft_L24 u13 kk20 q i.1 i.2 = some r) ?_ fu ((1 : Int), (0 : Int)) h) (fun w a hm hs => norm hm hs [] [0, 1] [(4, (Value.int .i64 l6i4)), (6, (Value.int .i64 u13)), (7, (Value.int .i64 (1 : Int))), (16, v0_0), (17, (Value.int .i64 (a0.length : Int))), (18, (Value.int .i64 l6i18)), (29, (Value.int .i64 (IntKind.i64.wrap ((48 : Int) - u13)))), (30, (Value.int .i64 (0 : Int)))] (by decide) ⟨rfl, rfl, rfl, rfl, rfl, rfl, rfl, rfl, trivial⟩)
                  clear h
                  rintro k23 ⟨l22i7, l22i30⟩ h
                  have h : f_lumref_Kraft_L24 u13 kk20 k23 l22i7 l22i30 = some r := h
                  obtain _ | k23 := k23
                  · rw [f_lumref_Kraft_L24] at h; cases h
                  rw [f_lumref_Kraft_L24] at h
                  refine aw_show (m := (memOf w0 Z0 [] [] [(fDat (tyList (tyInt .i64)) [v0_0] a0), (fPtr (tyInt .i64) p15 u13)])) (S := (tab [(4, (Value.int .i64 l6i4)), (6, (Value.int .i64 u13)), (7, (Value.int .i64 l22i7)), (16, v0_0), (17, (Value.int .i64 (a0.length : Int))), (18, (Value.int .i64 l6i18)), (29, (Value.int .i64 (IntKind.i64.wrap ((48 : Int) - u13)))), (30, (Value.int .i64 l22i30))])) ?_
                  refine aw_seq ?_
                  refine aw_region ?_
                  refine al_val (ov_int rfl rfl rfl rfl) ?_
                  refine al_nil ?_
                  refine aq_then ?_
                  refine aw_seq ?_
                  refine aw_cond rfl (fun hb25 => ?_) (fun hb25 => ?_)
                  · replace h := bif_t hb25 h
                    refine aw_skip ?_
                    refine aq_then ?_
                    refine aw_seq ?_
                    refine aw_block ?_
                    refine aw_region ?_
                    refine al_val (ov_move rfl rfl) ?_
                    refine al_val (ov_int rfl rfl rfl rfl) ?_
                    refine al_val (ov_assign rfl rfl) ?_
                    refine al_nil ?_
                    refine aq_block ?_
                    refine aq_then ?_
                    refine aw_region ?_
                    refine al_val (ov_int rfl rfl rfl rfl) ?_
                    refine al_val (ov_move rfl rfl) ?_
                    refine al_nil ?_
                    exact aq_again k23 ((IntKind.i64.wrap (l22i7 * (2 : Int))), (IntKind.i64.wrap (l22i30 + (1 : Int)))) (Nat.lt_succ_self _) h (fun w a hm hs => norm hm hs [] [0, 1] [(4, (Value.int .i64 l6i4)), (6, (Value.int .i64 u13)), (7, (Value.int .i64 (IntKind.i64.wrap (l22i7 * (2 : Int))))), (16, v0_0), (17, (Value.int .i64 (a0.length : Int))), (18, (Value.int .i64 l6i18)), (29, (Value.int .i64 (IntKind.i64.wrap ((48 : Int) - u13)))), (30, (Value.int .i64 (IntKind.i64.wrap (l22i30 + (1 : Int)))))] (by decide) ⟨rfl, rfl, rfl, rfl, rfl, rfl, rfl, rfl, trivial⟩)
                  · replace h := bif_f hb25 h
                    refine aw_exit ?_
                    refine aq_then_exit ?_
                    refine aq_then_exit ?_
                    refine aq_block_exit ?_
                    exact aq_join l22i7 h (fun w a hm hs => norm hm hs [] [0, 1] [(4, (Value.int .i64 l6i4)), (6, (Value.int .i64 u13)), (7, (Value.int .i64 l22i7)), (16, v0_0), (17, (Value.int .i64 (a0.length : Int))), (18, (Value.int .i64 l6i18))] (by decide) ⟨rfl, rfl, rfl, rfl, rfl, rfl, trivial⟩)
            · clear hkk17
              refine aw_region ?_
              refine al_val (ov_move rfl rfl) ?_
              refine al_val (ov_int rfl rfl rfl rfl) ?_
              refine al_val (ov_move rfl rfl) ?_
              refine al_caseB 24 rfl (fun hb26 => ?_) (fun hb26 => ?_)
              · replace h := bif_t hb26 h
                refine al_skip ?_
                refine al_skip ?_
                refine al_val (ov_pick_t rfl rfl rfl) ?_
                refine al_nil ?_
                exact aq_join true h (fun w a hm hs => norm hm hs [] [1, 0] [(4, (Value.int .i64 l6i4)), (6, (Value.int .i64 u13)), (16, v0_0), (17, (Value.int .i64 (a0.length : Int))), (18, (Value.int .i64 l6i18)), (27, (Value.bool true))] (by decide) ⟨rfl, rfl, rfl, rfl, rfl, rfl, trivial⟩)
              · replace h := bif_f hb26 h
                refine al_val (ov_move rfl rfl) ?_
                refine al_val (ov_int rfl rfl rfl rfl) ?_
                refine al_val (ov_pick_f rfl rfl rfl) ?_
                refine al_nil ?_
                exact aq_join (decide (u13 > (48 : Int))) h (fun w a hm hs => norm hm hs [] [1, 0] [(4, (Value.int .i64 l6i4)), (6, (Value.int .i64 u13)), (16, v0_0), (17, (Value.int .i64 (a0.length : Int))), (18, (Value.int .i64 l6i18)), (27, (Value.bool (decide (u13 > (48 : Int)))))] (by decide) ⟨rfl, rfl, rfl, rfl, rfl, rfl, trivial⟩)
        · replace h := bif_f hb10 h
          refine aw_exit ?_
          refine aq_then_exit ?_
          refine aq_then_exit ?_
          refine aq_block_exit ?_
          exact aq_join l6i4 h (fun w a hm hs => norm hm hs [] [0] [(4, (Value.int .i64 l6i4))] (by decide) ⟨rfl, trivial⟩)
  · clear hkk2
    refine aw_region ?_
    refine al_val (ov_move rfl rfl) ?_
    refine al_val (ov_lenD 0 rfl rfl Try.underlying24 rfl) ?_
    refine al_val (ov_int rfl rfl rfl rfl) ?_
    refine al_val (ov_move rfl rfl) ?_
    refine al_caseB 11 rfl (fun hb27 => ?_) (fun hb27 => ?_)
    · replace h := bif_t hb27 h
      refine al_skip ?_
      refine al_skip ?_
      refine al_skip ?_
      refine al_val (ov_pick_t rfl rfl rfl) ?_
      refine al_nil ?_
      exact aq_join true h (fun w a hm hs => norm hm hs [] [0] [(0, v0_0), (15, (Value.bool true))] (by decide) ⟨rfl, rfl, trivial⟩)
    · replace h := bif_f hb27 h
      refine al_val (ov_move rfl rfl) ?_
      refine al_val (ov_lenD 0 rfl rfl Try.underlying24 rfl) ?_
      refine al_val (ov_int rfl rfl rfl rfl) ?_
      refine al_val (ov_pick_f rfl rfl rfl) ?_
      refine al_nil ?_
      exact aq_join (decide ((a0.length : Int) > (256 : Int))) h (fun w a hm hs => norm hm hs [] [0] [(0, v0_0), (15, (Value.bool (decide ((a0.length : Int) > (256 : Int)))))] (by decide) ⟨rfl, rfl, trivial⟩)
def f_huff_Codes_L18 (a0 : (List Int)) (l9i9 : Int) (kk15 : ((List Int) → Int → Int → Option ((List Int) × Int))) : Nat → (List Int) → Int → Int → Int → Option ((List Int) × Int)
  | 0, _, _, _, _ => none
  | k17 + 1, l16x6, l16i7, l16i8, l16i31 => (bif (decide (l16i31 < (a0.length : Int))) then (lt (fun (j20x6 : (List Int)) (j20i7 : Int) (j20i8 : Int) => (f_huff_Codes_L18 a0 l9i9 kk15 k17 j20x6 j20i7 j20i8 (IntKind.i64.wrap (l16i31 + (1 : Int))))) fun (kk21 : (List Int) → Int → Int → Option ((List Int) × Int)) => (opt (at? a0 l16i31) fun (u22 : Int) => (bif (u22 == l9i9) then (req (0 ≤ (IntKind.i64.wrap (l9i9 - l16i8))) (opt (at? l16x6 l16i31) fun (u27 : Int) => (kk21 (l16x6.set (l16i31).toNat (IntKind.i64.wrap (l16i7 * 2 ^ min ((IntKind.i64.wrap (l9i9 - l16i8))).toNat (IntKind.bits .i64)))) (IntKind.i64.wrap ((IntKind.i64.wrap (l16i7 * 2 ^ min ((IntKind.i64.wrap (l9i9 - l16i8))).toNat (IntKind.bits .i64))) + (1 : Int))) l9i9))) else (kk21 l16x6 l16i7 l16i8)))) else (kk15 l16x6 l16i7 l16i8))
def f_huff_Codes_L11 (a0 : (List Int)) (kk8 : ((List Int) → Option ((List Int) × Int))) (fu : Nat) : Nat → (List Int) → Int → Int → Int → Option ((List Int) × Int)
  | 0, _, _, _, _ => none
  | k10 + 1, l9x6, l9i7, l9i8, l9i9 => (lt (fun (l9x6 : (List Int)) (l9i7 : Int) (l9i8 : Int) (l9i9 : Int) => (f_huff_Codes_L11 a0 kk8 fu k10 l9x6 l9i7 l9i8 l9i9)) fun (kk12 : (List Int) → Int → Int → Int → Option ((List Int) × Int)) => (bif (decide (l9i9 ≤ (48 : Int))) then (lt (fun (j14x6 : (List Int)) (j14i7 : Int) (j14i8 : Int) => (kk12 j14x6 j14i7 j14i8 (IntKind.i64.wrap (l9i9 + (1 : Int))))) fun (kk15 : (List Int) → Int → Int → Option ((List Int) × Int)) => (f_huff_Codes_L18 a0 l9i9 kk15 fu l9x6 l9i7 l9i8 (0 : Int))) else (kk8 l9x6)))
def f_huff_Codes (fu : Nat) (a0 : (List Int)) : Option ((List Int) × Int) := (opt (f_huff_Kraft fu a0) fun (r2 : (Int × Int)) => (bif (r2.2 != (0 : Int)) then (some (([] : List Int), r2.2)) else (bif (decide (r2.1 > (281474976710656 : Int))) then (some (([] : List Int), (4 : Int))) else (req (0 ≤ (a0.length : Int) ∧ 8 * (a0.length : Int) ≤ 281474976710656 ∧ (a0.length : Int) ≤ 9223372036854775807) (lt (fun (j7x6 : (List Int)) => (some (j7x6, (0 : Int)))) fun (kk8 : (List Int) → Option ((List Int) × Int)) => (f_huff_Codes_L11 a0 kk8 fu fu (List.replicate ((a0.length : Int)).toNat 0) (0 : Int) (0 : Int) (1 : Int)))))))
set_option maxRecDepth 100000 in
theorem f_huff_Codes_ok (fu : Nat) (v0_0 : Value) (a0 : (List Int)) {r : ((List Int) × Int)} (h : f_huff_Codes fu a0 = some r) : FnOk Try.prog 35 [v0_0] [(fDat (tyList (tyInt .i64)) [v0_0] a0)] [] (fun (i : Value) => { val := (Value.tuple #[i, (Value.int .i64 r.2)]), own := [(oRow i 3 (tyInt .i64) r.1)] }) := by
  unfold f_huff_Codes at h
  refine fn_enter Try.func35 rfl Try.ntmps35 rfl (fun w0 Z0 => ?_)
  refine aw_seq ?_
  refine aw_region ?_
  refine al_val (ov_assign rfl rfl) ?_
  refine al_val (ov_assign rfl rfl) ?_
  refine al_nil ?_
  refine aq_then ?_
  refine aw_seq ?_
  refine aw_region ?_
  refine al_val (ov_move rfl rfl) ?_
  obtain ⟨r2, hc1, h⟩ := opt_some h
  refine al_call (vs := [v0_0]) (f_huff_Kraft_ok fu v0_0 a0 hc1) [] [] [] (pre_fz 0 rfl pre_nil) rfl (by simp) (by decide) (.inl rfl) rfl Try.func33 rfl rfl rfl (fun _ => ?_)
  refine al_val (ov_move rfl rfl) ?_
  refine al_val (ov_extract rfl rfl rfl) ?_
  refine al_val (ov_extract rfl rfl rfl) ?_
  refine al_val (ov_assign rfl rfl) ?_
  refine al_val (ov_assign rfl rfl) ?_
  refine al_nil ?_
  refine aq_then ?_
  refine aw_seq ?_
  refine aw_seq ?_
  refine aw_region ?_
  refine al_val (ov_move rfl rfl) ?_
  refine al_val (ov_int rfl rfl rfl rfl) ?_
  refine al_nil ?_
  refine aq_then ?_
  refine aw_cond rfl (fun hb3 => ?_) (fun hb3 => ?_)
  · replace h := bif_t hb3 h
    refine aw_seq ?_
    refine aw_region ?_
    refine al_val (ov_move rfl rfl) ?_
    refine al_val (ov_assign rfl rfl) ?_
    refine al_val (ov_assign rfl rfl) ?_
    refine al_nil ?_
    refine aq_then ?_
    refine aw_ret ?_
    refine aq_then_ret ?_
    refine aq_nilR 3 (tyInt .i64) ?_
    obtain rfl := Option.some.inj h
    exact fn_ret (Value.slice none 0 0) [0] [] rfl rfl rfl rfl (res2 rfl rfl rfl) rfl rfl rfl (by decide)
  · replace h := bif_f hb3 h
    refine aw_skip ?_
    refine aq_then ?_
    refine aw_seq ?_
    refine aw_seq ?_
    refine aw_region ?_
    refine al_val (ov_move rfl rfl) ?_
    refine al_val (ov_int rfl rfl rfl rfl) ?_
    refine al_nil ?_
    refine aq_then ?_
    refine aw_cond rfl (fun hb4 => ?_) (fun hb4 => ?_)
    · replace h := bif_t hb4 h
      refine aw_seq ?_
      refine aw_region ?_
      refine al_val (ov_assign rfl rfl) ?_
      refine al_val (ov_assign rfl rfl) ?_
      refine al_nil ?_
      refine aq_then ?_
      refine aw_ret ?_
      refine aq_then_ret ?_
      refine aq_nilR 3 (tyInt .i64) ?_
      obtain rfl := Option.some.inj h
      exact fn_ret (Value.slice none 0 0) [0] [] rfl rfl rfl rfl (res2 rfl rfl rfl) rfl rfl rfl (by decide)
    · replace h := bif_f hb4 h
      refine aw_skip ?_
      refine aq_then ?_
      refine aw_seq ?_
      refine aw_region ?_
      refine al_val (ov_move rfl rfl) ?_
      refine al_val (ov_lenD 0 rfl rfl Try.underlying24 rfl) ?_
      obtain ⟨hc5, h⟩ := req_some h
      refine al_make (τ := (tyInt .i64)) (x0 := 0) hc5.1 hc5.2.1 hc5.2.2 rfl rfl Try.underlying24 to3 (fun _ _ => rfl) rfl rfl (fun v6 => ?_)
      refine al_val (ov_assign rfl rfl) ?_
      refine al_nil ?_
      refine aq_then ?_
      refine aw_seq ?_
      refine aw_region ?_
      refine al_val (ov_assign rfl rfl) ?_
      refine al_val (ov_assign rfl rfl) ?_
      refine al_nil ?_
      refine aq_then ?_
      obtain ⟨kk8, hkk8, h⟩ := lt_some h
      refine aw_seq_join (ι := (List Int)) (fun i => (memOf w0 Z0 [] [(oRow v6 3 (tyInt .i64) i)] [(fDat (tyList (tyInt .i64)) [v0_0] a0)])) (fun i => (tab [(6, v6)])) (fun i => kk8 i = some r) ?_ ?_
      · rintro j7x6 h
        have h : kk8 j7x6 = some r := h
        rw [hkk8] at h
        dsimp only at h
        clear hkk8
        refine aw_show (m := (memOf w0 Z0 [] [(oRow v6 3 (tyInt .i64) j7x6)] [(fDat (tyList (tyInt .i64)) [v0_0] a0)])) (S := (tab [(6, v6)])) ?_
        refine aw_seq ?_
        refine aw_region ?_
        refine al_val (ov_move rfl rfl) ?_
        refine al_val (ov_assign rfl rfl) ?_
        refine al_val (ov_assign rfl rfl) ?_
        refine al_nil ?_
        refine aq_then ?_
        refine aw_ret ?_
        obtain rfl := Option.some.inj h
        exact fn_ret v6 [0] [] rfl rfl rfl rfl (res2 rfl rfl rfl) rfl rfl rfl (by decide)
      · clear hkk8
        refine aw_seq ?_
        refine aw_region ?_
        refine al_val (ov_assign rfl rfl) ?_
        refine al_nil ?_
        refine aq_then ?_
        refine aw_block ?_
        refine aw_state (aw_loop (ι := (List Int) × Int × Int × Int) (fun i => (memOf w0 Z0 [] [(oRow v6 3 (tyInt .i64) i.1)] [(fDat (tyList (tyInt .i64)) [v0_0] a0)])) (fun i => (tab [(0, v0_0), (6, v6), (7, (Value.int .i64 i.2.1)), (8, (Value.int .i64 i.2.2.1)), (9, (Value.int .i64 i.2.2.2))])) (fun q i => f_huff_Codes_L11 a0 kk8 fu q i.1 i.2.1 i.2.2.1 i.2.2.2 = some r) ?_ fu ((List.replicate ((a0.length : Int)).toNat 0), (0 : Int), (0 : Int), (1 : Int)) h) (fun w a hm hs => norm hm hs [0] [0] [(0, v0_0), (6, v6), (7, (Value.int .i64 (0 : Int))), (8, (Value.int .i64 (0 : Int))), (9, (Value.int .i64 (1 : Int)))] (by decide) ⟨rfl, rfl, rfl, rfl, rfl, trivial⟩)
        clear h
        rintro k10 ⟨l9x6, l9i7, l9i8, l9i9⟩ h
        have h : f_huff_Codes_L11 a0 kk8 fu k10 l9x6 l9i7 l9i8 l9i9 = some r := h
        obtain _ | k10 := k10
        · rw [f_huff_Codes_L11] at h; cases h
        rw [f_huff_Codes_L11] at h
        refine aw_show (m := (memOf w0 Z0 [] [(oRow v6 3 (tyInt .i64) l9x6)] [(fDat (tyList (tyInt .i64)) [v0_0] a0)])) (S := (tab [(0, v0_0), (6, v6), (7, (Value.int .i64 l9i7)), (8, (Value.int .i64 l9i8)), (9, (Value.int .i64 l9i9))])) ?_
        obtain ⟨kk12, hkk12, h⟩ := lt_some h
        refine aw_body_join (ι := (List Int) × Int × Int × Int) (fun i => (memOf w0 Z0 [] [(oRow v6 3 (tyInt .i64) i.1)] [(fDat (tyList (tyInt .i64)) [v0_0] a0)])) (fun i => (tab [(0, v0_0), (6, v6), (7, (Value.int .i64 i.2.1)), (8, (Value.int .i64 i.2.2.1)), (9, (Value.int .i64 i.2.2.2))])) (fun i => kk12 i.1 i.2.1 i.2.2.1 i.2.2.2 = some r) (fun i h => aq_again k10 i (Nat.lt_succ_self _) (by rw [hkk12] at h; exact h) (fun w a hm hs => ⟨hm, hs⟩)) ?_
        clear hkk12
        refine aw_seq ?_
        refine aw_seq ?_
        refine aw_region ?_
        refine al_val (ov_move rfl rfl) ?_
        refine al_val (ov_int rfl rfl rfl rfl) ?_
        refine al_nil ?_
        refine aq_then ?_
        refine aw_cond rfl (fun hb13 => ?_) (fun hb13 => ?_)
        · replace h := bif_t hb13 h
          refine aw_skip ?_
          refine aq_then ?_
          obtain ⟨kk15, hkk15, h⟩ := lt_some h
          refine aw_seq_join (ι := (List Int) × Int × Int) (fun i => (memOf w0 Z0 [] [(oRow v6 3 (tyInt .i64) i.1)] [(fDat (tyList (tyInt .i64)) [v0_0] a0)])) (fun i => (tab [(0, v0_0), (6, v6), (7, (Value.int .i64 i.2.1)), (8, (Value.int .i64 i.2.2)), (9, (Value.int .i64 l9i9))])) (fun i => kk15 i.1 i.2.1 i.2.2 = some r) ?_ ?_
          · rintro ⟨j14x6, j14i7, j14i8⟩ h
            have h : kk15 j14x6 j14i7 j14i8 = some r := h
            rw [hkk15] at h
            dsimp only at h
            clear hkk15
            refine aw_show (m := (memOf w0 Z0 [] [(oRow v6 3 (tyInt .i64) j14x6)] [(fDat (tyList (tyInt .i64)) [v0_0] a0)])) (S := (tab [(0, v0_0), (6, v6), (7, (Value.int .i64 j14i7)), (8, (Value.int .i64 j14i8)), (9, (Value.int .i64 l9i9))])) ?_
            refine aw_region ?_
            refine al_val (ov_move rfl rfl) ?_
            refine al_val (ov_int rfl rfl rfl rfl) ?_
            refine al_val (ov_assign rfl rfl) ?_
            refine al_nil ?_
            exact aq_join (j14x6, j14i7, j14i8, (IntKind.i64.wrap (l9i9 + (1 : Int)))) h (fun w a hm hs => norm hm hs [0] [0] [(0, v0_0), (6, v6), (7, (Value.int .i64 j14i7)), (8, (Value.int .i64 j14i8)), (9, (Value.int .i64 (IntKind.i64.wrap (l9i9 + (1 : Int)))))] (by decide) ⟨rfl, rfl, rfl, rfl, rfl, trivial⟩)
          · clear hkk15
            refine aw_block ?_
            refine aw_seq ?_
            refine aw_region ?_
            refine al_val (ov_move rfl rfl) ?_
            refine al_val (ov_lenD 0 rfl rfl Try.underlying24 rfl) ?_
            refine al_val (ov_move rfl rfl) ?_
            refine al_nil ?_
            refine aq_then ?_
            refine aw_block ?_
            refine aw_state (aw_loop (ι := (List Int) × Int × Int × Int) (fun i => (memOf w0 Z0 [] [(oRow v6 3 (tyInt .i64) i.1)] [(fDat (tyList (tyInt .i64)) [v0_0] a0)])) (fun i => (tab [(0, v0_0), (6, v6), (7, (Value.int .i64 i.2.1)), (8, (Value.int .i64 i.2.2.1)), (9, (Value.int .i64 l9i9)), (29, v0_0), (30, (Value.int .i64 (a0.length : Int))), (31, (Value.int .i64 i.2.2.2))])) (fun q i => f_huff_Codes_L18 a0 l9i9 kk15 q i.1 i.2.1 i.2.2.1 i.2.2.2 = some r) ?_ fu (l9x6, l9i7, l9i8, (0 : Int)) h) (fun w a hm hs => norm hm hs [0] [0] [(0, v0_0), (6, v6), (7, (Value.int .i64 l9i7)), (8, (Value.int .i64 l9i8)), (9, (Value.int .i64 l9i9)), (29, v0_0), (30, (Value.int .i64 (a0.length : Int))), (31, (Value.int .i64 (0 : Int)))] (by decide) ⟨rfl, rfl, rfl, rfl, rfl, rfl, rfl, rfl, trivial⟩)
            clear h
            rintro k17 ⟨l16x6, l16i7, l16i8, l16i31⟩ h
            have h : f_huff_Codes_L18 a0 l9i9 kk15 k17 l16x6 l16i7 l16i8 l16i31 = some r := h
            obtain _ | k17 := k17
            · rw [f_huff_Codes_L18] at h; cases h
            rw [f_huff_Codes_L18] at h
            refine aw_show (m := (memOf w0 Z0 [] [(oRow v6 3 (tyInt .i64) l16x6)] [(fDat (tyList (tyInt .i64)) [v0_0] a0)])) (S := (tab [(0, v0_0), (6, v6), (7, (Value.int .i64 l16i7)), (8, (Value.int .i64 l16i8)), (9, (Value.int .i64 l9i9)), (29, v0_0), (30, (Value.int .i64 (a0.length : Int))), (31, (Value.int .i64 l16i31))])) ?_
            refine aw_seq ?_
            refine aw_region ?_
            refine al_val (ov_int rfl rfl rfl rfl) ?_
            refine al_nil ?_
            refine aq_then ?_
            refine aw_seq ?_
            refine aw_cond rfl (fun hb19 => ?_) (fun hb19 => ?_)
            · replace h := bif_t hb19 h
              refine aw_skip ?_
              refine aq_then ?_
              obtain ⟨kk21, hkk21, h⟩ := lt_some h
              refine aw_seq_join (ι := (List Int) × Int × Int) (fun i => (memOf w0 Z0 [] [(oRow v6 3 (tyInt .i64) i.1)] [(fDat (tyList (tyInt .i64)) [v0_0] a0)])) (fun i => (tab [(0, v0_0), (6, v6), (7, (Value.int .i64 i.2.1)), (8, (Value.int .i64 i.2.2)), (9, (Value.int .i64 l9i9)), (29, v0_0), (30, (Value.int .i64 (a0.length : Int))), (31, (Value.int .i64 l16i31))])) (fun i => kk21 i.1 i.2.1 i.2.2 = some r) ?_ ?_
              · rintro ⟨j20x6, j20i7, j20i8⟩ h
                have h : kk21 j20x6 j20i7 j20i8 = some r := h
                rw [hkk21] at h
                dsimp only at h
                clear hkk21
                refine aw_show (m := (memOf w0 Z0 [] [(oRow v6 3 (tyInt .i64) j20x6)] [(fDat (tyList (tyInt .i64)) [v0_0] a0)])) (S := (tab [(0, v0_0), (6, v6), (7, (Value.int .i64 j20i7)), (8, (Value.int .i64 j20i8)), (9, (Value.int .i64 l9i9)), (29, v0_0), (30, (Value.int .i64 (a0.length : Int))), (31, (Value.int .i64 l16i31))])) ?_
                refine aw_region ?_
                refine al_val (ov_int rfl rfl rfl rfl) ?_
                refine al_val (ov_move rfl rfl) ?_
                refine al_nil ?_
                exact aq_again k17 (j20x6, j20i7, j20i8, (IntKind.i64.wrap (l16i31 + (1 : Int)))) (Nat.lt_succ_self _) h (fun w a hm hs => norm hm hs [0] [0] [(0, v0_0), (6, v6), (7, (Value.int .i64 j20i7)), (8, (Value.int .i64 j20i8)), (9, (Value.int .i64 l9i9)), (29, v0_0), (30, (Value.int .i64 (a0.length : Int))), (31, (Value.int .i64 (IntKind.i64.wrap (l16i31 + (1 : Int)))))] (by decide) ⟨rfl, rfl, rfl, rfl, rfl, rfl, rfl, rfl, trivial⟩)
              · clear hkk21
                refine aw_block ?_
                refine aw_seq ?_
                refine aw_region ?_
                refine al_val (ov_move rfl rfl) ?_
                obtain ⟨u22, hu23, h⟩ := opt_some h
                refine al_idxD 0 hu23 rfl rfl rfl Try.underlying24 sz3 rfl (fun p24 => ?_)
                refine al_val (ov_loadP (ds := [(Value.int .i64 u22)]) 0 rfl (fun h => h) rfl Try.underlying3 sz3 rfl rfl rfl) ?_
                refine al_val (ov_assign rfl rfl) ?_
                refine al_val (ov_assign rfl rfl) ?_
                refine al_nil ?_
                refine aq_then ?_
                refine aw_seq ?_
                refine aw_region ?_
                refine al_val (ov_move rfl rfl) ?_
                refine al_val (ov_move rfl rfl) ?_
                refine al_val (ov_int rfl rfl rfl rfl) ?_
                refine al_nil ?_
                refine aq_then ?_
                refine aw_cond rfl (fun hb25 => ?_) (fun hb25 => ?_)
                · replace h := bif_t hb25 h
                  refine aw_seq ?_
                  refine aw_region ?_
                  refine al_val (ov_move rfl rfl) ?_
                  refine al_val (ov_move rfl rfl) ?_
                  refine al_val (ov_move rfl rfl) ?_
                  refine al_val (ov_int rfl rfl rfl rfl) ?_
                  obtain ⟨hc26, h⟩ := req_some h
                  refine al_val (ov_shl hc26 rfl rfl rfl) ?_
                  refine al_val (ov_assign rfl rfl) ?_
                  refine al_nil ?_
                  refine aq_then ?_
                  refine aw_seq ?_
                  refine aw_region ?_
                  refine al_val (ov_move rfl rfl) ?_
                  refine al_val (ov_assign rfl rfl) ?_
                  refine al_nil ?_
                  refine aq_then ?_
                  refine aw_seq ?_
                  refine aw_region ?_
                  refine al_val (ov_move rfl rfl) ?_
                  refine al_val (ov_move rfl rfl) ?_
                  refine al_val (ov_move rfl rfl) ?_
                  obtain ⟨u27, hu28, h⟩ := opt_some h
                  refine al_idxR 0 (at_some hu28).1 (at_some hu28).2.1 rfl rfl rfl Try.underlying24 sz3 rfl (fun p29 hp30 => ?_)
                  refine al_storeR (k := (l16i31).toNat) (x := (IntKind.i64.wrap (l16i7 * 2 ^ min ((IntKind.i64.wrap (l9i9 - l16i8))).toNat (IntKind.bits .i64)))) (vs := [(Value.int .i64 (IntKind.i64.wrap (l16i7 * 2 ^ min ((IntKind.i64.wrap (l9i9 - l16i8))).toNat (IntKind.bits .i64))))]) 0 rfl hp30 (idx_lt hu28) rfl rfl rfl (fun _ => rfl) sz3 rfl ?_
                  refine al_nil ?_
                  refine aq_then ?_
                  refine aw_region ?_
                  refine al_val (ov_move rfl rfl) ?_
                  refine al_val (ov_int rfl rfl rfl rfl) ?_
                  refine al_val (ov_assign rfl rfl) ?_
                  refine al_nil ?_
                  refine aq_block ?_
                  exact aq_join ((l16x6.set (l16i31).toNat (IntKind.i64.wrap (l16i7 * 2 ^ min ((IntKind.i64.wrap (l9i9 - l16i8))).toNat (IntKind.bits .i64)))), (IntKind.i64.wrap ((IntKind.i64.wrap (l16i7 * 2 ^ min ((IntKind.i64.wrap (l9i9 - l16i8))).toNat (IntKind.bits .i64))) + (1 : Int))), l9i9) h (fun w a hm hs => norm hm hs [0] [1] [(0, v0_0), (6, v6), (7, (Value.int .i64 (IntKind.i64.wrap ((IntKind.i64.wrap (l16i7 * 2 ^ min ((IntKind.i64.wrap (l9i9 - l16i8))).toNat (IntKind.bits .i64))) + (1 : Int))))), (8, (Value.int .i64 l9i9)), (9, (Value.int .i64 l9i9)), (29, v0_0), (30, (Value.int .i64 (a0.length : Int))), (31, (Value.int .i64 l16i31))] (by decide) ⟨rfl, rfl, rfl, rfl, rfl, rfl, rfl, rfl, trivial⟩)
                · replace h := bif_f hb25 h
                  refine aw_skip ?_
                  refine aq_block ?_
                  exact aq_join (l16x6, l16i7, l16i8) h (fun w a hm hs => norm hm hs [0] [1] [(0, v0_0), (6, v6), (7, (Value.int .i64 l16i7)), (8, (Value.int .i64 l16i8)), (9, (Value.int .i64 l9i9)), (29, v0_0), (30, (Value.int .i64 (a0.length : Int))), (31, (Value.int .i64 l16i31))] (by decide) ⟨rfl, rfl, rfl, rfl, rfl, rfl, rfl, rfl, trivial⟩)
            · replace h := bif_f hb19 h
              refine aw_exit ?_
              refine aq_then_exit ?_
              refine aq_then_exit ?_
              refine aq_block_exit ?_
              refine aq_block ?_
              exact aq_join (l16x6, l16i7, l16i8) h (fun w a hm hs => norm hm hs [0] [0] [(0, v0_0), (6, v6), (7, (Value.int .i64 l16i7)), (8, (Value.int .i64 l16i8)), (9, (Value.int .i64 l9i9))] (by decide) ⟨rfl, rfl, rfl, rfl, rfl, trivial⟩)
        · replace h := bif_f hb13 h
          refine aw_exit ?_
          refine aq_then_exit ?_
          refine aq_then_exit ?_
          refine aq_block_exit ?_
          exact aq_join l9x6 h (fun w a hm hs => norm hm hs [0] [0] [(6, v6)] (by decide) ⟨rfl, trivial⟩)
def f_lumref_Codes_L21 (a0 : (List Int)) (l9i26 : Int) (kk15 : ((List Int) → Option ((List Int) × Int))) (u16 : Int) : Nat → (List Int) → Int → Option ((List Int) × Int)
  | 0, _, _ => none
  | k20 + 1, l19x6, l19i33 => (bif (decide (l19i33 < (a0.length : Int))) then (lt (fun (j23x6 : (List Int)) => (f_lumref_Codes_L21 a0 l9i26 kk15 u16 k20 j23x6 (IntKind.i64.wrap (l19i33 + (1 : Int))))) fun (kk24 : (List Int) → Option ((List Int) × Int)) => (opt (at? a0 l19i33) fun (u25 : Int) => (lt (fun (j28b58 : Bool) => (bif j28b58 then (opt (at? l19x6 l9i26) fun (u31 : Int) => (req (0 ≤ (IntKind.i64.wrap (u16 - u25))) (opt (at? l19x6 l9i26) fun (u36 : Int) => (kk24 (l19x6.set (l9i26).toNat (IntKind.i64.wrap (u31 + (IntKind.i64.wrap ((1 : Int) * 2 ^ min ((IntKind.i64.wrap (u16 - u25))).toNat (IntKind.bits .i64)))))))))) else (kk24 l19x6))) fun (kk29 : Bool → Option ((List Int) × Int)) => (bif (decide (u16 > (0 : Int))) then (bif (decide (u25 > (0 : Int))) then (bif (decide (u25 < u16)) then (kk29 true) else (bif (u25 == u16) then (kk29 (decide (l19i33 < l9i26))) else (kk29 false))) else (kk29 false)) else (kk29 false))))) else (kk15 l19x6))
def f_lumref_Codes_L11 (a0 : (List Int)) (kk8 : ((List Int) → Option ((List Int) × Int))) (fu : Nat) : Nat → (List Int) → Int → Option ((List Int) × Int)
  | 0, _, _ => none
  | k10 + 1, l9x6, l9i26 => (lt (fun (l9x6 : (List Int)) (l9i26 : Int) => (f_lumref_Codes_L11 a0 kk8 fu k10 l9x6 l9i26)) fun (kk12 : (List Int) → Int → Option ((List Int) × Int)) => (bif (decide (l9i26 < (a0.length : Int))) then (lt (fun (j14x6 : (List Int)) => (kk12 j14x6 (IntKind.i64.wrap (l9i26 + (1 : Int))))) fun (kk15 : (List Int) → Option ((List Int) × Int)) => (opt (at? a0 l9i26) fun (u16 : Int) => (f_lumref_Codes_L21 a0 l9i26 kk15 u16 fu l9x6 (0 : Int)))) else (kk8 l9x6)))
def f_lumref_Codes (fu : Nat) (a0 : (List Int)) : Option ((List Int) × Int) := (opt (f_lumref_Kraft fu a0) fun (r2 : (Int × Int)) => (bif (r2.2 != (0 : Int)) then (some (([] : List Int), r2.2)) else (bif (decide (r2.1 > (281474976710656 : Int))) then (some (([] : List Int), (4 : Int))) else (req (0 ≤ (a0.length : Int) ∧ 8 * (a0.length : Int) ≤ 281474976710656 ∧ (a0.length : Int) ≤ 9223372036854775807) (lt (fun (j7x6 : (List Int)) => (some (j7x6, (0 : Int)))) fun (kk8 : (List Int) → Option ((List Int) × Int)) => (f_lumref_Codes_L11 a0 kk8 fu fu (List.replicate ((a0.length : Int)).toNat 0) (0 : Int)))))))
set_option maxRecDepth 100000 in
theorem f_lumref_Codes_ok (fu : Nat) (v0_0 : Value) (a0 : (List Int)) {r : ((List Int) × Int)} (h : f_lumref_Codes fu a0 = some r) : FnOk Try.prog 36 [v0_0] [(fDat (tyList (tyInt .i64)) [v0_0] a0)] [] (fun (i : Value) => { val := (Value.tuple #[i, (Value.int .i64 r.2)]), own := [(oRow i 3 (tyInt .i64) r.1)] }) := by
  unfold f_lumref_Codes at h
  refine fn_enter Try.func36 rfl Try.ntmps36 rfl (fun w0 Z0 => ?_)
  refine aw_seq ?_
  refine aw_region ?_
  refine al_val (ov_assign rfl rfl) ?_
  refine al_val (ov_assign rfl rfl) ?_
  refine al_nil ?_
  refine aq_then ?_
  refine aw_seq ?_
  refine aw_region ?_
  refine al_val (ov_move rfl rfl) ?_
  obtain ⟨r2, hc1, h⟩ := opt_some h
  refine al_call (vs := [v0_0]) (f_lumref_Kraft_ok fu v0_0 a0 hc1) [] [] [] (pre_fz 0 rfl pre_nil) rfl (by simp) (by decide) (.inl rfl) rfl Try.func34 rfl rfl rfl (fun _ => ?_)
  refine al_val (ov_move rfl rfl) ?_
  refine al_val (ov_extract rfl rfl rfl) ?_
  refine al_val (ov_extract rfl rfl rfl) ?_
  refine al_val (ov_assign rfl rfl) ?_
  refine al_val (ov_assign rfl rfl) ?_
  refine al_nil ?_
  refine aq_then ?_
  refine aw_seq ?_
  refine aw_seq ?_
  refine aw_region ?_
  refine al_val (ov_move rfl rfl) ?_
  refine al_val (ov_int rfl rfl rfl rfl) ?_
  refine al_nil ?_
  refine aq_then ?_
  refine aw_cond rfl (fun hb3 => ?_) (fun hb3 => ?_)
  · replace h := bif_t hb3 h
    refine aw_seq ?_
    refine aw_region ?_
    refine al_val (ov_move rfl rfl) ?_
    refine al_val (ov_assign rfl rfl) ?_
    refine al_val (ov_assign rfl rfl) ?_
    refine al_nil ?_
    refine aq_then ?_
    refine aw_ret ?_
    refine aq_then_ret ?_
    refine aq_nilR 3 (tyInt .i64) ?_
    obtain rfl := Option.some.inj h
    exact fn_ret (Value.slice none 0 0) [0] [] rfl rfl rfl rfl (res2 rfl rfl rfl) rfl rfl rfl (by decide)
  · replace h := bif_f hb3 h
    refine aw_skip ?_
    refine aq_then ?_
    refine aw_seq ?_
    refine aw_seq ?_
    refine aw_region ?_
    refine al_val (ov_move rfl rfl) ?_
    refine al_val (ov_int rfl rfl rfl rfl) ?_
    refine al_nil ?_
    refine aq_then ?_
    refine aw_cond rfl (fun hb4 => ?_) (fun hb4 => ?_)
    · replace h := bif_t hb4 h
      refine aw_seq ?_
      refine aw_region ?_
      refine al_val (ov_assign rfl rfl) ?_
      refine al_val (ov_assign rfl rfl) ?_
      refine al_nil ?_
      refine aq_then ?_
      refine aw_ret ?_
      refine aq_then_ret ?_
      refine aq_nilR 3 (tyInt .i64) ?_
      obtain rfl := Option.some.inj h
      exact fn_ret (Value.slice none 0 0) [0] [] rfl rfl rfl rfl (res2 rfl rfl rfl) rfl rfl rfl (by decide)
    · replace h := bif_f hb4 h
      refine aw_skip ?_
      refine aq_then ?_
      refine aw_seq ?_
      refine aw_region ?_
      refine al_val (ov_move rfl rfl) ?_
      refine al_val (ov_lenD 0 rfl rfl Try.underlying24 rfl) ?_
      obtain ⟨hc5, h⟩ := req_some h
      refine al_make (τ := (tyInt .i64)) (x0 := 0) hc5.1 hc5.2.1 hc5.2.2 rfl rfl Try.underlying24 to3 (fun _ _ => rfl) rfl rfl (fun v6 => ?_)
      refine al_val (ov_assign rfl rfl) ?_
      refine al_nil ?_
      refine aq_then ?_
      obtain ⟨kk8, hkk8, h⟩ := lt_some h
      refine aw_seq_join (ι := (List Int)) (fun i => (memOf w0 Z0 [] [(oRow v6 3 (tyInt .i64) i)] [(fDat (tyList (tyInt .i64)) [v0_0] a0)])) (fun i => (tab [(6, v6)])) (fun i => kk8 i = some r) ?_ ?_
      · rintro j7x6 h
        have h : kk8 j7x6 = some r := h
        rw [hkk8] at h
        dsimp only at h
        clear hkk8
        refine aw_show (m := (memOf w0 Z0 [] [(oRow v6 3 (tyInt .i64) j7x6)] [(fDat (tyList (tyInt .i64)) [v0_0] a0)])) (S := (tab [(6, v6)])) ?_
        refine aw_seq ?_
        refine aw_region ?_
        refine al_val (ov_move rfl rfl) ?_
        refine al_val (ov_assign rfl rfl) ?_
        refine al_val (ov_assign rfl rfl) ?_
        refine al_nil ?_
        refine aq_then ?_
        refine aw_ret ?_
        obtain rfl := Option.some.inj h
        exact fn_ret v6 [0] [] rfl rfl rfl rfl (res2 rfl rfl rfl) rfl rfl rfl (by decide)
      · clear hkk8
        refine aw_seq ?_
        refine aw_region ?_
        refine al_val (ov_move rfl rfl) ?_
        refine al_val (ov_lenD 0 rfl rfl Try.underlying24 rfl) ?_
        refine al_val (ov_move rfl rfl) ?_
        refine al_nil ?_
        refine aq_then ?_
        refine aw_block ?_
        refine aw_state (aw_loop (ι := (List Int) × Int) (fun i => (memOf w0 Z0 [] [(oRow v6 3 (tyInt .i64) i.1)] [(fDat (tyList (tyInt .i64)) [v0_0] a0)])) (fun i => (tab [(0, v0_0), (6, v6), (24, v0_0), (25, (Value.int .i64 (a0.length : Int))), (26, (Value.int .i64 i.2))])) (fun q i => f_lumref_Codes_L11 a0 kk8 fu q i.1 i.2 = some r) ?_ fu ((List.replicate ((a0.length : Int)).toNat 0), (0 : Int)) h) (fun w a hm hs => norm hm hs [0] [0] [(0, v0_0), (6, v6), (24, v0_0), (25, (Value.int .i64 (a0.length : Int))), (26, (Value.int .i64 (0 : Int)))] (by decide) ⟨rfl, rfl, rfl, rfl, rfl, trivial⟩)
        clear h
        rintro k10 ⟨l9x6, l9i26⟩ h
        have h : f_lumref_Codes_L11 a0 kk8 fu k10 l9x6 l9i26 = some r := h
        obtain _ | k10 := k10
        · rw [f_lumref_Codes_L11] at h; cases h
        rw [f_lumref_Codes_L11] at h
        refine aw_show (m := (memOf w0 Z0 [] [(oRow v6 3 (tyInt .i64) l9x6)] [(fDat (tyList (tyInt .i64)) [v0_0] a0)])) (S := (tab [(0, v0_0), (6, v6), (24, v0_0), (25, (Value.int .i64 (a0.length : Int))), (26, (Value.int .i64 l9i26))])) ?_
        obtain ⟨kk12, hkk12, h⟩ := lt_some h
        refine aw_body_join (ι := (List Int) × Int) (fun i => (memOf w0 Z0 [] [(oRow v6 3 (tyInt .i64) i.1)] [(fDat (tyList (tyInt .i64)) [v0_0] a0)])) (fun i => (tab [(0, v0_0), (6, v6), (24, v0_0), (25, (Value.int .i64 (a0.length : Int))), (26, (Value.int .i64 i.2))])) (fun i => kk12 i.1 i.2 = some r) (fun i h => aq_again k10 i (Nat.lt_succ_self _) (by rw [hkk12] at h; exact h) (fun w a hm hs => ⟨hm, hs⟩)) ?_
        clear hkk12
        refine aw_seq ?_
        refine aw_region ?_
        refine al_val (ov_int rfl rfl rfl rfl) ?_
        refine al_nil ?_
        refine aq_then ?_
        refine aw_seq ?_
        refine aw_cond rfl (fun hb13 => ?_) (fun hb13 => ?_)
        · replace h := bif_t hb13 h
          refine aw_skip ?_
          refine aq_then ?_
          obtain ⟨kk15, hkk15, h⟩ := lt_some h
          refine aw_seq_join (ι := (List Int)) (fun i => (memOf w0 Z0 [] [(oRow v6 3 (tyInt .i64) i)] [(fDat (tyList (tyInt .i64)) [v0_0] a0)])) (fun i => (tab [(0, v0_0), (6, v6), (24, v0_0), (25, (Value.int .i64 (a0.length : Int))), (26, (Value.int .i64 l9i26))])) (fun i => kk15 i = some r) ?_ ?_
          · rintro j14x6 h
            have h : kk15 j14x6 = some r := h
            rw [hkk15] at h
            dsimp only at h
            clear hkk15
            refine aw_show (m := (memOf w0 Z0 [] [(oRow v6 3 (tyInt .i64) j14x6)] [(fDat (tyList (tyInt .i64)) [v0_0] a0)])) (S := (tab [(0, v0_0), (6, v6), (24, v0_0), (25, (Value.int .i64 (a0.length : Int))), (26, (Value.int .i64 l9i26))])) ?_
            refine aw_region ?_
            refine al_val (ov_int rfl rfl rfl rfl) ?_
            refine al_val (ov_move rfl rfl) ?_
            refine al_nil ?_
            exact aq_join (j14x6, (IntKind.i64.wrap (l9i26 + (1 : Int)))) h (fun w a hm hs => norm hm hs [0] [0] [(0, v0_0), (6, v6), (24, v0_0), (25, (Value.int .i64 (a0.length : Int))), (26, (Value.int .i64 (IntKind.i64.wrap (l9i26 + (1 : Int)))))] (by decide) ⟨rfl, rfl, rfl, rfl, rfl, trivial⟩)
          · clear hkk15
            refine aw_block ?_
            refine aw_seq ?_
            refine aw_region ?_
            refine al_val (ov_move rfl rfl) ?_
            obtain ⟨u16, hu17, h⟩ := opt_some h
            refine al_idxD 0 hu17 rfl rfl rfl Try.underlying24 sz3 rfl (fun p18 => ?_)
            refine al_val (ov_loadP (ds := [(Value.int .i64 u16)]) 0 rfl (fun h => h) rfl Try.underlying3 sz3 rfl rfl rfl) ?_
            refine al_val (ov_assign rfl rfl) ?_
            refine al_val (ov_assign rfl rfl) ?_
            refine al_nil ?_
            refine aq_then ?_
            refine aw_seq ?_
            refine aw_region ?_
            refine al_val (ov_move rfl rfl) ?_
            refine al_val (ov_lenD 1 rfl rfl Try.underlying24 rfl) ?_
            refine al_val (ov_move rfl rfl) ?_
            refine al_nil ?_
            refine aq_then ?_
            refine aw_block ?_
            refine aw_state (aw_loop (ι := (List Int) × Int) (fun i => (memOf w0 Z0 [] [(oRow v6 3 (tyInt .i64) i.1)] [(fDat (tyList (tyInt .i64)) [v0_0] a0), (fPtr (tyInt .i64) p18 u16)])) (fun i => (tab [(0, v0_0), (6, v6), (7, (Value.int .i64 l9i26)), (8, (Value.int .i64 u16)), (24, v0_0), (25, (Value.int .i64 (a0.length : Int))), (26, (Value.int .i64 l9i26)), (31, v0_0), (32, (Value.int .i64 (a0.length : Int))), (33, (Value.int .i64 i.2))])) (fun q i => f_lumref_Codes_L21 a0 l9i26 kk15 u16 q i.1 i.2 = some r) ?_ fu (l9x6, (0 : Int)) h) (fun w a hm hs => norm hm hs [0] [1, 0] [(0, v0_0), (6, v6), (7, (Value.int .i64 l9i26)), (8, (Value.int .i64 u16)), (24, v0_0), (25, (Value.int .i64 (a0.length : Int))), (26, (Value.int .i64 l9i26)), (31, v0_0), (32, (Value.int .i64 (a0.length : Int))), (33, (Value.int .i64 (0 : Int)))] (by decide) ⟨rfl, rfl, rfl, rfl, rfl, rfl, rfl, rfl, rfl, rfl, trivial⟩)
            clear h
            rintro k20 ⟨l19x6, l19i33⟩ h
            have h : f_lumref_Codes_L21 a0 l9i26 kk15 u16 k20 l19x6 l19i33 = some r := h
            obtain _ | k20 := k20
            · rw [f_lumref_Codes_L21] at h; cases h
            rw [f_lumref_Codes_L21] at h
            refine aw_show (m := (memOf w0 Z0 [] [(oRow v6 3 (tyInt .i64) l19x6)] [(fDat (tyList (tyInt .i64)) [v0_0] a0), (fPtr (tyInt .i64) p18 u16)])) (S := (tab [(0, v0_0), (6, v6), (7, (Value.int .i64 l9i26)), (8, (Value.int .i64 u16)), (24, v0_0), (25, (Value.int .i64 (a0.length : Int))), (26, (Value.int .i64 l9i26)), (31, v0_0), (32, (Value.int .i64 (a0.length : Int))), (33, (Value.int .i64 l19i33))])) ?_
            refine aw_seq ?_
            refine aw_region ?_
            refine al_val (ov_int rfl rfl rfl rfl) ?_
            refine al_nil ?_
            refine aq_then ?_
            refine aw_seq ?_
            refine aw_cond rfl (fun hb22 => ?_) (fun hb22 => ?_)
            · replace h := bif_t hb22 h
              refine aw_skip ?_
              refine aq_then ?_
              obtain ⟨kk24, hkk24, h⟩ := lt_some h
              refine aw_seq_join (ι := (List Int)) (fun i => (memOf w0 Z0 [] [(oRow v6 3 (tyInt .i64) i)] [(fDat (tyList (tyInt .i64)) [v0_0] a0), (fPtr (tyInt .i64) p18 u16)])) (fun i => (tab [(0, v0_0), (6, v6), (7, (Value.int .i64 l9i26)), (8, (Value.int .i64 u16)), (24, v0_0), (25, (Value.int .i64 (a0.length : Int))), (26, (Value.int .i64 l9i26)), (31, v0_0), (32, (Value.int .i64 (a0.length : Int))), (33, (Value.int .i64 l19i33))])) (fun i => kk24 i = some r) ?_ ?_
              · rintro j23x6 h
                have h : kk24 j23x6 = some r := h
                rw [hkk24] at h
                dsimp only at h
                clear hkk24
                refine aw_show (m := (memOf w0 Z0 [] [(oRow v6 3 (tyInt .i64) j23x6)] [(fDat (tyList (tyInt .i64)) [v0_0] a0), (fPtr (tyInt .i64) p18 u16)])) (S := (tab [(0, v0_0), (6, v6), (7, (Value.int .i64 l9i26)), (8, (Value.int .i64 u16)), (24, v0_0), (25, (Value.int .i64 (a0.length : Int))), (26, (Value.int .i64 l9i26)), (31, v0_0), (32, (Value.int .i64 (a0.length : Int))), (33, (Value.int .i64 l19i33))])) ?_
                refine aw_region ?_
                refine al_val (ov_int rfl rfl rfl rfl) ?_
                refine al_val (ov_move rfl rfl) ?_
                refine al_nil ?_
                exact aq_again k20 (j23x6, (IntKind.i64.wrap (l19i33 + (1 : Int)))) (Nat.lt_succ_self _) h (fun w a hm hs => norm hm hs [0] [0, 1] [(0, v0_0), (6, v6), (7, (Value.int .i64 l9i26)), (8, (Value.int .i64 u16)), (24, v0_0), (25, (Value.int .i64 (a0.length : Int))), (26, (Value.int .i64 l9i26)), (31, v0_0), (32, (Value.int .i64 (a0.length : Int))), (33, (Value.int .i64 (IntKind.i64.wrap (l19i33 + (1 : Int)))))] (by decide) ⟨rfl, rfl, rfl, rfl, rfl, rfl, rfl, rfl, rfl, rfl, trivial⟩)
              · clear hkk24
                refine aw_block ?_
                refine aw_seq ?_
                refine aw_region ?_
                refine al_val (ov_move rfl rfl) ?_
                obtain ⟨u25, hu26, h⟩ := opt_some h
                refine al_idxD 0 hu26 rfl rfl rfl Try.underlying24 sz3 rfl (fun p27 => ?_)
                refine al_val (ov_loadP (ds := [(Value.int .i64 u25)]) 0 rfl (fun h => h) rfl Try.underlying3 sz3 rfl rfl rfl) ?_
                refine al_val (ov_assign rfl rfl) ?_
                refine al_val (ov_assign rfl rfl) ?_
                refine al_nil ?_
                refine aq_then ?_
                obtain ⟨kk29, hkk29, h⟩ := lt_some h
                refine aw_seq_join (ι := Bool) (fun i => (memOf w0 Z0 [] [(oRow v6 3 (tyInt .i64) l19x6)] [(fDat (tyList (tyInt .i64)) [v0_0] a0), (fPtr (tyInt .i64) p27 u25), (fPtr (tyInt .i64) p18 u16)])) (fun i => (tab [(0, v0_0), (6, v6), (7, (Value.int .i64 l9i26)), (8, (Value.int .i64 u16)), (10, (Value.int .i64 u25)), (24, v0_0), (25, (Value.int .i64 (a0.length : Int))), (26, (Value.int .i64 l9i26)), (31, v0_0), (32, (Value.int .i64 (a0.length : Int))), (33, (Value.int .i64 l19i33)), (58, (Value.bool i))])) (fun i => kk29 i = some r) ?_ ?_
                · rintro j28b58 h
                  have h : kk29 j28b58 = some r := h
                  rw [hkk29] at h
                  dsimp only at h
                  clear hkk29
                  refine aw_show (m := (memOf w0 Z0 [] [(oRow v6 3 (tyInt .i64) l19x6)] [(fDat (tyList (tyInt .i64)) [v0_0] a0), (fPtr (tyInt .i64) p27 u25), (fPtr (tyInt .i64) p18 u16)])) (S := (tab [(0, v0_0), (6, v6), (7, (Value.int .i64 l9i26)), (8, (Value.int .i64 u16)), (10, (Value.int .i64 u25)), (24, v0_0), (25, (Value.int .i64 (a0.length : Int))), (26, (Value.int .i64 l9i26)), (31, v0_0), (32, (Value.int .i64 (a0.length : Int))), (33, (Value.int .i64 l19i33)), (58, (Value.bool j28b58))])) ?_
                  refine aw_cond rfl (fun hb30 => ?_) (fun hb30 => ?_)
                  · replace h := bif_t hb30 h
                    obtain ⟨u31, hu32, h⟩ := opt_some h
                    obtain ⟨hc35, h⟩ := req_some h
                    obtain ⟨u36, hu37, h⟩ := opt_some h
                    refine aw_region_draw 10 [(59, (fun u => fEq u v6)), (60, (fun u => fEq u (Value.int .i64 l9i26))), (61, (fun p => fElt v6 p ((l9i26).toNat * Ty.size (tyInt .i64)))), (62, (fun u => fEq u (Value.int .i64 u31))), (63, (fun u => fEq u (Value.int .i64 u16))), (64, (fun u => fEq u (Value.int .i64 u25))), (65, (fun u => fEq u (Value.int .i64 (IntKind.i64.wrap (u16 - u25))))), (66, (fun u => fEq u (Value.int .i64 (IntKind.i64.wrap ((1 : Int) * 2 ^ min ((IntKind.i64.wrap (u16 - u25))).toNat (IntKind.bits .i64)))))), (67, (fun u => fEq u (Value.int .i64 (IntKind.i64.wrap (u31 + (IntKind.i64.wrap ((1 : Int) * 2 ^ min ((IntKind.i64.wrap (u16 - u25))).toNat (IntKind.bits .i64)))))))), (68, (fun p => fElt v6 p ((l9i26).toNat * Ty.size (tyInt .i64))))] (tab [(0, v0_0), (6, v6), (7, (Value.int .i64 l9i26)), (8, (Value.int .i64 u16)), (10, (Value.int .i64 u25)), (24, v0_0), (25, (Value.int .i64 (a0.length : Int))), (26, (Value.int .i64 l9i26)), (31, v0_0), (32, (Value.int .i64 (a0.length : Int))), (33, (Value.int .i64 l19i33))]) mixed (by kernel_rfl) rfl rfl rfl (fun a hs => hs.tab _ (allT_mem ⟨rfl, rfl, rfl, rfl, rfl, rfl, rfl, rfl, rfl, rfl, rfl, trivial⟩)) ⟨⟨rfl, ld_val (ov_move rfl rfl)⟩, ⟨rfl, ld_val (ov_move rfl rfl)⟩, ⟨rfl, ld_eq (j := 0) rfl rfl (ld_eq (j := 1) rfl rfl (ld_of (of_idxR 0 (at_some hu32).1 (at_some hu32).2.1 rfl rfl rfl Try.underlying24 sz3 rfl)))⟩, ⟨rfl, ld_elt (j := 2) rfl rfl (fun p33 hp34 => ld_val (ov_loadR (ds := [(Value.int .i64 u31)]) 0 rfl hp34 (at_some hu32).2.2 (fun h => h) rfl Try.underlying3 sz3 rfl rfl rfl))⟩, ⟨rfl, ld_val (ov_move rfl rfl)⟩, ⟨rfl, ld_val (ov_move rfl rfl)⟩, ⟨rfl, ld_eq (j := 4) rfl rfl (ld_eq (j := 5) rfl rfl (ld_val (ov_int rfl rfl rfl rfl)))⟩, ⟨rfl, ld_eq (j := 6) rfl rfl (ld_val (ov_shl hc35 rfl rfl rfl))⟩, ⟨rfl, ld_eq (j := 3) rfl rfl (ld_eq (j := 7) rfl rfl (ld_val (ov_int rfl rfl rfl rfl)))⟩, ⟨rfl, ld_eq (j := 0) rfl rfl (ld_eq (j := 1) rfl rfl (ld_of (of_idxR 0 (at_some hu37).1 (at_some hu37).2.1 rfl rfl rfl Try.underlying24 sz3 rfl)))⟩, trivial⟩ ?_
                    refine tl_eq 8 rfl ?_
                    refine tl_elt 9 rfl (fun p38 hp39 => ?_)
                    refine tl_done ?_
                    refine al_storeR (k := (l9i26).toNat) (x := (IntKind.i64.wrap (u31 + (IntKind.i64.wrap ((1 : Int) * 2 ^ min ((IntKind.i64.wrap (u16 - u25))).toNat (IntKind.bits .i64)))))) (vs := [(Value.int .i64 (IntKind.i64.wrap (u31 + (IntKind.i64.wrap ((1 : Int) * 2 ^ min ((IntKind.i64.wrap (u16 - u25))).toNat (IntKind.bits .i64))))))]) 0 rfl hp39 (idx_lt hu37) rfl rfl rfl (fun _ => rfl) sz3 rfl ?_
                    refine al_nil ?_
                    refine aq_block ?_
                    exact aq_join (l19x6.set (l9i26).toNat (IntKind.i64.wrap (u31 + (IntKind.i64.wrap ((1 : Int) * 2 ^ min ((IntKind.i64.wrap (u16 - u25))).toNat (IntKind.bits .i64)))))) h (fun w a hm hs => norm hm hs [0] [0, 2] [(0, v0_0), (6, v6), (7, (Value.int .i64 l9i26)), (8, (Value.int .i64 u16)), (24, v0_0), (25, (Value.int .i64 (a0.length : Int))), (26, (Value.int .i64 l9i26)), (31, v0_0), (32, (Value.int .i64 (a0.length : Int))), (33, (Value.int .i64 l19i33))] (by decide) ⟨rfl, rfl, rfl, rfl, rfl, rfl, rfl, rfl, rfl, rfl, trivial⟩)
                  · replace h := bif_f hb30 h
                    refine aw_skip ?_
                    refine aq_block ?_
                    exact aq_join l19x6 h (fun w a hm hs => norm hm hs [0] [0, 2] [(0, v0_0), (6, v6), (7, (Value.int .i64 l9i26)), (8, (Value.int .i64 u16)), (24, v0_0), (25, (Value.int .i64 (a0.length : Int))), (26, (Value.int .i64 l9i26)), (31, v0_0), (32, (Value.int .i64 (a0.length : Int))), (33, (Value.int .i64 l19i33))] (by decide) ⟨rfl, rfl, rfl, rfl, rfl, rfl, rfl, rfl, rfl, rfl, trivial⟩)
                · clear hkk29
                  refine aw_region ?_
                  refine al_val (ov_move rfl rfl) ?_
                  refine al_val (ov_int rfl rfl rfl rfl) ?_
                  refine al_val (ov_move rfl rfl) ?_
                  refine al_caseB 40 rfl (fun hb40 => ?_) (fun hb40 => ?_)
                  · replace h := bif_t hb40 h
                    refine al_val (ov_move rfl rfl) ?_
                    refine al_val (ov_int rfl rfl rfl rfl) ?_
                    refine al_val (ov_pick_t rfl rfl rfl) ?_
                    refine al_val (ov_move rfl rfl) ?_
                    refine al_caseB 44 rfl (fun hb41 => ?_) (fun hb41 => ?_)
                    · replace h := bif_t hb41 h
                      refine al_val (ov_move rfl rfl) ?_
                      refine al_val (ov_move rfl rfl) ?_
                      refine al_val (ov_int rfl rfl rfl rfl) ?_
                      refine al_val (ov_move rfl rfl) ?_
                      refine al_caseB 48 rfl (fun hb42 => ?_) (fun hb42 => ?_)
                      · replace h := bif_t hb42 h
                        refine al_skip ?_
                        refine al_skip ?_
                        refine al_skip ?_
                        refine al_skip ?_
                        refine al_skip ?_
                        refine al_skip ?_
                        refine al_skip ?_
                        refine al_skip ?_
                        refine al_val (ov_pick_t rfl rfl rfl) ?_
                        refine al_val (ov_pick_t rfl rfl rfl) ?_
                        refine al_nil ?_
                        exact aq_join true h (fun w a hm hs => norm hm hs [0] [1, 0, 2] [(0, v0_0), (6, v6), (7, (Value.int .i64 l9i26)), (8, (Value.int .i64 u16)), (10, (Value.int .i64 u25)), (24, v0_0), (25, (Value.int .i64 (a0.length : Int))), (26, (Value.int .i64 l9i26)), (31, v0_0), (32, (Value.int .i64 (a0.length : Int))), (33, (Value.int .i64 l19i33)), (58, (Value.bool true))] (by decide) ⟨rfl, rfl, rfl, rfl, rfl, rfl, rfl, rfl, rfl, rfl, rfl, rfl, trivial⟩)
                      · replace h := bif_f hb42 h
                        refine al_val (ov_move rfl rfl) ?_
                        refine al_val (ov_move rfl rfl) ?_
                        refine al_val (ov_int rfl rfl rfl rfl) ?_
                        refine al_val (ov_move rfl rfl) ?_
                        refine al_caseB 52 rfl (fun hb43 => ?_) (fun hb43 => ?_)
                        · replace h := bif_t hb43 h
                          refine al_val (ov_move rfl rfl) ?_
                          refine al_val (ov_move rfl rfl) ?_
                          refine al_val (ov_int rfl rfl rfl rfl) ?_
                          refine al_val (ov_pick_t rfl rfl rfl) ?_
                          refine al_val (ov_pick_f rfl rfl rfl) ?_
                          refine al_val (ov_pick_t rfl rfl rfl) ?_
                          refine al_nil ?_
                          exact aq_join (decide (l19i33 < l9i26)) h (fun w a hm hs => norm hm hs [0] [1, 0, 2] [(0, v0_0), (6, v6), (7, (Value.int .i64 l9i26)), (8, (Value.int .i64 u16)), (10, (Value.int .i64 u25)), (24, v0_0), (25, (Value.int .i64 (a0.length : Int))), (26, (Value.int .i64 l9i26)), (31, v0_0), (32, (Value.int .i64 (a0.length : Int))), (33, (Value.int .i64 l19i33)), (58, (Value.bool (decide (l19i33 < l9i26))))] (by decide) ⟨rfl, rfl, rfl, rfl, rfl, rfl, rfl, rfl, rfl, rfl, rfl, rfl, trivial⟩)
                        · replace h := bif_f hb43 h
                          refine al_skip ?_
                          refine al_skip ?_
                          refine al_skip ?_
                          refine al_val (ov_pick_f rfl rfl rfl) ?_
                          refine al_val (ov_pick_f rfl rfl rfl) ?_
                          refine al_val (ov_pick_t rfl rfl rfl) ?_
                          refine al_nil ?_
                          exact aq_join false h (fun w a hm hs => norm hm hs [0] [1, 0, 2] [(0, v0_0), (6, v6), (7, (Value.int .i64 l9i26)), (8, (Value.int .i64 u16)), (10, (Value.int .i64 u25)), (24, v0_0), (25, (Value.int .i64 (a0.length : Int))), (26, (Value.int .i64 l9i26)), (31, v0_0), (32, (Value.int .i64 (a0.length : Int))), (33, (Value.int .i64 l19i33)), (58, (Value.bool false))] (by decide) ⟨rfl, rfl, rfl, rfl, rfl, rfl, rfl, rfl, rfl, rfl, rfl, rfl, trivial⟩)
                    · replace h := bif_f hb41 h
                      refine al_skip ?_
                      refine al_skip ?_
                      refine al_skip ?_
                      refine al_skip ?_
                      refine al_skip ?_
                      refine al_skip ?_
                      refine al_skip ?_
                      refine al_skip ?_
                      refine al_skip ?_
                      refine al_skip ?_
                      refine al_skip ?_
                      refine al_skip ?_
                      refine al_skip ?_
                      refine al_val (ov_pick_f rfl rfl rfl) ?_
                      refine al_nil ?_
                      exact aq_join false h (fun w a hm hs => norm hm hs [0] [1, 0, 2] [(0, v0_0), (6, v6), (7, (Value.int .i64 l9i26)), (8, (Value.int .i64 u16)), (10, (Value.int .i64 u25)), (24, v0_0), (25, (Value.int .i64 (a0.length : Int))), (26, (Value.int .i64 l9i26)), (31, v0_0), (32, (Value.int .i64 (a0.length : Int))), (33, (Value.int .i64 l19i33)), (58, (Value.bool false))] (by decide) ⟨rfl, rfl, rfl, rfl, rfl, rfl, rfl, rfl, rfl, rfl, rfl, rfl, trivial⟩)
                  · replace h := bif_f hb40 h
                    refine al_skip ?_
                    refine al_skip ?_
                    refine al_val (ov_pick_f rfl rfl rfl) ?_
                    refine al_val (ov_move rfl rfl) ?_
                    refine al_skip ?_
                    refine al_skip ?_
                    refine al_skip ?_
                    refine al_skip ?_
                    refine al_skip ?_
                    refine al_skip ?_
                    refine al_skip ?_
                    refine al_skip ?_
                    refine al_skip ?_
                    refine al_skip ?_
                    refine al_skip ?_
                    refine al_skip ?_
                    refine al_skip ?_
                    refine al_val (ov_pick_f rfl rfl rfl) ?_
                    refine al_nil ?_
                    exact aq_join false h (fun w a hm hs => norm hm hs [0] [1, 0, 2] [(0, v0_0), (6, v6), (7, (Value.int .i64 l9i26)), (8, (Value.int .i64 u16)), (10, (Value.int .i64 u25)), (24, v0_0), (25, (Value.int .i64 (a0.length : Int))), (26, (Value.int .i64 l9i26)), (31, v0_0), (32, (Value.int .i64 (a0.length : Int))), (33, (Value.int .i64 l19i33)), (58, (Value.bool false))] (by decide) ⟨rfl, rfl, rfl, rfl, rfl, rfl, rfl, rfl, rfl, rfl, rfl, rfl, trivial⟩)
            · replace h := bif_f hb22 h
              refine aw_exit ?_
              refine aq_then_exit ?_
              refine aq_then_exit ?_
              refine aq_block_exit ?_
              refine aq_block ?_
              exact aq_join l19x6 h (fun w a hm hs => norm hm hs [0] [0] [(0, v0_0), (6, v6), (24, v0_0), (25, (Value.int .i64 (a0.length : Int))), (26, (Value.int .i64 l9i26))] (by decide) ⟨rfl, rfl, rfl, rfl, rfl, trivial⟩)
        · replace h := bif_f hb13 h
          refine aw_exit ?_
          refine aq_then_exit ?_
          refine aq_then_exit ?_
          refine aq_block_exit ?_
          exact aq_join l9x6 h (fun w a hm hs => norm hm hs [0] [0] [(6, v6)] (by decide) ⟨rfl, trivial⟩)
def f_slices_Equal___int_int__L6 (a0 : (List Int)) (a1 : (List Int)) (kk3 : (Unit → Option Bool)) : Nat → Int → Option Bool
  | 0, _ => none
  | k5 + 1, l4i13 => (bif (decide (l4i13 < (a0.length : Int))) then (opt (at? a0 l4i13) fun (u8 : Int) => (opt (at? a1 l4i13) fun (u11 : Int) => (bif (u8 != u11) then (some false) else (f_slices_Equal___int_int__L6 a0 a1 kk3 k5 (IntKind.i64.wrap (l4i13 + (1 : Int))))))) else (kk3 ()))
def f_slices_Equal___int_int_ (fu : Nat) (a0 : (List Int)) (a1 : (List Int)) : Option Bool := (bif ((a0.length : Int) != (a1.length : Int)) then (some false) else (lt (fun (_ : Unit) => (some true)) fun (kk3 : Unit → Option Bool) => (f_slices_Equal___int_int__L6 a0 a1 kk3 fu (0 : Int))))
set_option maxRecDepth 100000 in
theorem f_slices_Equal___int_int__ok (fu : Nat) (v0_0 : Value) (a0 : (List Int)) (v1_0 : Value) (a1 : (List Int)) {r : Bool} (h : f_slices_Equal___int_int_ fu a0 a1 = some r) : FnOk Try.prog 37 [v0_0, v1_0] [(fDat (tyList (tyInt .i64)) [v0_0] a0), (fDat (tyList (tyInt .i64)) [v1_0] a1)] [] (fun (i : Unit) => { val := (Value.bool r) }) := by
  unfold f_slices_Equal___int_int_ at h
  refine fn_enter Try.func37 rfl Try.ntmps37 rfl (fun w0 Z0 => ?_)
  refine aw_seq ?_
  refine aw_region ?_
  refine al_val (ov_assign rfl rfl) ?_
  refine al_nil ?_
  refine aq_then ?_
  refine aw_seq ?_
  refine aw_seq ?_
  refine aw_region ?_
  refine al_val (ov_move rfl rfl) ?_
  refine al_val (ov_lenD 0 rfl rfl Try.underlying24 rfl) ?_
  refine al_val (ov_move rfl rfl) ?_
  refine al_val (ov_lenD 1 rfl rfl Try.underlying24 rfl) ?_
  refine al_val (ov_int rfl rfl rfl rfl) ?_
  refine al_nil ?_
  refine aq_then ?_
  refine aw_cond rfl (fun hb1 => ?_) (fun hb1 => ?_)
  · replace h := bif_t hb1 h
    refine aw_seq ?_
    refine aw_region ?_
    refine al_val (ov_assign rfl rfl) ?_
    refine al_nil ?_
    refine aq_then ?_
    refine aw_ret ?_
    refine aq_then_ret ?_
    obtain rfl := Option.some.inj h
    exact fn_ret () [] [] rfl rfl rfl rfl (res1 rfl rfl) rfl rfl rfl (by decide)
  · replace h := bif_f hb1 h
    refine aw_skip ?_
    refine aq_then ?_
    obtain ⟨kk3, hkk3, h⟩ := lt_some h
    refine aw_seq_join (ι := Unit) (fun i => (memOf w0 Z0 [] [] [(fDat (tyList (tyInt .i64)) [v0_0] a0), (fDat (tyList (tyInt .i64)) [v1_0] a1)])) (fun i => (tab [])) (fun i => kk3 () = some r) ?_ ?_
    · rintro _ h
      have h : kk3 () = some r := h
      rw [hkk3] at h
      dsimp only at h
      clear hkk3
      refine aw_show (m := (memOf w0 Z0 [] [] [(fDat (tyList (tyInt .i64)) [v0_0] a0), (fDat (tyList (tyInt .i64)) [v1_0] a1)])) (S := (tab [])) ?_
      refine aw_seq ?_
      refine aw_region ?_
      refine al_val (ov_assign rfl rfl) ?_
      refine al_nil ?_
      refine aq_then ?_
      refine aw_ret ?_
      obtain rfl := Option.some.inj h
      exact fn_ret () [] [] rfl rfl rfl rfl (res1 rfl rfl) rfl rfl rfl (by decide)
    · clear hkk3
      refine aw_seq ?_
      refine aw_region ?_
      refine al_val (ov_move rfl rfl) ?_
      refine al_val (ov_lenD 0 rfl rfl Try.underlying24 rfl) ?_
      refine al_val (ov_move rfl rfl) ?_
      refine al_nil ?_
      refine aq_then ?_
      refine aw_block ?_
      refine aw_state (aw_loop (ι := Int) (fun i => (memOf w0 Z0 [] [] [(fDat (tyList (tyInt .i64)) [v0_0] a0), (fDat (tyList (tyInt .i64)) [v1_0] a1)])) (fun i => (tab [(0, v0_0), (1, v1_0), (12, (Value.int .i64 (a0.length : Int))), (13, (Value.int .i64 i))])) (fun q i => f_slices_Equal___int_int__L6 a0 a1 kk3 q i = some r) ?_ fu (0 : Int) h) (fun w a hm hs => norm hm hs [] [0, 1] [(0, v0_0), (1, v1_0), (12, (Value.int .i64 (a0.length : Int))), (13, (Value.int .i64 (0 : Int)))] (by decide) ⟨rfl, rfl, rfl, rfl, trivial⟩)
      clear h
      rintro k5 l4i13 h
      have h : f_slices_Equal___int_int__L6 a0 a1 kk3 k5 l4i13 = some r := h
      obtain _ | k5 := k5
      · rw [f_slices_Equal___int_int__L6] at h; cases h
      rw [f_slices_Equal___int_int__L6] at h
      refine aw_show (m := (memOf w0 Z0 [] [] [(fDat (tyList (tyInt .i64)) [v0_0] a0), (fDat (tyList (tyInt .i64)) [v1_0] a1)])) (S := (tab [(0, v0_0), (1, v1_0), (12, (Value.int .i64 (a0.length : Int))), (13, (Value.int .i64 l4i13))])) ?_
      refine aw_seq ?_
      refine aw_region ?_
      refine al_val (ov_int rfl rfl rfl rfl) ?_
      refine al_nil ?_
      refine aq_then ?_
      refine aw_seq ?_
      refine aw_cond rfl (fun hb7 => ?_) (fun hb7 => ?_)
      · replace h := bif_t hb7 h
        refine aw_skip ?_
        refine aq_then ?_
        refine aw_seq ?_
        refine aw_block ?_
        refine aw_seq ?_
        refine aw_region ?_
        refine al_val (ov_move rfl rfl) ?_
        refine al_val (ov_assign rfl rfl) ?_
        refine al_nil ?_
        refine aq_then ?_
        refine aw_seq ?_
        obtain ⟨u8, hu9, h⟩ := opt_some h
        obtain ⟨u11, hu12, h⟩ := opt_some h
        refine aw_region_draw 8 [(16, (fun u => fEq u v0_0)), (17, (fun u => fEq u (Value.int .i64 l4i13))), (18, (fun p10 => (fPtr (tyInt .i64) p10 u8))), (19, (fun u => fEq u (Value.int .i64 u8))), (20, (fun u => fEq u v1_0)), (21, (fun u => fEq u (Value.int .i64 l4i13))), (22, (fun p13 => (fPtr (tyInt .i64) p13 u11))), (23, (fun u => fEq u (Value.int .i64 u11)))] (tab [(0, v0_0), (1, v1_0), (5, (Value.int .i64 l4i13)), (12, (Value.int .i64 (a0.length : Int))), (13, (Value.int .i64 l4i13))]) mixed (by kernel_rfl) rfl rfl rfl (fun a hs => hs.tab _ (allT_mem ⟨rfl, rfl, rfl, rfl, rfl, trivial⟩)) ⟨⟨rfl, ld_val (ov_move rfl rfl)⟩, ⟨rfl, ld_val (ov_move rfl rfl)⟩, ⟨rfl, ld_eq (j := 0) rfl rfl (ld_eq (j := 1) rfl rfl (ld_of (of_idxD 0 hu9 rfl rfl rfl Try.underlying24 sz3 rfl)))⟩, ⟨rfl, ld_fact (j := 2) rfl rfl (fun p10 => ld_val (ov_loadP (ds := [(Value.int .i64 u8)]) 0 rfl (fun h => h) rfl Try.underlying3 sz3 rfl rfl rfl))⟩, ⟨rfl, ld_val (ov_move rfl rfl)⟩, ⟨rfl, ld_val (ov_move rfl rfl)⟩, ⟨rfl, ld_eq (j := 4) rfl rfl (ld_eq (j := 5) rfl rfl (ld_of (of_idxD 1 hu12 rfl rfl rfl Try.underlying24 sz3 rfl)))⟩, ⟨rfl, ld_fact (j := 6) rfl rfl (fun p13 => ld_val (ov_loadP (ds := [(Value.int .i64 u11)]) 0 rfl (fun h => h) rfl Try.underlying3 sz3 rfl rfl rfl))⟩, trivial⟩ ?_
        refine tl_eq 3 rfl ?_
        refine tl_eq 7 rfl ?_
        refine tl_done ?_
        refine al_val (ov_int rfl rfl rfl rfl) ?_
        refine al_nil ?_
        refine aq_then ?_
        refine aw_cond rfl (fun hb14 => ?_) (fun hb14 => ?_)
        · replace h := bif_t hb14 h
          refine aw_seq ?_
          refine aw_region ?_
          refine al_val (ov_assign rfl rfl) ?_
          refine al_nil ?_
          refine aq_then ?_
          refine aw_ret ?_
          refine aq_block_ret ?_
          refine aq_then_ret ?_
          refine aq_then_ret ?_
          refine aq_block_ret ?_
          refine aq_then_ret ?_
          obtain rfl := Option.some.inj h
          exact fn_ret () [] [] rfl rfl rfl rfl (res1 rfl rfl) rfl rfl rfl (by decide)
        · replace h := bif_f hb14 h
          refine aw_skip ?_
          refine aq_block ?_
          refine aq_then ?_
          refine aw_region ?_
          refine al_val (ov_int rfl rfl rfl rfl) ?_
          refine al_val (ov_move rfl rfl) ?_
          refine al_nil ?_
          exact aq_again k5 (IntKind.i64.wrap (l4i13 + (1 : Int))) (Nat.lt_succ_self _) h (fun w a hm hs => norm hm hs [] [0, 1] [(0, v0_0), (1, v1_0), (12, (Value.int .i64 (a0.length : Int))), (13, (Value.int .i64 (IntKind.i64.wrap (l4i13 + (1 : Int)))))] (by decide) ⟨rfl, rfl, rfl, rfl, trivial⟩)
      · replace h := bif_f hb7 h
        refine aw_exit ?_
        refine aq_then_exit ?_
        refine aq_then_exit ?_
        refine aq_block_exit ?_
        exact aq_join () h (fun w a hm hs => norm hm hs [] [0, 1] [] (by decide) trivial)
def f_lumlaw_HuffCodes (fu : Nat) (a0 : (List Int)) : Option Bool := (opt (f_huff_Kraft fu a0) fun (r2 : (Int × Int)) => (opt (f_lumref_Kraft fu a0) fun (r4 : (Int × Int)) => (opt (f_huff_Codes fu a0) fun (r6 : ((List Int) × Int)) => (opt (f_lumref_Codes fu a0) fun (r9 : ((List Int) × Int)) => (lt (fun (j11b2 : Bool) => (some j11b2)) fun (kk12 : Bool → Option Bool) => (bif (r2.1 == r4.1) then (bif (r2.2 == r4.2) then (opt (f_slices_Equal___int_int_ fu r6.1 r9.1) fun (r16 : Bool) => (bif r16 then (kk12 (r6.2 == r9.2)) else (kk12 false))) else (kk12 false)) else (kk12 false)))))))
set_option maxRecDepth 100000 in
theorem f_lumlaw_HuffCodes_ok (fu : Nat) (v0_0 : Value) (a0 : (List Int)) {r : Bool} (h : f_lumlaw_HuffCodes fu a0 = some r) : FnOk Try.prog 7 [v0_0] [(fDat (tyList (tyInt .i64)) [v0_0] a0)] [] (fun (i : Unit) => { val := (Value.bool r) }) := by
  unfold f_lumlaw_HuffCodes at h
  refine fn_enter Try.func7 rfl Try.ntmps7 rfl (fun w0 Z0 => ?_)
  refine aw_seq ?_
  refine aw_region ?_
  refine al_val (ov_assign rfl rfl) ?_
  refine al_nil ?_
  refine aq_then ?_
  refine aw_seq ?_
  refine aw_region ?_
  refine al_val (ov_move rfl rfl) ?_
  obtain ⟨r2, hc1, h⟩ := opt_some h
  refine al_call (vs := [v0_0]) (f_huff_Kraft_ok fu v0_0 a0 hc1) [] [] [] (pre_fz 0 rfl pre_nil) rfl (by simp) (by decide) (.inl rfl) rfl Try.func33 rfl rfl rfl (fun _ => ?_)
  refine al_val (ov_move rfl rfl) ?_
  refine al_val (ov_extract rfl rfl rfl) ?_
  refine al_val (ov_extract rfl rfl rfl) ?_
  refine al_val (ov_assign rfl rfl) ?_
  refine al_val (ov_assign rfl rfl) ?_
  refine al_nil ?_
  refine aq_then ?_
  refine aw_seq ?_
  refine aw_region ?_
  refine al_val (ov_move rfl rfl) ?_
  obtain ⟨r4, hc3, h⟩ := opt_some h
  refine al_call (vs := [v0_0]) (f_lumref_Kraft_ok fu v0_0 a0 hc3) [] [] [] (pre_fz 0 rfl pre_nil) rfl (by simp) (by decide) (.inl rfl) rfl Try.func34 rfl rfl rfl (fun _ => ?_)
  refine al_val (ov_move rfl rfl) ?_
  refine al_val (ov_extract rfl rfl rfl) ?_
  refine al_val (ov_extract rfl rfl rfl) ?_
  refine al_val (ov_assign rfl rfl) ?_
  refine al_val (ov_assign rfl rfl) ?_
  refine al_nil ?_
  refine aq_then ?_
  refine aw_seq ?_
  refine aw_region ?_
  refine al_val (ov_move rfl rfl) ?_
  obtain ⟨r6, hc5, h⟩ := opt_some h
  refine al_call (vs := [v0_0]) (f_huff_Codes_ok fu v0_0 a0 hc5) [] [] [] (pre_fz 0 rfl pre_nil) rfl (by simp) (by decide) (.inl rfl) rfl Try.func35 rfl rfl rfl (fun v7 => ?_)
  refine al_val (ov_move rfl rfl) ?_
  refine al_val (ov_extract rfl rfl rfl) ?_
  refine al_val (ov_extract rfl rfl rfl) ?_
  refine al_val (ov_assign rfl rfl) ?_
  refine al_val (ov_assign rfl rfl) ?_
  refine al_nil ?_
  refine aq_then ?_
  refine aw_seq ?_
  refine aw_region ?_
  refine al_val (ov_move rfl rfl) ?_
  obtain ⟨r9, hc8, h⟩ := opt_some h
  refine al_call (vs := [v0_0]) (f_lumref_Codes_ok fu v0_0 a0 hc8) [] [] [0] (pre_fz 0 rfl pre_nil) rfl (by simp) (by decide) (.inl rfl) rfl Try.func36 rfl rfl rfl (fun v10 => ?_)
  refine al_val (ov_move rfl rfl) ?_
  refine al_val (ov_extract rfl rfl rfl) ?_
  refine al_val (ov_extract rfl rfl rfl) ?_
  refine al_val (ov_assign rfl rfl) ?_
  refine al_val (ov_assign rfl rfl) ?_
  refine al_nil ?_
  refine aq_then ?_
  obtain ⟨kk12, hkk12, h⟩ := lt_some h
  refine aw_seq_join (ι := Bool) (fun i => (memOf w0 Z0 [] [] [(fDat (tyList (tyInt .i64)) [v0_0] a0)])) (fun i => (tab [(2, (Value.bool i))])) (fun i => kk12 i = some r) ?_ ?_
  · rintro j11b2 h
    have h : kk12 j11b2 = some r := h
    rw [hkk12] at h
    dsimp only at h
    clear hkk12
    refine aw_show (m := (memOf w0 Z0 [] [] [(fDat (tyList (tyInt .i64)) [v0_0] a0)])) (S := (tab [(2, (Value.bool j11b2))])) ?_
    refine aw_ret ?_
    obtain rfl := Option.some.inj h
    exact fn_ret () [] [] rfl rfl rfl rfl (res1 rfl rfl) rfl rfl rfl (by decide)
  · clear hkk12
    refine aw_region ?_
    refine al_val (ov_move rfl rfl) ?_
    refine al_val (ov_move rfl rfl) ?_
    refine al_val (ov_int rfl rfl rfl rfl) ?_
    refine al_val (ov_move rfl rfl) ?_
    refine al_caseB 34 rfl (fun hb13 => ?_) (fun hb13 => ?_)
    · replace h := bif_t hb13 h
      refine al_val (ov_move rfl rfl) ?_
      refine al_val (ov_move rfl rfl) ?_
      refine al_val (ov_int rfl rfl rfl rfl) ?_
      refine al_val (ov_pick_t rfl rfl rfl) ?_
      refine al_val (ov_move rfl rfl) ?_
      refine al_caseB 39 rfl (fun hb14 => ?_) (fun hb14 => ?_)
      · replace h := bif_t hb14 h
        refine al_val (ov_move rfl rfl) ?_
        refine al_val (ov_move rfl rfl) ?_
        obtain ⟨r16, hc15, h⟩ := opt_some h
        refine al_call (vs := [v7, v10]) (f_slices_Equal___int_int__ok fu v7 r6.1 v10 r9.1 hc15) [0, 1] [] [0, 1] (pre_own 1 rfl rfl (pre_own 0 rfl rfl pre_nil)) rfl (by simp) (by decide) (.inr flat_res0) rfl Try.func37 rfl rfl rfl (fun _ => ?_)
        refine al_val (ov_pick_t rfl rfl rfl) ?_
        refine al_val (ov_move rfl rfl) ?_
        refine al_caseB 44 rfl (fun hb17 => ?_) (fun hb17 => ?_)
        · replace h := bif_t hb17 h
          refine al_val (ov_move rfl rfl) ?_
          refine al_val (ov_move rfl rfl) ?_
          refine al_val (ov_int rfl rfl rfl rfl) ?_
          refine al_val (ov_pick_t rfl rfl rfl) ?_
          refine al_val (ov_assign rfl rfl) ?_
          refine al_nil ?_
          exact aq_join (r6.2 == r9.2) h (fun w a hm hs => norm hm hs [] [0] [(2, (Value.bool (r6.2 == r9.2)))] (by decide) ⟨rfl, trivial⟩)
        · replace h := bif_f hb17 h
          refine al_skip ?_
          refine al_skip ?_
          refine al_skip ?_
          refine al_val (ov_pick_f rfl rfl rfl) ?_
          refine al_val (ov_assign rfl rfl) ?_
          refine al_nil ?_
          exact aq_join false h (fun w a hm hs => norm hm hs [] [0] [(2, (Value.bool false))] (by decide) ⟨rfl, trivial⟩)
      · replace h := bif_f hb14 h
        refine al_skip ?_
        refine al_skip ?_
        refine al_skip ?_
        refine al_val (ov_pick_f rfl rfl rfl) ?_
        refine al_val (ov_move rfl rfl) ?_
        refine al_skip ?_
        refine al_skip ?_
        refine al_skip ?_
        refine al_val (ov_pick_f rfl rfl rfl) ?_
        refine al_val (ov_assign rfl rfl) ?_
        refine al_nil ?_
        exact aq_join false h (fun w a hm hs => norm hm hs [] [0] [(2, (Value.bool false))] (by decide) ⟨rfl, trivial⟩)
    · replace h := bif_f hb13 h
      refine al_skip ?_
      refine al_skip ?_
      refine al_skip ?_
      refine al_val (ov_pick_f rfl rfl rfl) ?_
      refine al_val (ov_move rfl rfl) ?_
      refine al_skip ?_
      refine al_skip ?_
      refine al_skip ?_
      refine al_val (ov_pick_f rfl rfl rfl) ?_
      refine al_val (ov_move rfl rfl) ?_
      refine al_skip ?_
      refine al_skip ?_
      refine al_skip ?_
      refine al_val (ov_pick_f rfl rfl rfl) ?_
      refine al_val (ov_assign rfl rfl) ?_
      refine al_nil ?_
      exact aq_join false h (fun w a hm hs => norm hm hs [] [0] [(2, (Value.bool false))] (by decide) ⟨rfl, trivial⟩)
end Go.Proofs.Ythcmjcnilhglmaa
