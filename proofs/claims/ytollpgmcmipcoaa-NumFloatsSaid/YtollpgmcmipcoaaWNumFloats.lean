/- Walks by program. No condition. -/
import Derived.Test.YtollpgmcmipcoaaEn22
import Derived.Test.YtollpgmcmipcoaaChecked
import Derived.Test.YtollpgmcmipcoaaShBEApp
import Derived.Test.YtollpgmcmipcoaaShRepeat
namespace Go.Proofs.Ytollpgmcmipcoaa
open Go.RowKit Ytollpgmcmipcoaa.En
set_option linter.unusedVariables false
set_option linter.unusedSimpArgs false
theorem sz5 : szOf Try.prog 5 = some 1 := by kernel_rfl
theorem to5 : tyOf Try.prog 5 = some (1, 1, some (Value.int .u8 (0 : Int))) := by kernel_rfl
theorem sz80 : szOf Try.prog 80 = some 0 := by kernel_rfl
theorem to80 : tyOf Try.prog 80 = some (0, 0, some (ag [])) := by kernel_rfl
theorem mixed : Try.prog.follows .mixedOrders = true := by kernel_rfl
def f_num_value_L5 (a0 : (List UInt8)) (kk2 : (Int → Option Int)) : Nat → Int → Int → Option Int
  | 0, _, _ => none
  | k4 + 1, l3i3, l3i7 => (bif (decide (l3i7 < (a0.length : Int))) then (req (0 ≤ l3i7 ∧ l3i7 < (a0.length : Int)) (f_num_value_L5 a0 kk2 k4 (bits .or .u64 (IntKind.u64.wrap (l3i3 * 2 ^ min ((8 : Int)).toNat (IntKind.bits .u64))) (IntKind.u64.wrap (En.bAt a0 l3i7))) (IntKind.i64.wrap (l3i7 + (1 : Int))))) else (kk2 l3i3))
def f_num_value (fu : Nat) (a0 : (List UInt8)) : Option Int := (lt (fun (j1i3 : Int) => (some j1i3)) fun (kk2 : Int → Option Int) => (f_num_value_L5 a0 kk2 fu (0 : Int) (0 : Int)))
set_option maxRecDepth 100000 in
theorem f_num_value_ok (fu : Nat) (a0 : (List UInt8)) {r : Int} (h : f_num_value fu a0 = some r) : FnOk Try.prog 34 [(str a0)] [] [] (fun (i : Unit) => { val := (Value.int .u64 r) }) := by
  unfold f_num_value at h
  refine fn_enter Try.func34 rfl Try.ntmps34 rfl (fun w0 Z0 => ?_)
  refine aw_seq ?_
  refine aw_region ?_
  refine al_val (ov_assign rfl rfl) ?_
  refine al_nil ?_
  refine aq_then ?_
  refine aw_seq ?_
  refine aw_region ?_
  refine al_val (ov_assign rfl rfl) ?_
  refine al_nil ?_
  refine aq_then ?_
  obtain ⟨kk2, hkk2, h⟩ := lt_some h
  refine aw_seq_join (ι := Int) (fun i => (memOf w0 Z0 [] [] [])) (fun i => (tab [(3, (Value.int .u64 i))])) (fun i => kk2 i = some r) ?_ ?_
  · rintro j1i3 h
    have h : kk2 j1i3 = some r := h
    rw [hkk2] at h
    dsimp only at h
    clear hkk2
    refine aw_show (m := (memOf w0 Z0 [] [] [])) (S := (tab [(3, (Value.int .u64 j1i3))])) ?_
    refine aw_seq ?_
    refine aw_region ?_
    refine al_val (ov_move rfl rfl) ?_
    refine al_val (ov_assign rfl rfl) ?_
    refine al_nil ?_
    refine aq_then ?_
    refine aw_ret ?_
    obtain rfl := Option.some.inj h
    exact fn_ret () [] [] rfl rfl rfl rfl (res1 rfl rfl) rfl rfl rfl (by decide)
  · clear hkk2
    refine aw_seq ?_
    refine aw_region ?_
    refine al_val (ov_move rfl rfl) ?_
    refine al_val (ov_strLen Try.underlying9 rfl rfl) ?_
    refine al_val (ov_move rfl rfl) ?_
    refine al_nil ?_
    refine aq_then ?_
    refine aw_block ?_
    refine aw_state (aw_loop (ι := Int × Int) (fun i => (memOf w0 Z0 [] [] [])) (fun i => (tab [(0, (str a0)), (3, (Value.int .u64 i.1)), (6, (Value.int .i64 (a0.length : Int))), (7, (Value.int .i64 i.2))])) (fun q i => f_num_value_L5 a0 kk2 q i.1 i.2 = some r) ?_ fu ((0 : Int), (0 : Int)) h) (fun w a hm hs => norm hm hs [] [] [(0, (str a0)), (3, (Value.int .u64 (0 : Int))), (6, (Value.int .i64 (a0.length : Int))), (7, (Value.int .i64 (0 : Int)))] (by decide) ⟨rfl, rfl, rfl, rfl, trivial⟩)
    clear h
    rintro k4 ⟨l3i3, l3i7⟩ h
    have h : f_num_value_L5 a0 kk2 k4 l3i3 l3i7 = some r := h
    obtain _ | k4 := k4
    · rw [f_num_value_L5] at h; cases h
    rw [f_num_value_L5] at h
    refine aw_show (m := (memOf w0 Z0 [] [] [])) (S := (tab [(0, (str a0)), (3, (Value.int .u64 l3i3)), (6, (Value.int .i64 (a0.length : Int))), (7, (Value.int .i64 l3i7))])) ?_
    refine aw_seq ?_
    refine aw_region ?_
    refine al_val (ov_int rfl rfl rfl rfl) ?_
    refine al_nil ?_
    refine aq_then ?_
    refine aw_seq ?_
    refine aw_cond rfl (fun hb6 => ?_) (fun hb6 => ?_)
    · replace h := bif_t hb6 h
      refine aw_skip ?_
      refine aq_then ?_
      refine aw_seq ?_
      refine aw_block ?_
      refine aw_seq ?_
      refine aw_region ?_
      refine al_val (ov_move rfl rfl) ?_
      refine al_val (ov_assign rfl rfl) ?_
      refine al_nil ?_
      refine aq_then ?_
      refine aw_region ?_
      refine al_val (ov_move rfl rfl) ?_
      refine al_val (ov_shl (by decide) rfl rfl rfl) ?_
      refine al_val (ov_move rfl rfl) ?_
      refine al_val (ov_move rfl rfl) ?_
      obtain ⟨hc7, h⟩ := req_some h
      refine al_val (ov_strIdx hc7.1 hc7.2 Try.underlying9 rfl rfl rfl) ?_
      refine al_val (ov_convInt (by rw [Try.underlying5]; rfl) Try.underlying26 rfl rfl) ?_
      refine al_val (ov_int rfl rfl rfl rfl) ?_
      refine al_val (ov_assign rfl rfl) ?_
      refine al_nil ?_
      refine aq_block ?_
      refine aq_then ?_
      refine aw_region ?_
      refine al_val (ov_int rfl rfl rfl rfl) ?_
      refine al_val (ov_move rfl rfl) ?_
      refine al_nil ?_
      exact aq_again k4 ((bits .or .u64 (IntKind.u64.wrap (l3i3 * 2 ^ min ((8 : Int)).toNat (IntKind.bits .u64))) (IntKind.u64.wrap (En.bAt a0 l3i7))), (IntKind.i64.wrap (l3i7 + (1 : Int)))) (Nat.lt_succ_self _) h (fun w a hm hs => norm hm hs [] [] [(0, (str a0)), (3, (Value.int .u64 (bits .or .u64 (IntKind.u64.wrap (l3i3 * 2 ^ min ((8 : Int)).toNat (IntKind.bits .u64))) (IntKind.u64.wrap (En.bAt a0 l3i7))))), (6, (Value.int .i64 (a0.length : Int))), (7, (Value.int .i64 (IntKind.i64.wrap (l3i7 + (1 : Int)))))] (by decide) ⟨rfl, rfl, rfl, rfl, trivial⟩)
    · replace h := bif_f hb6 h
      refine aw_exit ?_
      refine aq_then_exit ?_
      refine aq_then_exit ?_
      refine aq_block_exit ?_
      exact aq_join l3i3 h (fun w a hm hs => norm hm hs [] [] [(3, (Value.int .u64 l3i3))] (by decide) ⟨rfl, trivial⟩)
def f_math_IsNaN (fu : Nat) (a0 : Int) : Option Bool := (some (FloatKind.f64.format.order (a0).toNat (a0).toNat != some .eq))
set_option maxRecDepth 100000 in
theorem f_math_IsNaN_ok (fu : Nat) (a0 : Int) {r : Bool} (h : f_math_IsNaN fu a0 = some r) : FnOk Try.prog 36 [(Value.float .f64 (a0).toNat)] [] [] (fun (i : Unit) => { val := (Value.bool r) }) := by
  unfold f_math_IsNaN at h
  refine fn_enter Try.func36 rfl Try.ntmps36 rfl (fun w0 Z0 => ?_)
  refine aw_seq ?_
  refine aw_region ?_
  refine al_val (ov_assign rfl rfl) ?_
  refine al_nil ?_
  refine aq_then ?_
  refine aw_seq ?_
  refine aw_region ?_
  refine al_val (ov_move rfl rfl) ?_
  refine al_val (ov_move rfl rfl) ?_
  refine al_val (ov_floatNe rfl rfl rfl) ?_
  refine al_val (ov_assign rfl rfl) ?_
  refine al_nil ?_
  refine aq_then ?_
  refine aw_ret ?_
  obtain rfl := Option.some.inj h
  exact fn_ret () [] [] rfl rfl rfl rfl (res1 rfl rfl) rfl rfl rfl (by decide)
def f_num_GetFloat (fu : Nat) (a0 : (List UInt8)) : Option (Int × Int × Int) := (bif (decide ((a0.length : Int) < (8 : Int))) then (some ((0 : Int), (0 : Int), (3 : Int))) else (req (0 ≤ (8 : Int) ∧ (8 : Int) ≤ (a0.length : Int)) (opt (f_num_value fu (a0.take ((8 : Int)).toNat)) fun (r4 : Int) => (lt (fun (j5i5 : Int) => (lt (fun (j7b27 : Bool) => (bif j7b27 then (some ((0 : Int), (0 : Int), (4 : Int))) else (some (j5i5, (8 : Int), (0 : Int))))) fun (kk8 : Bool → Option (Int × Int × Int)) => (opt (f_math_IsNaN fu j5i5) fun (r11 : Bool) => (bif r11 then (kk8 (j5i5 != (9221120237041090561 : Int))) else (kk8 false))))) fun (kk6 : Int → Option (Int × Int × Int)) => (bif ((bits .and .u64 r4 (9223372036854775808 : Int)) != (0 : Int)) then (kk6 (bits .xor .u64 r4 (9223372036854775808 : Int))) else (kk6 (bits .xor .u64 (if IntKind.signed .u64 then -1 else IntKind.max .u64) r4)))))))
set_option maxRecDepth 100000 in
theorem f_num_GetFloat_ok (fu : Nat) (a0 : (List UInt8)) {r : (Int × Int × Int)} (h : f_num_GetFloat fu a0 = some r) : FnOk Try.prog 7 [(str a0)] [] [] (fun (i : Unit) => { val := (Value.tuple #[(Value.float .f64 (r.1).toNat), (Value.int .i64 r.2.1), (Value.int .i64 r.2.2)]) }) := by
  unfold f_num_GetFloat at h
  refine fn_enter Try.func7 rfl Try.ntmps7 rfl (fun w0 Z0 => ?_)
  refine aw_seq ?_
  refine aw_region ?_
  refine al_val (ov_assign rfl rfl) ?_
  refine al_val (ov_assign rfl rfl) ?_
  refine al_val (ov_assign rfl rfl) ?_
  refine al_nil ?_
  refine aq_then ?_
  refine aw_seq ?_
  refine aw_seq ?_
  refine aw_region ?_
  refine al_val (ov_move rfl rfl) ?_
  refine al_val (ov_strLen Try.underlying9 rfl rfl) ?_
  refine al_val (ov_int rfl rfl rfl rfl) ?_
  refine al_nil ?_
  refine aq_then ?_
  refine aw_cond rfl (fun hb1 => ?_) (fun hb1 => ?_)
  · replace h := bif_t hb1 h
    refine aw_seq ?_
    refine aw_region ?_
    refine al_val (ov_assign rfl rfl) ?_
    refine al_val (ov_assign rfl rfl) ?_
    refine al_val (ov_assign rfl rfl) ?_
    refine al_nil ?_
    refine aq_then ?_
    refine aw_ret ?_
    refine aq_then_ret ?_
    obtain rfl := Option.some.inj h
    exact fn_ret () [] [] rfl rfl rfl rfl (res3 rfl rfl rfl rfl) rfl rfl rfl (by decide)
  · replace h := bif_f hb1 h
    refine aw_skip ?_
    refine aq_then ?_
    refine aw_seq ?_
    refine aw_region ?_
    refine al_val (ov_move rfl rfl) ?_
    obtain ⟨hc2, h⟩ := req_some h
    refine al_val (ov_strTo hc2.1 hc2.2 Try.underlying9 rfl rfl rfl) ?_
    obtain ⟨r4, hc3, h⟩ := opt_some h
    refine al_call (vs := [(str (a0.take ((8 : Int)).toNat))]) (f_num_value_ok fu (a0.take ((8 : Int)).toNat) hc3) [] [] [] pre_nil rfl (by simp) (by decide) (.inl rfl) rfl Try.func34 rfl rfl rfl (fun _ => ?_)
    refine al_val (ov_assign rfl rfl) ?_
    refine al_nil ?_
    refine aq_then ?_
    obtain ⟨kk6, hkk6, h⟩ := lt_some h
    refine aw_seq_join (ι := Int) (fun i => (memOf w0 Z0 [] [] [])) (fun i => (tab [(5, (Value.int .u64 i))])) (fun i => kk6 i = some r) ?_ ?_
    · rintro j5i5 h
      have h : kk6 j5i5 = some r := h
      rw [hkk6] at h
      dsimp only at h
      clear hkk6
      refine aw_show (m := (memOf w0 Z0 [] [] [])) (S := (tab [(5, (Value.int .u64 j5i5))])) ?_
      refine aw_seq ?_
      refine aw_region ?_
      refine al_val (ov_move rfl rfl) ?_
      refine al_val (v := (Value.float .f64 (j5i5).toNat)) (ov_ffrom rfl Try.func35 rfl rfl rfl rfl rfl) ?_
      refine al_val (ov_assign rfl rfl) ?_
      refine al_nil ?_
      refine aq_then ?_
      refine aw_seq ?_
      obtain ⟨kk8, hkk8, h⟩ := lt_some h
      refine aw_seq_join (ι := Bool) (fun i => (memOf w0 Z0 [] [] [])) (fun i => (tab [(6, (Value.float .f64 (j5i5).toNat)), (27, (Value.bool i))])) (fun i => kk8 i = some r) ?_ ?_
      · rintro j7b27 h
        have h : kk8 j7b27 = some r := h
        rw [hkk8] at h
        dsimp only at h
        clear hkk8
        refine aw_show (m := (memOf w0 Z0 [] [] [])) (S := (tab [(6, (Value.float .f64 (j5i5).toNat)), (27, (Value.bool j7b27))])) ?_
        refine aw_cond rfl (fun hb9 => ?_) (fun hb9 => ?_)
        · replace h := bif_t hb9 h
          refine aw_seq ?_
          refine aw_region ?_
          refine al_val (ov_assign rfl rfl) ?_
          refine al_val (ov_assign rfl rfl) ?_
          refine al_val (ov_assign rfl rfl) ?_
          refine al_nil ?_
          refine aq_then ?_
          refine aw_ret ?_
          refine aq_then_ret ?_
          obtain rfl := Option.some.inj h
          exact fn_ret () [] [] rfl rfl rfl rfl (res3 rfl rfl rfl rfl) rfl rfl rfl (by decide)
        · replace h := bif_f hb9 h
          refine aw_skip ?_
          refine aq_then ?_
          refine aw_seq ?_
          refine aw_region ?_
          refine al_val (ov_move rfl rfl) ?_
          refine al_val (ov_assign rfl rfl) ?_
          refine al_val (ov_assign rfl rfl) ?_
          refine al_val (ov_assign rfl rfl) ?_
          refine al_nil ?_
          refine aq_then ?_
          refine aw_ret ?_
          obtain rfl := Option.some.inj h
          exact fn_ret () [] [] rfl rfl rfl rfl (res3 rfl rfl rfl rfl) rfl rfl rfl (by decide)
      · clear hkk8
        refine aw_region ?_
        refine al_val (ov_move rfl rfl) ?_
        obtain ⟨r11, hc10, h⟩ := opt_some h
        refine al_call (vs := [(Value.float .f64 (j5i5).toNat)]) (f_math_IsNaN_ok fu j5i5 hc10) [] [] [] pre_nil rfl (by simp) (by decide) (.inl rfl) rfl Try.func36 rfl rfl rfl (fun _ => ?_)
        refine al_val (ov_move rfl rfl) ?_
        refine al_caseB 24 rfl (fun hb12 => ?_) (fun hb12 => ?_)
        · replace h := bif_t hb12 h
          refine al_val (ov_move rfl rfl) ?_
          refine al_val (ov_int rfl rfl rfl rfl) ?_
          refine al_val (ov_pick_t rfl rfl rfl) ?_
          refine al_nil ?_
          exact aq_join (j5i5 != (9221120237041090561 : Int)) h (fun w a hm hs => norm hm hs [] [] [(6, (Value.float .f64 (j5i5).toNat)), (27, (Value.bool (j5i5 != (9221120237041090561 : Int))))] (by decide) ⟨rfl, rfl, trivial⟩)
        · replace h := bif_f hb12 h
          refine al_skip ?_
          refine al_skip ?_
          refine al_val (ov_pick_f rfl rfl rfl) ?_
          refine al_nil ?_
          exact aq_join false h (fun w a hm hs => norm hm hs [] [] [(6, (Value.float .f64 (j5i5).toNat)), (27, (Value.bool false))] (by decide) ⟨rfl, rfl, trivial⟩)
    · clear hkk6
      refine aw_seq ?_
      refine aw_region ?_
      refine al_val (ov_move rfl rfl) ?_
      refine al_val (ov_int rfl rfl rfl rfl) ?_
      refine al_val (ov_int rfl rfl rfl rfl) ?_
      refine al_nil ?_
      refine aq_then ?_
      refine aw_cond rfl (fun hb13 => ?_) (fun hb13 => ?_)
      · replace h := bif_t hb13 h
        refine aw_region ?_
        refine al_val (ov_move rfl rfl) ?_
        refine al_val (ov_int rfl rfl rfl rfl) ?_
        refine al_val (ov_assign rfl rfl) ?_
        refine al_nil ?_
        exact aq_join (bits .xor .u64 r4 (9223372036854775808 : Int)) h (fun w a hm hs => norm hm hs [] [] [(5, (Value.int .u64 (bits .xor .u64 r4 (9223372036854775808 : Int))))] (by decide) ⟨rfl, trivial⟩)
      · replace h := bif_f hb13 h
        refine aw_region ?_
        refine al_val (ov_move rfl rfl) ?_
        refine al_val (ov_compl rfl rfl) ?_
        refine al_val (ov_assign rfl rfl) ?_
        refine al_nil ?_
        exact aq_join (bits .xor .u64 (if IntKind.signed .u64 then -1 else IntKind.max .u64) r4) h (fun w a hm hs => norm hm hs [] [] [(5, (Value.int .u64 (bits .xor .u64 (if IntKind.signed .u64 then -1 else IntKind.max .u64) r4)))] (by decide) ⟨rfl, trivial⟩)
def f_lumref_number : Nat → (List UInt8) → Option Int
  | 0, _ => none
  | fu + 1, a0 => (bif (a0 == ([] : List UInt8)) then (some (0 : Int)) else (req (0 ≤ (IntKind.i64.wrap ((a0.length : Int) - (1 : Int))) ∧ (IntKind.i64.wrap ((a0.length : Int) - (1 : Int))) ≤ (a0.length : Int)) (opt (f_lumref_number fu (a0.take ((IntKind.i64.wrap ((a0.length : Int) - (1 : Int)))).toNat)) fun (r4 : Int) => (req (0 ≤ (IntKind.i64.wrap ((a0.length : Int) - (1 : Int))) ∧ (IntKind.i64.wrap ((a0.length : Int) - (1 : Int))) < (a0.length : Int)) (some (IntKind.u64.wrap ((IntKind.u64.wrap ((256 : Int) * r4)) + (IntKind.u64.wrap (En.bAt a0 (IntKind.i64.wrap ((a0.length : Int) - (1 : Int))))))))))))
set_option maxRecDepth 100000 in
theorem f_lumref_number_ok (fu : Nat) (a0 : (List UInt8)) {r : Int} (h : f_lumref_number fu a0 = some r) : FnOk Try.prog 37 [(str a0)] [] [] (fun (i : Unit) => { val := (Value.int .u64 r) }) := by
  cases fu with
  | zero => rw [f_lumref_number] at h; cases h
  | succ fu =>
    rw [f_lumref_number] at h
    refine fn_enter Try.func37 rfl Try.ntmps37 rfl (fun w0 Z0 => ?_)
    refine aw_seq ?_
    refine aw_region ?_
    refine al_val (ov_assign rfl rfl) ?_
    refine al_nil ?_
    refine aq_then ?_
    refine aw_seq ?_
    refine aw_seq ?_
    refine aw_region ?_
    refine al_val (ov_move rfl rfl) ?_
    refine al_val (ov_strCmp rfl rfl rfl rfl) ?_
    refine al_nil ?_
    refine aq_then ?_
    refine aw_cond rfl (fun hb1 => ?_) (fun hb1 => ?_)
    · replace h := bif_t hb1 h
      refine aw_seq ?_
      refine aw_region ?_
      refine al_val (ov_assign rfl rfl) ?_
      refine al_nil ?_
      refine aq_then ?_
      refine aw_ret ?_
      refine aq_then_ret ?_
      obtain rfl := Option.some.inj h
      exact fn_ret () [] [] rfl rfl rfl rfl (res1 rfl rfl) rfl rfl rfl (by decide)
    · replace h := bif_f hb1 h
      refine aw_skip ?_
      refine aq_then ?_
      refine aw_seq ?_
      obtain ⟨hc2, h⟩ := req_some h
      obtain ⟨r4, hc3, h⟩ := opt_some h
      obtain ⟨hc5, h⟩ := req_some h
      refine aw_region_draw 14 [(5, (fun u => fEq u (str a0))), (6, (fun u => fEq u (str a0))), (7, (fun u => fEq u (Value.int .i64 (a0.length : Int)))), (8, (fun u => fEq u (Value.int .i64 (IntKind.i64.wrap ((a0.length : Int) - (1 : Int)))))), (9, (fun u => fEq u (str (a0.take ((IntKind.i64.wrap ((a0.length : Int) - (1 : Int)))).toNat)))), (10, (fun u => fEq u (Value.int .u64 r4))), (11, (fun u => fEq u (Value.int .u64 (IntKind.u64.wrap ((256 : Int) * r4))))), (12, (fun u => fEq u (str a0))), (13, (fun u => fEq u (str a0))), (14, (fun u => fEq u (Value.int .i64 (a0.length : Int)))), (15, (fun u => fEq u (Value.int .i64 (IntKind.i64.wrap ((a0.length : Int) - (1 : Int)))))), (16, (fun u => fEq u (Value.int .u8 (En.bAt a0 (IntKind.i64.wrap ((a0.length : Int) - (1 : Int))))))), (17, (fun u => fEq u (Value.int .u64 (IntKind.u64.wrap (En.bAt a0 (IntKind.i64.wrap ((a0.length : Int) - (1 : Int)))))))), (18, (fun u => fEq u (Value.int .u64 (IntKind.u64.wrap ((IntKind.u64.wrap ((256 : Int) * r4)) + (IntKind.u64.wrap (En.bAt a0 (IntKind.i64.wrap ((a0.length : Int) - (1 : Int))))))))))] (tab [(0, (str a0)), (2, (Value.int .u64 (0 : Int)))]) mixed (by kernel_rfl) rfl rfl rfl (fun a hs => hs.tab _ (allT_mem ⟨rfl, rfl, trivial⟩)) ⟨⟨rfl, ld_val (ov_move rfl rfl)⟩, ⟨rfl, ld_val (ov_move rfl rfl)⟩, ⟨rfl, ld_eq (j := 1) rfl rfl (ld_val (ov_strLen Try.underlying9 rfl rfl))⟩, ⟨rfl, ld_eq (j := 2) rfl rfl (ld_val (ov_int rfl rfl rfl rfl))⟩, ⟨rfl, ld_eq (j := 0) rfl rfl (ld_eq (j := 3) rfl rfl (ld_val (ov_strTo hc2.1 hc2.2 Try.underlying9 rfl rfl rfl)))⟩, ⟨rfl, ld_eq (j := 4) rfl rfl (ld_callV (vs := [(str (a0.take ((IntKind.i64.wrap ((a0.length : Int) - (1 : Int)))).toNat))]) (f_lumref_number_ok fu (a0.take ((IntKind.i64.wrap ((a0.length : Int) - (1 : Int)))).toNat) hc3) [] pre_nil rfl Try.func37 rfl rfl rfl)⟩, ⟨rfl, ld_eq (j := 5) rfl rfl (ld_val (ov_int rfl rfl rfl rfl))⟩, ⟨rfl, ld_val (ov_move rfl rfl)⟩, ⟨rfl, ld_val (ov_move rfl rfl)⟩, ⟨rfl, ld_eq (j := 8) rfl rfl (ld_val (ov_strLen Try.underlying9 rfl rfl))⟩, ⟨rfl, ld_eq (j := 9) rfl rfl (ld_val (ov_int rfl rfl rfl rfl))⟩, ⟨rfl, ld_eq (j := 7) rfl rfl (ld_eq (j := 10) rfl rfl (ld_val (ov_strIdx hc5.1 hc5.2 Try.underlying9 rfl rfl rfl)))⟩, ⟨rfl, ld_eq (j := 11) rfl rfl (ld_val (ov_convInt (by rw [Try.underlying5]; rfl) Try.underlying26 rfl rfl))⟩, ⟨rfl, ld_eq (j := 6) rfl rfl (ld_eq (j := 12) rfl rfl (ld_val (ov_int rfl rfl rfl rfl)))⟩, trivial⟩ ?_
      refine tl_eq 13 rfl ?_
      refine tl_done ?_
      refine al_val (ov_assign rfl rfl) ?_
      refine al_nil ?_
      refine aq_then ?_
      refine aw_ret ?_
      obtain rfl := Option.some.inj h
      exact fn_ret () [] [] rfl rfl rfl rfl (res1 rfl rfl) rfl rfl rfl (by decide)
def f_lumref_turned_L7 (a0 : (List UInt8)) (kk4 : ((List UInt8) → Option (List UInt8))) : Nat → (List UInt8) → Int → Option (List UInt8)
  | 0, _, _ => none
  | k6 + 1, l5x3, l5i9 => (bif (decide (l5i9 < (a0.length : Int))) then (opt (at? l5x3 l5i9) fun (u9 : UInt8) => (opt (at? l5x3 l5i9) fun (u13 : UInt8) => (req (0 ≤ (IntKind.u8.wrap ((255 : Int) - (u9.toNat : Int))) ∧ (IntKind.u8.wrap ((255 : Int) - (u9.toNat : Int))) ≤ 255) (f_lumref_turned_L7 a0 kk4 k6 (l5x3.set (l5i9).toNat (UInt8.ofNat ((IntKind.u8.wrap ((255 : Int) - (u9.toNat : Int)))).toNat)) (IntKind.i64.wrap (l5i9 + (1 : Int))))))) else (kk4 l5x3))
def f_lumref_turned (fu : Nat) (a0 : (List UInt8)) : Option (List UInt8) := (req (a0.length ≤ 9223372036854775807) (lt (fun (j3x3 : (List UInt8)) => (some j3x3)) fun (kk4 : (List UInt8) → Option (List UInt8)) => (f_lumref_turned_L7 a0 kk4 fu a0 (0 : Int))))
set_option maxRecDepth 100000 in
theorem f_lumref_turned_ok (fu : Nat) (a0 : (List UInt8)) {r : (List UInt8)} (h : f_lumref_turned fu a0 = some r) : FnOk Try.prog 38 [(str a0)] [] [] (fun (i : Unit) => { val := (str r) }) := by
  unfold f_lumref_turned at h
  refine fn_enter Try.func38 rfl Try.ntmps38 rfl (fun w0 Z0 => ?_)
  refine aw_seq ?_
  refine aw_region ?_
  refine al_val (ov_assign rfl rfl) ?_
  refine al_nil ?_
  refine aq_then ?_
  refine aw_seq ?_
  refine aw_region ?_
  refine al_val (ov_move rfl rfl) ?_
  obtain ⟨hc1, h⟩ := req_some h
  refine al_bytesO hc1 rfl Try.underlying9 Try.underlying78 Try.underlying5 rfl (fun s2 => ?_)
  refine al_val (ov_assign rfl rfl) ?_
  refine al_nil ?_
  refine aq_then ?_
  obtain ⟨kk4, hkk4, h⟩ := lt_some h
  refine aw_seq_join (ι := (List UInt8)) (fun i => (memOf w0 Z0 [] [(oBy s2 5 i)] [])) (fun i => (tab [(3, s2)])) (fun i => kk4 i = some r) ?_ ?_
  · rintro j3x3 h
    have h : kk4 j3x3 = some r := h
    rw [hkk4] at h
    dsimp only at h
    clear hkk4
    refine aw_show (m := (memOf w0 Z0 [] [(oBy s2 5 j3x3)] [])) (S := (tab [(3, s2)])) ?_
    refine aw_seq ?_
    refine aw_region ?_
    refine al_val (ov_move rfl rfl) ?_
    refine al_val (ov_toStrO 0 rfl rfl Try.underlying78 Try.underlying5 Try.underlying9 rfl) ?_
    refine al_val (ov_assign rfl rfl) ?_
    refine al_nil ?_
    refine aq_then ?_
    refine aw_ret ?_
    obtain rfl := Option.some.inj h
    exact fn_ret () [] [] rfl rfl rfl rfl (res1 rfl rfl) rfl rfl rfl (by decide)
  · clear hkk4
    refine aw_seq ?_
    refine aw_region ?_
    refine al_val (ov_move rfl rfl) ?_
    refine al_val (ov_lenO 0 rfl rfl Try.underlying78 rfl) ?_
    refine al_val (ov_move rfl rfl) ?_
    refine al_nil ?_
    refine aq_then ?_
    refine aw_block ?_
    refine aw_state (aw_loop (ι := (List UInt8) × Int) (fun i => (memOf w0 Z0 [] [(oBy s2 5 i.1)] [])) (fun i => (tab [(3, s2), (8, (Value.int .i64 (a0.length : Int))), (9, (Value.int .i64 i.2))])) (fun q i => f_lumref_turned_L7 a0 kk4 q i.1 i.2 = some r) ?_ fu (a0, (0 : Int)) h) (fun w a hm hs => norm hm hs [0] [] [(3, s2), (8, (Value.int .i64 (a0.length : Int))), (9, (Value.int .i64 (0 : Int)))] (by decide) ⟨rfl, rfl, rfl, trivial⟩)
    clear h
    rintro k6 ⟨l5x3, l5i9⟩ h
    have h : f_lumref_turned_L7 a0 kk4 k6 l5x3 l5i9 = some r := h
    obtain _ | k6 := k6
    · rw [f_lumref_turned_L7] at h; cases h
    rw [f_lumref_turned_L7] at h
    refine aw_show (m := (memOf w0 Z0 [] [(oBy s2 5 l5x3)] [])) (S := (tab [(3, s2), (8, (Value.int .i64 (a0.length : Int))), (9, (Value.int .i64 l5i9))])) ?_
    refine aw_seq ?_
    refine aw_region ?_
    refine al_val (ov_int rfl rfl rfl rfl) ?_
    refine al_nil ?_
    refine aq_then ?_
    refine aw_seq ?_
    refine aw_cond rfl (fun hb8 => ?_) (fun hb8 => ?_)
    · replace h := bif_t hb8 h
      refine aw_skip ?_
      refine aq_then ?_
      refine aw_seq ?_
      refine aw_block ?_
      refine aw_seq ?_
      refine aw_region ?_
      refine al_val (ov_move rfl rfl) ?_
      refine al_val (ov_assign rfl rfl) ?_
      refine al_nil ?_
      refine aq_then ?_
      refine aw_region ?_
      refine al_val (ov_move rfl rfl) ?_
      refine al_val (ov_move rfl rfl) ?_
      refine al_val (ov_move rfl rfl) ?_
      refine al_val (ov_move rfl rfl) ?_
      obtain ⟨u9, hu10, h⟩ := opt_some h
      refine al_idxO 0 (at_some hu10).1 (at_some hu10).2.1 rfl rfl rfl Try.underlying78 sz5 rfl (fun p11 hp12 => ?_)
      refine al_val (ov_loadO (ds := [(Value.int .u8 (u9.toNat : Int))]) 0 rfl hp12 (at_some hu10).2.2 (fun h => h) rfl Try.underlying5 sz5 rfl rfl rfl) ?_
      refine al_val (ov_int rfl rfl rfl rfl) ?_
      obtain ⟨u13, hu14, h⟩ := opt_some h
      refine al_idxO 0 (at_some hu14).1 (at_some hu14).2.1 rfl rfl rfl Try.underlying78 sz5 rfl (fun p15 hp16 => ?_)
      obtain ⟨hc17, h⟩ := req_some h
      refine al_storeO (k := (l5i9).toNat) (x := (UInt8.ofNat ((IntKind.u8.wrap ((255 : Int) - (u9.toNat : Int)))).toNat)) (vs := [(Value.int .u8 (IntKind.u8.wrap ((255 : Int) - (u9.toNat : Int))))]) 0 rfl hp16 (idx_lt hu14) rfl rfl (cv_rfl rfl) (fun _ => u8_rep hc17) sz5 rfl ?_
      refine al_nil ?_
      refine aq_block ?_
      refine aq_then ?_
      refine aw_region ?_
      refine al_val (ov_int rfl rfl rfl rfl) ?_
      refine al_val (ov_move rfl rfl) ?_
      refine al_nil ?_
      exact aq_again k6 ((l5x3.set (l5i9).toNat (UInt8.ofNat ((IntKind.u8.wrap ((255 : Int) - (u9.toNat : Int)))).toNat)), (IntKind.i64.wrap (l5i9 + (1 : Int)))) (Nat.lt_succ_self _) h (fun w a hm hs => norm hm hs [0] [] [(3, s2), (8, (Value.int .i64 (a0.length : Int))), (9, (Value.int .i64 (IntKind.i64.wrap (l5i9 + (1 : Int)))))] (by decide) ⟨rfl, rfl, rfl, trivial⟩)
    · replace h := bif_f hb8 h
      refine aw_exit ?_
      refine aq_then_exit ?_
      refine aq_then_exit ?_
      refine aq_block_exit ?_
      exact aq_join l5x3 h (fun w a hm hs => norm hm hs [0] [] [(3, s2)] (by decide) ⟨rfl, trivial⟩)
def f_lumref_GetFloat (fu : Nat) (a0 : (List UInt8)) : Option (Int × Int × Int) := (bif (decide ((a0.length : Int) < (8 : Int))) then (some ((0 : Int), (0 : Int), (3 : Int))) else (req (0 ≤ (8 : Int) ∧ (8 : Int) ≤ (a0.length : Int)) (opt (f_lumref_number fu (a0.take ((8 : Int)).toNat)) fun (r4 : Int) => (lt (fun (j5i5 : Int) => (lt (fun (j7b26 : Bool) => (bif j7b26 then (some ((0 : Int), (0 : Int), (4 : Int))) else (some (j5i5, (8 : Int), (0 : Int))))) fun (kk8 : Bool → Option (Int × Int × Int)) => (bif (decide (((j5i5).tmod (9223372036854775808 : Int)) > (9218868437227405312 : Int))) then (kk8 (j5i5 != (9221120237041090561 : Int))) else (kk8 false)))) fun (kk6 : Int → Option (Int × Int × Int)) => (bif (decide (r4 ≥ (9223372036854775808 : Int))) then (kk6 (IntKind.u64.wrap (r4 - (9223372036854775808 : Int)))) else (req (0 ≤ (8 : Int) ∧ (8 : Int) ≤ (a0.length : Int)) (opt (f_lumref_turned fu (a0.take ((8 : Int)).toNat)) fun (r14 : (List UInt8)) => (opt (f_lumref_number fu r14) fun (r16 : Int) => (kk6 r16)))))))))
set_option maxRecDepth 100000 in
theorem f_lumref_GetFloat_ok (fu : Nat) (a0 : (List UInt8)) {r : (Int × Int × Int)} (h : f_lumref_GetFloat fu a0 = some r) : FnOk Try.prog 8 [(str a0)] [] [] (fun (i : Unit) => { val := (Value.tuple #[(Value.int .u64 r.1), (Value.int .i64 r.2.1), (Value.int .i64 r.2.2)]) }) := by
  unfold f_lumref_GetFloat at h
  refine fn_enter Try.func8 rfl Try.ntmps8 rfl (fun w0 Z0 => ?_)
  refine aw_seq ?_
  refine aw_region ?_
  refine al_val (ov_assign rfl rfl) ?_
  refine al_val (ov_assign rfl rfl) ?_
  refine al_val (ov_assign rfl rfl) ?_
  refine al_nil ?_
  refine aq_then ?_
  refine aw_seq ?_
  refine aw_seq ?_
  refine aw_region ?_
  refine al_val (ov_move rfl rfl) ?_
  refine al_val (ov_strLen Try.underlying9 rfl rfl) ?_
  refine al_val (ov_int rfl rfl rfl rfl) ?_
  refine al_nil ?_
  refine aq_then ?_
  refine aw_cond rfl (fun hb1 => ?_) (fun hb1 => ?_)
  · replace h := bif_t hb1 h
    refine aw_seq ?_
    refine aw_region ?_
    refine al_val (ov_assign rfl rfl) ?_
    refine al_val (ov_assign rfl rfl) ?_
    refine al_val (ov_assign rfl rfl) ?_
    refine al_nil ?_
    refine aq_then ?_
    refine aw_ret ?_
    refine aq_then_ret ?_
    obtain rfl := Option.some.inj h
    exact fn_ret () [] [] rfl rfl rfl rfl (res3 rfl rfl rfl rfl) rfl rfl rfl (by decide)
  · replace h := bif_f hb1 h
    refine aw_skip ?_
    refine aq_then ?_
    refine aw_seq ?_
    refine aw_region ?_
    refine al_val (ov_move rfl rfl) ?_
    obtain ⟨hc2, h⟩ := req_some h
    refine al_val (ov_strTo hc2.1 hc2.2 Try.underlying9 rfl rfl rfl) ?_
    obtain ⟨r4, hc3, h⟩ := opt_some h
    refine al_call (vs := [(str (a0.take ((8 : Int)).toNat))]) (f_lumref_number_ok fu (a0.take ((8 : Int)).toNat) hc3) [] [] [] pre_nil rfl (by simp) (by decide) (.inl rfl) rfl Try.func37 rfl rfl rfl (fun _ => ?_)
    refine al_val (ov_assign rfl rfl) ?_
    refine al_nil ?_
    refine aq_then ?_
    obtain ⟨kk6, hkk6, h⟩ := lt_some h
    refine aw_seq_join (ι := Int) (fun i => (memOf w0 Z0 [] [] [])) (fun i => (tab [(5, (Value.int .u64 i))])) (fun i => kk6 i = some r) ?_ ?_
    · rintro j5i5 h
      have h : kk6 j5i5 = some r := h
      rw [hkk6] at h
      dsimp only at h
      clear hkk6
      refine aw_show (m := (memOf w0 Z0 [] [] [])) (S := (tab [(5, (Value.int .u64 j5i5))])) ?_
      refine aw_seq ?_
      obtain ⟨kk8, hkk8, h⟩ := lt_some h
      refine aw_seq_join (ι := Bool) (fun i => (memOf w0 Z0 [] [] [])) (fun i => (tab [(5, (Value.int .u64 j5i5)), (26, (Value.bool i))])) (fun i => kk8 i = some r) ?_ ?_
      · rintro j7b26 h
        have h : kk8 j7b26 = some r := h
        rw [hkk8] at h
        dsimp only at h
        clear hkk8
        refine aw_show (m := (memOf w0 Z0 [] [] [])) (S := (tab [(5, (Value.int .u64 j5i5)), (26, (Value.bool j7b26))])) ?_
        refine aw_cond rfl (fun hb9 => ?_) (fun hb9 => ?_)
        · replace h := bif_t hb9 h
          refine aw_seq ?_
          refine aw_region ?_
          refine al_val (ov_assign rfl rfl) ?_
          refine al_val (ov_assign rfl rfl) ?_
          refine al_val (ov_assign rfl rfl) ?_
          refine al_nil ?_
          refine aq_then ?_
          refine aw_ret ?_
          refine aq_then_ret ?_
          obtain rfl := Option.some.inj h
          exact fn_ret () [] [] rfl rfl rfl rfl (res3 rfl rfl rfl rfl) rfl rfl rfl (by decide)
        · replace h := bif_f hb9 h
          refine aw_skip ?_
          refine aq_then ?_
          refine aw_seq ?_
          refine aw_region ?_
          refine al_val (ov_move rfl rfl) ?_
          refine al_val (ov_assign rfl rfl) ?_
          refine al_val (ov_assign rfl rfl) ?_
          refine al_val (ov_assign rfl rfl) ?_
          refine al_nil ?_
          refine aq_then ?_
          refine aw_ret ?_
          obtain rfl := Option.some.inj h
          exact fn_ret () [] [] rfl rfl rfl rfl (res3 rfl rfl rfl rfl) rfl rfl rfl (by decide)
      · clear hkk8
        refine aw_region ?_
        refine al_val (ov_move rfl rfl) ?_
        refine al_val (ov_rem (by decide) rfl rfl rfl) ?_
        refine al_val (ov_int rfl rfl rfl rfl) ?_
        refine al_val (ov_move rfl rfl) ?_
        refine al_caseB 23 rfl (fun hb10 => ?_) (fun hb10 => ?_)
        · replace h := bif_t hb10 h
          refine al_val (ov_move rfl rfl) ?_
          refine al_val (ov_int rfl rfl rfl rfl) ?_
          refine al_val (ov_pick_t rfl rfl rfl) ?_
          refine al_nil ?_
          exact aq_join (j5i5 != (9221120237041090561 : Int)) h (fun w a hm hs => norm hm hs [] [] [(5, (Value.int .u64 j5i5)), (26, (Value.bool (j5i5 != (9221120237041090561 : Int))))] (by decide) ⟨rfl, rfl, trivial⟩)
        · replace h := bif_f hb10 h
          refine al_skip ?_
          refine al_skip ?_
          refine al_val (ov_pick_f rfl rfl rfl) ?_
          refine al_nil ?_
          exact aq_join false h (fun w a hm hs => norm hm hs [] [] [(5, (Value.int .u64 j5i5)), (26, (Value.bool false))] (by decide) ⟨rfl, rfl, trivial⟩)
    · clear hkk6
      refine aw_seq ?_
      refine aw_region ?_
      refine al_val (ov_move rfl rfl) ?_
      refine al_val (ov_int rfl rfl rfl rfl) ?_
      refine al_nil ?_
      refine aq_then ?_
      refine aw_cond rfl (fun hb11 => ?_) (fun hb11 => ?_)
      · replace h := bif_t hb11 h
        refine aw_region ?_
        refine al_val (ov_move rfl rfl) ?_
        refine al_val (ov_int rfl rfl rfl rfl) ?_
        refine al_val (ov_assign rfl rfl) ?_
        refine al_nil ?_
        exact aq_join (IntKind.u64.wrap (r4 - (9223372036854775808 : Int))) h (fun w a hm hs => norm hm hs [] [] [(5, (Value.int .u64 (IntKind.u64.wrap (r4 - (9223372036854775808 : Int)))))] (by decide) ⟨rfl, trivial⟩)
      · replace h := bif_f hb11 h
        refine aw_region ?_
        refine al_val (ov_move rfl rfl) ?_
        obtain ⟨hc12, h⟩ := req_some h
        refine al_val (ov_strTo hc12.1 hc12.2 Try.underlying9 rfl rfl rfl) ?_
        obtain ⟨r14, hc13, h⟩ := opt_some h
        refine al_call (vs := [(str (a0.take ((8 : Int)).toNat))]) (f_lumref_turned_ok fu (a0.take ((8 : Int)).toNat) hc13) [] [] [] pre_nil rfl (by simp) (by decide) (.inl rfl) rfl Try.func38 rfl rfl rfl (fun _ => ?_)
        obtain ⟨r16, hc15, h⟩ := opt_some h
        refine al_call (vs := [(str r14)]) (f_lumref_number_ok fu r14 hc15) [] [] [] pre_nil rfl (by simp) (by decide) (.inl rfl) rfl Try.func37 rfl rfl rfl (fun _ => ?_)
        refine al_val (ov_assign rfl rfl) ?_
        refine al_nil ?_
        exact aq_join r16 h (fun w a hm hs => norm hm hs [] [] [(5, (Value.int .u64 r16))] (by decide) ⟨rfl, trivial⟩)
-- STUCK (encoding/binary.bigEndian).AppendUint64: binary.go:222: call: append to data
def f_binary_BEAppendUint64_nil (fu : Nat) (a0 : Unit) (a2 : Int) : Option (List UInt8) := req (0 ≤ a2 ∧ a2 < 18446744073709551616) (some (Lib.beBytes 8 a2.toNat))
theorem f_binary_BEAppendUint64_nil_ok (fu : Nat) (a0 : Unit) (a2 : Int) {r : List UInt8} (h : f_binary_BEAppendUint64_nil fu a0 a2 = some r) : FnOk Try.prog 39 [(ag []), (Value.slice none 0 0), (Value.int .u64 a2)] [] [] (fun (i : Value) => { val := i, own := [(oRow i 5 tyU8 r)] }) := by
  unfold f_binary_BEAppendUint64_nil at h
  obtain ⟨hc, h⟩ := req_some h
  obtain rfl := Option.some.inj h
  obtain ⟨n, rfl⟩ : ∃ n : Nat, a2 = n := ⟨a2.toNat, by omega⟩
  refine fnok_own fun w => ?_
  refine (Try.binary_BE_AppendUint64 w.heap.size 0 n (by omega) (.slice none 0 0) [] w ⟨rfl, .inl ⟨rfl, rfl⟩⟩ (Nat.le_refl _) (by omega)).mono fun ex w' h9 => ?_
  obtain ⟨v, h1, h2, h3⟩ := h9
  refine ⟨v, _, h1, ?_, fun Z => u8_row _, h3⟩
  rw [Lib.beBytes_length]
  show World.ownsRow _ _ _ 1 _ _ _
  simpa using h2
def f_num_PutFloat (fu : Nat) (a0 : Int) : Option (List UInt8) := (lt (fun (j1i3 : Int) => (lt (fun (j3i3 : Int) => (opt (f_binary_BEAppendUint64_nil fu () j3i3) fun (r6 : (List UInt8)) => (some r6))) fun (kk4 : Int → Option (List UInt8)) => (bif ((bits .and .u64 j1i3 (9223372036854775808 : Int)) == (0 : Int)) then (kk4 (bits .or .u64 j1i3 (9223372036854775808 : Int))) else (kk4 (bits .xor .u64 (if IntKind.signed .u64 then -1 else IntKind.max .u64) j1i3))))) fun (kk2 : Int → Option (List UInt8)) => (opt (f_math_IsNaN fu a0) fun (r10 : Bool) => (bif r10 then (kk2 (9221120237041090561 : Int)) else (kk2 (((a0).toNat : Nat) : Int)))))
set_option maxRecDepth 100000 in
theorem f_num_PutFloat_ok (fu : Nat) (a0 : Int) {r : (List UInt8)} (h : f_num_PutFloat fu a0 = some r) : FnOk Try.prog 10 [(Value.float .f64 (a0).toNat)] [] [] (fun (i : Unit) => { val := (str r) }) := by
  unfold f_num_PutFloat at h
  refine fn_enter Try.func10 rfl Try.ntmps10 rfl (fun w0 Z0 => ?_)
  refine aw_seq ?_
  refine aw_region ?_
  refine al_val (ov_assign rfl rfl) ?_
  refine al_nil ?_
  refine aq_then ?_
  refine aw_seq ?_
  refine aw_region ?_
  refine al_val (ov_move rfl rfl) ?_
  refine al_val (v := (Value.int .u64 (((a0).toNat : Nat) : Int))) (ov_fbits rfl Try.func9 rfl rfl rfl rfl rfl) ?_
  refine al_val (ov_assign rfl rfl) ?_
  refine al_nil ?_
  refine aq_then ?_
  obtain ⟨kk2, hkk2, h⟩ := lt_some h
  refine aw_seq_join (ι := Int) (fun i => (memOf w0 Z0 [] [] [])) (fun i => (tab [(3, (Value.int .u64 i))])) (fun i => kk2 i = some r) ?_ ?_
  · rintro j1i3 h
    have h : kk2 j1i3 = some r := h
    rw [hkk2] at h
    dsimp only at h
    clear hkk2
    refine aw_show (m := (memOf w0 Z0 [] [] [])) (S := (tab [(3, (Value.int .u64 j1i3))])) ?_
    obtain ⟨kk4, hkk4, h⟩ := lt_some h
    refine aw_seq_join (ι := Int) (fun i => (memOf w0 Z0 [] [] [])) (fun i => (tab [(3, (Value.int .u64 i))])) (fun i => kk4 i = some r) ?_ ?_
    · rintro j3i3 h
      have h : kk4 j3i3 = some r := h
      rw [hkk4] at h
      dsimp only at h
      clear hkk4
      refine aw_show (m := (memOf w0 Z0 [] [] [])) (S := (tab [(3, (Value.int .u64 j3i3))])) ?_
      refine aw_seq ?_
      refine aw_region ?_
      refine al_val (ov_load0 Try.underlying80 sz80 rfl rfl rfl) ?_
      refine al_val (ov_move rfl rfl) ?_
      obtain ⟨r6, hc5, h⟩ := opt_some h
      refine al_call (vs := [(ag []), (Value.slice none 0 0), (Value.int .u64 j3i3)]) (f_binary_BEAppendUint64_nil_ok fu () j3i3 hc5) [] [] [] pre_nil rfl (by simp) (by decide) (.inl rfl) rfl Try.func39 rfl rfl rfl (fun v7 => ?_)
      refine al_val (ov_toStrR 0 rfl rfl Try.underlying78 Try.underlying5 Try.underlying9 rfl) ?_
      refine al_val (ov_assign rfl rfl) ?_
      refine al_nil ?_
      refine aq_then ?_
      refine aw_ret ?_
      obtain rfl := Option.some.inj h
      exact fn_ret () [] [] rfl rfl rfl rfl (res1 rfl rfl) rfl rfl rfl (by decide)
    · clear hkk4
      refine aw_seq ?_
      refine aw_region ?_
      refine al_val (ov_move rfl rfl) ?_
      refine al_val (ov_int rfl rfl rfl rfl) ?_
      refine al_val (ov_int rfl rfl rfl rfl) ?_
      refine al_nil ?_
      refine aq_then ?_
      refine aw_cond rfl (fun hb8 => ?_) (fun hb8 => ?_)
      · replace h := bif_t hb8 h
        refine aw_region ?_
        refine al_val (ov_move rfl rfl) ?_
        refine al_val (ov_int rfl rfl rfl rfl) ?_
        refine al_val (ov_assign rfl rfl) ?_
        refine al_nil ?_
        exact aq_join (bits .or .u64 j1i3 (9223372036854775808 : Int)) h (fun w a hm hs => norm hm hs [] [] [(3, (Value.int .u64 (bits .or .u64 j1i3 (9223372036854775808 : Int))))] (by decide) ⟨rfl, trivial⟩)
      · replace h := bif_f hb8 h
        refine aw_region ?_
        refine al_val (ov_move rfl rfl) ?_
        refine al_val (ov_compl rfl rfl) ?_
        refine al_val (ov_assign rfl rfl) ?_
        refine al_nil ?_
        exact aq_join (bits .xor .u64 (if IntKind.signed .u64 then -1 else IntKind.max .u64) j1i3) h (fun w a hm hs => norm hm hs [] [] [(3, (Value.int .u64 (bits .xor .u64 (if IntKind.signed .u64 then -1 else IntKind.max .u64) j1i3)))] (by decide) ⟨rfl, trivial⟩)
  · clear hkk2
    refine aw_seq ?_
    refine aw_region ?_
    refine al_val (ov_move rfl rfl) ?_
    obtain ⟨r10, hc9, h⟩ := opt_some h
    refine al_call (vs := [(Value.float .f64 (a0).toNat)]) (f_math_IsNaN_ok fu a0 hc9) [] [] [] pre_nil rfl (by simp) (by decide) (.inl rfl) rfl Try.func36 rfl rfl rfl (fun _ => ?_)
    refine al_nil ?_
    refine aq_then ?_
    refine aw_cond rfl (fun hb11 => ?_) (fun hb11 => ?_)
    · replace h := bif_t hb11 h
      refine aw_region ?_
      refine al_val (ov_assign rfl rfl) ?_
      refine al_nil ?_
      exact aq_join (9221120237041090561 : Int) h (fun w a hm hs => norm hm hs [] [] [(3, (Value.int .u64 (9221120237041090561 : Int)))] (by decide) ⟨rfl, trivial⟩)
    · replace h := bif_f hb11 h
      refine aw_skip ?_
      exact aq_join (((a0).toNat : Nat) : Int) h (fun w a hm hs => norm hm hs [] [] [(3, (Value.int .u64 (((a0).toNat : Nat) : Int)))] (by decide) ⟨rfl, trivial⟩)
def f_lumref_digits : Nat → Int → Option (List UInt8)
  | 0, _ => none
  | fu + 1, a0 => (bif (a0 == (0 : Int)) then (some ([] : List UInt8)) else (opt (f_lumref_digits fu (IntKind.u64.wrap ((a0).tdiv (256 : Int)))) fun (r3 : (List UInt8)) => (req (0 ≤ (IntKind.u8.wrap ((a0).tmod (256 : Int))) ∧ (IntKind.u8.wrap ((a0).tmod (256 : Int))) ≤ 255) (req (r3.length + ([(UInt8.ofNat ((IntKind.u8.wrap ((a0).tmod (256 : Int)))).toNat)]).length ≤ 9223372036854775807) (some (r3 ++ ([(UInt8.ofNat ((IntKind.u8.wrap ((a0).tmod (256 : Int)))).toNat)])))))))
set_option maxRecDepth 100000 in
theorem f_lumref_digits_ok (fu : Nat) (a0 : Int) {r : (List UInt8)} (h : f_lumref_digits fu a0 = some r) : FnOk Try.prog 74 [(Value.int .u64 a0)] [] [] (fun (i : Unit) => { val := (str r) }) := by
  cases fu with
  | zero => rw [f_lumref_digits] at h; cases h
  | succ fu =>
    rw [f_lumref_digits] at h
    refine fn_enter Try.func74 rfl Try.ntmps74 rfl (fun w0 Z0 => ?_)
    refine aw_seq ?_
    refine aw_region ?_
    refine al_val (ov_assign rfl rfl) ?_
    refine al_nil ?_
    refine aq_then ?_
    refine aw_seq ?_
    refine aw_seq ?_
    refine aw_region ?_
    refine al_val (ov_move rfl rfl) ?_
    refine al_val (ov_int rfl rfl rfl rfl) ?_
    refine al_nil ?_
    refine aq_then ?_
    refine aw_cond rfl (fun hb1 => ?_) (fun hb1 => ?_)
    · replace h := bif_t hb1 h
      refine aw_seq ?_
      refine aw_region ?_
      refine al_val (ov_assign rfl rfl) ?_
      refine al_nil ?_
      refine aq_then ?_
      refine aw_ret ?_
      refine aq_then_ret ?_
      obtain rfl := Option.some.inj h
      exact fn_ret () [] [] rfl rfl rfl rfl (res1 rfl rfl) rfl rfl rfl (by decide)
    · replace h := bif_f hb1 h
      refine aw_skip ?_
      refine aq_then ?_
      refine aw_seq ?_
      obtain ⟨r3, hc2, h⟩ := opt_some h
      obtain ⟨hc5, h⟩ := req_some h
      obtain ⟨hc6, h⟩ := req_some h
      refine aw_region_draw 9 [(5, (fun u => fEq u (Value.int .u64 a0))), (6, (fun u => fEq u (Value.int .u64 (IntKind.u64.wrap ((a0).tdiv (256 : Int)))))), (7, (fun u => fEq u (str r3))), (8, (fun u => fEq u (Value.int .u64 a0))), (9, (fun u => fEq u (Value.int .u64 ((a0).tmod (256 : Int))))), (10, (fun u => fEq u (Value.int .u8 (IntKind.u8.wrap ((a0).tmod (256 : Int)))))), (11, (fun v4 => (fDat (tyList tyU8) [v4] [(UInt8.ofNat ((IntKind.u8.wrap ((a0).tmod (256 : Int)))).toNat)]))), (12, (fun u => fEq u (str [(UInt8.ofNat ((IntKind.u8.wrap ((a0).tmod (256 : Int)))).toNat)]))), (13, (fun u => fEq u (str (r3 ++ ([(UInt8.ofNat ((IntKind.u8.wrap ((a0).tmod (256 : Int)))).toNat)])))))] (tab [(0, (Value.int .u64 a0)), (2, (str ([] : List UInt8)))]) mixed (by kernel_rfl) rfl rfl rfl (fun a hs => hs.tab _ (allT_mem ⟨rfl, rfl, trivial⟩)) ⟨⟨rfl, ld_val (ov_move rfl rfl)⟩, ⟨rfl, ld_eq (j := 0) rfl rfl (ld_val (ov_quo (by decide) rfl rfl rfl))⟩, ⟨rfl, ld_eq (j := 1) rfl rfl (ld_callV (vs := [(Value.int .u64 (IntKind.u64.wrap ((a0).tdiv (256 : Int))))]) (f_lumref_digits_ok fu (IntKind.u64.wrap ((a0).tdiv (256 : Int))) hc2) [] pre_nil rfl Try.func74 rfl rfl rfl)⟩, ⟨rfl, ld_val (ov_move rfl rfl)⟩, ⟨rfl, ld_eq (j := 3) rfl rfl (ld_val (ov_rem (by decide) rfl rfl rfl))⟩, ⟨rfl, ld_eq (j := 4) rfl rfl (ld_val (ov_convInt (by rw [Try.underlying26]; rfl) Try.underlying5 rfl rfl))⟩, ⟨rfl, ld_eq (j := 5) rfl rfl (ld_buildSlice (τ := tyU8) (e := 5) (k := 1) (cs := [(Value.int .u8 (IntKind.u8.wrap ((a0).tmod (256 : Int))))]) (xs := [(UInt8.ofNat ((IntKind.u8.wrap ((a0).tmod (256 : Int)))).toNat)]) rfl (by decide) rfl (fun w a hm hs => ⟨([(Value.int .u8 (IntKind.u8.wrap ((a0).tmod (256 : Int))))]).toArray, rfl, by simp only [List.map_toArray, List.map_cons, List.map_nil, hs.ev (x := .tmp 10) rfl]; exact run_bs [(Value.int .u8 (IntKind.u8.wrap ((a0).tmod (256 : Int))))] [(Value.int .u8 (IntKind.u8.wrap ((a0).tmod (256 : Int))))] Try.underlying78 to5 rfl rfl (bs_cons (l := [(Value.int .u8 (IntKind.u8.wrap ((a0).tmod (256 : Int))))]) (cs := []) (cv_rfl rfl) rfl bs_nil) hm⟩) (fun hm => ⟨_, _, rfl, (fun _ => u8_rep hc5) hm, rfl⟩) rfl)⟩, ⟨rfl, ld_fact (j := 6) rfl rfl (fun v4 => ld_val (ov_toStr 0 rfl rfl Try.underlying78 Try.underlying5 Try.underlying9 rfl))⟩, ⟨rfl, ld_eq (j := 2) rfl rfl (ld_eq (j := 7) rfl rfl (ld_val (ov_strAdd hc6 rfl rfl rfl)))⟩, trivial⟩ ?_
      refine tl_eq 8 rfl ?_
      refine tl_done ?_
      refine al_val (ov_assign rfl rfl) ?_
      refine al_nil ?_
      refine aq_then ?_
      refine aw_ret ?_
      obtain rfl := Option.some.inj h
      exact fn_ret () [] [] rfl rfl rfl rfl (res1 rfl rfl) rfl rfl rfl (by decide)
def f_strings_Repeat (fu : Nat) (a0 : List UInt8) (a1 : Int) : Option (List UInt8) := req (0 ≤ a1 ∧ a1 ≤ 9223372036854775807 ∧ a0.length * a1.toNat ≤ 140737488355328) (some (Lib.repeatL a0 a1.toNat))
theorem f_strings_Repeat_ok (fu : Nat) (a0 : List UInt8) (a1 : Int) {r : List UInt8} (h : f_strings_Repeat fu a0 a1 = some r) : FnOk Try.prog 75 [(str a0), (Value.int .i64 a1)] [] [] (fun (i : Unit) => { val := (str r) }) := by
  unfold f_strings_Repeat at h
  obtain ⟨hc, h⟩ := req_some h
  obtain rfl := Option.some.inj h
  obtain ⟨n, rfl⟩ : ∃ n : Nat, a1 = n := ⟨a1.toNat, by omega⟩
  refine fnok_pure fun w => ?_
  exact (Try.strings_Repeat ⟨a0.toArray⟩ n w (by omega) (by simpa [ByteArray.size] using hc.2.2)).mono fun e w' h9 => by simpa [str] using h9
def f_lumref_wide (fu : Nat) (a0 : Int) : Option (List UInt8) := (opt (f_lumref_digits fu a0) fun (r2 : (List UInt8)) => (opt (f_strings_Repeat fu ([0] : List UInt8) (IntKind.i64.wrap ((8 : Int) - (r2.length : Int)))) fun (r4 : (List UInt8)) => (req (r4.length + r2.length ≤ 9223372036854775807) (some (r4 ++ r2)))))
set_option maxRecDepth 100000 in
theorem f_lumref_wide_ok (fu : Nat) (a0 : Int) {r : (List UInt8)} (h : f_lumref_wide fu a0 = some r) : FnOk Try.prog 40 [(Value.int .u64 a0)] [] [] (fun (i : Unit) => { val := (str r) }) := by
  unfold f_lumref_wide at h
  refine fn_enter Try.func40 rfl Try.ntmps40 rfl (fun w0 Z0 => ?_)
  refine aw_seq ?_
  refine aw_region ?_
  refine al_val (ov_assign rfl rfl) ?_
  refine al_nil ?_
  refine aq_then ?_
  refine aw_seq ?_
  refine aw_region ?_
  refine al_val (ov_move rfl rfl) ?_
  obtain ⟨r2, hc1, h⟩ := opt_some h
  refine al_call (vs := [(Value.int .u64 a0)]) (f_lumref_digits_ok fu a0 hc1) [] [] [] pre_nil rfl (by simp) (by decide) (.inl rfl) rfl Try.func74 rfl rfl rfl (fun _ => ?_)
  refine al_val (ov_assign rfl rfl) ?_
  refine al_nil ?_
  refine aq_then ?_
  refine aw_seq ?_
  refine aw_region ?_
  refine al_val (ov_move rfl rfl) ?_
  refine al_val (ov_strLen Try.underlying9 rfl rfl) ?_
  refine al_val (ov_int rfl rfl rfl rfl) ?_
  obtain ⟨r4, hc3, h⟩ := opt_some h
  refine al_call (vs := [(str ([0] : List UInt8)), (Value.int .i64 (IntKind.i64.wrap ((8 : Int) - (r2.length : Int))))]) (f_strings_Repeat_ok fu ([0] : List UInt8) (IntKind.i64.wrap ((8 : Int) - (r2.length : Int))) hc3) [] [] [] pre_nil rfl (by simp) (by decide) (.inl rfl) rfl Try.func75 rfl rfl rfl (fun _ => ?_)
  refine al_val (ov_move rfl rfl) ?_
  obtain ⟨hc5, h⟩ := req_some h
  refine al_val (ov_strAdd hc5 rfl rfl rfl) ?_
  refine al_val (ov_assign rfl rfl) ?_
  refine al_nil ?_
  refine aq_then ?_
  refine aw_ret ?_
  obtain rfl := Option.some.inj h
  exact fn_ret () [] [] rfl rfl rfl rfl (res1 rfl rfl) rfl rfl rfl (by decide)
def f_lumref_PutFloat (fu : Nat) (a0 : Int) : Option (List UInt8) := (lt (fun (j1i3 : Int) => (bif (decide (j1i3 < (9223372036854775808 : Int))) then (opt (f_lumref_wide fu (IntKind.u64.wrap (j1i3 + (9223372036854775808 : Int)))) fun (r5 : (List UInt8)) => (some r5)) else (opt (f_lumref_wide fu j1i3) fun (r7 : (List UInt8)) => (opt (f_lumref_turned fu r7) fun (r9 : (List UInt8)) => (some r9))))) fun (kk2 : Int → Option (List UInt8)) => (opt (f_math_IsNaN fu a0) fun (r11 : Bool) => (bif r11 then (kk2 (9221120237041090561 : Int)) else (kk2 (((a0).toNat : Nat) : Int)))))
set_option maxRecDepth 100000 in
theorem f_lumref_PutFloat_ok (fu : Nat) (a0 : Int) {r : (List UInt8)} (h : f_lumref_PutFloat fu a0 = some r) : FnOk Try.prog 11 [(Value.float .f64 (a0).toNat)] [] [] (fun (i : Unit) => { val := (str r) }) := by
  unfold f_lumref_PutFloat at h
  refine fn_enter Try.func11 rfl Try.ntmps11 rfl (fun w0 Z0 => ?_)
  refine aw_seq ?_
  refine aw_region ?_
  refine al_val (ov_assign rfl rfl) ?_
  refine al_nil ?_
  refine aq_then ?_
  refine aw_seq ?_
  refine aw_region ?_
  refine al_val (ov_move rfl rfl) ?_
  refine al_val (v := (Value.int .u64 (((a0).toNat : Nat) : Int))) (ov_fbits rfl Try.func9 rfl rfl rfl rfl rfl) ?_
  refine al_val (ov_assign rfl rfl) ?_
  refine al_nil ?_
  refine aq_then ?_
  obtain ⟨kk2, hkk2, h⟩ := lt_some h
  refine aw_seq_join (ι := Int) (fun i => (memOf w0 Z0 [] [] [])) (fun i => (tab [(3, (Value.int .u64 i))])) (fun i => kk2 i = some r) ?_ ?_
  · rintro j1i3 h
    have h : kk2 j1i3 = some r := h
    rw [hkk2] at h
    dsimp only at h
    clear hkk2
    refine aw_show (m := (memOf w0 Z0 [] [] [])) (S := (tab [(3, (Value.int .u64 j1i3))])) ?_
    refine aw_seq ?_
    refine aw_seq ?_
    refine aw_region ?_
    refine al_val (ov_move rfl rfl) ?_
    refine al_val (ov_int rfl rfl rfl rfl) ?_
    refine al_nil ?_
    refine aq_then ?_
    refine aw_cond rfl (fun hb3 => ?_) (fun hb3 => ?_)
    · replace h := bif_t hb3 h
      refine aw_seq ?_
      refine aw_region ?_
      refine al_val (ov_move rfl rfl) ?_
      refine al_val (ov_int rfl rfl rfl rfl) ?_
      obtain ⟨r5, hc4, h⟩ := opt_some h
      refine al_call (vs := [(Value.int .u64 (IntKind.u64.wrap (j1i3 + (9223372036854775808 : Int))))]) (f_lumref_wide_ok fu (IntKind.u64.wrap (j1i3 + (9223372036854775808 : Int))) hc4) [] [] [] pre_nil rfl (by simp) (by decide) (.inl rfl) rfl Try.func40 rfl rfl rfl (fun _ => ?_)
      refine al_val (ov_assign rfl rfl) ?_
      refine al_nil ?_
      refine aq_then ?_
      refine aw_ret ?_
      refine aq_then_ret ?_
      obtain rfl := Option.some.inj h
      exact fn_ret () [] [] rfl rfl rfl rfl (res1 rfl rfl) rfl rfl rfl (by decide)
    · replace h := bif_f hb3 h
      refine aw_skip ?_
      refine aq_then ?_
      refine aw_seq ?_
      refine aw_region ?_
      refine al_val (ov_move rfl rfl) ?_
      obtain ⟨r7, hc6, h⟩ := opt_some h
      refine al_call (vs := [(Value.int .u64 j1i3)]) (f_lumref_wide_ok fu j1i3 hc6) [] [] [] pre_nil rfl (by simp) (by decide) (.inl rfl) rfl Try.func40 rfl rfl rfl (fun _ => ?_)
      obtain ⟨r9, hc8, h⟩ := opt_some h
      refine al_call (vs := [(str r7)]) (f_lumref_turned_ok fu r7 hc8) [] [] [] pre_nil rfl (by simp) (by decide) (.inl rfl) rfl Try.func38 rfl rfl rfl (fun _ => ?_)
      refine al_val (ov_assign rfl rfl) ?_
      refine al_nil ?_
      refine aq_then ?_
      refine aw_ret ?_
      obtain rfl := Option.some.inj h
      exact fn_ret () [] [] rfl rfl rfl rfl (res1 rfl rfl) rfl rfl rfl (by decide)
  · clear hkk2
    refine aw_seq ?_
    refine aw_region ?_
    refine al_val (ov_move rfl rfl) ?_
    obtain ⟨r11, hc10, h⟩ := opt_some h
    refine al_call (vs := [(Value.float .f64 (a0).toNat)]) (f_math_IsNaN_ok fu a0 hc10) [] [] [] pre_nil rfl (by simp) (by decide) (.inl rfl) rfl Try.func36 rfl rfl rfl (fun _ => ?_)
    refine al_nil ?_
    refine aq_then ?_
    refine aw_cond rfl (fun hb12 => ?_) (fun hb12 => ?_)
    · replace h := bif_t hb12 h
      refine aw_region ?_
      refine al_val (ov_assign rfl rfl) ?_
      refine al_nil ?_
      exact aq_join (9221120237041090561 : Int) h (fun w a hm hs => norm hm hs [] [] [(3, (Value.int .u64 (9221120237041090561 : Int)))] (by decide) ⟨rfl, trivial⟩)
    · replace h := bif_f hb12 h
      refine aw_skip ?_
      exact aq_join (((a0).toNat : Nat) : Int) h (fun w a hm hs => norm hm hs [] [] [(3, (Value.int .u64 (((a0).toNat : Nat) : Int)))] (by decide) ⟨rfl, trivial⟩)
def f_lumlaw_NumFloats (fu : Nat) (a0 : Int) (a1 : (List UInt8)) : Option Bool := (opt (f_num_GetFloat fu a1) fun (r2 : (Int × Int × Int)) => (opt (f_lumref_GetFloat fu a1) fun (r4 : (Int × Int × Int)) => (lt (fun (j5b11 : Bool) => (lt (fun (j7b4 : Bool) => (some j7b4)) fun (kk8 : Bool → Option Bool) => (opt (f_num_PutFloat fu a0) fun (r10 : (List UInt8)) => (opt (f_lumref_PutFloat fu a0) fun (r12 : (List UInt8)) => (bif (r10 == r12) then (bif j5b11 then (bif (r2.2.1 == r4.2.1) then (kk8 (r2.2.2 == r4.2.2)) else (kk8 false)) else (kk8 false)) else (kk8 false)))))) fun (kk6 : Bool → Option Bool) => (bif ((((r2.1).toNat : Nat) : Int) == r4.1) then (kk6 true) else (bif (r4.1 == (9221120237041090561 : Int)) then (kk6 (FloatKind.f64.format.order (r2.1).toNat (r2.1).toNat != some .eq)) else (kk6 false))))))
set_option maxRecDepth 100000 in
theorem f_lumlaw_NumFloats_ok (fu : Nat) (a0 : Int) (a1 : (List UInt8)) {r : Bool} (h : f_lumlaw_NumFloats fu a0 a1 = some r) : FnOk Try.prog 3 [(Value.float .f64 (a0).toNat), (str a1)] [] [] (fun (i : Unit) => { val := (Value.bool r) }) := by
  unfold f_lumlaw_NumFloats at h
  refine fn_enter Try.func3 rfl Try.ntmps3 rfl (fun w0 Z0 => ?_)
  refine aw_seq ?_
  refine aw_region ?_
  refine al_val (ov_assign rfl rfl) ?_
  refine al_nil ?_
  refine aq_then ?_
  refine aw_seq ?_
  refine aw_region ?_
  refine al_val (ov_move rfl rfl) ?_
  obtain ⟨r2, hc1, h⟩ := opt_some h
  refine al_call (vs := [(str a1)]) (f_num_GetFloat_ok fu a1 hc1) [] [] [] pre_nil rfl (by simp) (by decide) (.inl rfl) rfl Try.func7 rfl rfl rfl (fun _ => ?_)
  refine al_val (ov_move rfl rfl) ?_
  refine al_val (ov_extract rfl rfl rfl) ?_
  refine al_val (ov_extract rfl rfl rfl) ?_
  refine al_val (ov_extract rfl rfl rfl) ?_
  refine al_val (ov_assign rfl rfl) ?_
  refine al_val (ov_assign rfl rfl) ?_
  refine al_val (ov_assign rfl rfl) ?_
  refine al_nil ?_
  refine aq_then ?_
  refine aw_seq ?_
  refine aw_region ?_
  refine al_val (ov_move rfl rfl) ?_
  obtain ⟨r4, hc3, h⟩ := opt_some h
  refine al_call (vs := [(str a1)]) (f_lumref_GetFloat_ok fu a1 hc3) [] [] [] pre_nil rfl (by simp) (by decide) (.inl rfl) rfl Try.func8 rfl rfl rfl (fun _ => ?_)
  refine al_val (ov_move rfl rfl) ?_
  refine al_val (ov_extract rfl rfl rfl) ?_
  refine al_val (ov_extract rfl rfl rfl) ?_
  refine al_val (ov_extract rfl rfl rfl) ?_
  refine al_val (ov_assign rfl rfl) ?_
  refine al_val (ov_assign rfl rfl) ?_
  refine al_val (ov_assign rfl rfl) ?_
  refine al_nil ?_
  refine aq_then ?_
  obtain ⟨kk6, hkk6, h⟩ := lt_some h
  refine aw_seq_join (ι := Bool) (fun i => (memOf w0 Z0 [] [] [])) (fun i => (tab [(0, (Value.float .f64 (a0).toNat)), (6, (Value.int .i64 r2.2.1)), (7, (Value.int .i64 r2.2.2)), (9, (Value.int .i64 r4.2.1)), (10, (Value.int .i64 r4.2.2)), (11, (Value.bool i))])) (fun i => kk6 i = some r) ?_ ?_
  · rintro j5b11 h
    have h : kk6 j5b11 = some r := h
    rw [hkk6] at h
    dsimp only at h
    clear hkk6
    refine aw_show (m := (memOf w0 Z0 [] [] [])) (S := (tab [(0, (Value.float .f64 (a0).toNat)), (6, (Value.int .i64 r2.2.1)), (7, (Value.int .i64 r2.2.2)), (9, (Value.int .i64 r4.2.1)), (10, (Value.int .i64 r4.2.2)), (11, (Value.bool j5b11))])) ?_
    obtain ⟨kk8, hkk8, h⟩ := lt_some h
    refine aw_seq_join (ι := Bool) (fun i => (memOf w0 Z0 [] [] [])) (fun i => (tab [(4, (Value.bool i))])) (fun i => kk8 i = some r) ?_ ?_
    · rintro j7b4 h
      have h : kk8 j7b4 = some r := h
      rw [hkk8] at h
      dsimp only at h
      clear hkk8
      refine aw_show (m := (memOf w0 Z0 [] [] [])) (S := (tab [(4, (Value.bool j7b4))])) ?_
      refine aw_ret ?_
      obtain rfl := Option.some.inj h
      exact fn_ret () [] [] rfl rfl rfl rfl (res1 rfl rfl) rfl rfl rfl (by decide)
    · clear hkk8
      refine aw_region ?_
      refine al_val (ov_move rfl rfl) ?_
      obtain ⟨r10, hc9, h⟩ := opt_some h
      refine al_call (vs := [(Value.float .f64 (a0).toNat)]) (f_num_PutFloat_ok fu a0 hc9) [] [] [] pre_nil rfl (by simp) (by decide) (.inl rfl) rfl Try.func10 rfl rfl rfl (fun _ => ?_)
      refine al_val (ov_move rfl rfl) ?_
      obtain ⟨r12, hc11, h⟩ := opt_some h
      refine al_call (vs := [(Value.float .f64 (a0).toNat)]) (f_lumref_PutFloat_ok fu a0 hc11) [] [] [] pre_nil rfl (by simp) (by decide) (.inl rfl) rfl Try.func11 rfl rfl rfl (fun _ => ?_)
      refine al_val (ov_strCmp rfl rfl rfl rfl) ?_
      refine al_val (ov_move rfl rfl) ?_
      refine al_caseB 42 rfl (fun hb13 => ?_) (fun hb13 => ?_)
      · replace h := bif_t hb13 h
        refine al_val (ov_move rfl rfl) ?_
        refine al_val (ov_pick_t rfl rfl rfl) ?_
        refine al_val (ov_move rfl rfl) ?_
        refine al_caseB 45 rfl (fun hb14 => ?_) (fun hb14 => ?_)
        · replace h := bif_t hb14 h
          refine al_val (ov_move rfl rfl) ?_
          refine al_val (ov_move rfl rfl) ?_
          refine al_val (ov_int rfl rfl rfl rfl) ?_
          refine al_val (ov_pick_t rfl rfl rfl) ?_
          refine al_val (ov_move rfl rfl) ?_
          refine al_caseB 50 rfl (fun hb15 => ?_) (fun hb15 => ?_)
          · replace h := bif_t hb15 h
            refine al_val (ov_move rfl rfl) ?_
            refine al_val (ov_move rfl rfl) ?_
            refine al_val (ov_int rfl rfl rfl rfl) ?_
            refine al_val (ov_pick_t rfl rfl rfl) ?_
            refine al_val (ov_assign rfl rfl) ?_
            refine al_nil ?_
            exact aq_join (r2.2.2 == r4.2.2) h (fun w a hm hs => norm hm hs [] [] [(4, (Value.bool (r2.2.2 == r4.2.2)))] (by decide) ⟨rfl, trivial⟩)
          · replace h := bif_f hb15 h
            refine al_skip ?_
            refine al_skip ?_
            refine al_skip ?_
            refine al_val (ov_pick_f rfl rfl rfl) ?_
            refine al_val (ov_assign rfl rfl) ?_
            refine al_nil ?_
            exact aq_join false h (fun w a hm hs => norm hm hs [] [] [(4, (Value.bool false))] (by decide) ⟨rfl, trivial⟩)
        · replace h := bif_f hb14 h
          refine al_skip ?_
          refine al_skip ?_
          refine al_skip ?_
          refine al_val (ov_pick_f rfl rfl rfl) ?_
          refine al_val (ov_move rfl rfl) ?_
          refine al_skip ?_
          refine al_skip ?_
          refine al_skip ?_
          refine al_val (ov_pick_f rfl rfl rfl) ?_
          refine al_val (ov_assign rfl rfl) ?_
          refine al_nil ?_
          exact aq_join false h (fun w a hm hs => norm hm hs [] [] [(4, (Value.bool false))] (by decide) ⟨rfl, trivial⟩)
      · replace h := bif_f hb13 h
        refine al_skip ?_
        refine al_val (ov_pick_f rfl rfl rfl) ?_
        refine al_val (ov_move rfl rfl) ?_
        refine al_skip ?_
        refine al_skip ?_
        refine al_skip ?_
        refine al_val (ov_pick_f rfl rfl rfl) ?_
        refine al_val (ov_move rfl rfl) ?_
        refine al_skip ?_
        refine al_skip ?_
        refine al_skip ?_
        refine al_val (ov_pick_f rfl rfl rfl) ?_
        refine al_val (ov_assign rfl rfl) ?_
        refine al_nil ?_
        exact aq_join false h (fun w a hm hs => norm hm hs [] [] [(4, (Value.bool false))] (by decide) ⟨rfl, trivial⟩)
  · clear hkk6
    refine aw_region ?_
    refine al_val (ov_move rfl rfl) ?_
    refine al_val (v := (Value.int .u64 (((r2.1).toNat : Nat) : Int))) (ov_fbits rfl Try.func9 rfl rfl rfl rfl rfl) ?_
    refine al_val (ov_move rfl rfl) ?_
    refine al_val (ov_int rfl rfl rfl rfl) ?_
    refine al_val (ov_move rfl rfl) ?_
    refine al_caseB 28 rfl (fun hb16 => ?_) (fun hb16 => ?_)
    · replace h := bif_t hb16 h
      refine al_skip ?_
      refine al_skip ?_
      refine al_skip ?_
      refine al_skip ?_
      refine al_skip ?_
      refine al_skip ?_
      refine al_skip ?_
      refine al_val (ov_pick_t rfl rfl rfl) ?_
      refine al_val (ov_assign rfl rfl) ?_
      refine al_nil ?_
      exact aq_join true h (fun w a hm hs => norm hm hs [] [] [(0, (Value.float .f64 (a0).toNat)), (6, (Value.int .i64 r2.2.1)), (7, (Value.int .i64 r2.2.2)), (9, (Value.int .i64 r4.2.1)), (10, (Value.int .i64 r4.2.2)), (11, (Value.bool true))] (by decide) ⟨rfl, rfl, rfl, rfl, rfl, rfl, trivial⟩)
    · replace h := bif_f hb16 h
      refine al_val (ov_move rfl rfl) ?_
      refine al_val (ov_int rfl rfl rfl rfl) ?_
      refine al_val (ov_move rfl rfl) ?_
      refine al_caseB 31 rfl (fun hb17 => ?_) (fun hb17 => ?_)
      · replace h := bif_t hb17 h
        refine al_val (ov_move rfl rfl) ?_
        refine al_val (ov_move rfl rfl) ?_
        refine al_val (ov_floatNe rfl rfl rfl) ?_
        refine al_val (ov_pick_t rfl rfl rfl) ?_
        refine al_val (ov_pick_f rfl rfl rfl) ?_
        refine al_val (ov_assign rfl rfl) ?_
        refine al_nil ?_
        exact aq_join (FloatKind.f64.format.order (r2.1).toNat (r2.1).toNat != some .eq) h (fun w a hm hs => norm hm hs [] [] [(0, (Value.float .f64 (a0).toNat)), (6, (Value.int .i64 r2.2.1)), (7, (Value.int .i64 r2.2.2)), (9, (Value.int .i64 r4.2.1)), (10, (Value.int .i64 r4.2.2)), (11, (Value.bool (FloatKind.f64.format.order (r2.1).toNat (r2.1).toNat != some .eq)))] (by decide) ⟨rfl, rfl, rfl, rfl, rfl, rfl, trivial⟩)
      · replace h := bif_f hb17 h
        refine al_skip ?_
        refine al_skip ?_
        refine al_skip ?_
        refine al_val (ov_pick_f rfl rfl rfl) ?_
        refine al_val (ov_pick_f rfl rfl rfl) ?_
        refine al_val (ov_assign rfl rfl) ?_
        refine al_nil ?_
        exact aq_join false h (fun w a hm hs => norm hm hs [] [] [(0, (Value.float .f64 (a0).toNat)), (6, (Value.int .i64 r2.2.1)), (7, (Value.int .i64 r2.2.2)), (9, (Value.int .i64 r4.2.1)), (10, (Value.int .i64 r4.2.2)), (11, (Value.bool false))] (by decide) ⟨rfl, rfl, rfl, rfl, rfl, rfl, trivial⟩)
end Go.Proofs.Ytollpgmcmipcoaa
