/- Walks by program. No condition. -/
import Derived.Test.YthcmjcnilhglmaaEn9
import Derived.Test.YthcmjcnilhglmaaChecked
namespace Go.Proofs.Ythcmjcnilhglmaa
open Go.RowKit Ythcmjcnilhglmaa.En
set_option linter.unusedVariables false
set_option linter.unusedSimpArgs false
theorem sz5 : szOf Try.prog 5 = some 1 := by kernel_rfl
theorem to5 : tyOf Try.prog 5 = some (1, 1, some (Value.int .u8 (0 : Int))) := by kernel_rfl
theorem sz9 : szOf Try.prog 9 = some 1 := by kernel_rfl
theorem to9 : tyOf Try.prog 9 = some (1, 16, some (str ([] : List UInt8))) := by kernel_rfl
theorem mixed : Try.prog.follows .mixedOrders = true := by kernel_rfl
def f_field_Mul_L5 (kk2 : (Int → Option Int)) : Nat → Int → Int → Int → Option Int
  | 0, _, _, _ => none
  | k4 + 1, l3i0, l3i1, l3i5 => (bif (l3i1 != (0 : Int)) then (lt (fun (j7i0 : Int) (j7i5 : Int) => (f_field_Mul_L5 kk2 k4 j7i0 ((l3i1).fdiv (2 ^ min ((1 : Int)).toNat (IntKind.bits .u8))) j7i5)) fun (kk8 : Int → Int → Option Int) => (lt (fun (j9i5 : Int) => (bif ((bits .and .u8 l3i0 (128 : Int)) != (0 : Int)) then (kk8 (bits .xor .u8 (IntKind.u8.wrap (l3i0 * 2 ^ min ((1 : Int)).toNat (IntKind.bits .u8))) (29 : Int)) j9i5) else (kk8 (IntKind.u8.wrap (l3i0 * 2 ^ min ((1 : Int)).toNat (IntKind.bits .u8))) j9i5))) fun (kk10 : Int → Option Int) => (bif ((bits .and .u8 l3i1 (1 : Int)) == (1 : Int)) then (kk10 (bits .xor .u8 l3i5 l3i0)) else (kk10 l3i5)))) else (kk2 l3i5))
def f_field_Mul (fu : Nat) (a0 : Int) (a1 : Int) : Option Int := (lt (fun (j1i5 : Int) => (some j1i5)) fun (kk2 : Int → Option Int) => (f_field_Mul_L5 kk2 fu a0 a1 (0 : Int)))
set_option maxRecDepth 100000 in
theorem f_field_Mul_ok (fu : Nat) (a0 : Int) (a1 : Int) {r : Int} (h : f_field_Mul fu a0 a1 = some r) : FnOk Try.prog 29 [(Value.int .u8 a0), (Value.int .u8 a1)] [] [] (fun (i : Unit) => { val := (Value.int .u8 r) }) := by
  unfold f_field_Mul at h
  refine fn_enter Try.func29 rfl Try.ntmps29 rfl (fun w0 Z0 => ?_)
  refine aw_seq ?_
  refine aw_region ?_
  refine al_val (ov_assign rfl rfl) ?_
  refine al_nil ?_
  refine aq_then ?_
  refine aw_seq ?_
  refine aw_region ?_
  refine al_val (ov_assign rfl rfl) ?_
  refine al_nil ?_
  refine aq_then ?_
  obtain ⟨kk2, hkk2, h⟩ := lt_some h
  refine aw_seq_join (ι := Int) (fun i => (memOf w0 Z0 [] [] [])) (fun i => (tab [(5, (Value.int .u8 i))])) (fun i => kk2 i = some r) ?_ ?_
  · rintro j1i5 h
    have h : kk2 j1i5 = some r := h
    rw [hkk2] at h
    dsimp only at h
    clear hkk2
    refine aw_show (m := (memOf w0 Z0 [] [] [])) (S := (tab [(5, (Value.int .u8 j1i5))])) ?_
    refine aw_seq ?_
    refine aw_region ?_
    refine al_val (ov_move rfl rfl) ?_
    refine al_val (ov_assign rfl rfl) ?_
    refine al_nil ?_
    refine aq_then ?_
    refine aw_ret ?_
    obtain rfl := Option.some.inj h
    exact fn_ret () [] [] rfl rfl rfl rfl (res1 rfl rfl) rfl rfl rfl (by decide)
  · clear hkk2
    refine aw_block ?_
    refine aw_state (aw_loop (ι := Int × Int × Int) (fun i => (memOf w0 Z0 [] [] [])) (fun i => (tab [(0, (Value.int .u8 i.1)), (1, (Value.int .u8 i.2.1)), (5, (Value.int .u8 i.2.2))])) (fun q i => f_field_Mul_L5 kk2 q i.1 i.2.1 i.2.2 = some r) ?_ fu (a0, a1, (0 : Int)) h) (fun w a hm hs => norm hm hs [] [] [(0, (Value.int .u8 a0)), (1, (Value.int .u8 a1)), (5, (Value.int .u8 (0 : Int)))] (by decide) ⟨rfl, rfl, rfl, trivial⟩)
    clear h
    rintro k4 ⟨l3i0, l3i1, l3i5⟩ h
    have h : f_field_Mul_L5 kk2 k4 l3i0 l3i1 l3i5 = some r := h
    obtain _ | k4 := k4
    · rw [f_field_Mul_L5] at h; cases h
    rw [f_field_Mul_L5] at h
    refine aw_show (m := (memOf w0 Z0 [] [] [])) (S := (tab [(0, (Value.int .u8 l3i0)), (1, (Value.int .u8 l3i1)), (5, (Value.int .u8 l3i5))])) ?_
    refine aw_seq ?_
    refine aw_seq ?_
    refine aw_region ?_
    refine al_val (ov_move rfl rfl) ?_
    refine al_val (ov_int rfl rfl rfl rfl) ?_
    refine al_nil ?_
    refine aq_then ?_
    refine aw_cond rfl (fun hb6 => ?_) (fun hb6 => ?_)
    · replace h := bif_t hb6 h
      refine aw_skip ?_
      refine aq_then ?_
      obtain ⟨kk8, hkk8, h⟩ := lt_some h
      refine aw_seq_join (ι := Int × Int) (fun i => (memOf w0 Z0 [] [] [])) (fun i => (tab [(0, (Value.int .u8 i.1)), (1, (Value.int .u8 l3i1)), (5, (Value.int .u8 i.2))])) (fun i => kk8 i.1 i.2 = some r) ?_ ?_
      · rintro ⟨j7i0, j7i5⟩ h
        have h : kk8 j7i0 j7i5 = some r := h
        rw [hkk8] at h
        dsimp only at h
        clear hkk8
        refine aw_show (m := (memOf w0 Z0 [] [] [])) (S := (tab [(0, (Value.int .u8 j7i0)), (1, (Value.int .u8 l3i1)), (5, (Value.int .u8 j7i5))])) ?_
        refine aw_region ?_
        refine al_val (ov_move rfl rfl) ?_
        refine al_val (ov_shr (by decide) rfl rfl rfl) ?_
        refine al_val (ov_assign rfl rfl) ?_
        refine al_nil ?_
        exact aq_again k4 (j7i0, ((l3i1).fdiv (2 ^ min ((1 : Int)).toNat (IntKind.bits .u8))), j7i5) (Nat.lt_succ_self _) h (fun w a hm hs => norm hm hs [] [] [(0, (Value.int .u8 j7i0)), (1, (Value.int .u8 ((l3i1).fdiv (2 ^ min ((1 : Int)).toNat (IntKind.bits .u8))))), (5, (Value.int .u8 j7i5))] (by decide) ⟨rfl, rfl, rfl, trivial⟩)
      · clear hkk8
        refine aw_block ?_
        obtain ⟨kk10, hkk10, h⟩ := lt_some h
        refine aw_seq_join (ι := Int) (fun i => (memOf w0 Z0 [] [] [])) (fun i => (tab [(0, (Value.int .u8 l3i0)), (1, (Value.int .u8 l3i1)), (5, (Value.int .u8 i))])) (fun i => kk10 i = some r) ?_ ?_
        · rintro j9i5 h
          have h : kk10 j9i5 = some r := h
          rw [hkk10] at h
          dsimp only at h
          clear hkk10
          refine aw_show (m := (memOf w0 Z0 [] [] [])) (S := (tab [(0, (Value.int .u8 l3i0)), (1, (Value.int .u8 l3i1)), (5, (Value.int .u8 j9i5))])) ?_
          refine aw_seq ?_
          refine aw_region ?_
          refine al_val (ov_move rfl rfl) ?_
          refine al_val (ov_int rfl rfl rfl rfl) ?_
          refine al_val (ov_assign rfl rfl) ?_
          refine al_nil ?_
          refine aq_then ?_
          refine aw_seq ?_
          refine aw_region ?_
          refine al_val (ov_move rfl rfl) ?_
          refine al_val (ov_shl (by decide) rfl rfl rfl) ?_
          refine al_val (ov_assign rfl rfl) ?_
          refine al_nil ?_
          refine aq_then ?_
          refine aw_seq ?_
          refine aw_region ?_
          refine al_val (ov_move rfl rfl) ?_
          refine al_val (ov_int rfl rfl rfl rfl) ?_
          refine al_nil ?_
          refine aq_then ?_
          refine aw_cond rfl (fun hb11 => ?_) (fun hb11 => ?_)
          · replace h := bif_t hb11 h
            refine aw_region ?_
            refine al_val (ov_move rfl rfl) ?_
            refine al_val (ov_int rfl rfl rfl rfl) ?_
            refine al_val (ov_assign rfl rfl) ?_
            refine al_nil ?_
            refine aq_block ?_
            exact aq_join ((bits .xor .u8 (IntKind.u8.wrap (l3i0 * 2 ^ min ((1 : Int)).toNat (IntKind.bits .u8))) (29 : Int)), j9i5) h (fun w a hm hs => norm hm hs [] [] [(0, (Value.int .u8 (bits .xor .u8 (IntKind.u8.wrap (l3i0 * 2 ^ min ((1 : Int)).toNat (IntKind.bits .u8))) (29 : Int)))), (1, (Value.int .u8 l3i1)), (5, (Value.int .u8 j9i5))] (by decide) ⟨rfl, rfl, rfl, trivial⟩)
          · replace h := bif_f hb11 h
            refine aw_skip ?_
            refine aq_block ?_
            exact aq_join ((IntKind.u8.wrap (l3i0 * 2 ^ min ((1 : Int)).toNat (IntKind.bits .u8))), j9i5) h (fun w a hm hs => norm hm hs [] [] [(0, (Value.int .u8 (IntKind.u8.wrap (l3i0 * 2 ^ min ((1 : Int)).toNat (IntKind.bits .u8))))), (1, (Value.int .u8 l3i1)), (5, (Value.int .u8 j9i5))] (by decide) ⟨rfl, rfl, rfl, trivial⟩)
        · clear hkk10
          refine aw_seq ?_
          refine aw_region ?_
          refine al_val (ov_move rfl rfl) ?_
          refine al_val (ov_int rfl rfl rfl rfl) ?_
          refine al_val (ov_int rfl rfl rfl rfl) ?_
          refine al_nil ?_
          refine aq_then ?_
          refine aw_cond rfl (fun hb12 => ?_) (fun hb12 => ?_)
          · replace h := bif_t hb12 h
            refine aw_region ?_
            refine al_val (ov_move rfl rfl) ?_
            refine al_val (ov_move rfl rfl) ?_
            refine al_val (ov_int rfl rfl rfl rfl) ?_
            refine al_val (ov_assign rfl rfl) ?_
            refine al_nil ?_
            exact aq_join (bits .xor .u8 l3i5 l3i0) h (fun w a hm hs => norm hm hs [] [] [(0, (Value.int .u8 l3i0)), (1, (Value.int .u8 l3i1)), (5, (Value.int .u8 (bits .xor .u8 l3i5 l3i0)))] (by decide) ⟨rfl, rfl, rfl, trivial⟩)
          · replace h := bif_f hb12 h
            refine aw_skip ?_
            exact aq_join l3i5 h (fun w a hm hs => norm hm hs [] [] [(0, (Value.int .u8 l3i0)), (1, (Value.int .u8 l3i1)), (5, (Value.int .u8 l3i5))] (by decide) ⟨rfl, rfl, rfl, trivial⟩)
    · replace h := bif_f hb6 h
      refine aw_exit ?_
      refine aq_then_exit ?_
      refine aq_then_exit ?_
      refine aq_block_exit ?_
      exact aq_join l3i5 h (fun w a hm hs => norm hm hs [] [] [(5, (Value.int .u8 l3i5))] (by decide) ⟨rfl, trivial⟩)
def f_field_power_L5 (kk2 : (Int → Option Int)) (fu : Nat) : Nat → Int → Int → Int → Option Int
  | 0, _, _, _ => none
  | k4 + 1, l3i0, l3i1, l3i5 => (bif (decide (l3i1 > (0 : Int))) then (lt (fun (j7i5 : Int) => (opt (f_field_Mul fu l3i0 l3i0) fun (r10 : Int) => (f_field_power_L5 kk2 fu k4 r10 ((l3i1).fdiv (2 ^ min ((1 : Int)).toNat (IntKind.bits .i64))) j7i5))) fun (kk8 : Int → Option Int) => (bif ((bits .and .i64 l3i1 (1 : Int)) == (1 : Int)) then (opt (f_field_Mul fu l3i5 l3i0) fun (r13 : Int) => (kk8 r13)) else (kk8 l3i5))) else (kk2 l3i5))
def f_field_power (fu : Nat) (a0 : Int) (a1 : Int) : Option Int := (lt (fun (j1i5 : Int) => (some j1i5)) fun (kk2 : Int → Option Int) => (f_field_power_L5 kk2 fu fu a0 a1 (1 : Int)))
set_option maxRecDepth 100000 in
theorem f_field_power_ok (fu : Nat) (a0 : Int) (a1 : Int) {r : Int} (h : f_field_power fu a0 a1 = some r) : FnOk Try.prog 80 [(Value.int .u8 a0), (Value.int .i64 a1)] [] [] (fun (i : Unit) => { val := (Value.int .u8 r) }) := by
  unfold f_field_power at h
  refine fn_enter Try.func80 rfl Try.ntmps80 rfl (fun w0 Z0 => ?_)
  refine aw_seq ?_
  refine aw_region ?_
  refine al_val (ov_assign rfl rfl) ?_
  refine al_nil ?_
  refine aq_then ?_
  refine aw_seq ?_
  refine aw_region ?_
  refine al_val (ov_assign rfl rfl) ?_
  refine al_nil ?_
  refine aq_then ?_
  obtain ⟨kk2, hkk2, h⟩ := lt_some h
  refine aw_seq_join (ι := Int) (fun i => (memOf w0 Z0 [] [] [])) (fun i => (tab [(5, (Value.int .u8 i))])) (fun i => kk2 i = some r) ?_ ?_
  · rintro j1i5 h
    have h : kk2 j1i5 = some r := h
    rw [hkk2] at h
    dsimp only at h
    clear hkk2
    refine aw_show (m := (memOf w0 Z0 [] [] [])) (S := (tab [(5, (Value.int .u8 j1i5))])) ?_
    refine aw_seq ?_
    refine aw_region ?_
    refine al_val (ov_move rfl rfl) ?_
    refine al_val (ov_assign rfl rfl) ?_
    refine al_nil ?_
    refine aq_then ?_
    refine aw_ret ?_
    obtain rfl := Option.some.inj h
    exact fn_ret () [] [] rfl rfl rfl rfl (res1 rfl rfl) rfl rfl rfl (by decide)
  · clear hkk2
    refine aw_block ?_
    refine aw_state (aw_loop (ι := Int × Int × Int) (fun i => (memOf w0 Z0 [] [] [])) (fun i => (tab [(0, (Value.int .u8 i.1)), (1, (Value.int .i64 i.2.1)), (5, (Value.int .u8 i.2.2))])) (fun q i => f_field_power_L5 kk2 fu q i.1 i.2.1 i.2.2 = some r) ?_ fu (a0, a1, (1 : Int)) h) (fun w a hm hs => norm hm hs [] [] [(0, (Value.int .u8 a0)), (1, (Value.int .i64 a1)), (5, (Value.int .u8 (1 : Int)))] (by decide) ⟨rfl, rfl, rfl, trivial⟩)
    clear h
    rintro k4 ⟨l3i0, l3i1, l3i5⟩ h
    have h : f_field_power_L5 kk2 fu k4 l3i0 l3i1 l3i5 = some r := h
    obtain _ | k4 := k4
    · rw [f_field_power_L5] at h; cases h
    rw [f_field_power_L5] at h
    refine aw_show (m := (memOf w0 Z0 [] [] [])) (S := (tab [(0, (Value.int .u8 l3i0)), (1, (Value.int .i64 l3i1)), (5, (Value.int .u8 l3i5))])) ?_
    refine aw_seq ?_
    refine aw_seq ?_
    refine aw_region ?_
    refine al_val (ov_move rfl rfl) ?_
    refine al_val (ov_int rfl rfl rfl rfl) ?_
    refine al_nil ?_
    refine aq_then ?_
    refine aw_cond rfl (fun hb6 => ?_) (fun hb6 => ?_)
    · replace h := bif_t hb6 h
      refine aw_skip ?_
      refine aq_then ?_
      refine aw_seq ?_
      refine aw_block ?_
      obtain ⟨kk8, hkk8, h⟩ := lt_some h
      refine aw_seq_join (ι := Int) (fun i => (memOf w0 Z0 [] [] [])) (fun i => (tab [(0, (Value.int .u8 l3i0)), (1, (Value.int .i64 l3i1)), (5, (Value.int .u8 i))])) (fun i => kk8 i = some r) ?_ ?_
      · rintro j7i5 h
        have h : kk8 j7i5 = some r := h
        rw [hkk8] at h
        dsimp only at h
        clear hkk8
        refine aw_show (m := (memOf w0 Z0 [] [] [])) (S := (tab [(0, (Value.int .u8 l3i0)), (1, (Value.int .i64 l3i1)), (5, (Value.int .u8 j7i5))])) ?_
        refine aw_region ?_
        refine al_val (ov_move rfl rfl) ?_
        refine al_val (ov_move rfl rfl) ?_
        obtain ⟨r10, hc9, h⟩ := opt_some h
        refine al_call (vs := [(Value.int .u8 l3i0), (Value.int .u8 l3i0)]) (f_field_Mul_ok fu l3i0 l3i0 hc9) [] [] [] pre_nil rfl (by simp) (by decide) (.inl rfl) rfl Try.func29 rfl rfl rfl (fun _ => ?_)
        refine al_val (ov_assign rfl rfl) ?_
        refine al_nil ?_
        refine aq_block ?_
        refine aq_then ?_
        refine aw_region ?_
        refine al_val (ov_move rfl rfl) ?_
        refine al_val (ov_shr (by decide) rfl rfl rfl) ?_
        refine al_val (ov_assign rfl rfl) ?_
        refine al_nil ?_
        exact aq_again k4 (r10, ((l3i1).fdiv (2 ^ min ((1 : Int)).toNat (IntKind.bits .i64))), j7i5) (Nat.lt_succ_self _) h (fun w a hm hs => norm hm hs [] [] [(0, (Value.int .u8 r10)), (1, (Value.int .i64 ((l3i1).fdiv (2 ^ min ((1 : Int)).toNat (IntKind.bits .i64))))), (5, (Value.int .u8 j7i5))] (by decide) ⟨rfl, rfl, rfl, trivial⟩)
      · clear hkk8
        refine aw_seq ?_
        refine aw_region ?_
        refine al_val (ov_move rfl rfl) ?_
        refine al_val (ov_int rfl rfl rfl rfl) ?_
        refine al_val (ov_int rfl rfl rfl rfl) ?_
        refine al_nil ?_
        refine aq_then ?_
        refine aw_cond rfl (fun hb11 => ?_) (fun hb11 => ?_)
        · replace h := bif_t hb11 h
          refine aw_region ?_
          refine al_val (ov_move rfl rfl) ?_
          refine al_val (ov_move rfl rfl) ?_
          obtain ⟨r13, hc12, h⟩ := opt_some h
          refine al_call (vs := [(Value.int .u8 l3i5), (Value.int .u8 l3i0)]) (f_field_Mul_ok fu l3i5 l3i0 hc12) [] [] [] pre_nil rfl (by simp) (by decide) (.inl rfl) rfl Try.func29 rfl rfl rfl (fun _ => ?_)
          refine al_val (ov_assign rfl rfl) ?_
          refine al_nil ?_
          exact aq_join r13 h (fun w a hm hs => norm hm hs [] [] [(0, (Value.int .u8 l3i0)), (1, (Value.int .i64 l3i1)), (5, (Value.int .u8 r13))] (by decide) ⟨rfl, rfl, rfl, trivial⟩)
        · replace h := bif_f hb11 h
          refine aw_skip ?_
          exact aq_join l3i5 h (fun w a hm hs => norm hm hs [] [] [(0, (Value.int .u8 l3i0)), (1, (Value.int .i64 l3i1)), (5, (Value.int .u8 l3i5))] (by decide) ⟨rfl, rfl, rfl, trivial⟩)
    · replace h := bif_f hb6 h
      refine aw_exit ?_
      refine aq_then_exit ?_
      refine aq_then_exit ?_
      refine aq_block_exit ?_
      exact aq_join l3i5 h (fun w a hm hs => norm hm hs [] [] [(5, (Value.int .u8 l3i5))] (by decide) ⟨rfl, trivial⟩)
def f_field_Inv (fu : Nat) (a0 : Int) : Option (Int × Int) := (bif (a0 == (0 : Int)) then (some ((0 : Int), (1 : Int))) else (opt (f_field_power fu a0 (254 : Int)) fun (r3 : Int) => (some (r3, (0 : Int)))))
set_option maxRecDepth 100000 in
theorem f_field_Inv_ok (fu : Nat) (a0 : Int) {r : (Int × Int)} (h : f_field_Inv fu a0 = some r) : FnOk Try.prog 26 [(Value.int .u8 a0)] [] [] (fun (i : Unit) => { val := (Value.tuple #[(Value.int .u8 r.1), (Value.int .i64 r.2)]) }) := by
  unfold f_field_Inv at h
  refine fn_enter Try.func26 rfl Try.ntmps26 rfl (fun w0 Z0 => ?_)
  refine aw_seq ?_
  refine aw_region ?_
  refine al_val (ov_assign rfl rfl) ?_
  refine al_val (ov_assign rfl rfl) ?_
  refine al_nil ?_
  refine aq_then ?_
  refine aw_seq ?_
  refine aw_seq ?_
  refine aw_region ?_
  refine al_val (ov_move rfl rfl) ?_
  refine al_val (ov_int rfl rfl rfl rfl) ?_
  refine al_nil ?_
  refine aq_then ?_
  refine aw_cond rfl (fun hb1 => ?_) (fun hb1 => ?_)
  · replace h := bif_t hb1 h
    refine aw_seq ?_
    refine aw_region ?_
    refine al_val (ov_assign rfl rfl) ?_
    refine al_val (ov_assign rfl rfl) ?_
    refine al_nil ?_
    refine aq_then ?_
    refine aw_ret ?_
    refine aq_then_ret ?_
    obtain rfl := Option.some.inj h
    exact fn_ret () [] [] rfl rfl rfl rfl (res2 rfl rfl rfl) rfl rfl rfl (by decide)
  · replace h := bif_f hb1 h
    refine aw_skip ?_
    refine aq_then ?_
    refine aw_seq ?_
    refine aw_region ?_
    refine al_val (ov_move rfl rfl) ?_
    obtain ⟨r3, hc2, h⟩ := opt_some h
    refine al_call (vs := [(Value.int .u8 a0), (Value.int .i64 (254 : Int))]) (f_field_power_ok fu a0 (254 : Int) hc2) [] [] [] pre_nil rfl (by simp) (by decide) (.inl rfl) rfl Try.func80 rfl rfl rfl (fun _ => ?_)
    refine al_val (ov_assign rfl rfl) ?_
    refine al_val (ov_assign rfl rfl) ?_
    refine al_nil ?_
    refine aq_then ?_
    refine aw_ret ?_
    obtain rfl := Option.some.inj h
    exact fn_ret () [] [] rfl rfl rfl rfl (res2 rfl rfl rfl) rfl rfl rfl (by decide)
def f_shield_row_L13 (a0 : Int) (a1 : Int) (kk10 : ((List UInt8) → Option (List UInt8))) (fu : Nat) : Nat → (List UInt8) → Int → Option (List UInt8)
  | 0, _, _ => none
  | k12 + 1, l11x5, l11i18 => (bif (decide (l11i18 < ((List.replicate (a1).toNat (0 : UInt8)).length : Int))) then (opt (f_field_Inv fu (bits .xor .u8 (IntKind.u8.wrap (IntKind.i64.wrap ((IntKind.i64.wrap ((128 : Int) + a0)) - a1))) (IntKind.u8.wrap l11i18))) fun (r16 : (Int × Int)) => (opt (at? l11x5 l11i18) fun (u17 : UInt8) => (req (0 ≤ r16.1 ∧ r16.1 ≤ 255) (f_shield_row_L13 a0 a1 kk10 fu k12 (l11x5.set (l11i18).toNat (UInt8.ofNat (r16.1).toNat)) (IntKind.i64.wrap (l11i18 + (1 : Int))))))) else (kk10 l11x5))
def f_shield_row (fu : Nat) (a0 : Int) (a1 : Int) : Option (List UInt8) := (req (0 ≤ a1 ∧ 1 * a1 ≤ 281474976710656 ∧ a1 ≤ 9223372036854775807) (bif (decide (a0 < a1)) then (opt (at? (List.replicate (a1).toNat (0 : UInt8)) a0) fun (u4 : UInt8) => (req (0 ≤ (1 : Int) ∧ (1 : Int) ≤ 255) (some ((List.replicate (a1).toNat (0 : UInt8)).set (a0).toNat (UInt8.ofNat ((1 : Int)).toNat))))) else (lt (fun (j9x5 : (List UInt8)) => (some j9x5)) fun (kk10 : (List UInt8) → Option (List UInt8)) => (f_shield_row_L13 a0 a1 kk10 fu fu (List.replicate (a1).toNat (0 : UInt8)) (0 : Int)))))
set_option maxRecDepth 100000 in
theorem f_shield_row_ok (fu : Nat) (a0 : Int) (a1 : Int) {r : (List UInt8)} (h : f_shield_row fu a0 a1 = some r) : FnOk Try.prog 102 [(Value.int .i64 a0), (Value.int .i64 a1)] [] [] (fun (i : Value) => { val := i, own := [(oRow i 5 tyU8 r)] }) := by
  unfold f_shield_row at h
  refine fn_enter Try.func102 rfl Try.ntmps102 rfl (fun w0 Z0 => ?_)
  refine aw_seq ?_
  refine aw_region ?_
  refine al_val (ov_assign rfl rfl) ?_
  refine al_nil ?_
  refine aq_then ?_
  refine aw_seq ?_
  refine aw_region ?_
  refine al_val (ov_move rfl rfl) ?_
  obtain ⟨hc1, h⟩ := req_some h
  refine al_make (τ := tyU8) (x0 := 0) hc1.1 hc1.2.1 hc1.2.2 rfl rfl Try.underlying44 to5 (fun _ _ => rfl) rfl rfl (fun v2 => ?_)
  refine al_val (ov_assign rfl rfl) ?_
  refine al_nil ?_
  refine aq_then ?_
  refine aw_seq ?_
  refine aw_seq ?_
  refine aw_region ?_
  refine al_val (ov_move rfl rfl) ?_
  refine al_val (ov_move rfl rfl) ?_
  refine al_val (ov_int rfl rfl rfl rfl) ?_
  refine al_nil ?_
  refine aq_then ?_
  refine aw_cond rfl (fun hb3 => ?_) (fun hb3 => ?_)
  · replace h := bif_t hb3 h
    refine aw_seq ?_
    refine aw_region ?_
    refine al_val (ov_move rfl rfl) ?_
    refine al_val (ov_move rfl rfl) ?_
    obtain ⟨u4, hu5, h⟩ := opt_some h
    refine al_idxR 0 (at_some hu5).1 (at_some hu5).2.1 rfl rfl rfl Try.underlying44 sz5 rfl (fun p6 hp7 => ?_)
    obtain ⟨hc8, h⟩ := req_some h
    refine al_storeR (k := (a0).toNat) (x := (UInt8.ofNat ((1 : Int)).toNat)) (vs := [(Value.int .u8 (1 : Int))]) 0 rfl hp7 (idx_lt hu5) rfl rfl (cv_rfl rfl) (fun _ => u8_rep hc8) sz5 rfl ?_
    refine al_nil ?_
    refine aq_then ?_
    refine aw_seq ?_
    refine aw_region ?_
    refine al_val (ov_move rfl rfl) ?_
    refine al_val (ov_assign rfl rfl) ?_
    refine al_nil ?_
    refine aq_then ?_
    refine aw_ret ?_
    refine aq_then_ret ?_
    obtain rfl := Option.some.inj h
    exact fn_ret v2 [0] [] rfl rfl rfl rfl (res1 rfl rfl) rfl rfl rfl (by decide)
  · replace h := bif_f hb3 h
    refine aw_skip ?_
    refine aq_then ?_
    obtain ⟨kk10, hkk10, h⟩ := lt_some h
    refine aw_seq_join (ι := (List UInt8)) (fun i => (memOf w0 Z0 [] [(oRow v2 5 tyU8 i)] [])) (fun i => (tab [(5, v2)])) (fun i => kk10 i = some r) ?_ ?_
    · rintro j9x5 h
      have h : kk10 j9x5 = some r := h
      rw [hkk10] at h
      dsimp only at h
      clear hkk10
      refine aw_show (m := (memOf w0 Z0 [] [(oRow v2 5 tyU8 j9x5)] [])) (S := (tab [(5, v2)])) ?_
      refine aw_seq ?_
      refine aw_region ?_
      refine al_val (ov_move rfl rfl) ?_
      refine al_val (ov_assign rfl rfl) ?_
      refine al_nil ?_
      refine aq_then ?_
      refine aw_ret ?_
      obtain rfl := Option.some.inj h
      exact fn_ret v2 [0] [] rfl rfl rfl rfl (res1 rfl rfl) rfl rfl rfl (by decide)
    · clear hkk10
      refine aw_seq ?_
      refine aw_region ?_
      refine al_val (ov_move rfl rfl) ?_
      refine al_val (ov_lenR 0 rfl rfl Try.underlying44 rfl) ?_
      refine al_val (ov_move rfl rfl) ?_
      refine al_nil ?_
      refine aq_then ?_
      refine aw_block ?_
      refine aw_state (aw_loop (ι := (List UInt8) × Int) (fun i => (memOf w0 Z0 [] [(oRow v2 5 tyU8 i.1)] [])) (fun i => (tab [(0, (Value.int .i64 a0)), (1, (Value.int .i64 a1)), (5, v2), (17, (Value.int .i64 ((List.replicate (a1).toNat (0 : UInt8)).length : Int))), (18, (Value.int .i64 i.2))])) (fun q i => f_shield_row_L13 a0 a1 kk10 fu q i.1 i.2 = some r) ?_ fu ((List.replicate (a1).toNat (0 : UInt8)), (0 : Int)) h) (fun w a hm hs => norm hm hs [0] [] [(0, (Value.int .i64 a0)), (1, (Value.int .i64 a1)), (5, v2), (17, (Value.int .i64 ((List.replicate (a1).toNat (0 : UInt8)).length : Int))), (18, (Value.int .i64 (0 : Int)))] (by decide) ⟨rfl, rfl, rfl, rfl, rfl, trivial⟩)
      clear h
      rintro k12 ⟨l11x5, l11i18⟩ h
      have h : f_shield_row_L13 a0 a1 kk10 fu k12 l11x5 l11i18 = some r := h
      obtain _ | k12 := k12
      · rw [f_shield_row_L13] at h; cases h
      rw [f_shield_row_L13] at h
      refine aw_show (m := (memOf w0 Z0 [] [(oRow v2 5 tyU8 l11x5)] [])) (S := (tab [(0, (Value.int .i64 a0)), (1, (Value.int .i64 a1)), (5, v2), (17, (Value.int .i64 ((List.replicate (a1).toNat (0 : UInt8)).length : Int))), (18, (Value.int .i64 l11i18))])) ?_
      refine aw_seq ?_
      refine aw_region ?_
      refine al_val (ov_int rfl rfl rfl rfl) ?_
      refine al_nil ?_
      refine aq_then ?_
      refine aw_seq ?_
      refine aw_cond rfl (fun hb14 => ?_) (fun hb14 => ?_)
      · replace h := bif_t hb14 h
        refine aw_skip ?_
        refine aq_then ?_
        refine aw_seq ?_
        refine aw_block ?_
        refine aw_seq ?_
        refine aw_region ?_
        refine al_val (ov_move rfl rfl) ?_
        refine al_val (ov_assign rfl rfl) ?_
        refine al_nil ?_
        refine aq_then ?_
        refine aw_region ?_
        refine al_val (ov_move rfl rfl) ?_
        refine al_val (ov_move rfl rfl) ?_
        refine al_val (ov_move rfl rfl) ?_
        refine al_val (ov_int rfl rfl rfl rfl) ?_
        refine al_val (ov_move rfl rfl) ?_
        refine al_val (ov_int rfl rfl rfl rfl) ?_
        refine al_val (ov_convInt (by rw [Try.underlying3]; rfl) Try.underlying5 rfl rfl) ?_
        refine al_val (ov_move rfl rfl) ?_
        refine al_val (ov_convInt (by rw [Try.underlying3]; rfl) Try.underlying5 rfl rfl) ?_
        refine al_val (ov_int rfl rfl rfl rfl) ?_
        obtain ⟨r16, hc15, h⟩ := opt_some h
        refine al_call (vs := [(Value.int .u8 (bits .xor .u8 (IntKind.u8.wrap (IntKind.i64.wrap ((IntKind.i64.wrap ((128 : Int) + a0)) - a1))) (IntKind.u8.wrap l11i18)))]) (f_field_Inv_ok fu (bits .xor .u8 (IntKind.u8.wrap (IntKind.i64.wrap ((IntKind.i64.wrap ((128 : Int) + a0)) - a1))) (IntKind.u8.wrap l11i18)) hc15) [] [] [0] pre_nil rfl (by simp) (by decide) (.inl rfl) rfl Try.func26 rfl rfl rfl (fun _ => ?_)
        refine al_val (ov_move rfl rfl) ?_
        refine al_val (ov_extract rfl rfl rfl) ?_
        refine al_val (ov_extract rfl rfl rfl) ?_
        obtain ⟨u17, hu18, h⟩ := opt_some h
        refine al_idxR 0 (at_some hu18).1 (at_some hu18).2.1 rfl rfl rfl Try.underlying44 sz5 rfl (fun p19 hp20 => ?_)
        obtain ⟨hc21, h⟩ := req_some h
        refine al_storeR (k := (l11i18).toNat) (x := (UInt8.ofNat (r16.1).toNat)) (vs := [(Value.int .u8 r16.1)]) 0 rfl hp20 (idx_lt hu18) rfl rfl (cv_rfl rfl) (fun _ => u8_rep hc21) sz5 rfl ?_
        refine al_nil ?_
        refine aq_block ?_
        refine aq_then ?_
        refine aw_region ?_
        refine al_val (ov_int rfl rfl rfl rfl) ?_
        refine al_val (ov_move rfl rfl) ?_
        refine al_nil ?_
        exact aq_again k12 ((l11x5.set (l11i18).toNat (UInt8.ofNat (r16.1).toNat)), (IntKind.i64.wrap (l11i18 + (1 : Int)))) (Nat.lt_succ_self _) h (fun w a hm hs => norm hm hs [0] [] [(0, (Value.int .i64 a0)), (1, (Value.int .i64 a1)), (5, v2), (17, (Value.int .i64 ((List.replicate (a1).toNat (0 : UInt8)).length : Int))), (18, (Value.int .i64 (IntKind.i64.wrap (l11i18 + (1 : Int)))))] (by decide) ⟨rfl, rfl, rfl, rfl, rfl, trivial⟩)
      · replace h := bif_f hb14 h
        refine aw_exit ?_
        refine aq_then_exit ?_
        refine aq_then_exit ?_
        refine aq_block_exit ?_
        exact aq_join l11x5 h (fun w a hm hs => norm hm hs [0] [] [(5, v2)] (by decide) ⟨rfl, trivial⟩)
def f_shield_combine_L18 (a1 : (List (List UInt8))) (a2 : Int) (l5i15 : Int) (kk11 : ((List UInt8) → Option (List UInt8))) (u12 : UInt8) (fu : Nat) : Nat → (List UInt8) → Int → Option (List UInt8)
  | 0, _, _ => none
  | k17 + 1, l16x7, l16i23 => (bif (decide (l16i23 < a2)) then (opt (at? l16x7 l16i23) fun (u20 : UInt8) => (opt (at? a1 l5i15) fun (u24 : (List UInt8)) => (req (0 ≤ l16i23 ∧ l16i23 < (u24.length : Int)) (opt (f_field_Mul fu (u12.toNat : Int) (bAt u24 l16i23)) fun (r29 : Int) => (opt (at? l16x7 l16i23) fun (u30 : UInt8) => (req (0 ≤ (bits .xor .u8 (u20.toNat : Int) r29) ∧ (bits .xor .u8 (u20.toNat : Int) r29) ≤ 255) (f_shield_combine_L18 a1 a2 l5i15 kk11 u12 fu k17 (l16x7.set (l16i23).toNat (UInt8.ofNat ((bits .xor .u8 (u20.toNat : Int) r29)).toNat)) (IntKind.i64.wrap (l16i23 + (1 : Int)))))))))) else (kk11 l16x7))
def f_shield_combine_L7 (a0 : (List UInt8)) (a1 : (List (List UInt8))) (a2 : Int) (kk4 : ((List UInt8) → Option (List UInt8))) (fu : Nat) : Nat → (List UInt8) → Int → Option (List UInt8)
  | 0, _, _ => none
  | k6 + 1, l5x7, l5i15 => (lt (fun (l5x7 : (List UInt8)) (l5i15 : Int) => (f_shield_combine_L7 a0 a1 a2 kk4 fu k6 l5x7 l5i15)) fun (kk8 : (List UInt8) → Int → Option (List UInt8)) => (bif (decide (l5i15 < (a0.length : Int))) then (lt (fun (j10x7 : (List UInt8)) => (kk8 j10x7 (IntKind.i64.wrap (l5i15 + (1 : Int))))) fun (kk11 : (List UInt8) → Option (List UInt8)) => (opt (at? a0 l5i15) fun (u12 : UInt8) => (bif ((u12.toNat : Int) == (0 : Int)) then (kk11 l5x7) else (f_shield_combine_L18 a1 a2 l5i15 kk11 u12 fu fu l5x7 (0 : Int))))) else (kk4 l5x7)))
def f_shield_combine (fu : Nat) (a0 : (List UInt8)) (a1 : (List (List UInt8))) (a2 : Int) : Option (List UInt8) := (req (0 ≤ a2 ∧ 1 * a2 ≤ 281474976710656 ∧ a2 ≤ 9223372036854775807) (lt (fun (j3x7 : (List UInt8)) => (some j3x7)) fun (kk4 : (List UInt8) → Option (List UInt8)) => (f_shield_combine_L7 a0 a1 a2 kk4 fu fu (List.replicate (a2).toNat (0 : UInt8)) (0 : Int))))
set_option maxRecDepth 100000 in
theorem f_shield_combine_ok (fu : Nat) (v0_0 : Value) (a0 : (List UInt8)) (v1_0 : Value) (a1 : (List (List UInt8))) (a2 : Int) {r : (List UInt8)} (h : f_shield_combine fu a0 a1 a2 = some r) : FnOk Try.prog 101 [v0_0, v1_0, (Value.int .i64 a2)] [(fDat (tyList tyU8) [v0_0] a0), (fDat (tyList tyStr) [v1_0] a1)] [] (fun (i : Unit) => { val := (str r) }) := by
  unfold f_shield_combine at h
  refine fn_enter Try.func101 rfl Try.ntmps101 rfl (fun w0 Z0 => ?_)
  refine aw_seq ?_
  refine aw_region ?_
  refine al_val (ov_assign rfl rfl) ?_
  refine al_nil ?_
  refine aq_then ?_
  refine aw_seq ?_
  refine aw_region ?_
  refine al_val (ov_move rfl rfl) ?_
  obtain ⟨hc1, h⟩ := req_some h
  refine al_make (τ := tyU8) (x0 := 0) hc1.1 hc1.2.1 hc1.2.2 rfl rfl Try.underlying44 to5 (fun _ _ => rfl) rfl rfl (fun v2 => ?_)
  refine al_val (ov_assign rfl rfl) ?_
  refine al_nil ?_
  refine aq_then ?_
  obtain ⟨kk4, hkk4, h⟩ := lt_some h
  refine aw_seq_join (ι := (List UInt8)) (fun i => (memOf w0 Z0 [] [(oRow v2 5 tyU8 i)] [(fDat (tyList tyU8) [v0_0] a0), (fDat (tyList tyStr) [v1_0] a1)])) (fun i => (tab [(7, v2)])) (fun i => kk4 i = some r) ?_ ?_
  · rintro j3x7 h
    have h : kk4 j3x7 = some r := h
    rw [hkk4] at h
    dsimp only at h
    clear hkk4
    refine aw_show (m := (memOf w0 Z0 [] [(oRow v2 5 tyU8 j3x7)] [(fDat (tyList tyU8) [v0_0] a0), (fDat (tyList tyStr) [v1_0] a1)])) (S := (tab [(7, v2)])) ?_
    refine aw_seq ?_
    refine aw_region ?_
    refine al_val (ov_move rfl rfl) ?_
    refine al_val (ov_toStrR 0 rfl rfl Try.underlying44 Try.underlying5 Try.underlying9 rfl) ?_
    refine al_val (ov_assign rfl rfl) ?_
    refine al_nil ?_
    refine aq_then ?_
    refine aw_ret ?_
    obtain rfl := Option.some.inj h
    exact fn_ret () [] [] rfl rfl rfl rfl (res1 rfl rfl) rfl rfl rfl (by decide)
  · clear hkk4
    refine aw_seq ?_
    refine aw_region ?_
    refine al_val (ov_move rfl rfl) ?_
    refine al_val (ov_lenD 0 rfl rfl Try.underlying44 rfl) ?_
    refine al_val (ov_move rfl rfl) ?_
    refine al_nil ?_
    refine aq_then ?_
    refine aw_block ?_
    refine aw_state (aw_loop (ι := (List UInt8) × Int) (fun i => (memOf w0 Z0 [] [(oRow v2 5 tyU8 i.1)] [(fDat (tyList tyStr) [v1_0] a1), (fDat (tyList tyU8) [v0_0] a0)])) (fun i => (tab [(1, v1_0), (2, (Value.int .i64 a2)), (7, v2), (13, v0_0), (14, (Value.int .i64 (a0.length : Int))), (15, (Value.int .i64 i.2))])) (fun q i => f_shield_combine_L7 a0 a1 a2 kk4 fu q i.1 i.2 = some r) ?_ fu ((List.replicate (a2).toNat (0 : UInt8)), (0 : Int)) h) (fun w a hm hs => norm hm hs [0] [1, 0] [(1, v1_0), (2, (Value.int .i64 a2)), (7, v2), (13, v0_0), (14, (Value.int .i64 (a0.length : Int))), (15, (Value.int .i64 (0 : Int)))] (by decide) ⟨rfl, rfl, rfl, rfl, rfl, rfl, trivial⟩)
    clear h
    rintro k6 ⟨l5x7, l5i15⟩ h
    have h : f_shield_combine_L7 a0 a1 a2 kk4 fu k6 l5x7 l5i15 = some r := h
    obtain _ | k6 := k6
    · rw [f_shield_combine_L7] at h; cases h
    rw [f_shield_combine_L7] at h
    refine aw_show (m := (memOf w0 Z0 [] [(oRow v2 5 tyU8 l5x7)] [(fDat (tyList tyStr) [v1_0] a1), (fDat (tyList tyU8) [v0_0] a0)])) (S := (tab [(1, v1_0), (2, (Value.int .i64 a2)), (7, v2), (13, v0_0), (14, (Value.int .i64 (a0.length : Int))), (15, (Value.int .i64 l5i15))])) ?_
    obtain ⟨kk8, hkk8, h⟩ := lt_some h
    refine aw_body_join (ι := (List UInt8) × Int) (fun i => (memOf w0 Z0 [] [(oRow v2 5 tyU8 i.1)] [(fDat (tyList tyStr) [v1_0] a1), (fDat (tyList tyU8) [v0_0] a0)])) (fun i => (tab [(1, v1_0), (2, (Value.int .i64 a2)), (7, v2), (13, v0_0), (14, (Value.int .i64 (a0.length : Int))), (15, (Value.int .i64 i.2))])) (fun i => kk8 i.1 i.2 = some r) (fun i h => aq_again k6 i (Nat.lt_succ_self _) (by rw [hkk8] at h; exact h) (fun w a hm hs => ⟨hm, hs⟩)) ?_
    clear hkk8
    refine aw_seq ?_
    refine aw_region ?_
    refine al_val (ov_int rfl rfl rfl rfl) ?_
    refine al_nil ?_
    refine aq_then ?_
    refine aw_seq ?_
    refine aw_cond rfl (fun hb9 => ?_) (fun hb9 => ?_)
    · replace h := bif_t hb9 h
      refine aw_skip ?_
      refine aq_then ?_
      obtain ⟨kk11, hkk11, h⟩ := lt_some h
      refine aw_seq_join (ι := (List UInt8)) (fun i => (memOf w0 Z0 [] [(oRow v2 5 tyU8 i)] [(fDat (tyList tyStr) [v1_0] a1), (fDat (tyList tyU8) [v0_0] a0)])) (fun i => (tab [(1, v1_0), (2, (Value.int .i64 a2)), (7, v2), (13, v0_0), (14, (Value.int .i64 (a0.length : Int))), (15, (Value.int .i64 l5i15))])) (fun i => kk11 i = some r) ?_ ?_
      · rintro j10x7 h
        have h : kk11 j10x7 = some r := h
        rw [hkk11] at h
        dsimp only at h
        clear hkk11
        refine aw_show (m := (memOf w0 Z0 [] [(oRow v2 5 tyU8 j10x7)] [(fDat (tyList tyStr) [v1_0] a1), (fDat (tyList tyU8) [v0_0] a0)])) (S := (tab [(1, v1_0), (2, (Value.int .i64 a2)), (7, v2), (13, v0_0), (14, (Value.int .i64 (a0.length : Int))), (15, (Value.int .i64 l5i15))])) ?_
        refine aw_region ?_
        refine al_val (ov_int rfl rfl rfl rfl) ?_
        refine al_val (ov_move rfl rfl) ?_
        refine al_nil ?_
        exact aq_join (j10x7, (IntKind.i64.wrap (l5i15 + (1 : Int)))) h (fun w a hm hs => norm hm hs [0] [0, 1] [(1, v1_0), (2, (Value.int .i64 a2)), (7, v2), (13, v0_0), (14, (Value.int .i64 (a0.length : Int))), (15, (Value.int .i64 (IntKind.i64.wrap (l5i15 + (1 : Int)))))] (by decide) ⟨rfl, rfl, rfl, rfl, rfl, rfl, trivial⟩)
      · clear hkk11
        refine aw_block ?_
        refine aw_seq ?_
        refine aw_region ?_
        refine al_val (ov_move rfl rfl) ?_
        obtain ⟨u12, hu13, h⟩ := opt_some h
        refine al_idxD 1 hu13 rfl rfl rfl Try.underlying44 sz5 rfl (fun p14 => ?_)
        refine al_val (ov_loadP (ds := [(Value.int .u8 (u12.toNat : Int))]) 0 rfl (fun h => h) rfl Try.underlying5 sz5 rfl rfl rfl) ?_
        refine al_val (ov_assign rfl rfl) ?_
        refine al_val (ov_assign rfl rfl) ?_
        refine al_nil ?_
        refine aq_then ?_
        refine aw_seq ?_
        refine aw_seq ?_
        refine aw_region ?_
        refine al_val (ov_move rfl rfl) ?_
        refine al_val (ov_int rfl rfl rfl rfl) ?_
        refine al_nil ?_
        refine aq_then ?_
        refine aw_cond rfl (fun hb15 => ?_) (fun hb15 => ?_)
        · replace h := bif_t hb15 h
          refine aw_exit ?_
          refine aq_then_exit ?_
          refine aq_block_exit ?_
          exact aq_join l5x7 h (fun w a hm hs => norm hm hs [0] [1, 2] [(1, v1_0), (2, (Value.int .i64 a2)), (7, v2), (13, v0_0), (14, (Value.int .i64 (a0.length : Int))), (15, (Value.int .i64 l5i15))] (by decide) ⟨rfl, rfl, rfl, rfl, rfl, rfl, trivial⟩)
        · replace h := bif_f hb15 h
          refine aw_skip ?_
          refine aq_then ?_
          refine aw_seq ?_
          refine aw_region ?_
          refine al_val (ov_move rfl rfl) ?_
          refine al_val (ov_move rfl rfl) ?_
          refine al_nil ?_
          refine aq_then ?_
          refine aw_block ?_
          refine aw_state (aw_loop (ι := (List UInt8) × Int) (fun i => (memOf w0 Z0 [] [(oRow v2 5 tyU8 i.1)] [(fDat (tyList tyStr) [v1_0] a1), (fDat (tyList tyU8) [v0_0] a0), (fPtr tyU8 p14 u12)])) (fun i => (tab [(1, v1_0), (2, (Value.int .i64 a2)), (7, v2), (8, (Value.int .i64 l5i15)), (9, (Value.int .u8 (u12.toNat : Int))), (13, v0_0), (14, (Value.int .i64 (a0.length : Int))), (15, (Value.int .i64 l5i15)), (22, (Value.int .i64 a2)), (23, (Value.int .i64 i.2))])) (fun q i => f_shield_combine_L18 a1 a2 l5i15 kk11 u12 fu q i.1 i.2 = some r) ?_ fu (l5x7, (0 : Int)) h) (fun w a hm hs => norm hm hs [0] [1, 2, 0] [(1, v1_0), (2, (Value.int .i64 a2)), (7, v2), (8, (Value.int .i64 l5i15)), (9, (Value.int .u8 (u12.toNat : Int))), (13, v0_0), (14, (Value.int .i64 (a0.length : Int))), (15, (Value.int .i64 l5i15)), (22, (Value.int .i64 a2)), (23, (Value.int .i64 (0 : Int)))] (by decide) ⟨rfl, rfl, rfl, rfl, rfl, rfl, rfl, rfl, rfl, rfl, trivial⟩)
          clear h
          rintro k17 ⟨l16x7, l16i23⟩ h
          have h : f_shield_combine_L18 a1 a2 l5i15 kk11 u12 fu k17 l16x7 l16i23 = some r := h
          obtain _ | k17 := k17
          · rw [f_shield_combine_L18] at h; cases h
          rw [f_shield_combine_L18] at h
          refine aw_show (m := (memOf w0 Z0 [] [(oRow v2 5 tyU8 l16x7)] [(fDat (tyList tyStr) [v1_0] a1), (fDat (tyList tyU8) [v0_0] a0), (fPtr tyU8 p14 u12)])) (S := (tab [(1, v1_0), (2, (Value.int .i64 a2)), (7, v2), (8, (Value.int .i64 l5i15)), (9, (Value.int .u8 (u12.toNat : Int))), (13, v0_0), (14, (Value.int .i64 (a0.length : Int))), (15, (Value.int .i64 l5i15)), (22, (Value.int .i64 a2)), (23, (Value.int .i64 l16i23))])) ?_
          refine aw_seq ?_
          refine aw_region ?_
          refine al_val (ov_int rfl rfl rfl rfl) ?_
          refine al_nil ?_
          refine aq_then ?_
          refine aw_seq ?_
          refine aw_cond rfl (fun hb19 => ?_) (fun hb19 => ?_)
          · replace h := bif_t hb19 h
            refine aw_skip ?_
            refine aq_then ?_
            refine aw_seq ?_
            refine aw_block ?_
            refine aw_seq ?_
            refine aw_region ?_
            refine al_val (ov_move rfl rfl) ?_
            refine al_val (ov_assign rfl rfl) ?_
            refine al_nil ?_
            refine aq_then ?_
            obtain ⟨u20, hu21, h⟩ := opt_some h
            obtain ⟨u24, hu25, h⟩ := opt_some h
            obtain ⟨hc27, h⟩ := req_some h
            obtain ⟨r29, hc28, h⟩ := opt_some h
            obtain ⟨u30, hu31, h⟩ := opt_some h
            refine aw_region_draw 14 [(26, (fun u => fEq u v2)), (27, (fun u => fEq u (Value.int .i64 l16i23))), (28, (fun p => fElt v2 p ((l16i23).toNat * Ty.size tyU8))), (29, (fun u => fEq u (Value.int .u8 (u20.toNat : Int)))), (30, (fun u => fEq u (Value.int .u8 (u12.toNat : Int)))), (31, (fun u => fEq u v1_0)), (32, (fun u => fEq u (Value.int .i64 l5i15))), (33, (fun p26 => (fPtr tyStr p26 u24))), (34, (fun u => fEq u (str u24))), (35, (fun u => fEq u (Value.int .i64 l16i23))), (36, (fun u => fEq u (Value.int .u8 (bAt u24 l16i23)))), (37, (fun u => fEq u (Value.int .u8 r29))), (38, (fun u => fEq u (Value.int .u8 (bits .xor .u8 (u20.toNat : Int) r29)))), (39, (fun p => fElt v2 p ((l16i23).toNat * Ty.size tyU8)))] (tab [(1, v1_0), (2, (Value.int .i64 a2)), (7, v2), (8, (Value.int .i64 l5i15)), (9, (Value.int .u8 (u12.toNat : Int))), (10, (Value.int .i64 l16i23)), (13, v0_0), (14, (Value.int .i64 (a0.length : Int))), (15, (Value.int .i64 l5i15)), (22, (Value.int .i64 a2)), (23, (Value.int .i64 l16i23))]) mixed (by kernel_rfl) rfl rfl rfl (fun a hs => hs.tab _ (allT_mem ⟨rfl, rfl, rfl, rfl, rfl, rfl, rfl, rfl, rfl, rfl, rfl, trivial⟩)) ⟨⟨rfl, ld_val (ov_move rfl rfl)⟩, ⟨rfl, ld_val (ov_move rfl rfl)⟩, ⟨rfl, ld_eq (j := 0) rfl rfl (ld_eq (j := 1) rfl rfl (ld_of (of_idxR 0 (at_some hu21).1 (at_some hu21).2.1 rfl rfl rfl Try.underlying44 sz5 rfl)))⟩, ⟨rfl, ld_elt (j := 2) rfl rfl (fun p22 hp23 => ld_val (ov_loadR (ds := [(Value.int .u8 (u20.toNat : Int))]) 0 rfl hp23 (at_some hu21).2.2 (fun h => h) rfl Try.underlying5 sz5 rfl rfl rfl))⟩, ⟨rfl, ld_val (ov_move rfl rfl)⟩, ⟨rfl, ld_val (ov_move rfl rfl)⟩, ⟨rfl, ld_val (ov_move rfl rfl)⟩, ⟨rfl, ld_eq (j := 5) rfl rfl (ld_eq (j := 6) rfl rfl (ld_of (of_idxD 0 hu25 rfl rfl rfl Try.underlying60 sz9 rfl)))⟩, ⟨rfl, ld_fact (j := 7) rfl rfl (fun p26 => ld_val (ov_loadP (ds := [(str u24)]) 0 rfl (fun h => h) rfl Try.underlying9 sz9 rfl rfl rfl))⟩, ⟨rfl, ld_val (ov_move rfl rfl)⟩, ⟨rfl, ld_eq (j := 8) rfl rfl (ld_eq (j := 9) rfl rfl (ld_val (ov_strIdx hc27.1 hc27.2 Try.underlying9 rfl rfl rfl)))⟩, ⟨rfl, ld_eq (j := 4) rfl rfl (ld_eq (j := 10) rfl rfl (ld_callV (vs := [(Value.int .u8 (u12.toNat : Int)), (Value.int .u8 (bAt u24 l16i23))]) (f_field_Mul_ok fu (u12.toNat : Int) (bAt u24 l16i23) hc28) [] pre_nil rfl Try.func29 rfl rfl rfl))⟩, ⟨rfl, ld_eq (j := 3) rfl rfl (ld_eq (j := 11) rfl rfl (ld_val (ov_int rfl rfl rfl rfl)))⟩, ⟨rfl, ld_eq (j := 0) rfl rfl (ld_eq (j := 1) rfl rfl (ld_of (of_idxR 0 (at_some hu31).1 (at_some hu31).2.1 rfl rfl rfl Try.underlying44 sz5 rfl)))⟩, trivial⟩ ?_
            refine tl_eq 12 rfl ?_
            refine tl_elt 13 rfl (fun p32 hp33 => ?_)
            refine tl_done ?_
            obtain ⟨hc34, h⟩ := req_some h
            refine al_storeR (k := (l16i23).toNat) (x := (UInt8.ofNat ((bits .xor .u8 (u20.toNat : Int) r29)).toNat)) (vs := [(Value.int .u8 (bits .xor .u8 (u20.toNat : Int) r29))]) 0 rfl hp33 (idx_lt hu31) rfl rfl (cv_rfl rfl) (fun _ => u8_rep hc34) sz5 rfl ?_
            refine al_nil ?_
            refine aq_block ?_
            refine aq_then ?_
            refine aw_region ?_
            refine al_val (ov_int rfl rfl rfl rfl) ?_
            refine al_val (ov_move rfl rfl) ?_
            refine al_nil ?_
            exact aq_again k17 ((l16x7.set (l16i23).toNat (UInt8.ofNat ((bits .xor .u8 (u20.toNat : Int) r29)).toNat)), (IntKind.i64.wrap (l16i23 + (1 : Int)))) (Nat.lt_succ_self _) h (fun w a hm hs => norm hm hs [0] [0, 1, 2] [(1, v1_0), (2, (Value.int .i64 a2)), (7, v2), (8, (Value.int .i64 l5i15)), (9, (Value.int .u8 (u12.toNat : Int))), (13, v0_0), (14, (Value.int .i64 (a0.length : Int))), (15, (Value.int .i64 l5i15)), (22, (Value.int .i64 a2)), (23, (Value.int .i64 (IntKind.i64.wrap (l16i23 + (1 : Int)))))] (by decide) ⟨rfl, rfl, rfl, rfl, rfl, rfl, rfl, rfl, rfl, rfl, trivial⟩)
          · replace h := bif_f hb19 h
            refine aw_exit ?_
            refine aq_then_exit ?_
            refine aq_then_exit ?_
            refine aq_block_exit ?_
            refine aq_block ?_
            exact aq_join l16x7 h (fun w a hm hs => norm hm hs [0] [0, 1] [(1, v1_0), (2, (Value.int .i64 a2)), (7, v2), (13, v0_0), (14, (Value.int .i64 (a0.length : Int))), (15, (Value.int .i64 l5i15))] (by decide) ⟨rfl, rfl, rfl, rfl, rfl, rfl, trivial⟩)
    · replace h := bif_f hb9 h
      refine aw_exit ?_
      refine aq_then_exit ?_
      refine aq_then_exit ?_
      refine aq_block_exit ?_
      exact aq_join l5x7 h (fun w a hm hs => norm hm hs [0] [1, 0] [(7, v2)] (by decide) ⟨rfl, trivial⟩)
def f_shield_Guard_L10 (a0 : (List (List UInt8))) (a1 : Int) (kk7 : ((List (List UInt8)) → Option ((List (List UInt8)) × Int))) (fu : Nat) : Nat → (List (List UInt8)) → Int → Option ((List (List UInt8)) × Int)
  | 0, _, _ => none
  | k9 + 1, l8x9, l8i45 => (bif (decide (l8i45 < a1)) then (opt (f_shield_row fu (IntKind.i64.wrap ((a0.length : Int) + l8i45)) (a0.length : Int)) fun (r13 : (List UInt8)) => (opt (at? a0 (0 : Int)) fun (u15 : (List UInt8)) => (opt (f_shield_combine fu r13 a0 (u15.length : Int)) fun (r19 : (List UInt8)) => (req (((l8x9.length + ([r19]).length) * 16 : Nat) ≤ 140737488355328 ∧ l8x9.length + ([r19]).length ≤ 9223372036854775807) (f_shield_Guard_L10 a0 a1 kk7 fu k9 (l8x9 ++ ([r19])) (IntKind.i64.wrap (l8i45 + (1 : Int)))))))) else (kk7 l8x9))
def f_shield_Guard_L25 (a0 : (List (List UInt8))) (kk5 : (Unit → Option ((List (List UInt8)) × Int))) : Nat → Int → Option ((List (List UInt8)) × Int)
  | 0, _ => none
  | k24 + 1, l23i29 => (bif (decide (l23i29 < (a0.length : Int))) then (opt (at? a0 l23i29) fun (u27 : (List UInt8)) => (bif (decide ((u27.length : Int) > (4096 : Int))) then (some (([] : List (List UInt8)), (2 : Int))) else (opt (at? a0 (0 : Int)) fun (u31 : (List UInt8)) => (bif ((u27.length : Int) != (u31.length : Int)) then (some (([] : List (List UInt8)), (4 : Int))) else (f_shield_Guard_L25 a0 kk5 k24 (IntKind.i64.wrap (l23i29 + (1 : Int)))))))) else (kk5 ()))
def f_shield_Guard (fu : Nat) (a0 : (List (List UInt8))) (a1 : Int) : Option ((List (List UInt8)) × Int) := (lt (fun (j1b26 : Bool) => (bif j1b26 then (some (([] : List (List UInt8)), (1 : Int))) else (lt (fun (_ : Unit) => (lt (fun (j6x9 : (List (List UInt8))) => (some (j6x9, (0 : Int)))) fun (kk7 : (List (List UInt8)) → Option ((List (List UInt8)) × Int)) => (f_shield_Guard_L10 a0 a1 kk7 fu fu ([] : List (List UInt8)) (0 : Int)))) fun (kk5 : Unit → Option ((List (List UInt8)) × Int)) => (f_shield_Guard_L25 a0 kk5 fu (0 : Int))))) fun (kk2 : Bool → Option ((List (List UInt8)) × Int)) => (bif (decide ((a0.length : Int) < (1 : Int))) then (kk2 true) else (bif (decide ((a0.length : Int) > (16 : Int))) then (kk2 true) else (bif (decide (a1 < (1 : Int))) then (kk2 true) else (kk2 (decide (a1 > (8 : Int))))))))
set_option maxRecDepth 100000 in
theorem f_shield_Guard_ok (fu : Nat) (v0_0 : Value) (a0 : (List (List UInt8))) (a1 : Int) {r : ((List (List UInt8)) × Int)} (h : f_shield_Guard fu a0 a1 = some r) : FnOk Try.prog 62 [v0_0, (Value.int .i64 a1)] [(fDat (tyList tyStr) [v0_0] a0)] [] (fun (i : Value) => { val := (Value.tuple #[i, (Value.int .i64 r.2)]), own := [(oRow i 9 tyStr r.1)] }) := by
  unfold f_shield_Guard at h
  refine fn_enter Try.func62 rfl Try.ntmps62 rfl (fun w0 Z0 => ?_)
  refine aw_seq ?_
  refine aw_region ?_
  refine al_val (ov_assign rfl rfl) ?_
  refine al_val (ov_assign rfl rfl) ?_
  refine al_nil ?_
  refine aq_then ?_
  refine aw_seq ?_
  refine aw_region ?_
  refine al_val (ov_move rfl rfl) ?_
  refine al_val (ov_lenD 0 rfl rfl Try.underlying60 rfl) ?_
  refine al_val (ov_assign rfl rfl) ?_
  refine al_nil ?_
  refine aq_then ?_
  refine aw_seq ?_
  obtain ⟨kk2, hkk2, h⟩ := lt_some h
  refine aw_seq_join (ι := Bool) (fun i => (memOf w0 Z0 [] [] [(fDat (tyList tyStr) [v0_0] a0)])) (fun i => (tab [(0, v0_0), (1, (Value.int .i64 a1)), (6, (Value.int .i64 (a0.length : Int))), (26, (Value.bool i))])) (fun i => kk2 i = some r) ?_ ?_
  · rintro j1b26 h
    have h : kk2 j1b26 = some r := h
    rw [hkk2] at h
    dsimp only at h
    clear hkk2
    refine aw_show (m := (memOf w0 Z0 [] [] [(fDat (tyList tyStr) [v0_0] a0)])) (S := (tab [(0, v0_0), (1, (Value.int .i64 a1)), (6, (Value.int .i64 (a0.length : Int))), (26, (Value.bool j1b26))])) ?_
    refine aw_cond rfl (fun hb3 => ?_) (fun hb3 => ?_)
    · replace h := bif_t hb3 h
      refine aw_seq ?_
      refine aw_region ?_
      refine al_val (ov_assign rfl rfl) ?_
      refine al_val (ov_assign rfl rfl) ?_
      refine al_nil ?_
      refine aq_then ?_
      refine aw_ret ?_
      refine aq_then_ret ?_
      refine aq_nilR 9 tyStr ?_
      obtain rfl := Option.some.inj h
      exact fn_ret (Value.slice none 0 0) [0] [] rfl rfl rfl rfl (res2 rfl rfl rfl) rfl rfl rfl (by decide)
    · replace h := bif_f hb3 h
      refine aw_skip ?_
      refine aq_then ?_
      obtain ⟨kk5, hkk5, h⟩ := lt_some h
      refine aw_seq_join (ι := Unit) (fun i => (memOf w0 Z0 [] [] [(fDat (tyList tyStr) [v0_0] a0)])) (fun i => (tab [(0, v0_0), (1, (Value.int .i64 a1)), (6, (Value.int .i64 (a0.length : Int)))])) (fun i => kk5 () = some r) ?_ ?_
      · rintro _ h
        have h : kk5 () = some r := h
        rw [hkk5] at h
        dsimp only at h
        clear hkk5
        refine aw_show (m := (memOf w0 Z0 [] [] [(fDat (tyList tyStr) [v0_0] a0)])) (S := (tab [(0, v0_0), (1, (Value.int .i64 a1)), (6, (Value.int .i64 (a0.length : Int)))])) ?_
        refine aw_seq ?_
        refine aw_region ?_
        refine al_val (ov_assign rfl rfl) ?_
        refine al_nil ?_
        refine aq_then ?_
        obtain ⟨kk7, hkk7, h⟩ := lt_some h
        refine aw_seq_join (ι := Value × (List (List UInt8))) (fun i => (memOf w0 Z0 [] [(oRow i.1 9 tyStr i.2)] [(fDat (tyList tyStr) [v0_0] a0)])) (fun i => (tab [(9, i.1)])) (fun i => kk7 i.2 = some r) ?_ ?_
        · rintro ⟨j6v9, j6x9⟩ h
          have h : kk7 j6x9 = some r := h
          rw [hkk7] at h
          dsimp only at h
          clear hkk7
          refine aw_show (m := (memOf w0 Z0 [] [(oRow j6v9 9 tyStr j6x9)] [(fDat (tyList tyStr) [v0_0] a0)])) (S := (tab [(9, j6v9)])) ?_
          refine aw_seq ?_
          refine aw_region ?_
          refine al_val (ov_move rfl rfl) ?_
          refine al_val (ov_assign rfl rfl) ?_
          refine al_val (ov_assign rfl rfl) ?_
          refine al_nil ?_
          refine aq_then ?_
          refine aw_ret ?_
          obtain rfl := Option.some.inj h
          exact fn_ret j6v9 [0] [] rfl rfl rfl rfl (res2 rfl rfl rfl) rfl rfl rfl (by decide)
        · clear hkk7
          refine aw_seq ?_
          refine aw_region ?_
          refine al_val (ov_move rfl rfl) ?_
          refine al_val (ov_move rfl rfl) ?_
          refine al_nil ?_
          refine aq_then ?_
          refine aw_block ?_
          refine aw_nilR 9 tyStr ?_
          refine aw_state (aw_loop (ι := Value × (List (List UInt8)) × Int) (fun i => (memOf w0 Z0 [] [(oRow i.1 9 tyStr i.2.1)] [(fDat (tyList tyStr) [v0_0] a0)])) (fun i => (tab [(0, v0_0), (6, (Value.int .i64 (a0.length : Int))), (9, i.1), (44, (Value.int .i64 a1)), (45, (Value.int .i64 i.2.2))])) (fun q i => f_shield_Guard_L10 a0 a1 kk7 fu q i.2.1 i.2.2 = some r) ?_ fu ((Value.slice none 0 0), ([] : List (List UInt8)), (0 : Int)) h) (fun w a hm hs => norm hm hs [0] [0] [(0, v0_0), (6, (Value.int .i64 (a0.length : Int))), (9, (Value.slice none 0 0)), (44, (Value.int .i64 a1)), (45, (Value.int .i64 (0 : Int)))] (by decide) ⟨rfl, rfl, rfl, rfl, rfl, trivial⟩)
          clear h
          rintro k9 ⟨l8v9, l8x9, l8i45⟩ h
          have h : f_shield_Guard_L10 a0 a1 kk7 fu k9 l8x9 l8i45 = some r := h
          obtain _ | k9 := k9
          · rw [f_shield_Guard_L10] at h; cases h
          rw [f_shield_Guard_L10] at h
          refine aw_show (m := (memOf w0 Z0 [] [(oRow l8v9 9 tyStr l8x9)] [(fDat (tyList tyStr) [v0_0] a0)])) (S := (tab [(0, v0_0), (6, (Value.int .i64 (a0.length : Int))), (9, l8v9), (44, (Value.int .i64 a1)), (45, (Value.int .i64 l8i45))])) ?_
          refine aw_seq ?_
          refine aw_region ?_
          refine al_val (ov_int rfl rfl rfl rfl) ?_
          refine al_nil ?_
          refine aq_then ?_
          refine aw_seq ?_
          refine aw_cond rfl (fun hb11 => ?_) (fun hb11 => ?_)
          · replace h := bif_t hb11 h
            refine aw_skip ?_
            refine aq_then ?_
            refine aw_seq ?_
            refine aw_block ?_
            refine aw_seq ?_
            refine aw_region ?_
            refine al_val (ov_move rfl rfl) ?_
            refine al_val (ov_assign rfl rfl) ?_
            refine al_nil ?_
            refine aq_then ?_
            obtain ⟨r13, hc12, h⟩ := opt_some h
            obtain ⟨u15, hu16, h⟩ := opt_some h
            obtain ⟨r19, hc18, h⟩ := opt_some h
            refine aw_region_draw 13 [(48, (fun u => fEq u l8v9)), (49, (fun u => fEq u (Value.int .i64 (a0.length : Int)))), (50, (fun u => fEq u (Value.int .i64 l8i45))), (51, (fun u => fEq u (Value.int .i64 (IntKind.i64.wrap ((a0.length : Int) + l8i45))))), (52, (fun u => fEq u (Value.int .i64 (a0.length : Int)))), (53, (fun v14 => (fDat (tyList tyU8) [v14] r13))), (54, (fun u => fEq u v0_0)), (55, (fun u => fEq u v0_0)), (56, (fun p17 => (fPtr tyStr p17 u15))), (57, (fun u => fEq u (str u15))), (58, (fun u => fEq u (Value.int .i64 (u15.length : Int)))), (59, (fun u => fEq u (str r19))), (60, (fun v20 => (fDat (tyList tyStr) [v20] [r19])))] (tab [(0, v0_0), (6, (Value.int .i64 (a0.length : Int))), (9, l8v9), (10, (Value.int .i64 l8i45)), (44, (Value.int .i64 a1)), (45, (Value.int .i64 l8i45))]) mixed (by kernel_rfl) rfl rfl rfl (fun a hs => hs.tab _ (allT_mem ⟨rfl, rfl, rfl, rfl, rfl, rfl, trivial⟩)) ⟨⟨rfl, ld_val (ov_move rfl rfl)⟩, ⟨rfl, ld_val (ov_move rfl rfl)⟩, ⟨rfl, ld_val (ov_move rfl rfl)⟩, ⟨rfl, ld_eq (j := 1) rfl rfl (ld_eq (j := 2) rfl rfl (ld_val (ov_int rfl rfl rfl rfl)))⟩, ⟨rfl, ld_val (ov_move rfl rfl)⟩, ⟨rfl, ld_eq (j := 3) rfl rfl (ld_eq (j := 4) rfl rfl (ld_callR (vs := [(Value.int .i64 (IntKind.i64.wrap ((a0.length : Int) + l8i45))), (Value.int .i64 (a0.length : Int))]) flat_enc (f_shield_row_ok fu (IntKind.i64.wrap ((a0.length : Int) + l8i45)) (a0.length : Int) hc12) [] pre_nil rfl Try.func102 rfl rfl rfl))⟩, ⟨rfl, ld_val (ov_move rfl rfl)⟩, ⟨rfl, ld_val (ov_move rfl rfl)⟩, ⟨rfl, ld_eq (j := 7) rfl rfl (ld_of (of_idxD 0 hu16 rfl rfl rfl Try.underlying60 sz9 rfl))⟩, ⟨rfl, ld_fact (j := 8) rfl rfl (fun p17 => ld_val (ov_loadP (ds := [(str u15)]) 0 rfl (fun h => h) rfl Try.underlying9 sz9 rfl rfl rfl))⟩, ⟨rfl, ld_eq (j := 9) rfl rfl (ld_val (ov_strLen Try.underlying9 rfl rfl))⟩, ⟨rfl, ld_fact (j := 5) rfl rfl (fun v14 => ld_eq (j := 6) rfl rfl (ld_eq (j := 10) rfl rfl (ld_callV (vs := [v14, v0_0, (Value.int .i64 (u15.length : Int))]) (f_shield_combine_ok fu v14 r13 v0_0 a0 (u15.length : Int) hc18) [] (pre_fz 0 rfl (pre_fz 1 rfl pre_nil)) rfl Try.func101 rfl rfl rfl)))⟩, ⟨rfl, ld_eq (j := 11) rfl rfl (ld_buildSlice (τ := tyStr) (e := 9) (k := 1) (cs := [(str r19)]) (xs := [r19]) rfl (by decide) rfl (fun w a hm hs => ⟨#[(str r19)], rfl, by simp only [List.map_toArray, List.map_cons, List.map_nil, hs.ev (x := .tmp 59) rfl]; exact run_bs [(str r19)] [(str r19)] Try.underlying60 to9 rfl rfl (bs_cons (l := [(str r19)]) (cs := []) (cv_rfl rfl) rfl bs_nil) hm⟩) (fun hm => ⟨_, _, rfl, (fun _ => rfl) hm, rfl⟩) rfl)⟩, trivial⟩ ?_
            refine tl_eq 0 rfl ?_
            refine tl_fact 12 rfl (fun v20 => ?_)
            refine tl_done ?_
            obtain ⟨hc21, h⟩ := req_some h
            refine al_append 0 hc21.1 hc21.2 rfl (src_dat (i := 0) 0 rfl) rfl rfl Try.underlying60 to9 rfl rfl rfl (fun v22 => ?_)
            refine al_val (ov_assign rfl rfl) ?_
            refine al_nil ?_
            refine aq_block ?_
            refine aq_then ?_
            refine aw_region ?_
            refine al_val (ov_int rfl rfl rfl rfl) ?_
            refine al_val (ov_move rfl rfl) ?_
            refine al_nil ?_
            exact aq_again k9 (v22, (l8x9 ++ ([r19])), (IntKind.i64.wrap (l8i45 + (1 : Int)))) (Nat.lt_succ_self _) h (fun w a hm hs => norm hm hs [0] [1] [(0, v0_0), (6, (Value.int .i64 (a0.length : Int))), (9, v22), (44, (Value.int .i64 a1)), (45, (Value.int .i64 (IntKind.i64.wrap (l8i45 + (1 : Int)))))] (by decide) ⟨rfl, rfl, rfl, rfl, rfl, trivial⟩)
          · replace h := bif_f hb11 h
            refine aw_exit ?_
            refine aq_then_exit ?_
            refine aq_then_exit ?_
            refine aq_block_exit ?_
            exact aq_join (l8v9, l8x9) h (fun w a hm hs => norm hm hs [0] [0] [(9, l8v9)] (by decide) ⟨rfl, trivial⟩)
      · clear hkk5
        refine aw_seq ?_
        refine aw_region ?_
        refine al_val (ov_move rfl rfl) ?_
        refine al_val (ov_lenD 0 rfl rfl Try.underlying60 rfl) ?_
        refine al_val (ov_move rfl rfl) ?_
        refine al_nil ?_
        refine aq_then ?_
        refine aw_block ?_
        refine aw_state (aw_loop (ι := Int) (fun i => (memOf w0 Z0 [] [] [(fDat (tyList tyStr) [v0_0] a0)])) (fun i => (tab [(0, v0_0), (1, (Value.int .i64 a1)), (6, (Value.int .i64 (a0.length : Int))), (27, v0_0), (28, (Value.int .i64 (a0.length : Int))), (29, (Value.int .i64 i))])) (fun q i => f_shield_Guard_L25 a0 kk5 q i = some r) ?_ fu (0 : Int) h) (fun w a hm hs => norm hm hs [] [0] [(0, v0_0), (1, (Value.int .i64 a1)), (6, (Value.int .i64 (a0.length : Int))), (27, v0_0), (28, (Value.int .i64 (a0.length : Int))), (29, (Value.int .i64 (0 : Int)))] (by decide) ⟨rfl, rfl, rfl, rfl, rfl, rfl, trivial⟩)
        clear h
        rintro k24 l23i29 h
        have h : f_shield_Guard_L25 a0 kk5 k24 l23i29 = some r := h
        obtain _ | k24 := k24
        · rw [f_shield_Guard_L25] at h; cases h
        rw [f_shield_Guard_L25] at h
        refine aw_show (m := (memOf w0 Z0 [] [] [(fDat (tyList tyStr) [v0_0] a0)])) (S := (tab [(0, v0_0), (1, (Value.int .i64 a1)), (6, (Value.int .i64 (a0.length : Int))), (27, v0_0), (28, (Value.int .i64 (a0.length : Int))), (29, (Value.int .i64 l23i29))])) ?_
        refine aw_seq ?_
        refine aw_region ?_
        refine al_val (ov_int rfl rfl rfl rfl) ?_
        refine al_nil ?_
        refine aq_then ?_
        refine aw_seq ?_
        refine aw_cond rfl (fun hb26 => ?_) (fun hb26 => ?_)
        · replace h := bif_t hb26 h
          refine aw_skip ?_
          refine aq_then ?_
          refine aw_seq ?_
          refine aw_block ?_
          refine aw_seq ?_
          refine aw_region ?_
          obtain ⟨u27, hu28, h⟩ := opt_some h
          refine al_idxD 0 hu28 rfl rfl rfl Try.underlying60 sz9 rfl (fun p29 => ?_)
          refine al_val (ov_loadP (ds := [(str u27)]) 0 rfl (fun h => h) rfl Try.underlying9 sz9 rfl rfl rfl) ?_
          refine al_val (ov_assign rfl rfl) ?_
          refine al_nil ?_
          refine aq_then ?_
          refine aw_seq ?_
          refine aw_seq ?_
          refine aw_region ?_
          refine al_val (ov_move rfl rfl) ?_
          refine al_val (ov_strLen Try.underlying9 rfl rfl) ?_
          refine al_val (ov_int rfl rfl rfl rfl) ?_
          refine al_nil ?_
          refine aq_then ?_
          refine aw_cond rfl (fun hb30 => ?_) (fun hb30 => ?_)
          · replace h := bif_t hb30 h
            refine aw_seq ?_
            refine aw_region ?_
            refine al_val (ov_assign rfl rfl) ?_
            refine al_val (ov_assign rfl rfl) ?_
            refine al_nil ?_
            refine aq_then ?_
            refine aw_ret ?_
            refine aq_then_ret ?_
            refine aq_block_ret ?_
            refine aq_then_ret ?_
            refine aq_then_ret ?_
            refine aq_block_ret ?_
            refine aq_then_ret ?_
            refine aq_nilR 9 tyStr ?_
            obtain rfl := Option.some.inj h
            exact fn_ret (Value.slice none 0 0) [0] [] rfl rfl rfl rfl (res2 rfl rfl rfl) rfl rfl rfl (by decide)
          · replace h := bif_f hb30 h
            refine aw_skip ?_
            refine aq_then ?_
            refine aw_seq ?_
            refine aw_region ?_
            refine al_val (ov_move rfl rfl) ?_
            refine al_val (ov_strLen Try.underlying9 rfl rfl) ?_
            refine al_val (ov_move rfl rfl) ?_
            obtain ⟨u31, hu32, h⟩ := opt_some h
            refine al_idxD 1 hu32 rfl rfl rfl Try.underlying60 sz9 rfl (fun p33 => ?_)
            refine al_val (ov_loadP (ds := [(str u31)]) 0 rfl (fun h => h) rfl Try.underlying9 sz9 rfl rfl rfl) ?_
            refine al_val (ov_strLen Try.underlying9 rfl rfl) ?_
            refine al_val (ov_int rfl rfl rfl rfl) ?_
            refine al_nil ?_
            refine aq_then ?_
            refine aw_cond rfl (fun hb34 => ?_) (fun hb34 => ?_)
            · replace h := bif_t hb34 h
              refine aw_seq ?_
              refine aw_region ?_
              refine al_val (ov_assign rfl rfl) ?_
              refine al_val (ov_assign rfl rfl) ?_
              refine al_nil ?_
              refine aq_then ?_
              refine aw_ret ?_
              refine aq_block_ret ?_
              refine aq_then_ret ?_
              refine aq_then_ret ?_
              refine aq_block_ret ?_
              refine aq_then_ret ?_
              refine aq_nilR 9 tyStr ?_
              obtain rfl := Option.some.inj h
              exact fn_ret (Value.slice none 0 0) [0] [] rfl rfl rfl rfl (res2 rfl rfl rfl) rfl rfl rfl (by decide)
            · replace h := bif_f hb34 h
              refine aw_skip ?_
              refine aq_block ?_
              refine aq_then ?_
              refine aw_region ?_
              refine al_val (ov_int rfl rfl rfl rfl) ?_
              refine al_val (ov_move rfl rfl) ?_
              refine al_nil ?_
              exact aq_again k24 (IntKind.i64.wrap (l23i29 + (1 : Int))) (Nat.lt_succ_self _) h (fun w a hm hs => norm hm hs [] [2] [(0, v0_0), (1, (Value.int .i64 a1)), (6, (Value.int .i64 (a0.length : Int))), (27, v0_0), (28, (Value.int .i64 (a0.length : Int))), (29, (Value.int .i64 (IntKind.i64.wrap (l23i29 + (1 : Int)))))] (by decide) ⟨rfl, rfl, rfl, rfl, rfl, rfl, trivial⟩)
        · replace h := bif_f hb26 h
          refine aw_exit ?_
          refine aq_then_exit ?_
          refine aq_then_exit ?_
          refine aq_block_exit ?_
          exact aq_join () h (fun w a hm hs => norm hm hs [] [0] [(0, v0_0), (1, (Value.int .i64 a1)), (6, (Value.int .i64 (a0.length : Int)))] (by decide) ⟨rfl, rfl, rfl, trivial⟩)
  · clear hkk2
    refine aw_region ?_
    refine al_val (ov_move rfl rfl) ?_
    refine al_val (ov_int rfl rfl rfl rfl) ?_
    refine al_val (ov_move rfl rfl) ?_
    refine al_caseB 15 rfl (fun hb35 => ?_) (fun hb35 => ?_)
    · replace h := bif_t hb35 h
      refine al_skip ?_
      refine al_skip ?_
      refine al_val (ov_pick_t rfl rfl rfl) ?_
      refine al_val (ov_move rfl rfl) ?_
      refine al_skip ?_
      refine al_skip ?_
      refine al_val (ov_pick_t rfl rfl rfl) ?_
      refine al_val (ov_move rfl rfl) ?_
      refine al_skip ?_
      refine al_skip ?_
      refine al_val (ov_pick_t rfl rfl rfl) ?_
      refine al_nil ?_
      exact aq_join true h (fun w a hm hs => norm hm hs [] [0] [(0, v0_0), (1, (Value.int .i64 a1)), (6, (Value.int .i64 (a0.length : Int))), (26, (Value.bool true))] (by decide) ⟨rfl, rfl, rfl, rfl, trivial⟩)
    · replace h := bif_f hb35 h
      refine al_val (ov_move rfl rfl) ?_
      refine al_val (ov_int rfl rfl rfl rfl) ?_
      refine al_val (ov_pick_f rfl rfl rfl) ?_
      refine al_val (ov_move rfl rfl) ?_
      refine al_caseB 19 rfl (fun hb36 => ?_) (fun hb36 => ?_)
      · replace h := bif_t hb36 h
        refine al_skip ?_
        refine al_skip ?_
        refine al_val (ov_pick_t rfl rfl rfl) ?_
        refine al_val (ov_move rfl rfl) ?_
        refine al_skip ?_
        refine al_skip ?_
        refine al_val (ov_pick_t rfl rfl rfl) ?_
        refine al_nil ?_
        exact aq_join true h (fun w a hm hs => norm hm hs [] [0] [(0, v0_0), (1, (Value.int .i64 a1)), (6, (Value.int .i64 (a0.length : Int))), (26, (Value.bool true))] (by decide) ⟨rfl, rfl, rfl, rfl, trivial⟩)
      · replace h := bif_f hb36 h
        refine al_val (ov_move rfl rfl) ?_
        refine al_val (ov_int rfl rfl rfl rfl) ?_
        refine al_val (ov_pick_f rfl rfl rfl) ?_
        refine al_val (ov_move rfl rfl) ?_
        refine al_caseB 23 rfl (fun hb37 => ?_) (fun hb37 => ?_)
        · replace h := bif_t hb37 h
          refine al_skip ?_
          refine al_skip ?_
          refine al_val (ov_pick_t rfl rfl rfl) ?_
          refine al_nil ?_
          exact aq_join true h (fun w a hm hs => norm hm hs [] [0] [(0, v0_0), (1, (Value.int .i64 a1)), (6, (Value.int .i64 (a0.length : Int))), (26, (Value.bool true))] (by decide) ⟨rfl, rfl, rfl, rfl, trivial⟩)
        · replace h := bif_f hb37 h
          refine al_val (ov_move rfl rfl) ?_
          refine al_val (ov_int rfl rfl rfl rfl) ?_
          refine al_val (ov_pick_f rfl rfl rfl) ?_
          refine al_nil ?_
          exact aq_join (decide (a1 > (8 : Int))) h (fun w a hm hs => norm hm hs [] [0] [(0, v0_0), (1, (Value.int .i64 a1)), (6, (Value.int .i64 (a0.length : Int))), (26, (Value.bool (decide (a1 > (8 : Int)))))] (by decide) ⟨rfl, rfl, rfl, rfl, trivial⟩)
def f_lumref_GuardErr_L8 (a0 : (List (List UInt8))) (kk5 : (Unit → Option Int)) : Nat → Int → Option Int
  | 0, _ => none
  | k7 + 1, l6i25 => (bif (decide (l6i25 < (a0.length : Int))) then (opt (at? a0 l6i25) fun (u10 : (List UInt8)) => (bif (decide ((u10.length : Int) > (4096 : Int))) then (some (2 : Int)) else (opt (at? a0 (0 : Int)) fun (u14 : (List UInt8)) => (bif ((u10.length : Int) != (u14.length : Int)) then (some (4 : Int)) else (f_lumref_GuardErr_L8 a0 kk5 k7 (IntKind.i64.wrap (l6i25 + (1 : Int)))))))) else (kk5 ()))
def f_lumref_GuardErr (fu : Nat) (a0 : (List (List UInt8))) (a1 : Int) : Option Int := (lt (fun (j1b22 : Bool) => (bif j1b22 then (some (1 : Int)) else (lt (fun (_ : Unit) => (some (0 : Int))) fun (kk5 : Unit → Option Int) => (f_lumref_GuardErr_L8 a0 kk5 fu (0 : Int))))) fun (kk2 : Bool → Option Int) => (bif ((a0.length : Int) == (0 : Int)) then (kk2 true) else (bif (decide ((a0.length : Int) > (16 : Int))) then (kk2 true) else (bif (decide (a1 < (1 : Int))) then (kk2 true) else (kk2 (decide (a1 > (8 : Int))))))))
set_option maxRecDepth 100000 in
theorem f_lumref_GuardErr_ok (fu : Nat) (v0_0 : Value) (a0 : (List (List UInt8))) (a1 : Int) {r : Int} (h : f_lumref_GuardErr fu a0 a1 = some r) : FnOk Try.prog 63 [v0_0, (Value.int .i64 a1)] [(fDat (tyList tyStr) [v0_0] a0)] [] (fun (i : Unit) => { val := (Value.int .i64 r) }) := by
  unfold f_lumref_GuardErr at h
  refine fn_enter Try.func63 rfl Try.ntmps63 rfl (fun w0 Z0 => ?_)
  refine aw_seq ?_
  refine aw_region ?_
  refine al_val (ov_assign rfl rfl) ?_
  refine al_nil ?_
  refine aq_then ?_
  refine aw_seq ?_
  obtain ⟨kk2, hkk2, h⟩ := lt_some h
  refine aw_seq_join (ι := Bool) (fun i => (memOf w0 Z0 [] [] [(fDat (tyList tyStr) [v0_0] a0)])) (fun i => (tab [(0, v0_0), (22, (Value.bool i))])) (fun i => kk2 i = some r) ?_ ?_
  · rintro j1b22 h
    have h : kk2 j1b22 = some r := h
    rw [hkk2] at h
    dsimp only at h
    clear hkk2
    refine aw_show (m := (memOf w0 Z0 [] [] [(fDat (tyList tyStr) [v0_0] a0)])) (S := (tab [(0, v0_0), (22, (Value.bool j1b22))])) ?_
    refine aw_cond rfl (fun hb3 => ?_) (fun hb3 => ?_)
    · replace h := bif_t hb3 h
      refine aw_seq ?_
      refine aw_region ?_
      refine al_val (ov_assign rfl rfl) ?_
      refine al_nil ?_
      refine aq_then ?_
      refine aw_ret ?_
      refine aq_then_ret ?_
      obtain rfl := Option.some.inj h
      exact fn_ret () [] [] rfl rfl rfl rfl (res1 rfl rfl) rfl rfl rfl (by decide)
    · replace h := bif_f hb3 h
      refine aw_skip ?_
      refine aq_then ?_
      obtain ⟨kk5, hkk5, h⟩ := lt_some h
      refine aw_seq_join (ι := Unit) (fun i => (memOf w0 Z0 [] [] [(fDat (tyList tyStr) [v0_0] a0)])) (fun i => (tab [])) (fun i => kk5 () = some r) ?_ ?_
      · rintro _ h
        have h : kk5 () = some r := h
        rw [hkk5] at h
        dsimp only at h
        clear hkk5
        refine aw_show (m := (memOf w0 Z0 [] [] [(fDat (tyList tyStr) [v0_0] a0)])) (S := (tab [])) ?_
        refine aw_seq ?_
        refine aw_region ?_
        refine al_val (ov_assign rfl rfl) ?_
        refine al_nil ?_
        refine aq_then ?_
        refine aw_ret ?_
        obtain rfl := Option.some.inj h
        exact fn_ret () [] [] rfl rfl rfl rfl (res1 rfl rfl) rfl rfl rfl (by decide)
      · clear hkk5
        refine aw_seq ?_
        refine aw_region ?_
        refine al_val (ov_move rfl rfl) ?_
        refine al_val (ov_lenD 0 rfl rfl Try.underlying60 rfl) ?_
        refine al_val (ov_move rfl rfl) ?_
        refine al_nil ?_
        refine aq_then ?_
        refine aw_block ?_
        refine aw_state (aw_loop (ι := Int) (fun i => (memOf w0 Z0 [] [] [(fDat (tyList tyStr) [v0_0] a0)])) (fun i => (tab [(0, v0_0), (23, v0_0), (24, (Value.int .i64 (a0.length : Int))), (25, (Value.int .i64 i))])) (fun q i => f_lumref_GuardErr_L8 a0 kk5 q i = some r) ?_ fu (0 : Int) h) (fun w a hm hs => norm hm hs [] [0] [(0, v0_0), (23, v0_0), (24, (Value.int .i64 (a0.length : Int))), (25, (Value.int .i64 (0 : Int)))] (by decide) ⟨rfl, rfl, rfl, rfl, trivial⟩)
        clear h
        rintro k7 l6i25 h
        have h : f_lumref_GuardErr_L8 a0 kk5 k7 l6i25 = some r := h
        obtain _ | k7 := k7
        · rw [f_lumref_GuardErr_L8] at h; cases h
        rw [f_lumref_GuardErr_L8] at h
        refine aw_show (m := (memOf w0 Z0 [] [] [(fDat (tyList tyStr) [v0_0] a0)])) (S := (tab [(0, v0_0), (23, v0_0), (24, (Value.int .i64 (a0.length : Int))), (25, (Value.int .i64 l6i25))])) ?_
        refine aw_seq ?_
        refine aw_region ?_
        refine al_val (ov_int rfl rfl rfl rfl) ?_
        refine al_nil ?_
        refine aq_then ?_
        refine aw_seq ?_
        refine aw_cond rfl (fun hb9 => ?_) (fun hb9 => ?_)
        · replace h := bif_t hb9 h
          refine aw_skip ?_
          refine aq_then ?_
          refine aw_seq ?_
          refine aw_block ?_
          refine aw_seq ?_
          refine aw_region ?_
          obtain ⟨u10, hu11, h⟩ := opt_some h
          refine al_idxD 0 hu11 rfl rfl rfl Try.underlying60 sz9 rfl (fun p12 => ?_)
          refine al_val (ov_loadP (ds := [(str u10)]) 0 rfl (fun h => h) rfl Try.underlying9 sz9 rfl rfl rfl) ?_
          refine al_val (ov_assign rfl rfl) ?_
          refine al_nil ?_
          refine aq_then ?_
          refine aw_seq ?_
          refine aw_seq ?_
          refine aw_region ?_
          refine al_val (ov_move rfl rfl) ?_
          refine al_val (ov_strLen Try.underlying9 rfl rfl) ?_
          refine al_val (ov_int rfl rfl rfl rfl) ?_
          refine al_nil ?_
          refine aq_then ?_
          refine aw_cond rfl (fun hb13 => ?_) (fun hb13 => ?_)
          · replace h := bif_t hb13 h
            refine aw_seq ?_
            refine aw_region ?_
            refine al_val (ov_assign rfl rfl) ?_
            refine al_nil ?_
            refine aq_then ?_
            refine aw_ret ?_
            refine aq_then_ret ?_
            refine aq_block_ret ?_
            refine aq_then_ret ?_
            refine aq_then_ret ?_
            refine aq_block_ret ?_
            refine aq_then_ret ?_
            obtain rfl := Option.some.inj h
            exact fn_ret () [] [] rfl rfl rfl rfl (res1 rfl rfl) rfl rfl rfl (by decide)
          · replace h := bif_f hb13 h
            refine aw_skip ?_
            refine aq_then ?_
            refine aw_seq ?_
            refine aw_region ?_
            refine al_val (ov_move rfl rfl) ?_
            refine al_val (ov_strLen Try.underlying9 rfl rfl) ?_
            refine al_val (ov_move rfl rfl) ?_
            obtain ⟨u14, hu15, h⟩ := opt_some h
            refine al_idxD 1 hu15 rfl rfl rfl Try.underlying60 sz9 rfl (fun p16 => ?_)
            refine al_val (ov_loadP (ds := [(str u14)]) 0 rfl (fun h => h) rfl Try.underlying9 sz9 rfl rfl rfl) ?_
            refine al_val (ov_strLen Try.underlying9 rfl rfl) ?_
            refine al_val (ov_int rfl rfl rfl rfl) ?_
            refine al_nil ?_
            refine aq_then ?_
            refine aw_cond rfl (fun hb17 => ?_) (fun hb17 => ?_)
            · replace h := bif_t hb17 h
              refine aw_seq ?_
              refine aw_region ?_
              refine al_val (ov_assign rfl rfl) ?_
              refine al_nil ?_
              refine aq_then ?_
              refine aw_ret ?_
              refine aq_block_ret ?_
              refine aq_then_ret ?_
              refine aq_then_ret ?_
              refine aq_block_ret ?_
              refine aq_then_ret ?_
              obtain rfl := Option.some.inj h
              exact fn_ret () [] [] rfl rfl rfl rfl (res1 rfl rfl) rfl rfl rfl (by decide)
            · replace h := bif_f hb17 h
              refine aw_skip ?_
              refine aq_block ?_
              refine aq_then ?_
              refine aw_region ?_
              refine al_val (ov_int rfl rfl rfl rfl) ?_
              refine al_val (ov_move rfl rfl) ?_
              refine al_nil ?_
              exact aq_again k7 (IntKind.i64.wrap (l6i25 + (1 : Int))) (Nat.lt_succ_self _) h (fun w a hm hs => norm hm hs [] [2] [(0, v0_0), (23, v0_0), (24, (Value.int .i64 (a0.length : Int))), (25, (Value.int .i64 (IntKind.i64.wrap (l6i25 + (1 : Int)))))] (by decide) ⟨rfl, rfl, rfl, rfl, trivial⟩)
        · replace h := bif_f hb9 h
          refine aw_exit ?_
          refine aq_then_exit ?_
          refine aq_then_exit ?_
          refine aq_block_exit ?_
          exact aq_join () h (fun w a hm hs => norm hm hs [] [0] [] (by decide) trivial)
  · clear hkk2
    refine aw_region ?_
    refine al_val (ov_move rfl rfl) ?_
    refine al_val (ov_lenD 0 rfl rfl Try.underlying60 rfl) ?_
    refine al_val (ov_int rfl rfl rfl rfl) ?_
    refine al_val (ov_move rfl rfl) ?_
    refine al_caseB 10 rfl (fun hb18 => ?_) (fun hb18 => ?_)
    · replace h := bif_t hb18 h
      refine al_skip ?_
      refine al_skip ?_
      refine al_skip ?_
      refine al_val (ov_pick_t rfl rfl rfl) ?_
      refine al_val (ov_move rfl rfl) ?_
      refine al_skip ?_
      refine al_skip ?_
      refine al_val (ov_pick_t rfl rfl rfl) ?_
      refine al_val (ov_move rfl rfl) ?_
      refine al_skip ?_
      refine al_skip ?_
      refine al_val (ov_pick_t rfl rfl rfl) ?_
      refine al_nil ?_
      exact aq_join true h (fun w a hm hs => norm hm hs [] [0] [(0, v0_0), (22, (Value.bool true))] (by decide) ⟨rfl, rfl, trivial⟩)
    · replace h := bif_f hb18 h
      refine al_val (ov_move rfl rfl) ?_
      refine al_val (ov_lenD 0 rfl rfl Try.underlying60 rfl) ?_
      refine al_val (ov_int rfl rfl rfl rfl) ?_
      refine al_val (ov_pick_f rfl rfl rfl) ?_
      refine al_val (ov_move rfl rfl) ?_
      refine al_caseB 15 rfl (fun hb19 => ?_) (fun hb19 => ?_)
      · replace h := bif_t hb19 h
        refine al_skip ?_
        refine al_skip ?_
        refine al_val (ov_pick_t rfl rfl rfl) ?_
        refine al_val (ov_move rfl rfl) ?_
        refine al_skip ?_
        refine al_skip ?_
        refine al_val (ov_pick_t rfl rfl rfl) ?_
        refine al_nil ?_
        exact aq_join true h (fun w a hm hs => norm hm hs [] [0] [(0, v0_0), (22, (Value.bool true))] (by decide) ⟨rfl, rfl, trivial⟩)
      · replace h := bif_f hb19 h
        refine al_val (ov_move rfl rfl) ?_
        refine al_val (ov_int rfl rfl rfl rfl) ?_
        refine al_val (ov_pick_f rfl rfl rfl) ?_
        refine al_val (ov_move rfl rfl) ?_
        refine al_caseB 19 rfl (fun hb20 => ?_) (fun hb20 => ?_)
        · replace h := bif_t hb20 h
          refine al_skip ?_
          refine al_skip ?_
          refine al_val (ov_pick_t rfl rfl rfl) ?_
          refine al_nil ?_
          exact aq_join true h (fun w a hm hs => norm hm hs [] [0] [(0, v0_0), (22, (Value.bool true))] (by decide) ⟨rfl, rfl, trivial⟩)
        · replace h := bif_f hb20 h
          refine al_val (ov_move rfl rfl) ?_
          refine al_val (ov_int rfl rfl rfl rfl) ?_
          refine al_val (ov_pick_f rfl rfl rfl) ?_
          refine al_nil ?_
          exact aq_join (decide (a1 > (8 : Int))) h (fun w a hm hs => norm hm hs [] [0] [(0, v0_0), (22, (Value.bool (decide (a1 > (8 : Int)))))] (by decide) ⟨rfl, rfl, trivial⟩)
def f_lumref_Mul_L7 (kk4 : (Int → Option Int)) : Nat → Int → Int → Option Int
  | 0, _, _ => none
  | k6 + 1, l5i5, l5i7 => (bif (decide (l5i7 ≥ (8 : Int))) then (lt (fun (j9i5 : Int) => (f_lumref_Mul_L7 kk4 k6 j9i5 (IntKind.i64.wrap (l5i7 - (1 : Int))))) fun (kk10 : Int → Option Int) => (req (0 ≤ l5i7) (bif ((bits .and .i64 ((l5i5).fdiv (2 ^ min (l5i7).toNat (IntKind.bits .i64))) (1 : Int)) == (1 : Int)) then (req (0 ≤ (IntKind.i64.wrap (l5i7 - (8 : Int)))) (kk10 (bits .xor .i64 l5i5 (IntKind.i64.wrap ((285 : Int) * 2 ^ min ((IntKind.i64.wrap (l5i7 - (8 : Int)))).toNat (IntKind.bits .i64)))))) else (kk10 l5i5)))) else (kk4 l5i5))
def f_lumref_Mul_L16 (a0 : Int) (a1 : Int) (kk2 : (Int → Option Int)) : Nat → Int → Int → Option Int
  | 0, _, _ => none
  | k15 + 1, l14i5, l14i8 => (bif (decide (l14i8 < (8 : Int))) then (lt (fun (j18i5 : Int) => (f_lumref_Mul_L16 a0 a1 kk2 k15 j18i5 (IntKind.i64.wrap (l14i8 + (1 : Int))))) fun (kk19 : Int → Option Int) => (req (0 ≤ l14i8) (bif ((bits .and .u8 ((a1).fdiv (2 ^ min (l14i8).toNat (IntKind.bits .u8))) (1 : Int)) == (1 : Int)) then (req (0 ≤ l14i8) (kk19 (bits .xor .i64 l14i5 (IntKind.i64.wrap ((IntKind.i64.wrap a0) * 2 ^ min (l14i8).toNat (IntKind.bits .i64)))))) else (kk19 l14i5)))) else (kk2 l14i5))
def f_lumref_Mul (fu : Nat) (a0 : Int) (a1 : Int) : Option Int := (lt (fun (j1i5 : Int) => (lt (fun (j3i5 : Int) => (some (IntKind.u8.wrap j3i5))) fun (kk4 : Int → Option Int) => (f_lumref_Mul_L7 kk4 fu j1i5 (15 : Int)))) fun (kk2 : Int → Option Int) => (f_lumref_Mul_L16 a0 a1 kk2 fu (0 : Int) (0 : Int)))
set_option maxRecDepth 100000 in
theorem f_lumref_Mul_ok (fu : Nat) (a0 : Int) (a1 : Int) {r : Int} (h : f_lumref_Mul fu a0 a1 = some r) : FnOk Try.prog 28 [(Value.int .u8 a0), (Value.int .u8 a1)] [] [] (fun (i : Unit) => { val := (Value.int .u8 r) }) := by
  unfold f_lumref_Mul at h
  refine fn_enter Try.func28 rfl Try.ntmps28 rfl (fun w0 Z0 => ?_)
  refine aw_seq ?_
  refine aw_region ?_
  refine al_val (ov_assign rfl rfl) ?_
  refine al_nil ?_
  refine aq_then ?_
  refine aw_seq ?_
  refine aw_region ?_
  refine al_val (ov_assign rfl rfl) ?_
  refine al_nil ?_
  refine aq_then ?_
  obtain ⟨kk2, hkk2, h⟩ := lt_some h
  refine aw_seq_join (ι := Int) (fun i => (memOf w0 Z0 [] [] [])) (fun i => (tab [(5, (Value.int .i64 i))])) (fun i => kk2 i = some r) ?_ ?_
  · rintro j1i5 h
    have h : kk2 j1i5 = some r := h
    rw [hkk2] at h
    dsimp only at h
    clear hkk2
    refine aw_show (m := (memOf w0 Z0 [] [] [])) (S := (tab [(5, (Value.int .i64 j1i5))])) ?_
    obtain ⟨kk4, hkk4, h⟩ := lt_some h
    refine aw_seq_join (ι := Int) (fun i => (memOf w0 Z0 [] [] [])) (fun i => (tab [(5, (Value.int .i64 i))])) (fun i => kk4 i = some r) ?_ ?_
    · rintro j3i5 h
      have h : kk4 j3i5 = some r := h
      rw [hkk4] at h
      dsimp only at h
      clear hkk4
      refine aw_show (m := (memOf w0 Z0 [] [] [])) (S := (tab [(5, (Value.int .i64 j3i5))])) ?_
      refine aw_seq ?_
      refine aw_region ?_
      refine al_val (ov_move rfl rfl) ?_
      refine al_val (ov_convInt (by rw [Try.underlying3]; rfl) Try.underlying5 rfl rfl) ?_
      refine al_val (ov_assign rfl rfl) ?_
      refine al_nil ?_
      refine aq_then ?_
      refine aw_ret ?_
      obtain rfl := Option.some.inj h
      exact fn_ret () [] [] rfl rfl rfl rfl (res1 rfl rfl) rfl rfl rfl (by decide)
    · clear hkk4
      refine aw_seq ?_
      refine aw_region ?_
      refine al_val (ov_assign rfl rfl) ?_
      refine al_nil ?_
      refine aq_then ?_
      refine aw_block ?_
      refine aw_state (aw_loop (ι := Int × Int) (fun i => (memOf w0 Z0 [] [] [])) (fun i => (tab [(5, (Value.int .i64 i.1)), (7, (Value.int .i64 i.2))])) (fun q i => f_lumref_Mul_L7 kk4 q i.1 i.2 = some r) ?_ fu (j1i5, (15 : Int)) h) (fun w a hm hs => norm hm hs [] [] [(5, (Value.int .i64 j1i5)), (7, (Value.int .i64 (15 : Int)))] (by decide) ⟨rfl, rfl, trivial⟩)
      clear h
      rintro k6 ⟨l5i5, l5i7⟩ h
      have h : f_lumref_Mul_L7 kk4 k6 l5i5 l5i7 = some r := h
      obtain _ | k6 := k6
      · rw [f_lumref_Mul_L7] at h; cases h
      rw [f_lumref_Mul_L7] at h
      refine aw_show (m := (memOf w0 Z0 [] [] [])) (S := (tab [(5, (Value.int .i64 l5i5)), (7, (Value.int .i64 l5i7))])) ?_
      refine aw_seq ?_
      refine aw_seq ?_
      refine aw_region ?_
      refine al_val (ov_move rfl rfl) ?_
      refine al_val (ov_int rfl rfl rfl rfl) ?_
      refine al_nil ?_
      refine aq_then ?_
      refine aw_cond rfl (fun hb8 => ?_) (fun hb8 => ?_)
      · replace h := bif_t hb8 h
        refine aw_skip ?_
        refine aq_then ?_
        obtain ⟨kk10, hkk10, h⟩ := lt_some h
        refine aw_seq_join (ι := Int) (fun i => (memOf w0 Z0 [] [] [])) (fun i => (tab [(5, (Value.int .i64 i)), (7, (Value.int .i64 l5i7))])) (fun i => kk10 i = some r) ?_ ?_
        · rintro j9i5 h
          have h : kk10 j9i5 = some r := h
          rw [hkk10] at h
          dsimp only at h
          clear hkk10
          refine aw_show (m := (memOf w0 Z0 [] [] [])) (S := (tab [(5, (Value.int .i64 j9i5)), (7, (Value.int .i64 l5i7))])) ?_
          refine aw_region ?_
          refine al_val (ov_move rfl rfl) ?_
          refine al_val (ov_int rfl rfl rfl rfl) ?_
          refine al_val (ov_assign rfl rfl) ?_
          refine al_nil ?_
          exact aq_again k6 (j9i5, (IntKind.i64.wrap (l5i7 - (1 : Int)))) (Nat.lt_succ_self _) h (fun w a hm hs => norm hm hs [] [] [(5, (Value.int .i64 j9i5)), (7, (Value.int .i64 (IntKind.i64.wrap (l5i7 - (1 : Int)))))] (by decide) ⟨rfl, rfl, trivial⟩)
        · clear hkk10
          refine aw_block ?_
          refine aw_seq ?_
          refine aw_region ?_
          refine al_val (ov_move rfl rfl) ?_
          refine al_val (ov_move rfl rfl) ?_
          obtain ⟨hc11, h⟩ := req_some h
          refine al_val (ov_shr hc11 rfl rfl rfl) ?_
          refine al_val (ov_int rfl rfl rfl rfl) ?_
          refine al_val (ov_int rfl rfl rfl rfl) ?_
          refine al_nil ?_
          refine aq_then ?_
          refine aw_cond rfl (fun hb12 => ?_) (fun hb12 => ?_)
          · replace h := bif_t hb12 h
            refine aw_region ?_
            refine al_val (ov_move rfl rfl) ?_
            refine al_val (ov_move rfl rfl) ?_
            refine al_val (ov_int rfl rfl rfl rfl) ?_
            obtain ⟨hc13, h⟩ := req_some h
            refine al_val (ov_shl hc13 rfl rfl rfl) ?_
            refine al_val (ov_int rfl rfl rfl rfl) ?_
            refine al_val (ov_assign rfl rfl) ?_
            refine al_nil ?_
            refine aq_block ?_
            exact aq_join (bits .xor .i64 l5i5 (IntKind.i64.wrap ((285 : Int) * 2 ^ min ((IntKind.i64.wrap (l5i7 - (8 : Int)))).toNat (IntKind.bits .i64)))) h (fun w a hm hs => norm hm hs [] [] [(5, (Value.int .i64 (bits .xor .i64 l5i5 (IntKind.i64.wrap ((285 : Int) * 2 ^ min ((IntKind.i64.wrap (l5i7 - (8 : Int)))).toNat (IntKind.bits .i64)))))), (7, (Value.int .i64 l5i7))] (by decide) ⟨rfl, rfl, trivial⟩)
          · replace h := bif_f hb12 h
            refine aw_skip ?_
            refine aq_block ?_
            exact aq_join l5i5 h (fun w a hm hs => norm hm hs [] [] [(5, (Value.int .i64 l5i5)), (7, (Value.int .i64 l5i7))] (by decide) ⟨rfl, rfl, trivial⟩)
      · replace h := bif_f hb8 h
        refine aw_exit ?_
        refine aq_then_exit ?_
        refine aq_then_exit ?_
        refine aq_block_exit ?_
        exact aq_join l5i5 h (fun w a hm hs => norm hm hs [] [] [(5, (Value.int .i64 l5i5))] (by decide) ⟨rfl, trivial⟩)
  · clear hkk2
    refine aw_seq ?_
    refine aw_region ?_
    refine al_val (ov_move rfl rfl) ?_
    refine al_nil ?_
    refine aq_then ?_
    refine aw_block ?_
    refine aw_state (aw_loop (ι := Int × Int) (fun i => (memOf w0 Z0 [] [] [])) (fun i => (tab [(0, (Value.int .u8 a0)), (1, (Value.int .u8 a1)), (5, (Value.int .i64 i.1)), (8, (Value.int .i64 i.2))])) (fun q i => f_lumref_Mul_L16 a0 a1 kk2 q i.1 i.2 = some r) ?_ fu ((0 : Int), (0 : Int)) h) (fun w a hm hs => norm hm hs [] [] [(0, (Value.int .u8 a0)), (1, (Value.int .u8 a1)), (5, (Value.int .i64 (0 : Int))), (8, (Value.int .i64 (0 : Int)))] (by decide) ⟨rfl, rfl, rfl, rfl, trivial⟩)
    clear h
    rintro k15 ⟨l14i5, l14i8⟩ h
    have h : f_lumref_Mul_L16 a0 a1 kk2 k15 l14i5 l14i8 = some r := h
    obtain _ | k15 := k15
    · rw [f_lumref_Mul_L16] at h; cases h
    rw [f_lumref_Mul_L16] at h
    refine aw_show (m := (memOf w0 Z0 [] [] [])) (S := (tab [(0, (Value.int .u8 a0)), (1, (Value.int .u8 a1)), (5, (Value.int .i64 l14i5)), (8, (Value.int .i64 l14i8))])) ?_
    refine aw_seq ?_
    refine aw_region ?_
    refine al_val (ov_int rfl rfl rfl rfl) ?_
    refine al_nil ?_
    refine aq_then ?_
    refine aw_seq ?_
    refine aw_cond rfl (fun hb17 => ?_) (fun hb17 => ?_)
    · replace h := bif_t hb17 h
      refine aw_skip ?_
      refine aq_then ?_
      obtain ⟨kk19, hkk19, h⟩ := lt_some h
      refine aw_seq_join (ι := Int) (fun i => (memOf w0 Z0 [] [] [])) (fun i => (tab [(0, (Value.int .u8 a0)), (1, (Value.int .u8 a1)), (5, (Value.int .i64 i)), (8, (Value.int .i64 l14i8))])) (fun i => kk19 i = some r) ?_ ?_
      · rintro j18i5 h
        have h : kk19 j18i5 = some r := h
        rw [hkk19] at h
        dsimp only at h
        clear hkk19
        refine aw_show (m := (memOf w0 Z0 [] [] [])) (S := (tab [(0, (Value.int .u8 a0)), (1, (Value.int .u8 a1)), (5, (Value.int .i64 j18i5)), (8, (Value.int .i64 l14i8))])) ?_
        refine aw_region ?_
        refine al_val (ov_int rfl rfl rfl rfl) ?_
        refine al_val (ov_move rfl rfl) ?_
        refine al_nil ?_
        exact aq_again k15 (j18i5, (IntKind.i64.wrap (l14i8 + (1 : Int)))) (Nat.lt_succ_self _) h (fun w a hm hs => norm hm hs [] [] [(0, (Value.int .u8 a0)), (1, (Value.int .u8 a1)), (5, (Value.int .i64 j18i5)), (8, (Value.int .i64 (IntKind.i64.wrap (l14i8 + (1 : Int)))))] (by decide) ⟨rfl, rfl, rfl, rfl, trivial⟩)
      · clear hkk19
        refine aw_block ?_
        refine aw_seq ?_
        refine aw_region ?_
        refine al_val (ov_move rfl rfl) ?_
        refine al_val (ov_assign rfl rfl) ?_
        refine al_nil ?_
        refine aq_then ?_
        refine aw_seq ?_
        refine aw_region ?_
        refine al_val (ov_move rfl rfl) ?_
        refine al_val (ov_move rfl rfl) ?_
        obtain ⟨hc20, h⟩ := req_some h
        refine al_val (ov_shr hc20 rfl rfl rfl) ?_
        refine al_val (ov_int rfl rfl rfl rfl) ?_
        refine al_val (ov_int rfl rfl rfl rfl) ?_
        refine al_nil ?_
        refine aq_then ?_
        refine aw_cond rfl (fun hb21 => ?_) (fun hb21 => ?_)
        · replace h := bif_t hb21 h
          refine aw_region ?_
          refine al_val (ov_move rfl rfl) ?_
          refine al_val (ov_move rfl rfl) ?_
          refine al_val (ov_convInt (by rw [Try.underlying5]; rfl) Try.underlying3 rfl rfl) ?_
          refine al_val (ov_move rfl rfl) ?_
          obtain ⟨hc22, h⟩ := req_some h
          refine al_val (ov_shl hc22 rfl rfl rfl) ?_
          refine al_val (ov_int rfl rfl rfl rfl) ?_
          refine al_val (ov_assign rfl rfl) ?_
          refine al_nil ?_
          refine aq_block ?_
          exact aq_join (bits .xor .i64 l14i5 (IntKind.i64.wrap ((IntKind.i64.wrap a0) * 2 ^ min (l14i8).toNat (IntKind.bits .i64)))) h (fun w a hm hs => norm hm hs [] [] [(0, (Value.int .u8 a0)), (1, (Value.int .u8 a1)), (5, (Value.int .i64 (bits .xor .i64 l14i5 (IntKind.i64.wrap ((IntKind.i64.wrap a0) * 2 ^ min (l14i8).toNat (IntKind.bits .i64)))))), (8, (Value.int .i64 l14i8))] (by decide) ⟨rfl, rfl, rfl, rfl, trivial⟩)
        · replace h := bif_f hb21 h
          refine aw_skip ?_
          refine aq_block ?_
          exact aq_join l14i5 h (fun w a hm hs => norm hm hs [] [] [(0, (Value.int .u8 a0)), (1, (Value.int .u8 a1)), (5, (Value.int .i64 l14i5)), (8, (Value.int .i64 l14i8))] (by decide) ⟨rfl, rfl, rfl, rfl, trivial⟩)
    · replace h := bif_f hb17 h
      refine aw_exit ?_
      refine aq_then_exit ?_
      refine aq_then_exit ?_
      refine aq_block_exit ?_
      exact aq_join l14i5 h (fun w a hm hs => norm hm hs [] [] [(5, (Value.int .i64 l14i5))] (by decide) ⟨rfl, trivial⟩)
def f_lumref_Inv_L5 (a0 : Int) (kk2 : (Unit → Option Int)) (fu : Nat) : Nat → Int → Option Int
  | 0, _ => none
  | k4 + 1, l3i4 => (bif (decide (l3i4 < (256 : Int))) then (opt (f_lumref_Mul fu a0 (IntKind.u8.wrap l3i4)) fun (r8 : Int) => (bif (r8 == (1 : Int)) then (some (IntKind.u8.wrap l3i4)) else (f_lumref_Inv_L5 a0 kk2 fu k4 (IntKind.i64.wrap (l3i4 + (1 : Int)))))) else (kk2 ()))
def f_lumref_Inv (fu : Nat) (a0 : Int) : Option Int := (lt (fun (_ : Unit) => (some (0 : Int))) fun (kk2 : Unit → Option Int) => (f_lumref_Inv_L5 a0 kk2 fu fu (0 : Int)))
set_option maxRecDepth 100000 in
theorem f_lumref_Inv_ok (fu : Nat) (a0 : Int) {r : Int} (h : f_lumref_Inv fu a0 = some r) : FnOk Try.prog 30 [(Value.int .u8 a0)] [] [] (fun (i : Unit) => { val := (Value.int .u8 r) }) := by
  unfold f_lumref_Inv at h
  refine fn_enter Try.func30 rfl Try.ntmps30 rfl (fun w0 Z0 => ?_)
  refine aw_seq ?_
  refine aw_region ?_
  refine al_val (ov_assign rfl rfl) ?_
  refine al_nil ?_
  refine aq_then ?_
  obtain ⟨kk2, hkk2, h⟩ := lt_some h
  refine aw_seq_join (ι := Unit) (fun i => (memOf w0 Z0 [] [] [])) (fun i => (tab [])) (fun i => kk2 () = some r) ?_ ?_
  · rintro _ h
    have h : kk2 () = some r := h
    rw [hkk2] at h
    dsimp only at h
    clear hkk2
    refine aw_show (m := (memOf w0 Z0 [] [] [])) (S := (tab [])) ?_
    refine aw_seq ?_
    refine aw_region ?_
    refine al_val (ov_assign rfl rfl) ?_
    refine al_nil ?_
    refine aq_then ?_
    refine aw_ret ?_
    obtain rfl := Option.some.inj h
    exact fn_ret () [] [] rfl rfl rfl rfl (res1 rfl rfl) rfl rfl rfl (by decide)
  · clear hkk2
    refine aw_seq ?_
    refine aw_region ?_
    refine al_val (ov_move rfl rfl) ?_
    refine al_nil ?_
    refine aq_then ?_
    refine aw_block ?_
    refine aw_state (aw_loop (ι := Int) (fun i => (memOf w0 Z0 [] [] [])) (fun i => (tab [(0, (Value.int .u8 a0)), (4, (Value.int .i64 i))])) (fun q i => f_lumref_Inv_L5 a0 kk2 fu q i = some r) ?_ fu (0 : Int) h) (fun w a hm hs => norm hm hs [] [] [(0, (Value.int .u8 a0)), (4, (Value.int .i64 (0 : Int)))] (by decide) ⟨rfl, rfl, trivial⟩)
    clear h
    rintro k4 l3i4 h
    have h : f_lumref_Inv_L5 a0 kk2 fu k4 l3i4 = some r := h
    obtain _ | k4 := k4
    · rw [f_lumref_Inv_L5] at h; cases h
    rw [f_lumref_Inv_L5] at h
    refine aw_show (m := (memOf w0 Z0 [] [] [])) (S := (tab [(0, (Value.int .u8 a0)), (4, (Value.int .i64 l3i4))])) ?_
    refine aw_seq ?_
    refine aw_region ?_
    refine al_val (ov_int rfl rfl rfl rfl) ?_
    refine al_nil ?_
    refine aq_then ?_
    refine aw_seq ?_
    refine aw_cond rfl (fun hb6 => ?_) (fun hb6 => ?_)
    · replace h := bif_t hb6 h
      refine aw_skip ?_
      refine aq_then ?_
      refine aw_seq ?_
      refine aw_block ?_
      refine aw_seq ?_
      refine aw_region ?_
      refine al_val (ov_move rfl rfl) ?_
      refine al_val (ov_assign rfl rfl) ?_
      refine al_nil ?_
      refine aq_then ?_
      refine aw_seq ?_
      refine aw_region ?_
      refine al_val (ov_move rfl rfl) ?_
      refine al_val (ov_move rfl rfl) ?_
      refine al_val (ov_convInt (by rw [Try.underlying3]; rfl) Try.underlying5 rfl rfl) ?_
      obtain ⟨r8, hc7, h⟩ := opt_some h
      refine al_call (vs := [(Value.int .u8 a0), (Value.int .u8 (IntKind.u8.wrap l3i4))]) (f_lumref_Mul_ok fu a0 (IntKind.u8.wrap l3i4) hc7) [] [] [] pre_nil rfl (by simp) (by decide) (.inl rfl) rfl Try.func28 rfl rfl rfl (fun _ => ?_)
      refine al_val (ov_int rfl rfl rfl rfl) ?_
      refine al_nil ?_
      refine aq_then ?_
      refine aw_cond rfl (fun hb9 => ?_) (fun hb9 => ?_)
      · replace h := bif_t hb9 h
        refine aw_seq ?_
        refine aw_region ?_
        refine al_val (ov_move rfl rfl) ?_
        refine al_val (ov_convInt (by rw [Try.underlying3]; rfl) Try.underlying5 rfl rfl) ?_
        refine al_val (ov_assign rfl rfl) ?_
        refine al_nil ?_
        refine aq_then ?_
        refine aw_ret ?_
        refine aq_block_ret ?_
        refine aq_then_ret ?_
        refine aq_then_ret ?_
        refine aq_block_ret ?_
        refine aq_then_ret ?_
        obtain rfl := Option.some.inj h
        exact fn_ret () [] [] rfl rfl rfl rfl (res1 rfl rfl) rfl rfl rfl (by decide)
      · replace h := bif_f hb9 h
        refine aw_skip ?_
        refine aq_block ?_
        refine aq_then ?_
        refine aw_region ?_
        refine al_val (ov_int rfl rfl rfl rfl) ?_
        refine al_val (ov_move rfl rfl) ?_
        refine al_nil ?_
        exact aq_again k4 (IntKind.i64.wrap (l3i4 + (1 : Int))) (Nat.lt_succ_self _) h (fun w a hm hs => norm hm hs [] [] [(0, (Value.int .u8 a0)), (4, (Value.int .i64 (IntKind.i64.wrap (l3i4 + (1 : Int)))))] (by decide) ⟨rfl, rfl, trivial⟩)
    · replace h := bif_f hb6 h
      refine aw_exit ?_
      refine aq_then_exit ?_
      refine aq_then_exit ?_
      refine aq_block_exit ?_
      exact aq_join () h (fun w a hm hs => norm hm hs [] [] [] (by decide) trivial)
def f_lumref_ShardOf_L26 (l12x6 : (List UInt8)) (kk18 : ((List UInt8) → Option (List UInt8))) (u19 : (List UInt8)) (r23 : Int) (fu : Nat) : Nat → (List UInt8) → Int → Option (List UInt8)
  | 0, _, _ => none
  | k25 + 1, l24x6, l24i43 => (bif (decide (l24i43 < (l12x6.length : Int))) then (opt (at? l24x6 l24i43) fun (u28 : UInt8) => (req (0 ≤ l24i43 ∧ l24i43 < (u19.length : Int)) (opt (f_lumref_Mul fu r23 (bAt u19 l24i43)) fun (r34 : Int) => (opt (at? l24x6 l24i43) fun (u35 : UInt8) => (req (0 ≤ (bits .xor .u8 (u28.toNat : Int) r34) ∧ (bits .xor .u8 (u28.toNat : Int) r34) ≤ 255) (f_lumref_ShardOf_L26 l12x6 kk18 u19 r23 fu k25 (l24x6.set (l24i43).toNat (UInt8.ofNat ((bits .xor .u8 (u28.toNat : Int) r34)).toNat)) (IntKind.i64.wrap (l24i43 + (1 : Int))))))))) else (kk18 l24x6))
def f_lumref_ShardOf_L14 (a0 : (List (List UInt8))) (a1 : Int) (kk11 : ((List UInt8) → Option (List UInt8))) (fu : Nat) : Nat → (List UInt8) → Int → Option (List UInt8)
  | 0, _, _ => none
  | k13 + 1, l12x6, l12i27 => (lt (fun (l12x6 : (List UInt8)) (l12i27 : Int) => (f_lumref_ShardOf_L14 a0 a1 kk11 fu k13 l12x6 l12i27)) fun (kk15 : (List UInt8) → Int → Option (List UInt8)) => (bif (decide (l12i27 < (a0.length : Int))) then (lt (fun (j17x6 : (List UInt8)) => (kk15 j17x6 (IntKind.i64.wrap (l12i27 + (1 : Int))))) fun (kk18 : (List UInt8) → Option (List UInt8)) => (opt (at? a0 l12i27) fun (u19 : (List UInt8)) => (opt (f_lumref_Inv fu (bits .xor .u8 (IntKind.u8.wrap (IntKind.i64.wrap ((IntKind.i64.wrap ((128 : Int) + a1)) - (a0.length : Int)))) (IntKind.u8.wrap l12i27))) fun (r23 : Int) => (f_lumref_ShardOf_L26 l12x6 kk18 u19 r23 fu fu l12x6 (0 : Int))))) else (kk11 l12x6)))
def f_lumref_ShardOf (fu : Nat) (a0 : (List (List UInt8))) (a1 : Int) : Option (List UInt8) := (bif (decide (a1 < (a0.length : Int))) then (opt (at? a0 a1) fun (u2 : (List UInt8)) => (some u2)) else (opt (at? a0 (0 : Int)) fun (u5 : (List UInt8)) => (req (0 ≤ (u5.length : Int) ∧ 1 * (u5.length : Int) ≤ 281474976710656 ∧ (u5.length : Int) ≤ 9223372036854775807) (lt (fun (j10x6 : (List UInt8)) => (some j10x6)) fun (kk11 : (List UInt8) → Option (List UInt8)) => (f_lumref_ShardOf_L14 a0 a1 kk11 fu fu (List.replicate ((u5.length : Int)).toNat (0 : UInt8)) (0 : Int))))))
set_option maxRecDepth 100000 in
theorem f_lumref_ShardOf_ok (fu : Nat) (v0_0 : Value) (a0 : (List (List UInt8))) (a1 : Int) {r : (List UInt8)} (h : f_lumref_ShardOf fu a0 a1 = some r) : FnOk Try.prog 64 [v0_0, (Value.int .i64 a1)] [(fDat (tyList tyStr) [v0_0] a0)] [] (fun (i : Unit) => { val := (str r) }) := by
  unfold f_lumref_ShardOf at h
  refine fn_enter Try.func64 rfl Try.ntmps64 rfl (fun w0 Z0 => ?_)
  refine aw_seq ?_
  refine aw_region ?_
  refine al_val (ov_assign rfl rfl) ?_
  refine al_nil ?_
  refine aq_then ?_
  refine aw_seq ?_
  refine aw_region ?_
  refine al_val (ov_move rfl rfl) ?_
  refine al_val (ov_lenD 0 rfl rfl Try.underlying60 rfl) ?_
  refine al_val (ov_assign rfl rfl) ?_
  refine al_nil ?_
  refine aq_then ?_
  refine aw_seq ?_
  refine aw_seq ?_
  refine aw_region ?_
  refine al_val (ov_move rfl rfl) ?_
  refine al_val (ov_move rfl rfl) ?_
  refine al_val (ov_int rfl rfl rfl rfl) ?_
  refine al_nil ?_
  refine aq_then ?_
  refine aw_cond rfl (fun hb1 => ?_) (fun hb1 => ?_)
  · replace h := bif_t hb1 h
    refine aw_seq ?_
    refine aw_region ?_
    refine al_val (ov_move rfl rfl) ?_
    refine al_val (ov_move rfl rfl) ?_
    obtain ⟨u2, hu3, h⟩ := opt_some h
    refine al_idxD 0 hu3 rfl rfl rfl Try.underlying60 sz9 rfl (fun p4 => ?_)
    refine al_val (ov_loadP (ds := [(str u2)]) 0 rfl (fun h => h) rfl Try.underlying9 sz9 rfl rfl rfl) ?_
    refine al_val (ov_assign rfl rfl) ?_
    refine al_nil ?_
    refine aq_then ?_
    refine aw_ret ?_
    refine aq_then_ret ?_
    obtain rfl := Option.some.inj h
    exact fn_ret () [] [] rfl rfl rfl rfl (res1 rfl rfl) rfl rfl rfl (by decide)
  · replace h := bif_f hb1 h
    refine aw_skip ?_
    refine aq_then ?_
    refine aw_seq ?_
    refine aw_region ?_
    refine al_val (ov_move rfl rfl) ?_
    obtain ⟨u5, hu6, h⟩ := opt_some h
    refine al_idxD 0 hu6 rfl rfl rfl Try.underlying60 sz9 rfl (fun p7 => ?_)
    refine al_val (ov_loadP (ds := [(str u5)]) 0 rfl (fun h => h) rfl Try.underlying9 sz9 rfl rfl rfl) ?_
    refine al_val (ov_strLen Try.underlying9 rfl rfl) ?_
    obtain ⟨hc8, h⟩ := req_some h
    refine al_make (τ := tyU8) (x0 := 0) hc8.1 hc8.2.1 hc8.2.2 rfl rfl Try.underlying44 to5 (fun _ _ => rfl) rfl rfl (fun v9 => ?_)
    refine al_val (ov_assign rfl rfl) ?_
    refine al_nil ?_
    refine aq_then ?_
    obtain ⟨kk11, hkk11, h⟩ := lt_some h
    refine aw_seq_join (ι := (List UInt8)) (fun i => (memOf w0 Z0 [] [(oRow v9 5 tyU8 i)] [(fPtr tyStr p7 u5), (fDat (tyList tyStr) [v0_0] a0)])) (fun i => (tab [(6, v9)])) (fun i => kk11 i = some r) ?_ ?_
    · rintro j10x6 h
      have h : kk11 j10x6 = some r := h
      rw [hkk11] at h
      dsimp only at h
      clear hkk11
      refine aw_show (m := (memOf w0 Z0 [] [(oRow v9 5 tyU8 j10x6)] [(fPtr tyStr p7 u5), (fDat (tyList tyStr) [v0_0] a0)])) (S := (tab [(6, v9)])) ?_
      refine aw_seq ?_
      refine aw_region ?_
      refine al_val (ov_move rfl rfl) ?_
      refine al_val (ov_toStrR 0 rfl rfl Try.underlying44 Try.underlying5 Try.underlying9 rfl) ?_
      refine al_val (ov_assign rfl rfl) ?_
      refine al_nil ?_
      refine aq_then ?_
      refine aw_ret ?_
      obtain rfl := Option.some.inj h
      exact fn_ret () [] [] rfl rfl rfl rfl (res1 rfl rfl) rfl rfl rfl (by decide)
    · clear hkk11
      refine aw_seq ?_
      refine aw_region ?_
      refine al_val (ov_move rfl rfl) ?_
      refine al_val (ov_lenD 1 rfl rfl Try.underlying60 rfl) ?_
      refine al_val (ov_move rfl rfl) ?_
      refine al_nil ?_
      refine aq_then ?_
      refine aw_block ?_
      refine aw_state (aw_loop (ι := (List UInt8) × Int) (fun i => (memOf w0 Z0 [] [(oRow v9 5 tyU8 i.1)] [(fDat (tyList tyStr) [v0_0] a0), (fPtr tyStr p7 u5)])) (fun i => (tab [(1, (Value.int .i64 a1)), (5, (Value.int .i64 (a0.length : Int))), (6, v9), (25, v0_0), (26, (Value.int .i64 (a0.length : Int))), (27, (Value.int .i64 i.2))])) (fun q i => f_lumref_ShardOf_L14 a0 a1 kk11 fu q i.1 i.2 = some r) ?_ fu ((List.replicate ((u5.length : Int)).toNat (0 : UInt8)), (0 : Int)) h) (fun w a hm hs => norm hm hs [0] [1, 0] [(1, (Value.int .i64 a1)), (5, (Value.int .i64 (a0.length : Int))), (6, v9), (25, v0_0), (26, (Value.int .i64 (a0.length : Int))), (27, (Value.int .i64 (0 : Int)))] (by decide) ⟨rfl, rfl, rfl, rfl, rfl, rfl, trivial⟩)
      clear h
      rintro k13 ⟨l12x6, l12i27⟩ h
      have h : f_lumref_ShardOf_L14 a0 a1 kk11 fu k13 l12x6 l12i27 = some r := h
      obtain _ | k13 := k13
      · rw [f_lumref_ShardOf_L14] at h; cases h
      rw [f_lumref_ShardOf_L14] at h
      refine aw_show (m := (memOf w0 Z0 [] [(oRow v9 5 tyU8 l12x6)] [(fDat (tyList tyStr) [v0_0] a0), (fPtr tyStr p7 u5)])) (S := (tab [(1, (Value.int .i64 a1)), (5, (Value.int .i64 (a0.length : Int))), (6, v9), (25, v0_0), (26, (Value.int .i64 (a0.length : Int))), (27, (Value.int .i64 l12i27))])) ?_
      obtain ⟨kk15, hkk15, h⟩ := lt_some h
      refine aw_body_join (ι := (List UInt8) × Int) (fun i => (memOf w0 Z0 [] [(oRow v9 5 tyU8 i.1)] [(fDat (tyList tyStr) [v0_0] a0), (fPtr tyStr p7 u5)])) (fun i => (tab [(1, (Value.int .i64 a1)), (5, (Value.int .i64 (a0.length : Int))), (6, v9), (25, v0_0), (26, (Value.int .i64 (a0.length : Int))), (27, (Value.int .i64 i.2))])) (fun i => kk15 i.1 i.2 = some r) (fun i h => aq_again k13 i (Nat.lt_succ_self _) (by rw [hkk15] at h; exact h) (fun w a hm hs => ⟨hm, hs⟩)) ?_
      clear hkk15
      refine aw_seq ?_
      refine aw_region ?_
      refine al_val (ov_int rfl rfl rfl rfl) ?_
      refine al_nil ?_
      refine aq_then ?_
      refine aw_seq ?_
      refine aw_cond rfl (fun hb16 => ?_) (fun hb16 => ?_)
      · replace h := bif_t hb16 h
        refine aw_skip ?_
        refine aq_then ?_
        obtain ⟨kk18, hkk18, h⟩ := lt_some h
        refine aw_seq_join (ι := (List UInt8)) (fun i => (memOf w0 Z0 [] [(oRow v9 5 tyU8 i)] [(fDat (tyList tyStr) [v0_0] a0), (fPtr tyStr p7 u5)])) (fun i => (tab [(1, (Value.int .i64 a1)), (5, (Value.int .i64 (a0.length : Int))), (6, v9), (25, v0_0), (26, (Value.int .i64 (a0.length : Int))), (27, (Value.int .i64 l12i27))])) (fun i => kk18 i = some r) ?_ ?_
        · rintro j17x6 h
          have h : kk18 j17x6 = some r := h
          rw [hkk18] at h
          dsimp only at h
          clear hkk18
          refine aw_show (m := (memOf w0 Z0 [] [(oRow v9 5 tyU8 j17x6)] [(fDat (tyList tyStr) [v0_0] a0), (fPtr tyStr p7 u5)])) (S := (tab [(1, (Value.int .i64 a1)), (5, (Value.int .i64 (a0.length : Int))), (6, v9), (25, v0_0), (26, (Value.int .i64 (a0.length : Int))), (27, (Value.int .i64 l12i27))])) ?_
          refine aw_region ?_
          refine al_val (ov_int rfl rfl rfl rfl) ?_
          refine al_val (ov_move rfl rfl) ?_
          refine al_nil ?_
          exact aq_join (j17x6, (IntKind.i64.wrap (l12i27 + (1 : Int)))) h (fun w a hm hs => norm hm hs [0] [0, 1] [(1, (Value.int .i64 a1)), (5, (Value.int .i64 (a0.length : Int))), (6, v9), (25, v0_0), (26, (Value.int .i64 (a0.length : Int))), (27, (Value.int .i64 (IntKind.i64.wrap (l12i27 + (1 : Int)))))] (by decide) ⟨rfl, rfl, rfl, rfl, rfl, rfl, trivial⟩)
        · clear hkk18
          refine aw_block ?_
          refine aw_seq ?_
          refine aw_region ?_
          refine al_val (ov_move rfl rfl) ?_
          obtain ⟨u19, hu20, h⟩ := opt_some h
          refine al_idxD 0 hu20 rfl rfl rfl Try.underlying60 sz9 rfl (fun p21 => ?_)
          refine al_val (ov_loadP (ds := [(str u19)]) 0 rfl (fun h => h) rfl Try.underlying9 sz9 rfl rfl rfl) ?_
          refine al_val (ov_assign rfl rfl) ?_
          refine al_val (ov_assign rfl rfl) ?_
          refine al_nil ?_
          refine aq_then ?_
          refine aw_seq ?_
          refine aw_region ?_
          refine al_val (ov_move rfl rfl) ?_
          refine al_val (ov_int rfl rfl rfl rfl) ?_
          refine al_val (ov_move rfl rfl) ?_
          refine al_val (ov_int rfl rfl rfl rfl) ?_
          refine al_val (ov_convInt (by rw [Try.underlying3]; rfl) Try.underlying5 rfl rfl) ?_
          refine al_val (ov_move rfl rfl) ?_
          refine al_val (ov_convInt (by rw [Try.underlying3]; rfl) Try.underlying5 rfl rfl) ?_
          refine al_val (ov_int rfl rfl rfl rfl) ?_
          obtain ⟨r23, hc22, h⟩ := opt_some h
          refine al_call (vs := [(Value.int .u8 (bits .xor .u8 (IntKind.u8.wrap (IntKind.i64.wrap ((IntKind.i64.wrap ((128 : Int) + a1)) - (a0.length : Int)))) (IntKind.u8.wrap l12i27)))]) (f_lumref_Inv_ok fu (bits .xor .u8 (IntKind.u8.wrap (IntKind.i64.wrap ((IntKind.i64.wrap ((128 : Int) + a1)) - (a0.length : Int)))) (IntKind.u8.wrap l12i27)) hc22) [] [] [0] pre_nil rfl (by simp) (by decide) (.inl rfl) rfl Try.func30 rfl rfl rfl (fun _ => ?_)
          refine al_val (ov_assign rfl rfl) ?_
          refine al_nil ?_
          refine aq_then ?_
          refine aw_seq ?_
          refine aw_region ?_
          refine al_val (ov_move rfl rfl) ?_
          refine al_val (ov_lenR 0 rfl rfl Try.underlying44 rfl) ?_
          refine al_val (ov_move rfl rfl) ?_
          refine al_nil ?_
          refine aq_then ?_
          refine aw_block ?_
          refine aw_state (aw_loop (ι := (List UInt8) × Int) (fun i => (memOf w0 Z0 [] [(oRow v9 5 tyU8 i.1)] [(fDat (tyList tyStr) [v0_0] a0), (fPtr tyStr p21 u19), (fPtr tyStr p7 u5)])) (fun i => (tab [(1, (Value.int .i64 a1)), (5, (Value.int .i64 (a0.length : Int))), (6, v9), (8, (str u19)), (9, (Value.int .u8 r23)), (25, v0_0), (26, (Value.int .i64 (a0.length : Int))), (27, (Value.int .i64 l12i27)), (42, (Value.int .i64 (l12x6.length : Int))), (43, (Value.int .i64 i.2))])) (fun q i => f_lumref_ShardOf_L26 l12x6 kk18 u19 r23 fu q i.1 i.2 = some r) ?_ fu (l12x6, (0 : Int)) h) (fun w a hm hs => norm hm hs [0] [1, 0, 2] [(1, (Value.int .i64 a1)), (5, (Value.int .i64 (a0.length : Int))), (6, v9), (8, (str u19)), (9, (Value.int .u8 r23)), (25, v0_0), (26, (Value.int .i64 (a0.length : Int))), (27, (Value.int .i64 l12i27)), (42, (Value.int .i64 (l12x6.length : Int))), (43, (Value.int .i64 (0 : Int)))] (by decide) ⟨rfl, rfl, rfl, rfl, rfl, rfl, rfl, rfl, rfl, rfl, trivial⟩)
          clear h
          rintro k25 ⟨l24x6, l24i43⟩ h
          have h : f_lumref_ShardOf_L26 l12x6 kk18 u19 r23 fu k25 l24x6 l24i43 = some r := h
          obtain _ | k25 := k25
          · rw [f_lumref_ShardOf_L26] at h; cases h
          rw [f_lumref_ShardOf_L26] at h
          refine aw_show (m := (memOf w0 Z0 [] [(oRow v9 5 tyU8 l24x6)] [(fDat (tyList tyStr) [v0_0] a0), (fPtr tyStr p21 u19), (fPtr tyStr p7 u5)])) (S := (tab [(1, (Value.int .i64 a1)), (5, (Value.int .i64 (a0.length : Int))), (6, v9), (8, (str u19)), (9, (Value.int .u8 r23)), (25, v0_0), (26, (Value.int .i64 (a0.length : Int))), (27, (Value.int .i64 l12i27)), (42, (Value.int .i64 (l12x6.length : Int))), (43, (Value.int .i64 l24i43))])) ?_
          refine aw_seq ?_
          refine aw_region ?_
          refine al_val (ov_int rfl rfl rfl rfl) ?_
          refine al_nil ?_
          refine aq_then ?_
          refine aw_seq ?_
          refine aw_cond rfl (fun hb27 => ?_) (fun hb27 => ?_)
          · replace h := bif_t hb27 h
            refine aw_skip ?_
            refine aq_then ?_
            refine aw_seq ?_
            refine aw_block ?_
            refine aw_seq ?_
            refine aw_region ?_
            refine al_val (ov_move rfl rfl) ?_
            refine al_val (ov_assign rfl rfl) ?_
            refine al_nil ?_
            refine aq_then ?_
            obtain ⟨u28, hu29, h⟩ := opt_some h
            obtain ⟨hc32, h⟩ := req_some h
            obtain ⟨r34, hc33, h⟩ := opt_some h
            obtain ⟨u35, hu36, h⟩ := opt_some h
            refine aw_region_draw 11 [(46, (fun u => fEq u v9)), (47, (fun u => fEq u (Value.int .i64 l24i43))), (48, (fun p => fElt v9 p ((l24i43).toNat * Ty.size tyU8))), (49, (fun u => fEq u (Value.int .u8 (u28.toNat : Int)))), (50, (fun u => fEq u (Value.int .u8 r23))), (51, (fun u => fEq u (str u19))), (52, (fun u => fEq u (Value.int .i64 l24i43))), (53, (fun u => fEq u (Value.int .u8 (bAt u19 l24i43)))), (54, (fun u => fEq u (Value.int .u8 r34))), (55, (fun u => fEq u (Value.int .u8 (bits .xor .u8 (u28.toNat : Int) r34)))), (56, (fun p => fElt v9 p ((l24i43).toNat * Ty.size tyU8)))] (tab [(1, (Value.int .i64 a1)), (5, (Value.int .i64 (a0.length : Int))), (6, v9), (8, (str u19)), (9, (Value.int .u8 r23)), (10, (Value.int .i64 l24i43)), (25, v0_0), (26, (Value.int .i64 (a0.length : Int))), (27, (Value.int .i64 l12i27)), (42, (Value.int .i64 (l12x6.length : Int))), (43, (Value.int .i64 l24i43))]) mixed (by kernel_rfl) rfl rfl rfl (fun a hs => hs.tab _ (allT_mem ⟨rfl, rfl, rfl, rfl, rfl, rfl, rfl, rfl, rfl, rfl, rfl, trivial⟩)) ⟨⟨rfl, ld_val (ov_move rfl rfl)⟩, ⟨rfl, ld_val (ov_move rfl rfl)⟩, ⟨rfl, ld_eq (j := 0) rfl rfl (ld_eq (j := 1) rfl rfl (ld_of (of_idxR 0 (at_some hu29).1 (at_some hu29).2.1 rfl rfl rfl Try.underlying44 sz5 rfl)))⟩, ⟨rfl, ld_elt (j := 2) rfl rfl (fun p30 hp31 => ld_val (ov_loadR (ds := [(Value.int .u8 (u28.toNat : Int))]) 0 rfl hp31 (at_some hu29).2.2 (fun h => h) rfl Try.underlying5 sz5 rfl rfl rfl))⟩, ⟨rfl, ld_val (ov_move rfl rfl)⟩, ⟨rfl, ld_val (ov_move rfl rfl)⟩, ⟨rfl, ld_val (ov_move rfl rfl)⟩, ⟨rfl, ld_eq (j := 5) rfl rfl (ld_eq (j := 6) rfl rfl (ld_val (ov_strIdx hc32.1 hc32.2 Try.underlying9 rfl rfl rfl)))⟩, ⟨rfl, ld_eq (j := 4) rfl rfl (ld_eq (j := 7) rfl rfl (ld_callV (vs := [(Value.int .u8 r23), (Value.int .u8 (bAt u19 l24i43))]) (f_lumref_Mul_ok fu r23 (bAt u19 l24i43) hc33) [] pre_nil rfl Try.func28 rfl rfl rfl))⟩, ⟨rfl, ld_eq (j := 3) rfl rfl (ld_eq (j := 8) rfl rfl (ld_val (ov_int rfl rfl rfl rfl)))⟩, ⟨rfl, ld_eq (j := 0) rfl rfl (ld_eq (j := 1) rfl rfl (ld_of (of_idxR 0 (at_some hu36).1 (at_some hu36).2.1 rfl rfl rfl Try.underlying44 sz5 rfl)))⟩, trivial⟩ ?_
            refine tl_eq 9 rfl ?_
            refine tl_elt 10 rfl (fun p37 hp38 => ?_)
            refine tl_done ?_
            obtain ⟨hc39, h⟩ := req_some h
            refine al_storeR (k := (l24i43).toNat) (x := (UInt8.ofNat ((bits .xor .u8 (u28.toNat : Int) r34)).toNat)) (vs := [(Value.int .u8 (bits .xor .u8 (u28.toNat : Int) r34))]) 0 rfl hp38 (idx_lt hu36) rfl rfl (cv_rfl rfl) (fun _ => u8_rep hc39) sz5 rfl ?_
            refine al_nil ?_
            refine aq_block ?_
            refine aq_then ?_
            refine aw_region ?_
            refine al_val (ov_int rfl rfl rfl rfl) ?_
            refine al_val (ov_move rfl rfl) ?_
            refine al_nil ?_
            exact aq_again k25 ((l24x6.set (l24i43).toNat (UInt8.ofNat ((bits .xor .u8 (u28.toNat : Int) r34)).toNat)), (IntKind.i64.wrap (l24i43 + (1 : Int)))) (Nat.lt_succ_self _) h (fun w a hm hs => norm hm hs [0] [0, 1, 2] [(1, (Value.int .i64 a1)), (5, (Value.int .i64 (a0.length : Int))), (6, v9), (8, (str u19)), (9, (Value.int .u8 r23)), (25, v0_0), (26, (Value.int .i64 (a0.length : Int))), (27, (Value.int .i64 l12i27)), (42, (Value.int .i64 (l12x6.length : Int))), (43, (Value.int .i64 (IntKind.i64.wrap (l24i43 + (1 : Int)))))] (by decide) ⟨rfl, rfl, rfl, rfl, rfl, rfl, rfl, rfl, rfl, rfl, trivial⟩)
          · replace h := bif_f hb27 h
            refine aw_exit ?_
            refine aq_then_exit ?_
            refine aq_then_exit ?_
            refine aq_block_exit ?_
            refine aq_block ?_
            exact aq_join l24x6 h (fun w a hm hs => norm hm hs [0] [0, 2] [(1, (Value.int .i64 a1)), (5, (Value.int .i64 (a0.length : Int))), (6, v9), (25, v0_0), (26, (Value.int .i64 (a0.length : Int))), (27, (Value.int .i64 l12i27))] (by decide) ⟨rfl, rfl, rfl, rfl, rfl, rfl, trivial⟩)
      · replace h := bif_f hb16 h
        refine aw_exit ?_
        refine aq_then_exit ?_
        refine aq_then_exit ?_
        refine aq_block_exit ?_
        exact aq_join l12x6 h (fun w a hm hs => norm hm hs [0] [1, 0] [(6, v9)] (by decide) ⟨rfl, trivial⟩)
def f_lumlaw_ShieldGuards_L17 (a0 : (List (List UInt8))) (r2 : ((List (List UInt8)) × Int)) (kk14 : (Unit → Option Bool)) (fu : Nat) : Nat → Int → Option Bool
  | 0, _ => none
  | k16 + 1, l15i38 => (bif (decide (l15i38 < (r2.1.length : Int))) then (opt (at? r2.1 l15i38) fun (u19 : (List UInt8)) => (opt (f_lumref_ShardOf fu a0 (IntKind.i64.wrap ((a0.length : Int) + l15i38))) fun (r24 : (List UInt8)) => (bif (!(u19 == r24)) then (some false) else (f_lumlaw_ShieldGuards_L17 a0 r2 kk14 fu k16 (IntKind.i64.wrap (l15i38 + (1 : Int))))))) else (kk14 ()))
def f_lumlaw_ShieldGuards (fu : Nat) (a0 : (List (List UInt8))) (a1 : Int) : Option Bool := (opt (f_shield_Guard fu a0 a1) fun (r2 : ((List (List UInt8)) × Int)) => (opt (f_lumref_GuardErr fu a0 a1) fun (r5 : Int) => (bif (r5 != (0 : Int)) then (lt (fun (j7b4 : Bool) => (some j7b4)) fun (kk8 : Bool → Option Bool) => (bif ((r2.1.length : Int) == (0 : Int)) then (kk8 (r2.2 == r5)) else (kk8 false))) else (lt (fun (j10b35 : Bool) => (bif j10b35 then (some false) else (lt (fun (_ : Unit) => (some true)) fun (kk14 : Unit → Option Bool) => (f_lumlaw_ShieldGuards_L17 a0 r2 kk14 fu fu (0 : Int))))) fun (kk11 : Bool → Option Bool) => (bif (r2.2 != (0 : Int)) then (kk11 true) else (kk11 ((r2.1.length : Int) != a1)))))))
set_option maxRecDepth 100000 in
theorem f_lumlaw_ShieldGuards_ok (fu : Nat) (v0_0 : Value) (a0 : (List (List UInt8))) (a1 : Int) {r : Bool} (h : f_lumlaw_ShieldGuards fu a0 a1 = some r) : FnOk Try.prog 12 [v0_0, (Value.int .i64 a1)] [(fDat (tyList tyStr) [v0_0] a0)] [] (fun (i : Unit) => { val := (Value.bool r) }) := by
  unfold f_lumlaw_ShieldGuards at h
  refine fn_enter Try.func12 rfl Try.ntmps12 rfl (fun w0 Z0 => ?_)
  refine aw_seq ?_
  refine aw_region ?_
  refine al_val (ov_assign rfl rfl) ?_
  refine al_nil ?_
  refine aq_then ?_
  refine aw_seq ?_
  refine aw_region ?_
  refine al_val (ov_move rfl rfl) ?_
  refine al_val (ov_move rfl rfl) ?_
  obtain ⟨r2, hc1, h⟩ := opt_some h
  refine al_call (vs := [v0_0, (Value.int .i64 a1)]) (f_shield_Guard_ok fu v0_0 a0 a1 hc1) [] [] [] (pre_fz 0 rfl pre_nil) rfl (by simp) (by decide) (.inl rfl) rfl Try.func62 rfl rfl rfl (fun v3 => ?_)
  refine al_val (ov_move rfl rfl) ?_
  refine al_val (ov_extract rfl rfl rfl) ?_
  refine al_val (ov_extract rfl rfl rfl) ?_
  refine al_val (ov_assign rfl rfl) ?_
  refine al_val (ov_assign rfl rfl) ?_
  refine al_nil ?_
  refine aq_then ?_
  refine aw_seq ?_
  refine aw_seq ?_
  refine aw_region ?_
  refine al_val (ov_move rfl rfl) ?_
  refine al_val (ov_move rfl rfl) ?_
  obtain ⟨r5, hc4, h⟩ := opt_some h
  refine al_call (vs := [v0_0, (Value.int .i64 a1)]) (f_lumref_GuardErr_ok fu v0_0 a0 a1 hc4) [] [] [0] (pre_fz 0 rfl pre_nil) rfl (by simp) (by decide) (.inl rfl) rfl Try.func63 rfl rfl rfl (fun _ => ?_)
  refine al_val (ov_assign rfl rfl) ?_
  refine al_nil ?_
  refine aq_then ?_
  refine aw_seq ?_
  refine aw_region ?_
  refine al_val (ov_move rfl rfl) ?_
  refine al_val (ov_int rfl rfl rfl rfl) ?_
  refine al_nil ?_
  refine aq_then ?_
  refine aw_cond rfl (fun hb6 => ?_) (fun hb6 => ?_)
  · replace h := bif_t hb6 h
    obtain ⟨kk8, hkk8, h⟩ := lt_some h
    refine aw_seq_join (ι := Bool) (fun i => (memOf w0 Z0 [] [] [(fDat (tyList tyStr) [v0_0] a0)])) (fun i => (tab [(4, (Value.bool i))])) (fun i => kk8 i = some r) ?_ ?_
    · rintro j7b4 h
      have h : kk8 j7b4 = some r := h
      rw [hkk8] at h
      dsimp only at h
      clear hkk8
      refine aw_show (m := (memOf w0 Z0 [] [] [(fDat (tyList tyStr) [v0_0] a0)])) (S := (tab [(4, (Value.bool j7b4))])) ?_
      refine aw_ret ?_
      refine aq_then_ret ?_
      obtain rfl := Option.some.inj h
      exact fn_ret () [] [] rfl rfl rfl rfl (res1 rfl rfl) rfl rfl rfl (by decide)
    · clear hkk8
      refine aw_region ?_
      refine al_val (ov_move rfl rfl) ?_
      refine al_val (ov_lenR 0 rfl rfl Try.underlying60 rfl) ?_
      refine al_val (ov_int rfl rfl rfl rfl) ?_
      refine al_val (ov_move rfl rfl) ?_
      refine al_caseB 23 rfl (fun hb9 => ?_) (fun hb9 => ?_)
      · replace h := bif_t hb9 h
        refine al_val (ov_move rfl rfl) ?_
        refine al_val (ov_move rfl rfl) ?_
        refine al_val (ov_int rfl rfl rfl rfl) ?_
        refine al_val (ov_pick_t rfl rfl rfl) ?_
        refine al_val (ov_assign rfl rfl) ?_
        refine al_nil ?_
        exact aq_join (r2.2 == r5) h (fun w a hm hs => norm hm hs [] [0] [(4, (Value.bool (r2.2 == r5)))] (by decide) ⟨rfl, trivial⟩)
      · replace h := bif_f hb9 h
        refine al_skip ?_
        refine al_skip ?_
        refine al_skip ?_
        refine al_val (ov_pick_f rfl rfl rfl) ?_
        refine al_val (ov_assign rfl rfl) ?_
        refine al_nil ?_
        exact aq_join false h (fun w a hm hs => norm hm hs [] [0] [(4, (Value.bool false))] (by decide) ⟨rfl, trivial⟩)
  · replace h := bif_f hb6 h
    refine aw_skip ?_
    refine aq_then ?_
    refine aw_seq ?_
    obtain ⟨kk11, hkk11, h⟩ := lt_some h
    refine aw_seq_join (ι := Bool) (fun i => (memOf w0 Z0 [] [(oRow v3 9 tyStr r2.1)] [(fDat (tyList tyStr) [v0_0] a0)])) (fun i => (tab [(0, v0_0), (5, v3), (35, (Value.bool i))])) (fun i => kk11 i = some r) ?_ ?_
    · rintro j10b35 h
      have h : kk11 j10b35 = some r := h
      rw [hkk11] at h
      dsimp only at h
      clear hkk11
      refine aw_show (m := (memOf w0 Z0 [] [(oRow v3 9 tyStr r2.1)] [(fDat (tyList tyStr) [v0_0] a0)])) (S := (tab [(0, v0_0), (5, v3), (35, (Value.bool j10b35))])) ?_
      refine aw_cond rfl (fun hb12 => ?_) (fun hb12 => ?_)
      · replace h := bif_t hb12 h
        refine aw_seq ?_
        refine aw_region ?_
        refine al_val (ov_assign rfl rfl) ?_
        refine al_nil ?_
        refine aq_then ?_
        refine aw_ret ?_
        refine aq_then_ret ?_
        obtain rfl := Option.some.inj h
        exact fn_ret () [] [] rfl rfl rfl rfl (res1 rfl rfl) rfl rfl rfl (by decide)
      · replace h := bif_f hb12 h
        refine aw_skip ?_
        refine aq_then ?_
        obtain ⟨kk14, hkk14, h⟩ := lt_some h
        refine aw_seq_join (ι := Unit) (fun i => (memOf w0 Z0 [] [] [(fDat (tyList tyStr) [v0_0] a0)])) (fun i => (tab [])) (fun i => kk14 () = some r) ?_ ?_
        · rintro _ h
          have h : kk14 () = some r := h
          rw [hkk14] at h
          dsimp only at h
          clear hkk14
          refine aw_show (m := (memOf w0 Z0 [] [] [(fDat (tyList tyStr) [v0_0] a0)])) (S := (tab [])) ?_
          refine aw_seq ?_
          refine aw_region ?_
          refine al_val (ov_assign rfl rfl) ?_
          refine al_nil ?_
          refine aq_then ?_
          refine aw_ret ?_
          obtain rfl := Option.some.inj h
          exact fn_ret () [] [] rfl rfl rfl rfl (res1 rfl rfl) rfl rfl rfl (by decide)
        · clear hkk14
          refine aw_seq ?_
          refine aw_region ?_
          refine al_val (ov_move rfl rfl) ?_
          refine al_val (ov_lenR 0 rfl rfl Try.underlying60 rfl) ?_
          refine al_val (ov_move rfl rfl) ?_
          refine al_nil ?_
          refine aq_then ?_
          refine aw_block ?_
          refine aw_state (aw_loop (ι := Int) (fun i => (memOf w0 Z0 [] [(oRow v3 9 tyStr r2.1)] [(fDat (tyList tyStr) [v0_0] a0)])) (fun i => (tab [(0, v0_0), (5, v3), (37, (Value.int .i64 (r2.1.length : Int))), (38, (Value.int .i64 i))])) (fun q i => f_lumlaw_ShieldGuards_L17 a0 r2 kk14 fu q i = some r) ?_ fu (0 : Int) h) (fun w a hm hs => norm hm hs [0] [0] [(0, v0_0), (5, v3), (37, (Value.int .i64 (r2.1.length : Int))), (38, (Value.int .i64 (0 : Int)))] (by decide) ⟨rfl, rfl, rfl, rfl, trivial⟩)
          clear h
          rintro k16 l15i38 h
          have h : f_lumlaw_ShieldGuards_L17 a0 r2 kk14 fu k16 l15i38 = some r := h
          obtain _ | k16 := k16
          · rw [f_lumlaw_ShieldGuards_L17] at h; cases h
          rw [f_lumlaw_ShieldGuards_L17] at h
          refine aw_show (m := (memOf w0 Z0 [] [(oRow v3 9 tyStr r2.1)] [(fDat (tyList tyStr) [v0_0] a0)])) (S := (tab [(0, v0_0), (5, v3), (37, (Value.int .i64 (r2.1.length : Int))), (38, (Value.int .i64 l15i38))])) ?_
          refine aw_seq ?_
          refine aw_region ?_
          refine al_val (ov_int rfl rfl rfl rfl) ?_
          refine al_nil ?_
          refine aq_then ?_
          refine aw_seq ?_
          refine aw_cond rfl (fun hb18 => ?_) (fun hb18 => ?_)
          · replace h := bif_t hb18 h
            refine aw_skip ?_
            refine aq_then ?_
            refine aw_seq ?_
            refine aw_block ?_
            refine aw_seq ?_
            refine aw_region ?_
            refine al_val (ov_move rfl rfl) ?_
            refine al_val (ov_assign rfl rfl) ?_
            refine al_nil ?_
            refine aq_then ?_
            refine aw_seq ?_
            obtain ⟨u19, hu20, h⟩ := opt_some h
            obtain ⟨r24, hc23, h⟩ := opt_some h
            refine aw_region_draw 10 [(41, (fun u => fEq u v3)), (42, (fun u => fEq u (Value.int .i64 l15i38))), (43, (fun p => fElt v3 p ((l15i38).toNat * Ty.size tyStr))), (44, (fun u => fEq u (str u19))), (45, (fun u => fEq u v0_0)), (46, (fun u => fEq u v0_0)), (47, (fun u => fEq u (Value.int .i64 (a0.length : Int)))), (48, (fun u => fEq u (Value.int .i64 l15i38))), (49, (fun u => fEq u (Value.int .i64 (IntKind.i64.wrap ((a0.length : Int) + l15i38))))), (50, (fun u => fEq u (str r24)))] (tab [(0, v0_0), (5, v3), (8, (Value.int .i64 l15i38)), (37, (Value.int .i64 (r2.1.length : Int))), (38, (Value.int .i64 l15i38))]) mixed (by kernel_rfl) rfl rfl rfl (fun a hs => hs.tab _ (allT_mem ⟨rfl, rfl, rfl, rfl, rfl, trivial⟩)) ⟨⟨rfl, ld_val (ov_move rfl rfl)⟩, ⟨rfl, ld_val (ov_move rfl rfl)⟩, ⟨rfl, ld_eq (j := 0) rfl rfl (ld_eq (j := 1) rfl rfl (ld_of (of_idxR 0 (at_some hu20).1 (at_some hu20).2.1 rfl rfl rfl Try.underlying60 sz9 rfl)))⟩, ⟨rfl, ld_elt (j := 2) rfl rfl (fun p21 hp22 => ld_val (ov_loadR (ds := [(str u19)]) 0 rfl hp22 (at_some hu20).2.2 (fun h => h) rfl Try.underlying9 sz9 rfl rfl rfl))⟩, ⟨rfl, ld_val (ov_move rfl rfl)⟩, ⟨rfl, ld_val (ov_move rfl rfl)⟩, ⟨rfl, ld_eq (j := 5) rfl rfl (ld_val (ov_lenD 0 rfl rfl Try.underlying60 rfl))⟩, ⟨rfl, ld_val (ov_move rfl rfl)⟩, ⟨rfl, ld_eq (j := 6) rfl rfl (ld_eq (j := 7) rfl rfl (ld_val (ov_int rfl rfl rfl rfl)))⟩, ⟨rfl, ld_eq (j := 4) rfl rfl (ld_eq (j := 8) rfl rfl (ld_callV (vs := [v0_0, (Value.int .i64 (IntKind.i64.wrap ((a0.length : Int) + l15i38)))]) (f_lumref_ShardOf_ok fu v0_0 a0 (IntKind.i64.wrap ((a0.length : Int) + l15i38)) hc23) [] (pre_fz 0 rfl pre_nil) rfl Try.func64 rfl rfl rfl))⟩, trivial⟩ ?_
            refine tl_eq 3 rfl ?_
            refine tl_eq 9 rfl ?_
            refine tl_done ?_
            refine al_val (ov_strCmp rfl rfl rfl rfl) ?_
            refine al_nil ?_
            refine aq_then ?_
            refine aw_cond rfl (fun hb25 => ?_) (fun hb25 => ?_)
            · replace h := bif_t hb25 h
              refine aw_seq ?_
              refine aw_region ?_
              refine al_val (ov_assign rfl rfl) ?_
              refine al_nil ?_
              refine aq_then ?_
              refine aw_ret ?_
              refine aq_block_ret ?_
              refine aq_then_ret ?_
              refine aq_then_ret ?_
              refine aq_block_ret ?_
              refine aq_then_ret ?_
              obtain rfl := Option.some.inj h
              exact fn_ret () [] [] rfl rfl rfl rfl (res1 rfl rfl) rfl rfl rfl (by decide)
            · replace h := bif_f hb25 h
              refine aw_skip ?_
              refine aq_block ?_
              refine aq_then ?_
              refine aw_region ?_
              refine al_val (ov_int rfl rfl rfl rfl) ?_
              refine al_val (ov_move rfl rfl) ?_
              refine al_nil ?_
              exact aq_again k16 (IntKind.i64.wrap (l15i38 + (1 : Int))) (Nat.lt_succ_self _) h (fun w a hm hs => norm hm hs [0] [0] [(0, v0_0), (5, v3), (37, (Value.int .i64 (r2.1.length : Int))), (38, (Value.int .i64 (IntKind.i64.wrap (l15i38 + (1 : Int)))))] (by decide) ⟨rfl, rfl, rfl, rfl, trivial⟩)
          · replace h := bif_f hb18 h
            refine aw_exit ?_
            refine aq_then_exit ?_
            refine aq_then_exit ?_
            refine aq_block_exit ?_
            exact aq_join () h (fun w a hm hs => norm hm hs [] [0] [] (by decide) trivial)
    · clear hkk11
      refine aw_region ?_
      refine al_val (ov_move rfl rfl) ?_
      refine al_val (ov_int rfl rfl rfl rfl) ?_
      refine al_val (ov_move rfl rfl) ?_
      refine al_caseB 30 rfl (fun hb26 => ?_) (fun hb26 => ?_)
      · replace h := bif_t hb26 h
        refine al_skip ?_
        refine al_skip ?_
        refine al_skip ?_
        refine al_skip ?_
        refine al_val (ov_pick_t rfl rfl rfl) ?_
        refine al_nil ?_
        exact aq_join true h (fun w a hm hs => norm hm hs [0] [0] [(0, v0_0), (5, v3), (35, (Value.bool true))] (by decide) ⟨rfl, rfl, rfl, trivial⟩)
      · replace h := bif_f hb26 h
        refine al_val (ov_move rfl rfl) ?_
        refine al_val (ov_lenR 0 rfl rfl Try.underlying60 rfl) ?_
        refine al_val (ov_move rfl rfl) ?_
        refine al_val (ov_int rfl rfl rfl rfl) ?_
        refine al_val (ov_pick_f rfl rfl rfl) ?_
        refine al_nil ?_
        exact aq_join ((r2.1.length : Int) != a1) h (fun w a hm hs => norm hm hs [0] [0] [(0, v0_0), (5, v3), (35, (Value.bool ((r2.1.length : Int) != a1)))] (by decide) ⟨rfl, rfl, rfl, trivial⟩)
end Go.Proofs.Ythcmjcnilhglmaa
