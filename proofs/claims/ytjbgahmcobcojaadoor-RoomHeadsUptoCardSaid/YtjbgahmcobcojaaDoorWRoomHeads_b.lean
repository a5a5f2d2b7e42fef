/- Walks by program. No condition. -/
import Derived.Test.YtjbgahmcobcojaaDoorEn21
import Derived.Test.YtjbgahmcobcojaaDoorChecked
import Derived.Test.YtjbgahmcobcojaaDoorEnU
import Derived.Test.YtjbgahmcobcojaaDoorShTrim
import Derived.Test.YtjbgahmcobcojaaDoorShBEApp
import Derived.Test.YtjbgahmcobcojaaDoorEnM
import Derived.Test.YtjbgahmcobcojaaDoorShBEPut
import Derived.Test.YtjbgahmcobcojaaDoorShRepeat
import Derived.Test.YtjbgahmcobcojaaDoorEnB
import Derived.Test.YtjbgahmcobcojaaDoorWRoomHeads_a
namespace Go.Proofs.YtjbgahmcobcojaaDoor
open Go.RowKit YtjbgahmcobcojaaDoor.En
set_option linter.unusedVariables false
set_option linter.unusedSimpArgs false
set_option maxRecDepth 100000 in
theorem f_lumref_Narrow_ok (fu : Nat) (a0 : Int) (a1 : (List UInt8)) {r : Int} (h : f_lumref_Narrow fu a0 a1 = some r) : FnOk Tryd.prog 100 [(Value.int .i64 a0), (str a1)] [] [] (fun (i : Unit) => { val := (Value.int .u64 r) }) := by
  unfold f_lumref_Narrow at h
  refine fn_enter Tryd.func100 rfl Tryd.ntmps100 rfl (fun w0 Z0 => ?_)
  refine aw_seq ?_
  refine aw_region ?_
  refine al_box (vs := [(Value.int .i64 a0)]) rfl (cv_rfl rfl) rfl (fun g1 => ?_)
  refine al_val (ov_assign rfl rfl) ?_
  refine al_nil ?_
  refine aq_then ?_
  refine aw_seq ?_
  refine aw_region ?_
  refine al_val (ov_assign rfl rfl) ?_
  refine al_nil ?_
  refine aq_then ?_
  refine aw_seq ?_
  refine aw_region ?_
  refine al_val (ov_makeFunc2 (vs := [(ptr g1 0)]) rfl rfl) ?_
  refine al_val (ov_assign rfl rfl) ?_
  refine al_nil ?_
  refine aq_then ?_
  refine aw_seq ?_
  refine aw_region ?_
  refine al_val (ov_move rfl rfl) ?_
  refine al_val (ov_move rfl rfl) ?_
  refine al_val (ov_strLen Tryd.underlying9 rfl rfl) ?_
  refine al_val (ov_rem (by decide) rfl rfl rfl) ?_
  refine al_val (ov_int rfl rfl rfl rfl) ?_
  refine al_val (ov_rem (by decide) rfl rfl rfl) ?_
  obtain ⟨r3, hc2, h⟩ := opt_some h
  refine al_call (vs := [(str ([0] : List UInt8)), (Value.int .i64 (((IntKind.i64.wrap ((8 : Int) - (((a1.length : Int)).tmod (8 : Int))))).tmod (8 : Int)))]) (f_strings_Repeat_ok fu ([0] : List UInt8) (((IntKind.i64.wrap ((8 : Int) - (((a1.length : Int)).tmod (8 : Int))))).tmod (8 : Int)) hc2) [] [] [0] pre_nil rfl (by simp) (by decide) (.inl rfl) rfl Tryd.func131 rfl rfl rfl (fun _ => ?_)
  obtain ⟨hc4, h⟩ := req_some h
  refine al_val (ov_strAdd hc4 rfl rfl rfl) ?_
  refine al_val (ov_assign rfl rfl) ?_
  refine al_nil ?_
  refine aq_then ?_
  obtain ⟨kk6, hkk6, h⟩ := lt_some h
  refine aw_seq_join (ι := Int) (fun i => (memOf w0 Z0 [] [(oBox g1 3 [(Value.int .i64 a0)])] [])) (fun i => (tab [(1, (str a1)), (5, (Value.int .u64 i)), (6, (Value.func (.func 132) #[] #[(ptr g1 0)]))])) (fun i => kk6 i = some r) ?_ ?_
  · rintro j5i5 h
    have h : kk6 j5i5 = some r := h
    rw [hkk6] at h
    dsimp only at h
    clear hkk6
    refine aw_show (m := (memOf w0 Z0 [] [(oBox g1 3 [(Value.int .i64 a0)])] [])) (S := (tab [(1, (str a1)), (5, (Value.int .u64 j5i5)), (6, (Value.func (.func 132) #[] #[(ptr g1 0)]))])) ?_
    refine aw_seq ?_
    refine aw_region ?_
    refine al_val (ov_move rfl rfl) ?_
    refine al_val (ov_move rfl rfl) ?_
    refine al_val (ov_move rfl rfl) ?_
    refine al_val (ov_strLen Tryd.underlying9 rfl rfl) ?_
    refine al_val (ov_convInt (by rw [Tryd.underlying3]; rfl) Tryd.underlying87 rfl rfl) ?_
    obtain ⟨r8, hc7, h⟩ := opt_some h
    refine al_call (vs := [(Value.int .u64 j5i5), (Value.int .u64 (IntKind.u64.wrap (a1.length : Int)))]) (f_lumref_Step_ok fu j5i5 (IntKind.u64.wrap (a1.length : Int)) hc7) [] [] [0] pre_nil rfl (by simp) (by decide) (.inl rfl) rfl Tryd.func133 rfl rfl rfl (fun _ => ?_)
    obtain ⟨r10, hc9, h⟩ := opt_some h
    refine al_callF (vs := [(Value.int .u64 r8)]) (caps := [(ptr g1 0)]) (f_lumref_Narrow_1_ok fu r8 (ptr g1 0) a0 hc9) rfl [0] [] [0] (pre_boxP (x := a0) 0 rfl rfl (fun _ _ => rfl) pre_nil) rfl (by simp) (by decide) (.inr flat_res0) rfl rfl Tryd.func132 rfl rfl rfl (fun _ => ?_)
    refine al_val (ov_assign rfl rfl) ?_
    refine al_nil ?_
    refine aq_then ?_
    refine aw_ret ?_
    obtain rfl := Option.some.inj h
    exact fn_ret () [] [] rfl rfl rfl rfl (res1 rfl rfl) rfl rfl rfl (by decide)
  · clear hkk6
    refine aw_block ?_
    refine aw_state (aw_loop (ι := Int × (List UInt8)) (fun i => (memOf w0 Z0 [] [(oBox g1 3 [(Value.int .i64 a0)])] [])) (fun i => (tab [(1, (str a1)), (5, (Value.int .u64 i.1)), (6, (Value.func (.func 132) #[] #[(ptr g1 0)])), (7, (str i.2))])) (fun q i => f_lumref_Narrow_L13 a0 kk6 fu q i.1 i.2 = some r) ?_ fu ((0 : Int), (a1 ++ r3)) h) (fun w a hm hs => norm hm hs [0] [] [(1, (str a1)), (5, (Value.int .u64 (0 : Int))), (6, (Value.func (.func 132) #[] #[(ptr g1 0)])), (7, (str (a1 ++ r3)))] (by decide) ⟨rfl, rfl, rfl, rfl, trivial⟩)
    clear h
    rintro k12 ⟨l11i5, l11s7⟩ h
    have h : f_lumref_Narrow_L13 a0 kk6 fu k12 l11i5 l11s7 = some r := h
    obtain _ | k12 := k12
    · rw [f_lumref_Narrow_L13] at h; cases h
    rw [f_lumref_Narrow_L13] at h
    refine aw_show (m := (memOf w0 Z0 [] [(oBox g1 3 [(Value.int .i64 a0)])] [])) (S := (tab [(1, (str a1)), (5, (Value.int .u64 l11i5)), (6, (Value.func (.func 132) #[] #[(ptr g1 0)])), (7, (str l11s7))])) ?_
    obtain ⟨kk14, hkk14, h⟩ := lt_some h
    refine aw_body_join (ι := Int × (List UInt8)) (fun i => (memOf w0 Z0 [] [(oBox g1 3 [(Value.int .i64 a0)])] [])) (fun i => (tab [(1, (str a1)), (5, (Value.int .u64 i.1)), (6, (Value.func (.func 132) #[] #[(ptr g1 0)])), (7, (str i.2))])) (fun i => kk14 i.1 i.2 = some r) (fun i h => aq_again k12 i (Nat.lt_succ_self _) (by rw [hkk14] at h; exact h) (fun w a hm hs => ⟨hm, hs⟩)) ?_
    clear hkk14
    refine aw_seq ?_
    refine aw_seq ?_
    refine aw_region ?_
    refine al_val (ov_move rfl rfl) ?_
    refine al_val (ov_strCmp rfl rfl rfl rfl) ?_
    refine al_nil ?_
    refine aq_then ?_
    refine aw_cond rfl (fun hb15 => ?_) (fun hb15 => ?_)
    · replace h := bif_t hb15 h
      refine aw_skip ?_
      refine aq_then ?_
      obtain ⟨kk17, hkk17, h⟩ := lt_some h
      refine aw_seq_join (ι := Int) (fun i => (memOf w0 Z0 [] [(oBox g1 3 [(Value.int .i64 a0)])] [])) (fun i => (tab [(1, (str a1)), (5, (Value.int .u64 i)), (6, (Value.func (.func 132) #[] #[(ptr g1 0)])), (7, (str l11s7))])) (fun i => kk17 i = some r) ?_ ?_
      · rintro j16i5 h
        have h : kk17 j16i5 = some r := h
        rw [hkk17] at h
        dsimp only at h
        clear hkk17
        refine aw_show (m := (memOf w0 Z0 [] [(oBox g1 3 [(Value.int .i64 a0)])] [])) (S := (tab [(1, (str a1)), (5, (Value.int .u64 j16i5)), (6, (Value.func (.func 132) #[] #[(ptr g1 0)])), (7, (str l11s7))])) ?_
        refine aw_region ?_
        refine al_val (ov_move rfl rfl) ?_
        obtain ⟨hc18, h⟩ := req_some h
        refine al_val (ov_strFrom hc18.1 hc18.2 Tryd.underlying9 rfl rfl rfl) ?_
        refine al_val (ov_assign rfl rfl) ?_
        refine al_nil ?_
        exact aq_join (j16i5, (l11s7.drop ((8 : Int)).toNat)) h (fun w a hm hs => norm hm hs [0] [] [(1, (str a1)), (5, (Value.int .u64 j16i5)), (6, (Value.func (.func 132) #[] #[(ptr g1 0)])), (7, (str (l11s7.drop ((8 : Int)).toNat)))] (by decide) ⟨rfl, rfl, rfl, rfl, trivial⟩)
      · clear hkk17
        refine aw_block ?_
        refine aw_seq ?_
        refine aw_region ?_
        refine al_val (ov_assign rfl rfl) ?_
        refine al_nil ?_
        refine aq_then ?_
        obtain ⟨kk20, hkk20, h⟩ := lt_some h
        refine aw_seq_join (ι := Int) (fun i => (memOf w0 Z0 [] [(oBox g1 3 [(Value.int .i64 a0)])] [])) (fun i => (tab [(1, (str a1)), (5, (Value.int .u64 l11i5)), (6, (Value.func (.func 132) #[] #[(ptr g1 0)])), (7, (str l11s7)), (8, (Value.int .u64 i))])) (fun i => kk20 i = some r) ?_ ?_
        · rintro j19i8 h
          have h : kk20 j19i8 = some r := h
          rw [hkk20] at h
          dsimp only at h
          clear hkk20
          refine aw_show (m := (memOf w0 Z0 [] [(oBox g1 3 [(Value.int .i64 a0)])] [])) (S := (tab [(1, (str a1)), (5, (Value.int .u64 l11i5)), (6, (Value.func (.func 132) #[] #[(ptr g1 0)])), (7, (str l11s7)), (8, (Value.int .u64 j19i8))])) ?_
          refine aw_region ?_
          refine al_val (ov_move rfl rfl) ?_
          refine al_val (ov_move rfl rfl) ?_
          refine al_val (ov_move rfl rfl) ?_
          obtain ⟨r22, hc21, h⟩ := opt_some h
          refine al_call (vs := [(Value.int .u64 l11i5), (Value.int .u64 j19i8)]) (f_lumref_Step_ok fu l11i5 j19i8 hc21) [] [] [0] pre_nil rfl (by simp) (by decide) (.inl rfl) rfl Tryd.func133 rfl rfl rfl (fun _ => ?_)
          obtain ⟨r24, hc23, h⟩ := opt_some h
          refine al_callF (vs := [(Value.int .u64 r22)]) (caps := [(ptr g1 0)]) (f_lumref_Narrow_1_ok fu r22 (ptr g1 0) a0 hc23) rfl [0] [] [0] (pre_boxP (x := a0) 0 rfl rfl (fun _ _ => rfl) pre_nil) rfl (by simp) (by decide) (.inr flat_res0) rfl rfl Tryd.func132 rfl rfl rfl (fun _ => ?_)
          refine al_val (ov_assign rfl rfl) ?_
          refine al_nil ?_
          refine aq_block ?_
          exact aq_join r24 h (fun w a hm hs => norm hm hs [0] [] [(1, (str a1)), (5, (Value.int .u64 r24)), (6, (Value.func (.func 132) #[] #[(ptr g1 0)])), (7, (str l11s7))] (by decide) ⟨rfl, rfl, rfl, rfl, trivial⟩)
        · clear hkk20
          refine aw_seq ?_
          refine aw_region ?_
          refine al_val (ov_assign rfl rfl) ?_
          refine al_nil ?_
          refine aq_then ?_
          refine aw_block ?_
          refine aw_state (aw_loop (ι := Int × Int) (fun i => (memOf w0 Z0 [] [(oBox g1 3 [(Value.int .i64 a0)])] [])) (fun i => (tab [(1, (str a1)), (5, (Value.int .u64 l11i5)), (6, (Value.func (.func 132) #[] #[(ptr g1 0)])), (7, (str l11s7)), (8, (Value.int .u64 i.1)), (9, (Value.int .i64 i.2))])) (fun q i => f_lumref_Narrow_L27 l11s7 kk20 q i.1 i.2 = some r) ?_ fu ((0 : Int), (7 : Int)) h) (fun w a hm hs => norm hm hs [0] [] [(1, (str a1)), (5, (Value.int .u64 l11i5)), (6, (Value.func (.func 132) #[] #[(ptr g1 0)])), (7, (str l11s7)), (8, (Value.int .u64 (0 : Int))), (9, (Value.int .i64 (7 : Int)))] (by decide) ⟨rfl, rfl, rfl, rfl, rfl, rfl, trivial⟩)
          clear h
          rintro k26 ⟨l25i8, l25i9⟩ h
          have h : f_lumref_Narrow_L27 l11s7 kk20 k26 l25i8 l25i9 = some r := h
          obtain _ | k26 := k26
          · rw [f_lumref_Narrow_L27] at h; cases h
          rw [f_lumref_Narrow_L27] at h
          refine aw_show (m := (memOf w0 Z0 [] [(oBox g1 3 [(Value.int .i64 a0)])] [])) (S := (tab [(1, (str a1)), (5, (Value.int .u64 l11i5)), (6, (Value.func (.func 132) #[] #[(ptr g1 0)])), (7, (str l11s7)), (8, (Value.int .u64 l25i8)), (9, (Value.int .i64 l25i9))])) ?_
          refine aw_seq ?_
          refine aw_seq ?_
          refine aw_region ?_
          refine al_val (ov_move rfl rfl) ?_
          refine al_val (ov_int rfl rfl rfl rfl) ?_
          refine al_nil ?_
          refine aq_then ?_
          refine aw_cond rfl (fun hb28 => ?_) (fun hb28 => ?_)
          · replace h := bif_t hb28 h
            refine aw_skip ?_
            refine aq_then ?_
            refine aw_seq ?_
            refine aw_block ?_
            refine aw_region ?_
            refine al_val (ov_move rfl rfl) ?_
            refine al_val (ov_int rfl rfl rfl rfl) ?_
            refine al_val (ov_move rfl rfl) ?_
            refine al_val (ov_move rfl rfl) ?_
            obtain ⟨hc29, h⟩ := req_some h
            refine al_val (ov_strIdx hc29.1 hc29.2 Tryd.underlying9 rfl rfl rfl) ?_
            refine al_val (ov_convInt (by rw [Tryd.underlying5]; rfl) Tryd.underlying87 rfl rfl) ?_
            refine al_val (ov_int rfl rfl rfl rfl) ?_
            refine al_val (ov_assign rfl rfl) ?_
            refine al_nil ?_
            refine aq_block ?_
            refine aq_then ?_
            refine aw_region ?_
            refine al_val (ov_move rfl rfl) ?_
            refine al_val (ov_int rfl rfl rfl rfl) ?_
            refine al_val (ov_assign rfl rfl) ?_
            refine al_nil ?_
            exact aq_again k26 ((IntKind.u64.wrap ((IntKind.u64.wrap ((256 : Int) * l25i8)) + (IntKind.u64.wrap (En.bAt l11s7 l25i9)))), (IntKind.i64.wrap (l25i9 - (1 : Int)))) (Nat.lt_succ_self _) h (fun w a hm hs => norm hm hs [0] [] [(1, (str a1)), (5, (Value.int .u64 l11i5)), (6, (Value.func (.func 132) #[] #[(ptr g1 0)])), (7, (str l11s7)), (8, (Value.int .u64 (IntKind.u64.wrap ((IntKind.u64.wrap ((256 : Int) * l25i8)) + (IntKind.u64.wrap (En.bAt l11s7 l25i9)))))), (9, (Value.int .i64 (IntKind.i64.wrap (l25i9 - (1 : Int)))))] (by decide) ⟨rfl, rfl, rfl, rfl, rfl, rfl, trivial⟩)
          · replace h := bif_f hb28 h
            refine aw_exit ?_
            refine aq_then_exit ?_
            refine aq_then_exit ?_
            refine aq_block_exit ?_
            exact aq_join l25i8 h (fun w a hm hs => norm hm hs [0] [] [(1, (str a1)), (5, (Value.int .u64 l11i5)), (6, (Value.func (.func 132) #[] #[(ptr g1 0)])), (7, (str l11s7)), (8, (Value.int .u64 l25i8))] (by decide) ⟨rfl, rfl, rfl, rfl, rfl, trivial⟩)
    · replace h := bif_f hb15 h
      refine aw_exit ?_
      refine aq_then_exit ?_
      refine aq_then_exit ?_
      refine aq_block_exit ?_
      exact aq_join l11i5 h (fun w a hm hs => norm hm hs [0] [] [(1, (str a1)), (5, (Value.int .u64 l11i5)), (6, (Value.func (.func 132) #[] #[(ptr g1 0)]))] (by decide) ⟨rfl, rfl, rfl, trivial⟩)
def f_lumref_wide (fu : Nat) (a0 : Int) : Option (List UInt8) := (opt (f_lumref_digits fu a0) fun (r2 : (List UInt8)) => (opt (f_strings_Repeat fu ([0] : List UInt8) (IntKind.i64.wrap ((8 : Int) - (r2.length : Int)))) fun (r4 : (List UInt8)) => (req (r4.length + r2.length ≤ 9223372036854775807) (some (r4 ++ r2)))))
set_option maxRecDepth 100000 in
theorem f_lumref_wide_ok (fu : Nat) (a0 : Int) {r : (List UInt8)} (h : f_lumref_wide fu a0 = some r) : FnOk Tryd.prog 99 [(Value.int .u64 a0)] [] [] (fun (i : Unit) => { val := (str r) }) := by
  unfold f_lumref_wide at h
  refine fn_enter Tryd.func99 rfl Tryd.ntmps99 rfl (fun w0 Z0 => ?_)
  refine aw_seq ?_
  refine aw_region ?_
  refine al_val (ov_assign rfl rfl) ?_
  refine al_nil ?_
  refine aq_then ?_
  refine aw_seq ?_
  refine aw_region ?_
  refine al_val (ov_move rfl rfl) ?_
  obtain ⟨r2, hc1, h⟩ := opt_some h
  refine al_call (vs := [(Value.int .u64 a0)]) (f_lumref_digits_ok fu a0 hc1) [] [] [] pre_nil rfl (by simp) (by decide) (.inl rfl) rfl Tryd.func98 rfl rfl rfl (fun _ => ?_)
  refine al_val (ov_assign rfl rfl) ?_
  refine al_nil ?_
  refine aq_then ?_
  refine aw_seq ?_
  refine aw_region ?_
  refine al_val (ov_move rfl rfl) ?_
  refine al_val (ov_strLen Tryd.underlying9 rfl rfl) ?_
  refine al_val (ov_int rfl rfl rfl rfl) ?_
  obtain ⟨r4, hc3, h⟩ := opt_some h
  refine al_call (vs := [(str ([0] : List UInt8)), (Value.int .i64 (IntKind.i64.wrap ((8 : Int) - (r2.length : Int))))]) (f_strings_Repeat_ok fu ([0] : List UInt8) (IntKind.i64.wrap ((8 : Int) - (r2.length : Int))) hc3) [] [] [] pre_nil rfl (by simp) (by decide) (.inl rfl) rfl Tryd.func131 rfl rfl rfl (fun _ => ?_)
  refine al_val (ov_move rfl rfl) ?_
  obtain ⟨hc5, h⟩ := req_some h
  refine al_val (ov_strAdd hc5 rfl rfl rfl) ?_
  refine al_val (ov_assign rfl rfl) ?_
  refine al_nil ?_
  refine aq_then ?_
  refine aw_ret ?_
  obtain rfl := Option.some.inj h
  exact fn_ret () [] [] rfl rfl rfl rfl (res1 rfl rfl) rfl rfl rfl (by decide)
def f_lumref_ID (fu : Nat) (a0 : (List UInt8)) : Option A8u8 := (opt (f_lumref_Narrow fu (64 : Int) a0) fun (r3 : Int) => (opt (f_lumref_wide fu r3) fun (r5 : (List UInt8)) => (req (r5.length ≤ 9223372036854775807) (req (8 ≤ r5.length) (some (ofA8u8 r5))))))
set_option maxRecDepth 100000 in
theorem f_lumref_ID_ok (fu : Nat) (a0 : (List UInt8)) {r : A8u8} (h : f_lumref_ID fu a0 = some r) : FnOk Tryd.prog 57 [(str a0)] [] [] (fun (i : Unit) => { val := (ag (cA8u8 r)) }) := by
  unfold f_lumref_ID at h
  refine fn_enter Tryd.func57 rfl Tryd.ntmps57 rfl (fun w0 Z0 => ?_)
  refine aw_seq ?_
  refine aw_region ?_
  refine al_alloc (zs := (cA8u8 (A8u8.mk (0 : UInt8) (0 : UInt8) (0 : UInt8) (0 : UInt8) (0 : UInt8) (0 : UInt8) (0 : UInt8) (0 : UInt8)))) (zeroOf_to to49) rfl rfl (fun g1 => ?_)
  refine al_nil ?_
  refine aq_then ?_
  refine aw_seq ?_
  refine aw_region ?_
  refine al_val (ov_move rfl rfl) ?_
  obtain ⟨r3, hc2, h⟩ := opt_some h
  refine al_call (vs := [(Value.int .i64 (64 : Int)), (str a0)]) (f_lumref_Narrow_ok fu (64 : Int) a0 hc2) [] [] [0] pre_nil rfl (by simp) (by decide) (.inl rfl) rfl Tryd.func100 rfl rfl rfl (fun _ => ?_)
  obtain ⟨r5, hc4, h⟩ := opt_some h
  refine al_call (vs := [(Value.int .u64 r3)]) (f_lumref_wide_ok fu r3 hc4) [] [] [0] pre_nil rfl (by simp) (by decide) (.inl rfl) rfl Tryd.func99 rfl rfl rfl (fun _ => ?_)
  obtain ⟨hc6, h⟩ := req_some h
  refine al_bytes hc6 rfl Tryd.underlying9 Tryd.underlying89 Tryd.underlying5 rfl (fun s7 => ?_)
  obtain ⟨hc9, h⟩ := req_some h
  refine al_s2ap (τA := tyA8u8) (x := (ofA8u8 r5)) 0 8 hc9 rfl (fun h9 => oflA8u8 hc9 h9) rfl rfl Tryd.underlying49 rfl (fun p8 => ?_)
  refine al_val (ov_loadP (ds := (cA8u8 (ofA8u8 r5))) 0 rfl encA8u8 rfl Tryd.underlying49 sz49 rfl rfl rfl) ?_
  refine al_store (i := 0) (vs := (cA8u8 (ofA8u8 r5))) (cs' := (cA8u8 (ofA8u8 r5))) rfl rfl rfl sz49 (cv_rfl rfl) rfl (co_all (oneA8u8 (ofA8u8 r5))) (Nat.le_of_ble_eq_true rfl) rfl rfl ?_
  refine al_nil ?_
  refine aq_then ?_
  refine aw_ret ?_
  obtain rfl := Option.some.inj h
  exact fn_ret () [] [] rfl rfl rfl rfl (resC rfl (resB (i := 0) rfl rfl Tryd.underlying49 sz49 rfl rfl rfl (resN)) rfl) rfl rfl rfl (by decide)
def f_lumref_Frame (fu : Nat) (a0 : (List UInt8)) : Option (List UInt8) := (opt (f_lumref_Put fu (IntKind.u64.wrap (a0.length : Int))) fun (r2 : (List UInt8)) => (req (r2.length + a0.length ≤ 9223372036854775807) (opt (f_lumref_ID fu (r2 ++ a0)) fun (r5 : A8u8) => (req ((r2 ++ a0).length + (lA8u8 r5).length ≤ 9223372036854775807) (some ((r2 ++ a0) ++ (lA8u8 r5)))))))
set_option maxRecDepth 100000 in
theorem f_lumref_Frame_ok (fu : Nat) (a0 : (List UInt8)) {r : (List UInt8)} (h : f_lumref_Frame fu a0 = some r) : FnOk Tryd.prog 11 [(str a0)] [] [] (fun (i : Unit) => { val := (str r) }) := by
  unfold f_lumref_Frame at h
  refine fn_enter Tryd.func11 rfl Tryd.ntmps11 rfl (fun w0 Z0 => ?_)
  refine aw_seq ?_
  refine aw_region ?_
  refine al_val (ov_assign rfl rfl) ?_
  refine al_nil ?_
  refine aq_then ?_
  refine aw_seq ?_
  refine aw_region ?_
  refine al_val (ov_move rfl rfl) ?_
  refine al_val (ov_strLen Tryd.underlying9 rfl rfl) ?_
  refine al_val (ov_convInt (by rw [Tryd.underlying3]; rfl) Tryd.underlying87 rfl rfl) ?_
  obtain ⟨r2, hc1, h⟩ := opt_some h
  refine al_call (vs := [(Value.int .u64 (IntKind.u64.wrap (a0.length : Int)))]) (f_lumref_Put_ok fu (IntKind.u64.wrap (a0.length : Int)) hc1) [] [] [] pre_nil rfl (by simp) (by decide) (.inl rfl) rfl Tryd.func56 rfl rfl rfl (fun _ => ?_)
  refine al_val (ov_move rfl rfl) ?_
  obtain ⟨hc3, h⟩ := req_some h
  refine al_val (ov_strAdd hc3 rfl rfl rfl) ?_
  refine al_val (ov_assign rfl rfl) ?_
  refine al_nil ?_
  refine aq_then ?_
  refine aw_seq ?_
  refine aw_region ?_
  refine al_val (ov_move rfl rfl) ?_
  obtain ⟨r5, hc4, h⟩ := opt_some h
  refine al_call (vs := [(str (r2 ++ a0))]) (f_lumref_ID_ok fu (r2 ++ a0) hc4) [] [] [] pre_nil rfl (by simp) (by decide) (.inl rfl) rfl Tryd.func57 rfl rfl rfl (fun _ => ?_)
  refine al_alloc (zs := (cA8u8 (A8u8.mk (0 : UInt8) (0 : UInt8) (0 : UInt8) (0 : UInt8) (0 : UInt8) (0 : UInt8) (0 : UInt8) (0 : UInt8)))) (zeroOf_to to49) rfl rfl (fun g6 => ?_)
  refine al_store (i := 0) (vs := (cA8u8 r5)) (cs' := (cA8u8 r5)) rfl rfl rfl sz49 (cv_rfl rfl) rfl (co_all (oneA8u8 r5)) (Nat.le_of_ble_eq_true rfl) rfl rfl ?_
  refine al_nil ?_
  refine aq_then ?_
  refine aw_seq ?_
  refine aw_freezeB 0 (r5) rfl rfl (fun _ _ => mkA8u8 rfl) ?_
  refine aw_region ?_
  refine al_val (ov_move rfl rfl) ?_
  refine al_of (of_sliceP 0 lrepA8u8 rfl rfl rfl rfl Tryd.underlying49 sz5 rfl) (fun s7 => ?_)
  refine al_val (ov_toStr 0 rfl rfl Tryd.underlying89 Tryd.underlying5 Tryd.underlying9 rfl) ?_
  obtain ⟨hc8, h⟩ := req_some h
  refine al_val (ov_strAdd hc8 rfl rfl rfl) ?_
  refine al_val (ov_assign rfl rfl) ?_
  refine al_nil ?_
  refine aq_then ?_
  refine aw_ret ?_
  obtain rfl := Option.some.inj h
  exact fn_ret () [] [] rfl rfl rfl rfl (res1 rfl rfl) rfl rfl rfl (by decide)
def f_lumref_HeadText_L18 (a0 : S_api_Head) (kk13 : ((List UInt8) → Option (List UInt8))) (fu : Nat) : Nat → (List UInt8) → Int → Option (List UInt8)
  | 0, _, _ => none
  | k17 + 1, l16s3, l16i43 => (bif (decide (l16i43 < (a0.Snaps.length : Int))) then (opt (at? a0.Snaps l16i43) fun (u20 : S_api_Snap) => (opt (f_lumref_PutText fu u20.Name) fun (r25 : ((List UInt8) × Int)) => (opt (f_lumref_Put fu (IntKind.u64.wrap u20.Time)) fun (r28 : (List UInt8)) => (req (r25.1.length + r28.length ≤ 9223372036854775807) (req ((r25.1 ++ r28).length + (lA8u8 u20.Root).length ≤ 9223372036854775807) (req (l16s3.length + ((r25.1 ++ r28) ++ (lA8u8 u20.Root)).length ≤ 9223372036854775807) (f_lumref_HeadText_L18 a0 kk13 fu k17 (l16s3 ++ ((r25.1 ++ r28) ++ (lA8u8 u20.Root))) (IntKind.i64.wrap (l16i43 + (1 : Int)))))))))) else (kk13 l16s3))
def f_lumref_HeadText_L36 (a0 : S_api_Head) (kk8 : ((List UInt8) → Option (List UInt8))) (fu : Nat) : Nat → (List UInt8) → Int → Option (List UInt8)
  | 0, _, _ => none
  | k35 + 1, l34s3, l34i23 => (bif (decide (l34i23 < (a0.Packs.length : Int))) then (opt (at? a0.Packs l34i23) fun (u38 : Int) => (opt (f_lumref_Put fu (IntKind.u64.wrap u38)) fun (r42 : (List UInt8)) => (req (l34s3.length + r42.length ≤ 9223372036854775807) (f_lumref_HeadText_L36 a0 kk8 fu k35 (l34s3 ++ r42) (IntKind.i64.wrap (l34i23 + (1 : Int))))))) else (kk8 l34s3))
def f_lumref_HeadText (fu : Nat) (a0 : S_api_Head) : Option (List UInt8) := (opt (f_lumref_Put fu (IntKind.u64.wrap a0.Next)) fun (r3 : (List UInt8)) => (opt (f_lumref_Put fu (IntKind.u64.wrap (a0.Packs.length : Int))) fun (r5 : (List UInt8)) => (req (r3.length + r5.length ≤ 9223372036854775807) (lt (fun (j7s3 : (List UInt8)) => (opt (f_lumref_Put fu (IntKind.u64.wrap (a0.Snaps.length : Int))) fun (r10 : (List UInt8)) => (req (j7s3.length + r10.length ≤ 9223372036854775807) (lt (fun (j12s3 : (List UInt8)) => (opt (f_lumref_Frame fu j12s3) fun (r15 : (List UInt8)) => (some r15))) fun (kk13 : (List UInt8) → Option (List UInt8)) => (f_lumref_HeadText_L18 a0 kk13 fu fu (j7s3 ++ r10) (0 : Int)))))) fun (kk8 : (List UInt8) → Option (List UInt8)) => (f_lumref_HeadText_L36 a0 kk8 fu fu (r3 ++ r5) (0 : Int))))))
set_option maxRecDepth 100000 in
theorem f_lumref_HeadText_ok (fu : Nat) (v0_1 : Value) (v0_2 : Value) (a0 : S_api_Head) {r : (List UInt8)} (h : f_lumref_HeadText fu a0 = some r) : FnOk Tryd.prog 34 [(ag [(Value.int .i64 a0.Next), v0_1, v0_2])] [(fDat (tyList (tyInt .i64)) [v0_1] a0.Packs), (fDat (tyList tyS_api_Snap) [v0_2] a0.Snaps), uMax] [] (fun (i : Unit) => { val := (str r) }) := by
  unfold f_lumref_HeadText at h
  refine fn_enter Tryd.func34 rfl Tryd.ntmps34 rfl (fun w0 Z0 => ?_)
  refine aw_seq ?_
  refine aw_region ?_
  refine al_box (vs := [(Value.int .i64 a0.Next), v0_1, v0_2]) rfl (cv_rfl rfl) rfl (fun g1 => ?_)
  refine al_val (ov_assign rfl rfl) ?_
  refine al_nil ?_
  refine aq_then ?_
  refine aw_seq ?_
  obtain ⟨r3, hc2, h⟩ := opt_some h
  obtain ⟨r5, hc4, h⟩ := opt_some h
  obtain ⟨hc6, h⟩ := req_some h
  refine aw_region_draw 10 [(10, (fun u => fEq u (ptr g1 0))), (11, (fun u => fEq u (Value.int .i64 a0.Next))), (12, (fun u => fEq u (Value.int .u64 (IntKind.u64.wrap a0.Next)))), (13, (fun u => fEq u (str r3))), (14, (fun u => fEq u (ptr g1 1))), (15, (fun u => fEq u v0_1)), (16, (fun u => fEq u (Value.int .i64 (a0.Packs.length : Int)))), (17, (fun u => fEq u (Value.int .u64 (IntKind.u64.wrap (a0.Packs.length : Int))))), (18, (fun u => fEq u (str r5))), (19, (fun u => fEq u (str (r3 ++ r5))))] (tab [(1, (ptr g1 0))]) mixed (by kernel_rfl) rfl rfl rfl (fun a hs => hs.tab _ (allT_mem ⟨rfl, trivial⟩)) ⟨⟨rfl, ld_val (ov_fieldA (p := 0) rfl Tryd.underlying62 rfl sz3 rfl rfl rfl)⟩, ⟨rfl, ld_eq (j := 0) rfl rfl (ld_val (ov_load (i := 0) (v := (Value.int .i64 a0.Next)) rfl rfl Tryd.underlying3 sz3 rfl rfl rfl rfl))⟩, ⟨rfl, ld_eq (j := 1) rfl rfl (ld_val (ov_convInt (by rw [Tryd.underlying3]; rfl) Tryd.underlying87 rfl rfl))⟩, ⟨rfl, ld_eq (j := 2) rfl rfl (ld_callV (vs := [(Value.int .u64 (IntKind.u64.wrap a0.Next))]) (f_lumref_Put_ok fu (IntKind.u64.wrap a0.Next) hc2) [] pre_nil rfl Tryd.func56 rfl rfl rfl)⟩, ⟨rfl, ld_val (ov_fieldA (p := 1) rfl Tryd.underlying62 rfl sz59 rfl rfl rfl)⟩, ⟨rfl, ld_eq (j := 4) rfl rfl (ld_val (ov_load (i := 0) (v := v0_1) rfl rfl Tryd.underlying59 sz59 rfl rfl rfl rfl))⟩, ⟨rfl, ld_eq (j := 5) rfl rfl (ld_val (ov_lenD 0 rfl rfl Tryd.underlying59 rfl))⟩, ⟨rfl, ld_eq (j := 6) rfl rfl (ld_val (ov_convInt (by rw [Tryd.underlying3]; rfl) Tryd.underlying87 rfl rfl))⟩, ⟨rfl, ld_eq (j := 7) rfl rfl (ld_callV (vs := [(Value.int .u64 (IntKind.u64.wrap (a0.Packs.length : Int)))]) (f_lumref_Put_ok fu (IntKind.u64.wrap (a0.Packs.length : Int)) hc4) [] pre_nil rfl Tryd.func56 rfl rfl rfl)⟩, ⟨rfl, ld_eq (j := 3) rfl rfl (ld_eq (j := 8) rfl rfl (ld_val (ov_strAdd hc6 rfl rfl rfl)))⟩, trivial⟩ ?_
  refine tl_eq 9 rfl ?_
  refine tl_done ?_
  refine al_val (ov_assign rfl rfl) ?_
  refine al_nil ?_
  refine aq_then ?_
  obtain ⟨kk8, hkk8, h⟩ := lt_some h
  refine aw_seq_join (ι := (List UInt8)) (fun i => (memOf w0 Z0 [] [(oBox g1 62 [(Value.int .i64 a0.Next), v0_1, v0_2])] [(fDat (tyList (tyInt .i64)) [v0_1] a0.Packs), (fDat (tyList tyS_api_Snap) [v0_2] a0.Snaps), uMax])) (fun i => (tab [(1, (ptr g1 0)), (3, (str i))])) (fun i => kk8 i = some r) ?_ ?_
  · rintro j7s3 h
    have h : kk8 j7s3 = some r := h
    rw [hkk8] at h
    dsimp only at h
    clear hkk8
    refine aw_show (m := (memOf w0 Z0 [] [(oBox g1 62 [(Value.int .i64 a0.Next), v0_1, v0_2])] [(fDat (tyList (tyInt .i64)) [v0_1] a0.Packs), (fDat (tyList tyS_api_Snap) [v0_2] a0.Snaps), uMax])) (S := (tab [(1, (ptr g1 0)), (3, (str j7s3))])) ?_
    refine aw_seq ?_
    refine aw_region ?_
    refine al_val (ov_move rfl rfl) ?_
    refine al_val (ov_fieldA (p := 2) rfl Tryd.underlying62 rfl sz60 rfl rfl rfl) ?_
    refine al_val (ov_load (i := 0) (v := v0_2) rfl rfl Tryd.underlying60 sz60 rfl rfl rfl rfl) ?_
    refine al_val (ov_lenD 1 rfl rfl Tryd.underlying60 rfl) ?_
    refine al_val (ov_convInt (by rw [Tryd.underlying3]; rfl) Tryd.underlying87 rfl rfl) ?_
    obtain ⟨r10, hc9, h⟩ := opt_some h
    refine al_call (vs := [(Value.int .u64 (IntKind.u64.wrap (a0.Snaps.length : Int)))]) (f_lumref_Put_ok fu (IntKind.u64.wrap (a0.Snaps.length : Int)) hc9) [] [] [0] pre_nil rfl (by simp) (by decide) (.inl rfl) rfl Tryd.func56 rfl rfl rfl (fun _ => ?_)
    obtain ⟨hc11, h⟩ := req_some h
    refine al_val (ov_strAdd hc11 rfl rfl rfl) ?_
    refine al_val (ov_assign rfl rfl) ?_
    refine al_nil ?_
    refine aq_then ?_
    obtain ⟨kk13, hkk13, h⟩ := lt_some h
    refine aw_seq_join (ι := (List UInt8)) (fun i => (memOf w0 Z0 [] [] [(fDat (tyList (tyInt .i64)) [v0_1] a0.Packs), (fDat (tyList tyS_api_Snap) [v0_2] a0.Snaps), uMax])) (fun i => (tab [(3, (str i))])) (fun i => kk13 i = some r) ?_ ?_
    · rintro j12s3 h
      have h : kk13 j12s3 = some r := h
      rw [hkk13] at h
      dsimp only at h
      clear hkk13
      refine aw_show (m := (memOf w0 Z0 [] [] [(fDat (tyList (tyInt .i64)) [v0_1] a0.Packs), (fDat (tyList tyS_api_Snap) [v0_2] a0.Snaps), uMax])) (S := (tab [(3, (str j12s3))])) ?_
      refine aw_seq ?_
      refine aw_region ?_
      refine al_val (ov_move rfl rfl) ?_
      obtain ⟨r15, hc14, h⟩ := opt_some h
      refine al_call (vs := [(str j12s3)]) (f_lumref_Frame_ok fu j12s3 hc14) [] [] [] pre_nil rfl (by simp) (by decide) (.inl rfl) rfl Tryd.func11 rfl rfl rfl (fun _ => ?_)
      refine al_val (ov_assign rfl rfl) ?_
      refine al_nil ?_
      refine aq_then ?_
      refine aw_ret ?_
      obtain rfl := Option.some.inj h
      exact fn_ret () [] [] rfl rfl rfl rfl (res1 rfl rfl) rfl rfl rfl (by decide)
    · clear hkk13
      refine aw_seq ?_
      refine aw_region ?_
      refine al_val (ov_fieldA (p := 2) rfl Tryd.underlying62 rfl sz60 rfl rfl rfl) ?_
      refine al_val (ov_load (i := 0) (v := v0_2) rfl rfl Tryd.underlying60 sz60 rfl rfl rfl rfl) ?_
      refine al_val (ov_lenD 1 rfl rfl Tryd.underlying60 rfl) ?_
      refine al_val (ov_move rfl rfl) ?_
      refine al_nil ?_
      refine aq_then ?_
      refine aw_block ?_
      refine aw_state (aw_loop (ι := (List UInt8) × Int) (fun i => (memOf w0 Z0 [] [] [(fDat (tyList tyS_api_Snap) [v0_2] a0.Snaps), (fDat (tyList (tyInt .i64)) [v0_1] a0.Packs), uMax])) (fun i => (tab [(3, (str i.1)), (41, v0_2), (42, (Value.int .i64 (a0.Snaps.length : Int))), (43, (Value.int .i64 i.2))])) (fun q i => f_lumref_HeadText_L18 a0 kk13 fu q i.1 i.2 = some r) ?_ fu ((j7s3 ++ r10), (0 : Int)) h) (fun w a hm hs => norm hm hs [] [1, 0, 2] [(3, (str (j7s3 ++ r10))), (41, v0_2), (42, (Value.int .i64 (a0.Snaps.length : Int))), (43, (Value.int .i64 (0 : Int)))] (by decide) ⟨rfl, rfl, rfl, rfl, trivial⟩)
      clear h
      rintro k17 ⟨l16s3, l16i43⟩ h
      have h : f_lumref_HeadText_L18 a0 kk13 fu k17 l16s3 l16i43 = some r := h
      obtain _ | k17 := k17
      · rw [f_lumref_HeadText_L18] at h; cases h
      rw [f_lumref_HeadText_L18] at h
      refine aw_show (m := (memOf w0 Z0 [] [] [(fDat (tyList tyS_api_Snap) [v0_2] a0.Snaps), (fDat (tyList (tyInt .i64)) [v0_1] a0.Packs), uMax])) (S := (tab [(3, (str l16s3)), (41, v0_2), (42, (Value.int .i64 (a0.Snaps.length : Int))), (43, (Value.int .i64 l16i43))])) ?_
      refine aw_seq ?_
      refine aw_region ?_
      refine al_val (ov_int rfl rfl rfl rfl) ?_
      refine al_nil ?_
      refine aq_then ?_
      refine aw_seq ?_
      refine aw_cond rfl (fun hb19 => ?_) (fun hb19 => ?_)
      · replace h := bif_t hb19 h
        refine aw_skip ?_
        refine aq_then ?_
        refine aw_seq ?_
        refine aw_block ?_
        refine aw_seq ?_
        refine aw_region ?_
        obtain ⟨u20, hu21, h⟩ := opt_some h
        refine al_idxD 0 hu21 rfl rfl rfl Tryd.underlying60 sz104 rfl (fun p22 => ?_)
        refine al_val (ov_loadP (ds := ([(str u20.Name), (Value.int .i64 u20.Time)] ++ (cA8u8 u20.Root))) 0 rfl encS_api_Snap rfl Tryd.underlying104 sz104 rfl rfl rfl) ?_
        refine al_alloc (zs := ([(str ([] : List UInt8)), (Value.int .i64 (0 : Int))] ++ (cA8u8 (A8u8.mk (0 : UInt8) (0 : UInt8) (0 : UInt8) (0 : UInt8) (0 : UInt8) (0 : UInt8) (0 : UInt8) (0 : UInt8))))) (zeroOf_to to104) rfl rfl (fun g23 => ?_)
        refine al_store (i := 0) (vs := ([(str u20.Name), (Value.int .i64 u20.Time)] ++ (cA8u8 u20.Root))) (cs' := ([(str u20.Name), (Value.int .i64 u20.Time)] ++ (cA8u8 u20.Root))) rfl rfl rfl sz104 (cv_rfl rfl) rfl (co_val rfl (co_val rfl (co_all (oneA8u8 u20.Root)))) (Nat.le_of_ble_eq_true rfl) rfl rfl ?_
        refine al_nil ?_
        refine aq_then ?_
        refine aw_seq ?_
        refine aw_region ?_
        refine al_val (ov_fieldA (p := 0) rfl Tryd.underlying104 rfl sz9 rfl rfl rfl) ?_
        refine al_val (ov_load (i := 0) (v := (str u20.Name)) rfl rfl Tryd.underlying9 sz9 rfl rfl rfl rfl) ?_
        obtain ⟨r25, hc24, h⟩ := opt_some h
        refine al_call (vs := [(str u20.Name)]) (f_lumref_PutText_ok fu u20.Name hc24) [] [] [0] (pre_fz 3 rfl pre_nil) rfl (by simp) (by decide) (.inl rfl) rfl Tryd.func64 rfl rfl rfl (fun _ => ?_)
        refine al_val (ov_move rfl rfl) ?_
        refine al_val (ov_extract rfl rfl rfl) ?_
        refine al_val (ov_extract rfl rfl rfl) ?_
        refine al_val (ov_assign rfl rfl) ?_
        refine al_val (ov_assign rfl rfl) ?_
        refine al_nil ?_
        refine aq_then ?_
        refine aw_freezeB 0 (u20) rfl rfl (fun _ _ => mkS_api_Snap rfl) ?_
        obtain ⟨r28, hc27, h⟩ := opt_some h
        obtain ⟨hc29, h⟩ := req_some h
        obtain ⟨hc32, h⟩ := req_some h
        obtain ⟨hc33, h⟩ := req_some h
        refine aw_region_draw 12 [(53, (fun u => fEq u (str l16s3))), (54, (fun u => fEq u (str r25.1))), (55, (fun p26 => (fPtr (tyInt .i64) p26 u20.Time))), (56, (fun u => fEq u (Value.int .i64 u20.Time))), (57, (fun u => fEq u (Value.int .u64 (IntKind.u64.wrap u20.Time)))), (58, (fun u => fEq u (str r28))), (59, (fun u => fEq u (str (r25.1 ++ r28)))), (60, (fun p30 => (fPtr tyA8u8 p30 u20.Root))), (61, (fun s31 => (fDat (tyList tyU8) [s31] (lA8u8 u20.Root)))), (62, (fun u => fEq u (str (lA8u8 u20.Root)))), (63, (fun u => fEq u (str ((r25.1 ++ r28) ++ (lA8u8 u20.Root))))), (64, (fun u => fEq u (str (l16s3 ++ ((r25.1 ++ r28) ++ (lA8u8 u20.Root))))))] (tab [(3, (str l16s3)), (7, (ptr g23 0)), (8, (str r25.1)), (41, v0_2), (42, (Value.int .i64 (a0.Snaps.length : Int))), (43, (Value.int .i64 l16i43))]) mixed (by kernel_rfl) rfl rfl rfl (fun a hs => hs.tab _ (allT_mem ⟨rfl, rfl, rfl, rfl, rfl, rfl, trivial⟩)) ⟨⟨rfl, ld_val (ov_move rfl rfl)⟩, ⟨rfl, ld_val (ov_move rfl rfl)⟩, ⟨rfl, ld_of (of_fieldD (pr := fun (y : S_api_Snap) => y.Time) 0 rfl subS_api_Snap_1 rfl Tryd.underlying104 rfl sz3 rfl rfl)⟩, ⟨rfl, ld_fact (j := 2) rfl rfl (fun p26 => ld_val (ov_loadP (ds := [(Value.int .i64 u20.Time)]) 0 rfl (fun h => h) rfl Tryd.underlying3 sz3 rfl rfl rfl))⟩, ⟨rfl, ld_eq (j := 3) rfl rfl (ld_val (ov_convInt (by rw [Tryd.underlying3]; rfl) Tryd.underlying87 rfl rfl))⟩, ⟨rfl, ld_eq (j := 4) rfl rfl (ld_callV (vs := [(Value.int .u64 (IntKind.u64.wrap u20.Time))]) (f_lumref_Put_ok fu (IntKind.u64.wrap u20.Time) hc27) [] pre_nil rfl Tryd.func56 rfl rfl rfl)⟩, ⟨rfl, ld_eq (j := 1) rfl rfl (ld_eq (j := 5) rfl rfl (ld_val (ov_strAdd hc29 rfl rfl rfl)))⟩, ⟨rfl, ld_of (of_fieldD (pr := fun (y : S_api_Snap) => y.Root) 0 rfl subS_api_Snap_2 rfl Tryd.underlying104 rfl sz49 rfl rfl)⟩, ⟨rfl, ld_fact (j := 7) rfl rfl (fun p30 => ld_of (of_sliceP 0 lrepA8u8 rfl rfl rfl rfl Tryd.underlying49 sz5 rfl))⟩, ⟨rfl, ld_fact (j := 8) rfl rfl (fun s31 => ld_val (ov_toStr 0 rfl rfl Tryd.underlying89 Tryd.underlying5 Tryd.underlying9 rfl))⟩, ⟨rfl, ld_eq (j := 6) rfl rfl (ld_eq (j := 9) rfl rfl (ld_val (ov_strAdd hc32 rfl rfl rfl)))⟩, ⟨rfl, ld_eq (j := 0) rfl rfl (ld_eq (j := 10) rfl rfl (ld_val (ov_strAdd hc33 rfl rfl rfl)))⟩, trivial⟩ ?_
        refine tl_eq 11 rfl ?_
        refine tl_done ?_
        refine al_val (ov_assign rfl rfl) ?_
        refine al_nil ?_
        refine aq_block ?_
        refine aq_then ?_
        refine aw_region ?_
        refine al_val (ov_int rfl rfl rfl rfl) ?_
        refine al_val (ov_move rfl rfl) ?_
        refine al_nil ?_
        exact aq_again k17 ((l16s3 ++ ((r25.1 ++ r28) ++ (lA8u8 u20.Root))), (IntKind.i64.wrap (l16i43 + (1 : Int)))) (Nat.lt_succ_self _) h (fun w a hm hs => norm hm hs [] [2, 3, 4] [(3, (str (l16s3 ++ ((r25.1 ++ r28) ++ (lA8u8 u20.Root))))), (41, v0_2), (42, (Value.int .i64 (a0.Snaps.length : Int))), (43, (Value.int .i64 (IntKind.i64.wrap (l16i43 + (1 : Int)))))] (by decide) ⟨rfl, rfl, rfl, rfl, trivial⟩)
      · replace h := bif_f hb19 h
        refine aw_exit ?_
        refine aq_then_exit ?_
        refine aq_then_exit ?_
        refine aq_block_exit ?_
        exact aq_join l16s3 h (fun w a hm hs => norm hm hs [] [1, 0, 2] [(3, (str l16s3))] (by decide) ⟨rfl, trivial⟩)
  · clear hkk8
    refine aw_seq ?_
    refine aw_region ?_
    refine al_val (ov_fieldA (p := 1) rfl Tryd.underlying62 rfl sz59 rfl rfl rfl) ?_
    refine al_val (ov_load (i := 0) (v := v0_1) rfl rfl Tryd.underlying59 sz59 rfl rfl rfl rfl) ?_
    refine al_val (ov_lenD 0 rfl rfl Tryd.underlying59 rfl) ?_
    refine al_val (ov_move rfl rfl) ?_
    refine al_nil ?_
    refine aq_then ?_
    refine aw_block ?_
    refine aw_state (aw_loop (ι := (List UInt8) × Int) (fun i => (memOf w0 Z0 [] [(oBox g1 62 [(Value.int .i64 a0.Next), v0_1, v0_2])] [(fDat (tyList (tyInt .i64)) [v0_1] a0.Packs), (fDat (tyList tyS_api_Snap) [v0_2] a0.Snaps), uMax])) (fun i => (tab [(1, (ptr g1 0)), (3, (str i.1)), (21, v0_1), (22, (Value.int .i64 (a0.Packs.length : Int))), (23, (Value.int .i64 i.2))])) (fun q i => f_lumref_HeadText_L36 a0 kk8 fu q i.1 i.2 = some r) ?_ fu ((r3 ++ r5), (0 : Int)) h) (fun w a hm hs => norm hm hs [0] [0, 1, 2] [(1, (ptr g1 0)), (3, (str (r3 ++ r5))), (21, v0_1), (22, (Value.int .i64 (a0.Packs.length : Int))), (23, (Value.int .i64 (0 : Int)))] (by decide) ⟨rfl, rfl, rfl, rfl, rfl, trivial⟩)
    clear h
    rintro k35 ⟨l34s3, l34i23⟩ h
    have h : f_lumref_HeadText_L36 a0 kk8 fu k35 l34s3 l34i23 = some r := h
    obtain _ | k35 := k35
    · rw [f_lumref_HeadText_L36] at h; cases h
    rw [f_lumref_HeadText_L36] at h
    refine aw_show (m := (memOf w0 Z0 [] [(oBox g1 62 [(Value.int .i64 a0.Next), v0_1, v0_2])] [(fDat (tyList (tyInt .i64)) [v0_1] a0.Packs), (fDat (tyList tyS_api_Snap) [v0_2] a0.Snaps), uMax])) (S := (tab [(1, (ptr g1 0)), (3, (str l34s3)), (21, v0_1), (22, (Value.int .i64 (a0.Packs.length : Int))), (23, (Value.int .i64 l34i23))])) ?_
    refine aw_seq ?_
    refine aw_region ?_
    refine al_val (ov_int rfl rfl rfl rfl) ?_
    refine al_nil ?_
    refine aq_then ?_
    refine aw_seq ?_
    refine aw_cond rfl (fun hb37 => ?_) (fun hb37 => ?_)
    · replace h := bif_t hb37 h
      refine aw_skip ?_
      refine aq_then ?_
      refine aw_seq ?_
      refine aw_block ?_
      refine aw_seq ?_
      refine aw_region ?_
      obtain ⟨u38, hu39, h⟩ := opt_some h
      refine al_idxD 0 hu39 rfl rfl rfl Tryd.underlying59 sz3 rfl (fun p40 => ?_)
      refine al_val (ov_loadP (ds := [(Value.int .i64 u38)]) 0 rfl (fun h => h) rfl Tryd.underlying3 sz3 rfl rfl rfl) ?_
      refine al_val (ov_assign rfl rfl) ?_
      refine al_nil ?_
      refine aq_then ?_
      refine aw_region ?_
      refine al_val (ov_move rfl rfl) ?_
      refine al_val (ov_move rfl rfl) ?_
      refine al_val (ov_convInt (by rw [Tryd.underlying3]; rfl) Tryd.underlying87 rfl rfl) ?_
      obtain ⟨r42, hc41, h⟩ := opt_some h
      refine al_call (vs := [(Value.int .u64 (IntKind.u64.wrap u38))]) (f_lumref_Put_ok fu (IntKind.u64.wrap u38) hc41) [] [] [0] pre_nil rfl (by simp) (by decide) (.inl rfl) rfl Tryd.func56 rfl rfl rfl (fun _ => ?_)
      obtain ⟨hc43, h⟩ := req_some h
      refine al_val (ov_strAdd hc43 rfl rfl rfl) ?_
      refine al_val (ov_assign rfl rfl) ?_
      refine al_nil ?_
      refine aq_block ?_
      refine aq_then ?_
      refine aw_region ?_
      refine al_val (ov_int rfl rfl rfl rfl) ?_
      refine al_val (ov_move rfl rfl) ?_
      refine al_nil ?_
      exact aq_again k35 ((l34s3 ++ r42), (IntKind.i64.wrap (l34i23 + (1 : Int)))) (Nat.lt_succ_self _) h (fun w a hm hs => norm hm hs [0] [1, 2, 3] [(1, (ptr g1 0)), (3, (str (l34s3 ++ r42))), (21, v0_1), (22, (Value.int .i64 (a0.Packs.length : Int))), (23, (Value.int .i64 (IntKind.i64.wrap (l34i23 + (1 : Int)))))] (by decide) ⟨rfl, rfl, rfl, rfl, rfl, trivial⟩)
    · replace h := bif_f hb37 h
      refine aw_exit ?_
      refine aq_then_exit ?_
      refine aq_then_exit ?_
      refine aq_block_exit ?_
      exact aq_join l34s3 h (fun w a hm hs => norm hm hs [0] [0, 1, 2] [(1, (ptr g1 0)), (3, (str l34s3))] (by decide) ⟨rfl, rfl, trivial⟩)
def f_num_value_L5 (a0 : (List UInt8)) (kk2 : (Int → Option Int)) : Nat → Int → Int → Option Int
  | 0, _, _ => none
  | k4 + 1, l3i3, l3i7 => (bif (decide (l3i7 < (a0.length : Int))) then (req (0 ≤ l3i7 ∧ l3i7 < (a0.length : Int)) (f_num_value_L5 a0 kk2 k4 (bits .or .u64 (IntKind.u64.wrap (l3i3 * 2 ^ min ((8 : Int)).toNat (IntKind.bits .u64))) (IntKind.u64.wrap (En.bAt a0 l3i7))) (IntKind.i64.wrap (l3i7 + (1 : Int))))) else (kk2 l3i3))
def f_num_value (fu : Nat) (a0 : (List UInt8)) : Option Int := (lt (fun (j1i3 : Int) => (some j1i3)) fun (kk2 : Int → Option Int) => (f_num_value_L5 a0 kk2 fu (0 : Int) (0 : Int)))
set_option maxRecDepth 100000 in
theorem f_num_value_ok (fu : Nat) (a0 : (List UInt8)) {r : Int} (h : f_num_value fu a0 = some r) : FnOk Tryd.prog 101 [(str a0)] [] [] (fun (i : Unit) => { val := (Value.int .u64 r) }) := by
  unfold f_num_value at h
  refine fn_enter Tryd.func101 rfl Tryd.ntmps101 rfl (fun w0 Z0 => ?_)
  refine aw_seq ?_
  refine aw_region ?_
  refine al_val (ov_assign rfl rfl) ?_
  refine al_nil ?_
  refine aq_then ?_
  refine aw_seq ?_
  refine aw_region ?_
  refine al_val (ov_assign rfl rfl) ?_
  refine al_nil ?_
  refine aq_then ?_
  obtain ⟨kk2, hkk2, h⟩ := lt_some h
  refine aw_seq_join (ι := Int) (fun i => (memOf w0 Z0 [] [] [])) (fun i => (tab [(3, (Value.int .u64 i))])) (fun i => kk2 i = some r) ?_ ?_
  · rintro j1i3 h
    have h : kk2 j1i3 = some r := h
    rw [hkk2] at h
    dsimp only at h
    clear hkk2
    refine aw_show (m := (memOf w0 Z0 [] [] [])) (S := (tab [(3, (Value.int .u64 j1i3))])) ?_
    refine aw_seq ?_
    refine aw_region ?_
    refine al_val (ov_move rfl rfl) ?_
    refine al_val (ov_assign rfl rfl) ?_
    refine al_nil ?_
    refine aq_then ?_
    refine aw_ret ?_
    obtain rfl := Option.some.inj h
    exact fn_ret () [] [] rfl rfl rfl rfl (res1 rfl rfl) rfl rfl rfl (by decide)
  · clear hkk2
    refine aw_seq ?_
    refine aw_region ?_
    refine al_val (ov_move rfl rfl) ?_
    refine al_val (ov_strLen Tryd.underlying9 rfl rfl) ?_
    refine al_val (ov_move rfl rfl) ?_
    refine al_nil ?_
    refine aq_then ?_
    refine aw_block ?_
    refine aw_state (aw_loop (ι := Int × Int) (fun i => (memOf w0 Z0 [] [] [])) (fun i => (tab [(0, (str a0)), (3, (Value.int .u64 i.1)), (6, (Value.int .i64 (a0.length : Int))), (7, (Value.int .i64 i.2))])) (fun q i => f_num_value_L5 a0 kk2 q i.1 i.2 = some r) ?_ fu ((0 : Int), (0 : Int)) h) (fun w a hm hs => norm hm hs [] [] [(0, (str a0)), (3, (Value.int .u64 (0 : Int))), (6, (Value.int .i64 (a0.length : Int))), (7, (Value.int .i64 (0 : Int)))] (by decide) ⟨rfl, rfl, rfl, rfl, trivial⟩)
    clear h
    rintro k4 ⟨l3i3, l3i7⟩ h
    have h : f_num_value_L5 a0 kk2 k4 l3i3 l3i7 = some r := h
    obtain _ | k4 := k4
    · rw [f_num_value_L5] at h; cases h
    rw [f_num_value_L5] at h
    refine aw_show (m := (memOf w0 Z0 [] [] [])) (S := (tab [(0, (str a0)), (3, (Value.int .u64 l3i3)), (6, (Value.int .i64 (a0.length : Int))), (7, (Value.int .i64 l3i7))])) ?_
    refine aw_seq ?_
    refine aw_region ?_
    refine al_val (ov_int rfl rfl rfl rfl) ?_
    refine al_nil ?_
    refine aq_then ?_
    refine aw_seq ?_
    refine aw_cond rfl (fun hb6 => ?_) (fun hb6 => ?_)
    · replace h := bif_t hb6 h
      refine aw_skip ?_
      refine aq_then ?_
      refine aw_seq ?_
      refine aw_block ?_
      refine aw_seq ?_
      refine aw_region ?_
      refine al_val (ov_move rfl rfl) ?_
      refine al_val (ov_assign rfl rfl) ?_
      refine al_nil ?_
      refine aq_then ?_
      refine aw_region ?_
      refine al_val (ov_move rfl rfl) ?_
      refine al_val (ov_shl (by decide) rfl rfl rfl) ?_
      refine al_val (ov_move rfl rfl) ?_
      refine al_val (ov_move rfl rfl) ?_
      obtain ⟨hc7, h⟩ := req_some h
      refine al_val (ov_strIdx hc7.1 hc7.2 Tryd.underlying9 rfl rfl rfl) ?_
      refine al_val (ov_convInt (by rw [Tryd.underlying5]; rfl) Tryd.underlying87 rfl rfl) ?_
      refine al_val (ov_int rfl rfl rfl rfl) ?_
      refine al_val (ov_assign rfl rfl) ?_
      refine al_nil ?_
      refine aq_block ?_
      refine aq_then ?_
      refine aw_region ?_
      refine al_val (ov_int rfl rfl rfl rfl) ?_
      refine al_val (ov_move rfl rfl) ?_
      refine al_nil ?_
      exact aq_again k4 ((bits .or .u64 (IntKind.u64.wrap (l3i3 * 2 ^ min ((8 : Int)).toNat (IntKind.bits .u64))) (IntKind.u64.wrap (En.bAt a0 l3i7))), (IntKind.i64.wrap (l3i7 + (1 : Int)))) (Nat.lt_succ_self _) h (fun w a hm hs => norm hm hs [] [] [(0, (str a0)), (3, (Value.int .u64 (bits .or .u64 (IntKind.u64.wrap (l3i3 * 2 ^ min ((8 : Int)).toNat (IntKind.bits .u64))) (IntKind.u64.wrap (En.bAt a0 l3i7))))), (6, (Value.int .i64 (a0.length : Int))), (7, (Value.int .i64 (IntKind.i64.wrap (l3i7 + (1 : Int)))))] (by decide) ⟨rfl, rfl, rfl, rfl, trivial⟩)
    · replace h := bif_f hb6 h
      refine aw_exit ?_
      refine aq_then_exit ?_
      refine aq_then_exit ?_
      refine aq_block_exit ?_
      exact aq_join l3i3 h (fun w a hm hs => norm hm hs [] [] [(3, (Value.int .u64 l3i3))] (by decide) ⟨rfl, trivial⟩)
def f_num_Get (fu : Nat) (a0 : (List UInt8)) : Option (Int × Int × Int) := (bif (a0 == ([] : List UInt8)) then (some ((0 : Int), (0 : Int), (3 : Int))) else (req (0 ≤ (0 : Int) ∧ (0 : Int) < (a0.length : Int)) (bif (decide ((IntKind.i64.wrap (En.bAt a0 (0 : Int))) > (8 : Int))) then (some ((0 : Int), (0 : Int), (4 : Int))) else (bif (decide ((a0.length : Int) < (IntKind.i64.wrap ((1 : Int) + (IntKind.i64.wrap (En.bAt a0 (0 : Int))))))) then (some ((0 : Int), (0 : Int), (3 : Int))) else (lt (fun (j5b20 : Bool) => (bif j5b20 then (some ((0 : Int), (0 : Int), (4 : Int))) else (req (0 ≤ (1 : Int) ∧ (1 : Int) ≤ (IntKind.i64.wrap ((1 : Int) + (IntKind.i64.wrap (En.bAt a0 (0 : Int))))) ∧ (IntKind.i64.wrap ((1 : Int) + (IntKind.i64.wrap (En.bAt a0 (0 : Int))))) ≤ (a0.length : Int)) (opt (f_num_value fu (cut a0 (1 : Int) (IntKind.i64.wrap ((1 : Int) + (IntKind.i64.wrap (En.bAt a0 (0 : Int))))))) fun (r10 : Int) => (some (r10, (IntKind.i64.wrap ((1 : Int) + (IntKind.i64.wrap (En.bAt a0 (0 : Int))))), (0 : Int))))))) fun (kk6 : Bool → Option (Int × Int × Int)) => (bif (decide ((IntKind.i64.wrap (En.bAt a0 (0 : Int))) > (0 : Int))) then (req (0 ≤ (1 : Int) ∧ (1 : Int) < (a0.length : Int)) (kk6 ((En.bAt a0 (1 : Int)) == (0 : Int)))) else (kk6 false)))))))
set_option maxRecDepth 100000 in
theorem f_num_Get_ok (fu : Nat) (a0 : (List UInt8)) {r : (Int × Int × Int)} (h : f_num_Get fu a0 = some r) : FnOk Tryd.prog 58 [(str a0)] [] [] (fun (i : Unit) => { val := (Value.tuple #[(Value.int .u64 r.1), (Value.int .i64 r.2.1), (Value.int .i64 r.2.2)]) }) := by
  unfold f_num_Get at h
  refine fn_enter Tryd.func58 rfl Tryd.ntmps58 rfl (fun w0 Z0 => ?_)
  refine aw_seq ?_
  refine aw_region ?_
  refine al_val (ov_assign rfl rfl) ?_
  refine al_val (ov_assign rfl rfl) ?_
  refine al_val (ov_assign rfl rfl) ?_
  refine al_nil ?_
  refine aq_then ?_
  refine aw_seq ?_
  refine aw_seq ?_
  refine aw_region ?_
  refine al_val (ov_move rfl rfl) ?_
  refine al_val (ov_strCmp rfl rfl rfl rfl) ?_
  refine al_nil ?_
  refine aq_then ?_
  refine aw_cond rfl (fun hb1 => ?_) (fun hb1 => ?_)
  · replace h := bif_t hb1 h
    refine aw_seq ?_
    refine aw_region ?_
    refine al_val (ov_assign rfl rfl) ?_
    refine al_val (ov_assign rfl rfl) ?_
    refine al_val (ov_assign rfl rfl) ?_
    refine al_nil ?_
    refine aq_then ?_
    refine aw_ret ?_
    refine aq_then_ret ?_
    obtain rfl := Option.some.inj h
    exact fn_ret () [] [] rfl rfl rfl rfl (res3 rfl rfl rfl rfl) rfl rfl rfl (by decide)
  · replace h := bif_f hb1 h
    refine aw_skip ?_
    refine aq_then ?_
    refine aw_seq ?_
    refine aw_region ?_
    refine al_val (ov_move rfl rfl) ?_
    obtain ⟨hc2, h⟩ := req_some h
    refine al_val (ov_strIdx hc2.1 hc2.2 Tryd.underlying9 rfl rfl rfl) ?_
    refine al_val (ov_convInt (by rw [Tryd.underlying5]; rfl) Tryd.underlying3 rfl rfl) ?_
    refine al_val (ov_assign rfl rfl) ?_
    refine al_nil ?_
    refine aq_then ?_
    refine aw_seq ?_
    refine aw_block ?_
    refine aw_seq ?_
    refine aw_region ?_
    refine al_val (ov_move rfl rfl) ?_
    refine al_val (ov_int rfl rfl rfl rfl) ?_
    refine al_val (ov_assign rfl rfl) ?_
    refine al_nil ?_
    refine aq_then ?_
    refine aw_cond rfl (fun hb3 => ?_) (fun hb3 => ?_)
    · replace h := bif_t hb3 h
      refine aw_seq ?_
      refine aw_region ?_
      refine al_val (ov_assign rfl rfl) ?_
      refine al_val (ov_assign rfl rfl) ?_
      refine al_val (ov_assign rfl rfl) ?_
      refine al_nil ?_
      refine aq_then ?_
      refine aw_ret ?_
      refine aq_block_ret ?_
      refine aq_then_ret ?_
      obtain rfl := Option.some.inj h
      exact fn_ret () [] [] rfl rfl rfl rfl (res3 rfl rfl rfl rfl) rfl rfl rfl (by decide)
    · replace h := bif_f hb3 h
      refine aw_seq ?_
      refine aw_region ?_
      refine al_val (ov_move rfl rfl) ?_
      refine al_val (ov_strLen Tryd.underlying9 rfl rfl) ?_
      refine al_val (ov_move rfl rfl) ?_
      refine al_val (ov_int rfl rfl rfl rfl) ?_
      refine al_val (ov_int rfl rfl rfl rfl) ?_
      refine al_val (ov_assign rfl rfl) ?_
      refine al_nil ?_
      refine aq_then ?_
      refine aw_cond rfl (fun hb4 => ?_) (fun hb4 => ?_)
      · replace h := bif_t hb4 h
        refine aw_seq ?_
        refine aw_region ?_
        refine al_val (ov_assign rfl rfl) ?_
        refine al_val (ov_assign rfl rfl) ?_
        refine al_val (ov_assign rfl rfl) ?_
        refine al_nil ?_
        refine aq_then ?_
        refine aw_ret ?_
        refine aq_block_ret ?_
        refine aq_then_ret ?_
        obtain rfl := Option.some.inj h
        exact fn_ret () [] [] rfl rfl rfl rfl (res3 rfl rfl rfl rfl) rfl rfl rfl (by decide)
      · replace h := bif_f hb4 h
        obtain ⟨kk6, hkk6, h⟩ := lt_some h
        refine aw_seq_join (ι := Bool) (fun i => (memOf w0 Z0 [] [] [])) (fun i => (tab [(0, (str a0)), (5, (Value.int .i64 (IntKind.i64.wrap (En.bAt a0 (0 : Int))))), (20, (Value.bool i))])) (fun i => kk6 i = some r) ?_ ?_
        · rintro j5b20 h
          have h : kk6 j5b20 = some r := h
          rw [hkk6] at h
          dsimp only at h
          clear hkk6
          refine aw_show (m := (memOf w0 Z0 [] [] [])) (S := (tab [(0, (str a0)), (5, (Value.int .i64 (IntKind.i64.wrap (En.bAt a0 (0 : Int))))), (20, (Value.bool j5b20))])) ?_
          refine aw_cond rfl (fun hb7 => ?_) (fun hb7 => ?_)
          · replace h := bif_t hb7 h
            refine aw_seq ?_
            refine aw_region ?_
            refine al_val (ov_assign rfl rfl) ?_
            refine al_val (ov_assign rfl rfl) ?_
            refine al_val (ov_assign rfl rfl) ?_
            refine al_nil ?_
            refine aq_then ?_
            refine aw_ret ?_
            refine aq_block_ret ?_
            refine aq_then_ret ?_
            obtain rfl := Option.some.inj h
            exact fn_ret () [] [] rfl rfl rfl rfl (res3 rfl rfl rfl rfl) rfl rfl rfl (by decide)
          · replace h := bif_f hb7 h
            refine aw_skip ?_
            refine aq_block ?_
            refine aq_then ?_
            refine aw_seq ?_
            refine aw_region ?_
            refine al_val (ov_move rfl rfl) ?_
            refine al_val (ov_move rfl rfl) ?_
            refine al_val (ov_int rfl rfl rfl rfl) ?_
            obtain ⟨hc8, h⟩ := req_some h
            refine al_val (ov_strCut hc8.1 hc8.2.1 hc8.2.2 Tryd.underlying9 rfl rfl rfl rfl) ?_
            obtain ⟨r10, hc9, h⟩ := opt_some h
            refine al_call (vs := [(str (cut a0 (1 : Int) (IntKind.i64.wrap ((1 : Int) + (IntKind.i64.wrap (En.bAt a0 (0 : Int)))))))]) (f_num_value_ok fu (cut a0 (1 : Int) (IntKind.i64.wrap ((1 : Int) + (IntKind.i64.wrap (En.bAt a0 (0 : Int)))))) hc9) [] [] [] pre_nil rfl (by simp) (by decide) (.inl rfl) rfl Tryd.func101 rfl rfl rfl (fun _ => ?_)
            refine al_val (ov_move rfl rfl) ?_
            refine al_val (ov_int rfl rfl rfl rfl) ?_
            refine al_val (ov_assign rfl rfl) ?_
            refine al_val (ov_assign rfl rfl) ?_
            refine al_val (ov_assign rfl rfl) ?_
            refine al_nil ?_
            refine aq_then ?_
            refine aw_ret ?_
            obtain rfl := Option.some.inj h
            exact fn_ret () [] [] rfl rfl rfl rfl (res3 rfl rfl rfl rfl) rfl rfl rfl (by decide)
        · clear hkk6
          refine aw_region ?_
          refine al_val (ov_move rfl rfl) ?_
          refine al_val (ov_int rfl rfl rfl rfl) ?_
          refine al_val (ov_move rfl rfl) ?_
          refine al_caseB 23 rfl (fun hb11 => ?_) (fun hb11 => ?_)
          · replace h := bif_t hb11 h
            refine al_val (ov_move rfl rfl) ?_
            obtain ⟨hc12, h⟩ := req_some h
            refine al_val (ov_strIdx hc12.1 hc12.2 Tryd.underlying9 rfl rfl rfl) ?_
            refine al_val (ov_int rfl rfl rfl rfl) ?_
            refine al_val (ov_pick_t rfl rfl rfl) ?_
            refine al_val (ov_assign rfl rfl) ?_
            refine al_nil ?_
            exact aq_join ((En.bAt a0 (1 : Int)) == (0 : Int)) h (fun w a hm hs => norm hm hs [] [] [(0, (str a0)), (5, (Value.int .i64 (IntKind.i64.wrap (En.bAt a0 (0 : Int))))), (20, (Value.bool ((En.bAt a0 (1 : Int)) == (0 : Int))))] (by decide) ⟨rfl, rfl, rfl, trivial⟩)
          · replace h := bif_f hb11 h
            refine al_skip ?_
            refine al_skip ?_
            refine al_skip ?_
            refine al_val (ov_pick_f rfl rfl rfl) ?_
            refine al_val (ov_assign rfl rfl) ?_
            refine al_nil ?_
            exact aq_join false h (fun w a hm hs => norm hm hs [] [] [(0, (str a0)), (5, (Value.int .i64 (IntKind.i64.wrap (En.bAt a0 (0 : Int))))), (20, (Value.bool false))] (by decide) ⟨rfl, rfl, rfl, trivial⟩)
def f_journal_Scan_L3 (a0 : (List UInt8)) (fu : Nat) : Nat → (List (List UInt8)) → Int → Option ((List (List UInt8)) × Int)
  | 0, _, _ => none
  | k2 + 1, l1x4, l1i5 => (req (0 ≤ l1i5 ∧ l1i5 ≤ (a0.length : Int)) (opt (f_num_Get fu (a0.drop (l1i5).toNat)) fun (r6 : (Int × Int × Int)) => (lt (fun (j7b25 : Bool) => (bif j7b25 then (some (l1x4, l1i5)) else (lt (fun (j10b51 : Bool) => (bif j10b51 then (some (l1x4, l1i5)) else (req (0 ≤ r6.2.1 ∧ r6.2.1 ≤ (IntKind.i64.wrap (r6.2.1 + (IntKind.i64.wrap r6.1))) ∧ (IntKind.i64.wrap (r6.2.1 + (IntKind.i64.wrap r6.1))) ≤ ((a0.drop (l1i5).toNat).length : Int)) (req (((l1x4.length + ([(cut (a0.drop (l1i5).toNat) r6.2.1 (IntKind.i64.wrap (r6.2.1 + (IntKind.i64.wrap r6.1))))]).length) * 16 : Nat) ≤ 140737488355328 ∧ l1x4.length + ([(cut (a0.drop (l1i5).toNat) r6.2.1 (IntKind.i64.wrap (r6.2.1 + (IntKind.i64.wrap r6.1))))]).length ≤ 9223372036854775807) (f_journal_Scan_L3 a0 fu k2 (l1x4 ++ ([(cut (a0.drop (l1i5).toNat) r6.2.1 (IntKind.i64.wrap (r6.2.1 + (IntKind.i64.wrap r6.1))))])) (IntKind.i64.wrap (l1i5 + (IntKind.i64.wrap ((IntKind.i64.wrap (r6.2.1 + (IntKind.i64.wrap r6.1))) + (8 : Int)))))))))) fun (kk11 : Bool → Option ((List (List UInt8)) × Int)) => (bif (decide (((a0.drop (l1i5).toNat).length : Int) < (IntKind.i64.wrap ((IntKind.i64.wrap (r6.2.1 + (IntKind.i64.wrap r6.1))) + (8 : Int))))) then (kk11 true) else (req (0 ≤ (IntKind.i64.wrap (r6.2.1 + (IntKind.i64.wrap r6.1))) ∧ (IntKind.i64.wrap (r6.2.1 + (IntKind.i64.wrap r6.1))) ≤ ((a0.drop (l1i5).toNat).length : Int)) (req (0 ≤ (IntKind.i64.wrap (r6.2.1 + (IntKind.i64.wrap r6.1))) ∧ (IntKind.i64.wrap (r6.2.1 + (IntKind.i64.wrap r6.1))) ≤ (IntKind.i64.wrap ((IntKind.i64.wrap (r6.2.1 + (IntKind.i64.wrap r6.1))) + (8 : Int))) ∧ (IntKind.i64.wrap ((IntKind.i64.wrap (r6.2.1 + (IntKind.i64.wrap r6.1))) + (8 : Int))) ≤ ((a0.drop (l1i5).toNat).length : Int)) (req ((cut (a0.drop (l1i5).toNat) (IntKind.i64.wrap (r6.2.1 + (IntKind.i64.wrap r6.1))) (IntKind.i64.wrap ((IntKind.i64.wrap (r6.2.1 + (IntKind.i64.wrap r6.1))) + (8 : Int)))).length ≤ 9223372036854775807) (req (8 ≤ (cut (a0.drop (l1i5).toNat) (IntKind.i64.wrap (r6.2.1 + (IntKind.i64.wrap r6.1))) (IntKind.i64.wrap ((IntKind.i64.wrap (r6.2.1 + (IntKind.i64.wrap r6.1))) + (8 : Int)))).length) (opt (f_mix_ID fu ((a0.drop (l1i5).toNat).take ((IntKind.i64.wrap (r6.2.1 + (IntKind.i64.wrap r6.1)))).toNat)) fun (r25 : A8u8) => (kk11 (!(r25 == (ofA8u8 (cut (a0.drop (l1i5).toNat) (IntKind.i64.wrap (r6.2.1 + (IntKind.i64.wrap r6.1))) (IntKind.i64.wrap ((IntKind.i64.wrap (r6.2.1 + (IntKind.i64.wrap r6.1))) + (8 : Int))))))))))))))))) fun (kk8 : Bool → Option ((List (List UInt8)) × Int)) => (bif (r6.2.2 != (0 : Int)) then (kk8 true) else (kk8 (decide (r6.1 > (4096 : Int))))))))
def f_journal_Scan (fu : Nat) (a0 : (List UInt8)) : Option ((List (List UInt8)) × Int) := (f_journal_Scan_L3 a0 fu fu ([] : List (List UInt8)) (0 : Int))
set_option maxRecDepth 100000 in
theorem f_journal_Scan_ok (fu : Nat) (a0 : (List UInt8)) {r : ((List (List UInt8)) × Int)} (h : f_journal_Scan fu a0 = some r) : FnOk Tryd.prog 14 [(str a0)] [] [] (fun (i : Value) => { val := (Value.tuple #[i, (Value.int .i64 r.2)]), own := [(oRow i 9 tyStr r.1)] }) := by
  unfold f_journal_Scan at h
  refine fn_enter Tryd.func14 rfl Tryd.ntmps14 rfl (fun w0 Z0 => ?_)
  refine aw_seq ?_
  refine aw_region ?_
  refine al_val (ov_assign rfl rfl) ?_
  refine al_val (ov_assign rfl rfl) ?_
  refine al_nil ?_
  refine aq_then ?_
  refine aw_seq ?_
  refine aw_region ?_
  refine al_val (ov_assign rfl rfl) ?_
  refine al_nil ?_
  refine aq_then ?_
  refine aw_seq ?_
  refine aw_region ?_
  refine al_val (ov_assign rfl rfl) ?_
  refine al_nil ?_
  refine aq_then ?_
  refine aw_block ?_
  refine aw_nilR 9 tyStr ?_
  refine aw_state (aw_loop (ι := Value × (List (List UInt8)) × Int) (fun i => (memOf w0 Z0 [] [(oRow i.1 9 tyStr i.2.1)] [])) (fun i => (tab [(0, (str a0)), (4, i.1), (5, (Value.int .i64 i.2.2))])) (fun q i => f_journal_Scan_L3 a0 fu q i.2.1 i.2.2 = some r) ?_ fu ((Value.slice none 0 0), ([] : List (List UInt8)), (0 : Int)) h) (fun w a hm hs => norm hm hs [0] [] [(0, (str a0)), (4, (Value.slice none 0 0)), (5, (Value.int .i64 (0 : Int)))] (by decide) ⟨rfl, rfl, rfl, trivial⟩)
  clear h
  rintro k2 ⟨l1v4, l1x4, l1i5⟩ h
  have h : f_journal_Scan_L3 a0 fu k2 l1x4 l1i5 = some r := h
  obtain _ | k2 := k2
  · rw [f_journal_Scan_L3] at h; cases h
  rw [f_journal_Scan_L3] at h
  refine aw_show (m := (memOf w0 Z0 [] [(oRow l1v4 9 tyStr l1x4)] [])) (S := (tab [(0, (str a0)), (4, l1v4), (5, (Value.int .i64 l1i5))])) ?_
  refine aw_block ?_
  refine aw_seq ?_
  refine aw_region ?_
  refine al_val (ov_move rfl rfl) ?_
  refine al_val (ov_move rfl rfl) ?_
  obtain ⟨hc4, h⟩ := req_some h
  refine al_val (ov_strFrom hc4.1 hc4.2 Tryd.underlying9 rfl rfl rfl) ?_
  refine al_val (ov_assign rfl rfl) ?_
  refine al_nil ?_
  refine aq_then ?_
  refine aw_seq ?_
  refine aw_region ?_
  refine al_val (ov_move rfl rfl) ?_
  obtain ⟨r6, hc5, h⟩ := opt_some h
  refine al_call (vs := [(str (a0.drop (l1i5).toNat))]) (f_num_Get_ok fu (a0.drop (l1i5).toNat) hc5) [] [] [0] pre_nil rfl (by simp) (by decide) (.inl rfl) rfl Tryd.func58 rfl rfl rfl (fun _ => ?_)
  refine al_val (ov_move rfl rfl) ?_
  refine al_val (ov_extract rfl rfl rfl) ?_
  refine al_val (ov_extract rfl rfl rfl) ?_
  refine al_val (ov_extract rfl rfl rfl) ?_
  refine al_val (ov_assign rfl rfl) ?_
  refine al_val (ov_assign rfl rfl) ?_
  refine al_val (ov_assign rfl rfl) ?_
  refine al_nil ?_
  refine aq_then ?_
  refine aw_seq ?_
  obtain ⟨kk8, hkk8, h⟩ := lt_some h
  refine aw_seq_join (ι := Bool) (fun i => (memOf w0 Z0 [] [(oRow l1v4 9 tyStr l1x4)] [])) (fun i => (tab [(0, (str a0)), (4, l1v4), (5, (Value.int .i64 l1i5)), (6, (str (a0.drop (l1i5).toNat))), (7, (Value.int .u64 r6.1)), (8, (Value.int .i64 r6.2.1)), (25, (Value.bool i))])) (fun i => kk8 i = some r) ?_ ?_
  · rintro j7b25 h
    have h : kk8 j7b25 = some r := h
    rw [hkk8] at h
    dsimp only at h
    clear hkk8
    refine aw_show (m := (memOf w0 Z0 [] [(oRow l1v4 9 tyStr l1x4)] [])) (S := (tab [(0, (str a0)), (4, l1v4), (5, (Value.int .i64 l1i5)), (6, (str (a0.drop (l1i5).toNat))), (7, (Value.int .u64 r6.1)), (8, (Value.int .i64 r6.2.1)), (25, (Value.bool j7b25))])) ?_
    refine aw_cond rfl (fun hb9 => ?_) (fun hb9 => ?_)
    · replace h := bif_t hb9 h
      refine aw_seq ?_
      refine aw_region ?_
      refine al_val (ov_move rfl rfl) ?_
      refine al_val (ov_move rfl rfl) ?_
      refine al_val (ov_assign rfl rfl) ?_
      refine al_val (ov_assign rfl rfl) ?_
      refine al_nil ?_
      refine aq_then ?_
      refine aw_ret ?_
      refine aq_then_ret ?_
      refine aq_block_ret ?_
      refine aq_then_ret ?_
      refine aq_block_ret ?_
      obtain rfl := Option.some.inj h
      exact fn_ret l1v4 [0] [] rfl rfl rfl rfl (res2 rfl rfl rfl) rfl rfl rfl (by decide)
    · replace h := bif_f hb9 h
      refine aw_skip ?_
      refine aq_then ?_
      refine aw_seq ?_
      refine aw_region ?_
      refine al_val (ov_move rfl rfl) ?_
      refine al_val (ov_move rfl rfl) ?_
      refine al_val (ov_convInt (by rw [Tryd.underlying87]; rfl) Tryd.underlying3 rfl rfl) ?_
      refine al_val (ov_int rfl rfl rfl rfl) ?_
      refine al_val (ov_assign rfl rfl) ?_
      refine al_nil ?_
      refine aq_then ?_
      refine aw_seq ?_
      obtain ⟨kk11, hkk11, h⟩ := lt_some h
      refine aw_seq_join (ι := Bool) (fun i => (memOf w0 Z0 [] [(oRow l1v4 9 tyStr l1x4)] [])) (fun i => (tab [(0, (str a0)), (4, l1v4), (5, (Value.int .i64 l1i5)), (6, (str (a0.drop (l1i5).toNat))), (8, (Value.int .i64 r6.2.1)), (10, (Value.int .i64 (IntKind.i64.wrap (r6.2.1 + (IntKind.i64.wrap r6.1))))), (51, (Value.bool i))])) (fun i => kk11 i = some r) ?_ ?_
      · rintro j10b51 h
        have h : kk11 j10b51 = some r := h
        rw [hkk11] at h
        dsimp only at h
        clear hkk11
        refine aw_show (m := (memOf w0 Z0 [] [(oRow l1v4 9 tyStr l1x4)] [])) (S := (tab [(0, (str a0)), (4, l1v4), (5, (Value.int .i64 l1i5)), (6, (str (a0.drop (l1i5).toNat))), (8, (Value.int .i64 r6.2.1)), (10, (Value.int .i64 (IntKind.i64.wrap (r6.2.1 + (IntKind.i64.wrap r6.1))))), (51, (Value.bool j10b51))])) ?_
        refine aw_cond rfl (fun hb12 => ?_) (fun hb12 => ?_)
        · replace h := bif_t hb12 h
          refine aw_seq ?_
          refine aw_region ?_
          refine al_val (ov_move rfl rfl) ?_
          refine al_val (ov_move rfl rfl) ?_
          refine al_val (ov_assign rfl rfl) ?_
          refine al_val (ov_assign rfl rfl) ?_
          refine al_nil ?_
          refine aq_then ?_
          refine aw_ret ?_
          refine aq_then_ret ?_
          refine aq_block_ret ?_
          refine aq_then_ret ?_
          refine aq_block_ret ?_
          obtain rfl := Option.some.inj h
          exact fn_ret l1v4 [0] [] rfl rfl rfl rfl (res2 rfl rfl rfl) rfl rfl rfl (by decide)
        · replace h := bif_f hb12 h
          refine aw_skip ?_
          refine aq_then ?_
          refine aw_seq ?_
          refine aw_region ?_
          refine al_val (ov_move rfl rfl) ?_
          refine al_val (ov_move rfl rfl) ?_
          refine al_val (ov_move rfl rfl) ?_
          refine al_val (ov_move rfl rfl) ?_
          obtain ⟨hc13, h⟩ := req_some h
          refine al_val (ov_strCut hc13.1 hc13.2.1 hc13.2.2 Tryd.underlying9 rfl rfl rfl rfl) ?_
          refine al_buildSlice (τ := tyStr) (e := 9) (k := 1) (sz := 0) (by_ := 0) (z := undef) (cs := [(str (cut (a0.drop (l1i5).toNat) r6.2.1 (IntKind.i64.wrap (r6.2.1 + (IntKind.i64.wrap r6.1)))))]) (xs := [(cut (a0.drop (l1i5).toNat) r6.2.1 (IntKind.i64.wrap (r6.2.1 + (IntKind.i64.wrap r6.1))))]) rfl (by decide) (fun w a hm hs => ⟨([(str (cut (a0.drop (l1i5).toNat) r6.2.1 (IntKind.i64.wrap (r6.2.1 + (IntKind.i64.wrap r6.1)))))]).toArray, rfl, by simp only [List.map_toArray, List.map_cons, List.map_nil, hs.ev (x := .tmp 58) rfl]; exact run_bs [(str (cut (a0.drop (l1i5).toNat) r6.2.1 (IntKind.i64.wrap (r6.2.1 + (IntKind.i64.wrap r6.1)))))] [(str (cut (a0.drop (l1i5).toNat) r6.2.1 (IntKind.i64.wrap (r6.2.1 + (IntKind.i64.wrap r6.1)))))] Tryd.underlying22 to9 rfl rfl (bs_cons (l := [(str (cut (a0.drop (l1i5).toNat) r6.2.1 (IntKind.i64.wrap (r6.2.1 + (IntKind.i64.wrap r6.1)))))]) (cs := []) (cv_rfl rfl) rfl bs_nil) hm⟩) (fun hm => ⟨_, _, rfl, (fun _ => rfl) hm, rfl⟩) rfl (fun v14 => ?_)
          obtain ⟨hc15, h⟩ := req_some h
          refine al_append 1 hc15.1 hc15.2 rfl (src_own (i := 1) 0 rfl) rfl rfl Tryd.underlying22 to9 rfl rfl rfl (fun v16 => ?_)
          refine al_val (ov_assign rfl rfl) ?_
          refine al_nil ?_
          refine aq_then ?_
          refine aw_region ?_
          refine al_val (ov_move rfl rfl) ?_
          refine al_val (ov_move rfl rfl) ?_
          refine al_val (ov_int rfl rfl rfl rfl) ?_
          refine al_val (ov_int rfl rfl rfl rfl) ?_
          refine al_val (ov_assign rfl rfl) ?_
          refine al_nil ?_
          refine aq_block ?_
          exact aq_again k2 (v16, (l1x4 ++ ([(cut (a0.drop (l1i5).toNat) r6.2.1 (IntKind.i64.wrap (r6.2.1 + (IntKind.i64.wrap r6.1))))])), (IntKind.i64.wrap (l1i5 + (IntKind.i64.wrap ((IntKind.i64.wrap (r6.2.1 + (IntKind.i64.wrap r6.1))) + (8 : Int)))))) (Nat.lt_succ_self _) h (fun w a hm hs => norm hm hs [1] [] [(0, (str a0)), (4, v16), (5, (Value.int .i64 (IntKind.i64.wrap (l1i5 + (IntKind.i64.wrap ((IntKind.i64.wrap (r6.2.1 + (IntKind.i64.wrap r6.1))) + (8 : Int)))))))] (by decide) ⟨rfl, rfl, rfl, trivial⟩)
      · clear hkk11
        rcases Bool.eq_false_or_eq_true (decide (((a0.drop (l1i5).toNat).length : Int) < (IntKind.i64.wrap ((IntKind.i64.wrap (r6.2.1 + (IntKind.i64.wrap r6.1))) + (8 : Int))))) with hb17 | hb17
        · replace h := bif_t hb17 h
          refine aw_region_open [⟨0, 32, Unit, fun _ => { val := (str (a0.drop (l1i5).toNat)) }⟩, ⟨1, 33, Unit, fun _ => { val := (Value.int .i64 ((a0.drop (l1i5).toNat).length : Int)) }⟩, ⟨2, 34, Unit, fun _ => { val := (Value.int .i64 (IntKind.i64.wrap (r6.2.1 + (IntKind.i64.wrap r6.1)))) }⟩, ⟨3, 35, Unit, fun _ => { val := (Value.int .i64 (IntKind.i64.wrap ((IntKind.i64.wrap (r6.2.1 + (IntKind.i64.wrap r6.1))) + (8 : Int)))) }⟩, ⟨4, 36, Unit, fun _ => { val := (Value.bool (decide (((a0.drop (l1i5).toNat).length : Int) < (IntKind.i64.wrap ((IntKind.i64.wrap (r6.2.1 + (IntKind.i64.wrap r6.1))) + (8 : Int)))))) }⟩, ⟨5, 37, Unit, fun _ => { val := (Value.bool true) }⟩, ⟨6, 38, Unit, fun _ => { val := undef }⟩, ⟨7, 39, Unit, fun _ => { val := undef }⟩, ⟨8, 40, Unit, fun _ => { val := undef }⟩, ⟨10, 42, Unit, fun _ => { val := undef }⟩, ⟨11, 43, Unit, fun _ => { val := undef }⟩, ⟨12, 44, Unit, fun _ => { val := undef }⟩, ⟨13, 45, Unit, fun _ => { val := undef }⟩, ⟨14, 46, Unit, fun _ => { val := undef }⟩, ⟨15, 47, Unit, fun _ => { val := undef }⟩, ⟨16, 48, Unit, fun _ => { val := undef }⟩, ⟨17, 49, Unit, fun _ => { val := undef }⟩] (tab [(0, (str a0)), (4, l1v4), (5, (Value.int .i64 l1i5)), (6, (str (a0.drop (l1i5).toNat))), (8, (Value.int .i64 r6.2.1)), (10, (Value.int .i64 (IntKind.i64.wrap (r6.2.1 + (IntKind.i64.wrap r6.1)))))]) mixed (fun a hs => hs.tab _ (allT_mem ⟨rfl, rfl, rfl, rfl, rfl, rfl, trivial⟩)) ?_
          refine ta_show (m := (memOf w0 Z0 [] [(oRow l1v4 9 tyStr l1x4)] [])) (S := (tab [(0, (str a0)), (4, l1v4), (5, (Value.int .i64 l1i5)), (6, (str (a0.drop (l1i5).toNat))), (8, (Value.int .i64 r6.2.1)), (10, (Value.int .i64 (IntKind.i64.wrap (r6.2.1 + (IntKind.i64.wrap r6.1)))))])) ?_
          refine ta_step 9 _ [0, 1, 2, 3, 4, 5, 6, 7, 8, 10, 11, 12, 13, 14, 15, 16, 17] [32, 33, 34, 35, 36, 37, 38, 39, 40, 42, 43, 44, 45, 46, 47, 48, 49] [0, 1, 2, 3, 4, 5, 6, 7, 8] [18, 19] [⟨0, 32, Unit, fun _ => { val := (str (a0.drop (l1i5).toNat)) }⟩, ⟨1, 33, Unit, fun _ => { val := (Value.int .i64 ((a0.drop (l1i5).toNat).length : Int)) }⟩, ⟨2, 34, Unit, fun _ => { val := (Value.int .i64 (IntKind.i64.wrap (r6.2.1 + (IntKind.i64.wrap r6.1)))) }⟩, ⟨3, 35, Unit, fun _ => { val := (Value.int .i64 (IntKind.i64.wrap ((IntKind.i64.wrap (r6.2.1 + (IntKind.i64.wrap r6.1))) + (8 : Int)))) }⟩, ⟨4, 36, Unit, fun _ => { val := (Value.bool (decide (((a0.drop (l1i5).toNat).length : Int) < (IntKind.i64.wrap ((IntKind.i64.wrap (r6.2.1 + (IntKind.i64.wrap r6.1))) + (8 : Int)))))) }⟩, ⟨5, 37, Unit, fun _ => { val := (Value.bool true) }⟩, ⟨6, 38, Unit, fun _ => { val := undef }⟩, ⟨7, 39, Unit, fun _ => { val := undef }⟩, ⟨8, 40, Unit, fun _ => { val := undef }⟩] [⟨10, 42, Unit, fun _ => { val := undef }⟩, ⟨11, 43, Unit, fun _ => { val := undef }⟩, ⟨12, 44, Unit, fun _ => { val := undef }⟩, ⟨13, 45, Unit, fun _ => { val := undef }⟩, ⟨14, 46, Unit, fun _ => { val := undef }⟩, ⟨15, 47, Unit, fun _ => { val := undef }⟩, ⟨16, 48, Unit, fun _ => { val := undef }⟩, ⟨17, 49, Unit, fun _ => { val := undef }⟩] rfl rfl rfl (by kernel_rfl) rfl rfl rfl ⟨⟨_, rfl, [], rfl, by
    intro X_ Y_ F_ K_ hK_
    refine al_show (m := Mem.plus (memOf w0 Z0 [] [(oRow l1v4 9 tyStr l1x4)] []) X_ Y_) (S := over (tab [(0, (str a0)), (4, l1v4), (5, (Value.int .i64 l1i5)), (6, (str (a0.drop (l1i5).toNat))), (8, (Value.int .i64 r6.2.1)), (10, (Value.int .i64 (IntKind.i64.wrap (r6.2.1 + (IntKind.i64.wrap r6.1)))))]) F_) ?_
    refine al_val (ov_move rfl rfl) ?_
    refine al_nil ?_
    exact fr_fin hK_ ()⟩, ⟨_, rfl, [0], rfl, by
    intro _
    intro X_ Y_ F_ K_ hK_
    refine al_show (m := Mem.plus (memOf w0 Z0 [] [(oRow l1v4 9 tyStr l1x4)] []) X_ Y_) (S := over (put (tab [(0, (str a0)), (4, l1v4), (5, (Value.int .i64 l1i5)), (6, (str (a0.drop (l1i5).toNat))), (8, (Value.int .i64 r6.2.1)), (10, (Value.int .i64 (IntKind.i64.wrap (r6.2.1 + (IntKind.i64.wrap r6.1)))))]) 32 (str (a0.drop (l1i5).toNat))) F_) ?_
    refine al_val (ov_strLen Tryd.underlying9 rfl rfl) ?_
    refine al_nil ?_
    exact fr_fin hK_ ()⟩, ⟨_, rfl, [], rfl, by
    intro X_ Y_ F_ K_ hK_
    refine al_show (m := Mem.plus (memOf w0 Z0 [] [(oRow l1v4 9 tyStr l1x4)] []) X_ Y_) (S := over (tab [(0, (str a0)), (4, l1v4), (5, (Value.int .i64 l1i5)), (6, (str (a0.drop (l1i5).toNat))), (8, (Value.int .i64 r6.2.1)), (10, (Value.int .i64 (IntKind.i64.wrap (r6.2.1 + (IntKind.i64.wrap r6.1)))))]) F_) ?_
    refine al_val (ov_move rfl rfl) ?_
    refine al_nil ?_
    exact fr_fin hK_ ()⟩, ⟨_, rfl, [2], rfl, by
    intro _
    intro X_ Y_ F_ K_ hK_
    refine al_show (m := Mem.plus (memOf w0 Z0 [] [(oRow l1v4 9 tyStr l1x4)] []) X_ Y_) (S := over (put (tab [(0, (str a0)), (4, l1v4), (5, (Value.int .i64 l1i5)), (6, (str (a0.drop (l1i5).toNat))), (8, (Value.int .i64 r6.2.1)), (10, (Value.int .i64 (IntKind.i64.wrap (r6.2.1 + (IntKind.i64.wrap r6.1)))))]) 34 (Value.int .i64 (IntKind.i64.wrap (r6.2.1 + (IntKind.i64.wrap r6.1))))) F_) ?_
    refine al_val (ov_int rfl rfl rfl rfl) ?_
    refine al_nil ?_
    exact fr_fin hK_ ()⟩, ⟨_, rfl, [1, 3], rfl, by
    intro _
    intro _
    intro X_ Y_ F_ K_ hK_
    refine al_show (m := Mem.plus (memOf w0 Z0 [] [(oRow l1v4 9 tyStr l1x4)] []) X_ Y_) (S := over (put (put (tab [(0, (str a0)), (4, l1v4), (5, (Value.int .i64 l1i5)), (6, (str (a0.drop (l1i5).toNat))), (8, (Value.int .i64 r6.2.1)), (10, (Value.int .i64 (IntKind.i64.wrap (r6.2.1 + (IntKind.i64.wrap r6.1)))))]) 33 (Value.int .i64 ((a0.drop (l1i5).toNat).length : Int))) 35 (Value.int .i64 (IntKind.i64.wrap ((IntKind.i64.wrap (r6.2.1 + (IntKind.i64.wrap r6.1))) + (8 : Int))))) F_) ?_
    refine al_val (ov_int rfl rfl rfl rfl) ?_
    refine al_nil ?_
    exact fr_fin hK_ ()⟩, ⟨_, rfl, [4], rfl, by
    intro _
    intro X_ Y_ F_ K_ hK_
    refine al_show (m := Mem.plus (memOf w0 Z0 [] [(oRow l1v4 9 tyStr l1x4)] []) X_ Y_) (S := over (put (tab [(0, (str a0)), (4, l1v4), (5, (Value.int .i64 l1i5)), (6, (str (a0.drop (l1i5).toNat))), (8, (Value.int .i64 r6.2.1)), (10, (Value.int .i64 (IntKind.i64.wrap (r6.2.1 + (IntKind.i64.wrap r6.1)))))]) 36 (Value.bool (decide (((a0.drop (l1i5).toNat).length : Int) < (IntKind.i64.wrap ((IntKind.i64.wrap (r6.2.1 + (IntKind.i64.wrap r6.1))) + (8 : Int))))))) F_) ?_
    refine al_val (ov_cast (by first | rw [hb17] | rfl) (ov_move rfl rfl)) ?_
    refine al_nil ?_
    exact fr_fin hK_ ()⟩, ⟨_, rfl, [5], rfl, by
    intro _
    intro X_ Y_ F_ K_ hK_
    refine al_show (m := Mem.plus (memOf w0 Z0 [] [(oRow l1v4 9 tyStr l1x4)] []) X_ Y_) (S := over (put (tab [(0, (str a0)), (4, l1v4), (5, (Value.int .i64 l1i5)), (6, (str (a0.drop (l1i5).toNat))), (8, (Value.int .i64 r6.2.1)), (10, (Value.int .i64 (IntKind.i64.wrap (r6.2.1 + (IntKind.i64.wrap r6.1)))))]) 37 (Value.bool true)) F_) ?_
    refine al_skip ?_
    refine al_nil ?_
    exact fr_fin hK_ ()⟩, ⟨_, rfl, [5], rfl, by
    intro _
    intro X_ Y_ F_ K_ hK_
    refine al_show (m := Mem.plus (memOf w0 Z0 [] [(oRow l1v4 9 tyStr l1x4)] []) X_ Y_) (S := over (put (tab [(0, (str a0)), (4, l1v4), (5, (Value.int .i64 l1i5)), (6, (str (a0.drop (l1i5).toNat))), (8, (Value.int .i64 r6.2.1)), (10, (Value.int .i64 (IntKind.i64.wrap (r6.2.1 + (IntKind.i64.wrap r6.1)))))]) 37 (Value.bool true)) F_) ?_
    refine al_skip ?_
    refine al_nil ?_
    exact fr_fin hK_ ()⟩, ⟨_, rfl, [5, 6, 7], rfl, by
    intro _
    intro _
    intro _
    intro X_ Y_ F_ K_ hK_
    refine al_show (m := Mem.plus (memOf w0 Z0 [] [(oRow l1v4 9 tyStr l1x4)] []) X_ Y_) (S := over (put (put (put (tab [(0, (str a0)), (4, l1v4), (5, (Value.int .i64 l1i5)), (6, (str (a0.drop (l1i5).toNat))), (8, (Value.int .i64 r6.2.1)), (10, (Value.int .i64 (IntKind.i64.wrap (r6.2.1 + (IntKind.i64.wrap r6.1)))))]) 37 (Value.bool true)) 38 undef) 39 undef) F_) ?_
    refine al_skip ?_
    refine al_nil ?_
    exact fr_fin hK_ ()⟩, ⟨_, rfl, [5], rfl, by
    intro _
    intro X_ Y_ F_ K_ hK_
    refine al_show (m := Mem.plus (memOf w0 Z0 [] [(oRow l1v4 9 tyStr l1x4)] []) X_ Y_) (S := over (put (tab [(0, (str a0)), (4, l1v4), (5, (Value.int .i64 l1i5)), (6, (str (a0.drop (l1i5).toNat))), (8, (Value.int .i64 r6.2.1)), (10, (Value.int .i64 (IntKind.i64.wrap (r6.2.1 + (IntKind.i64.wrap r6.1)))))]) 37 (Value.bool true)) F_) ?_
    refine al_skip ?_
    refine al_nil ?_
    exact fr_fin hK_ ()⟩, ⟨_, rfl, [5], rfl, by
    intro _
    intro X_ Y_ F_ K_ hK_
    refine al_show (m := Mem.plus (memOf w0 Z0 [] [(oRow l1v4 9 tyStr l1x4)] []) X_ Y_) (S := over (put (tab [(0, (str a0)), (4, l1v4), (5, (Value.int .i64 l1i5)), (6, (str (a0.drop (l1i5).toNat))), (8, (Value.int .i64 r6.2.1)), (10, (Value.int .i64 (IntKind.i64.wrap (r6.2.1 + (IntKind.i64.wrap r6.1)))))]) 37 (Value.bool true)) F_) ?_
    refine al_skip ?_
    refine al_nil ?_
    exact fr_fin hK_ ()⟩, ⟨_, rfl, [5], rfl, by
    intro _
    intro X_ Y_ F_ K_ hK_
    refine al_show (m := Mem.plus (memOf w0 Z0 [] [(oRow l1v4 9 tyStr l1x4)] []) X_ Y_) (S := over (put (tab [(0, (str a0)), (4, l1v4), (5, (Value.int .i64 l1i5)), (6, (str (a0.drop (l1i5).toNat))), (8, (Value.int .i64 r6.2.1)), (10, (Value.int .i64 (IntKind.i64.wrap (r6.2.1 + (IntKind.i64.wrap r6.1)))))]) 37 (Value.bool true)) F_) ?_
    refine al_skip ?_
    refine al_nil ?_
    exact fr_fin hK_ ()⟩, ⟨_, rfl, [5, 11], rfl, by
    intro _
    intro _
    intro X_ Y_ F_ K_ hK_
    refine al_show (m := Mem.plus (memOf w0 Z0 [] [(oRow l1v4 9 tyStr l1x4)] []) X_ Y_) (S := over (put (put (tab [(0, (str a0)), (4, l1v4), (5, (Value.int .i64 l1i5)), (6, (str (a0.drop (l1i5).toNat))), (8, (Value.int .i64 r6.2.1)), (10, (Value.int .i64 (IntKind.i64.wrap (r6.2.1 + (IntKind.i64.wrap r6.1)))))]) 37 (Value.bool true)) 44 undef) F_) ?_
    refine al_skip ?_
    refine al_nil ?_
    exact fr_fin hK_ ()⟩, ⟨_, rfl, [5, 9, 10, 12], rfl, by
    intro _
    intro _
    intro _
    intro _
    intro X_ Y_ F_ K_ hK_
    refine al_show (m := Mem.plus (memOf w0 Z0 [] [(oRow l1v4 9 tyStr l1x4)] []) X_ Y_) (S := over (put (put (put (put (tab [(0, (str a0)), (4, l1v4), (5, (Value.int .i64 l1i5)), (6, (str (a0.drop (l1i5).toNat))), (8, (Value.int .i64 r6.2.1)), (10, (Value.int .i64 (IntKind.i64.wrap (r6.2.1 + (IntKind.i64.wrap r6.1)))))]) 37 (Value.bool true)) 42 undef) 43 undef) 45 undef) F_) ?_
    refine al_skip ?_
    refine al_nil ?_
    exact fr_fin hK_ ()⟩, ⟨_, rfl, [5, 13], rfl, by
    intro _
    intro _
    intro X_ Y_ F_ K_ hK_
    refine al_show (m := Mem.plus (memOf w0 Z0 [] [(oRow l1v4 9 tyStr l1x4)] []) X_ Y_) (S := over (put (put (tab [(0, (str a0)), (4, l1v4), (5, (Value.int .i64 l1i5)), (6, (str (a0.drop (l1i5).toNat))), (8, (Value.int .i64 r6.2.1)), (10, (Value.int .i64 (IntKind.i64.wrap (r6.2.1 + (IntKind.i64.wrap r6.1)))))]) 37 (Value.bool true)) 46 undef) F_) ?_
    refine al_skip ?_
    refine al_nil ?_
    exact fr_fin hK_ ()⟩, ⟨_, rfl, [5, 14], rfl, by
    intro _
    intro _
    intro X_ Y_ F_ K_ hK_
    refine al_show (m := Mem.plus (memOf w0 Z0 [] [(oRow l1v4 9 tyStr l1x4)] []) X_ Y_) (S := over (put (put (tab [(0, (str a0)), (4, l1v4), (5, (Value.int .i64 l1i5)), (6, (str (a0.drop (l1i5).toNat))), (8, (Value.int .i64 r6.2.1)), (10, (Value.int .i64 (IntKind.i64.wrap (r6.2.1 + (IntKind.i64.wrap r6.1)))))]) 37 (Value.bool true)) 47 undef) F_) ?_
    refine al_skip ?_
    refine al_nil ?_
    exact fr_fin hK_ ()⟩, ⟨_, rfl, [5, 15], rfl, by
    intro _
    intro _
    intro X_ Y_ F_ K_ hK_
    refine al_show (m := Mem.plus (memOf w0 Z0 [] [(oRow l1v4 9 tyStr l1x4)] []) X_ Y_) (S := over (put (put (tab [(0, (str a0)), (4, l1v4), (5, (Value.int .i64 l1i5)), (6, (str (a0.drop (l1i5).toNat))), (8, (Value.int .i64 r6.2.1)), (10, (Value.int .i64 (IntKind.i64.wrap (r6.2.1 + (IntKind.i64.wrap r6.1)))))]) 37 (Value.bool true)) 48 undef) F_) ?_
    refine al_skip ?_
    refine al_nil ?_
    exact fr_fin hK_ ()⟩, trivial⟩ ?_
          intro _
          intro _
          intro _
          intro _
          intro _
          intro _
          intro _
          intro _
          intro _
          intro X_ Y_ F_ K_ hK_
          refine al_show (m := Mem.plus (memOf w0 Z0 [] [(oRow l1v4 9 tyStr l1x4)] []) X_ Y_) (S := over (put (put (put (put (put (put (put (put (put (tab [(0, (str a0)), (4, l1v4), (5, (Value.int .i64 l1i5)), (6, (str (a0.drop (l1i5).toNat))), (8, (Value.int .i64 r6.2.1)), (10, (Value.int .i64 (IntKind.i64.wrap (r6.2.1 + (IntKind.i64.wrap r6.1)))))]) 32 (str (a0.drop (l1i5).toNat))) 33 (Value.int .i64 ((a0.drop (l1i5).toNat).length : Int))) 34 (Value.int .i64 (IntKind.i64.wrap (r6.2.1 + (IntKind.i64.wrap r6.1))))) 35 (Value.int .i64 (IntKind.i64.wrap ((IntKind.i64.wrap (r6.2.1 + (IntKind.i64.wrap r6.1))) + (8 : Int))))) 36 (Value.bool (decide (((a0.drop (l1i5).toNat).length : Int) < (IntKind.i64.wrap ((IntKind.i64.wrap (r6.2.1 + (IntKind.i64.wrap r6.1))) + (8 : Int))))))) 37 (Value.bool true)) 38 undef) 39 undef) 40 undef) F_) ?_
          refine al_skip ?_
          refine al_nil ?_
          refine aq_show (m := Mem.plus (memOf w0 Z0 [] [(oRow l1v4 9 tyStr l1x4)] []) X_ Y_) ?_
          refine aq_next hK_ [0] [] [(0, (str a0)), (4, l1v4), (5, (Value.int .i64 l1i5)), (6, (str (a0.drop (l1i5).toNat))), (8, (Value.int .i64 r6.2.1)), (10, (Value.int .i64 (IntKind.i64.wrap (r6.2.1 + (IntKind.i64.wrap r6.1))))), (37, (Value.bool true)), (41, undef)] [42, 43, 44, 45, 46, 47, 48, 49] [⟨18, 50, Unit, fun _ => { val := undef }⟩, ⟨19, 51, Unit, fun _ => { val := (Value.bool true) }⟩] rfl rfl (by decide) rfl ⟨rfl, rfl, rfl, rfl, rfl, rfl, rfl, rfl, trivial⟩ ⟨rfl, rfl, rfl, rfl, rfl, rfl, rfl, rfl, trivial⟩ ?_
          clear hK_ K_ F_ X_ Y_
          refine ta_show (m := (memOf w0 Z0 [] [(oRow l1v4 9 tyStr l1x4)] [])) (S := (tab [(0, (str a0)), (4, l1v4), (5, (Value.int .i64 l1i5)), (6, (str (a0.drop (l1i5).toNat))), (8, (Value.int .i64 r6.2.1)), (10, (Value.int .i64 (IntKind.i64.wrap (r6.2.1 + (IntKind.i64.wrap r6.1))))), (37, (Value.bool true)), (41, undef)])) ?_
          refine ta_end [10, 11, 12, 13, 14, 15, 16, 17, 18, 19] [42, 43, 44, 45, 46, 47, 48, 49, 50, 51] rfl rfl (by kernel_rfl) rfl ⟨⟨_, rfl, [], rfl, by
    intro X_ Y_ F_ K_ hK_
    refine al_show (m := Mem.plus (memOf w0 Z0 [] [(oRow l1v4 9 tyStr l1x4)] []) X_ Y_) (S := over (tab [(0, (str a0)), (4, l1v4), (5, (Value.int .i64 l1i5)), (6, (str (a0.drop (l1i5).toNat))), (8, (Value.int .i64 r6.2.1)), (10, (Value.int .i64 (IntKind.i64.wrap (r6.2.1 + (IntKind.i64.wrap r6.1))))), (37, (Value.bool true)), (41, undef)]) F_) ?_
    refine al_skip ?_
    refine al_nil ?_
    exact fr_fin hK_ ()⟩, ⟨_, rfl, [], rfl, by
    intro X_ Y_ F_ K_ hK_
    refine al_show (m := Mem.plus (memOf w0 Z0 [] [(oRow l1v4 9 tyStr l1x4)] []) X_ Y_) (S := over (tab [(0, (str a0)), (4, l1v4), (5, (Value.int .i64 l1i5)), (6, (str (a0.drop (l1i5).toNat))), (8, (Value.int .i64 r6.2.1)), (10, (Value.int .i64 (IntKind.i64.wrap (r6.2.1 + (IntKind.i64.wrap r6.1))))), (37, (Value.bool true)), (41, undef)]) F_) ?_
    refine al_skip ?_
    refine al_nil ?_
    exact fr_fin hK_ ()⟩, ⟨_, rfl, [], rfl, by
    intro X_ Y_ F_ K_ hK_
    refine al_show (m := Mem.plus (memOf w0 Z0 [] [(oRow l1v4 9 tyStr l1x4)] []) X_ Y_) (S := over (tab [(0, (str a0)), (4, l1v4), (5, (Value.int .i64 l1i5)), (6, (str (a0.drop (l1i5).toNat))), (8, (Value.int .i64 r6.2.1)), (10, (Value.int .i64 (IntKind.i64.wrap (r6.2.1 + (IntKind.i64.wrap r6.1))))), (37, (Value.bool true)), (41, undef)]) F_) ?_
    refine al_skip ?_
    refine al_nil ?_
    exact fr_fin hK_ ()⟩, ⟨_, rfl, [2], rfl, by
    intro _
    intro X_ Y_ F_ K_ hK_
    refine al_show (m := Mem.plus (memOf w0 Z0 [] [(oRow l1v4 9 tyStr l1x4)] []) X_ Y_) (S := over (put (tab [(0, (str a0)), (4, l1v4), (5, (Value.int .i64 l1i5)), (6, (str (a0.drop (l1i5).toNat))), (8, (Value.int .i64 r6.2.1)), (10, (Value.int .i64 (IntKind.i64.wrap (r6.2.1 + (IntKind.i64.wrap r6.1))))), (37, (Value.bool true)), (41, undef)]) 44 undef) F_) ?_
    refine al_skip ?_
    refine al_nil ?_
    exact fr_fin hK_ ()⟩, ⟨_, rfl, [0, 1, 3], rfl, by
    intro _
    intro _
    intro _
    intro X_ Y_ F_ K_ hK_
    refine al_show (m := Mem.plus (memOf w0 Z0 [] [(oRow l1v4 9 tyStr l1x4)] []) X_ Y_) (S := over (put (put (put (tab [(0, (str a0)), (4, l1v4), (5, (Value.int .i64 l1i5)), (6, (str (a0.drop (l1i5).toNat))), (8, (Value.int .i64 r6.2.1)), (10, (Value.int .i64 (IntKind.i64.wrap (r6.2.1 + (IntKind.i64.wrap r6.1))))), (37, (Value.bool true)), (41, undef)]) 42 undef) 43 undef) 45 undef) F_) ?_
    refine al_skip ?_
    refine al_nil ?_
    exact fr_fin hK_ ()⟩, ⟨_, rfl, [4], rfl, by
    intro _
    intro X_ Y_ F_ K_ hK_
    refine al_show (m := Mem.plus (memOf w0 Z0 [] [(oRow l1v4 9 tyStr l1x4)] []) X_ Y_) (S := over (put (tab [(0, (str a0)), (4, l1v4), (5, (Value.int .i64 l1i5)), (6, (str (a0.drop (l1i5).toNat))), (8, (Value.int .i64 r6.2.1)), (10, (Value.int .i64 (IntKind.i64.wrap (r6.2.1 + (IntKind.i64.wrap r6.1))))), (37, (Value.bool true)), (41, undef)]) 46 undef) F_) ?_
    refine al_skip ?_
    refine al_nil ?_
    exact fr_fin hK_ ()⟩, ⟨_, rfl, [5], rfl, by
    intro _
    intro X_ Y_ F_ K_ hK_
    refine al_show (m := Mem.plus (memOf w0 Z0 [] [(oRow l1v4 9 tyStr l1x4)] []) X_ Y_) (S := over (put (tab [(0, (str a0)), (4, l1v4), (5, (Value.int .i64 l1i5)), (6, (str (a0.drop (l1i5).toNat))), (8, (Value.int .i64 r6.2.1)), (10, (Value.int .i64 (IntKind.i64.wrap (r6.2.1 + (IntKind.i64.wrap r6.1))))), (37, (Value.bool true)), (41, undef)]) 47 undef) F_) ?_
    refine al_skip ?_
    refine al_nil ?_
    exact fr_fin hK_ ()⟩, ⟨_, rfl, [6], rfl, by
    intro _
    intro X_ Y_ F_ K_ hK_
    refine al_show (m := Mem.plus (memOf w0 Z0 [] [(oRow l1v4 9 tyStr l1x4)] []) X_ Y_) (S := over (put (tab [(0, (str a0)), (4, l1v4), (5, (Value.int .i64 l1i5)), (6, (str (a0.drop (l1i5).toNat))), (8, (Value.int .i64 r6.2.1)), (10, (Value.int .i64 (IntKind.i64.wrap (r6.2.1 + (IntKind.i64.wrap r6.1))))), (37, (Value.bool true)), (41, undef)]) 48 undef) F_) ?_
    refine al_skip ?_
    refine al_nil ?_
    exact fr_fin hK_ ()⟩, ⟨_, rfl, [7], rfl, by
    intro _
    intro X_ Y_ F_ K_ hK_
    refine al_show (m := Mem.plus (memOf w0 Z0 [] [(oRow l1v4 9 tyStr l1x4)] []) X_ Y_) (S := over (put (tab [(0, (str a0)), (4, l1v4), (5, (Value.int .i64 l1i5)), (6, (str (a0.drop (l1i5).toNat))), (8, (Value.int .i64 r6.2.1)), (10, (Value.int .i64 (IntKind.i64.wrap (r6.2.1 + (IntKind.i64.wrap r6.1))))), (37, (Value.bool true)), (41, undef)]) 49 undef) F_) ?_
    refine al_skip ?_
    refine al_nil ?_
    exact fr_fin hK_ ()⟩, ⟨_, rfl, [8], rfl, by
    intro _
    intro X_ Y_ F_ K_ hK_
    refine al_show (m := Mem.plus (memOf w0 Z0 [] [(oRow l1v4 9 tyStr l1x4)] []) X_ Y_) (S := over (put (tab [(0, (str a0)), (4, l1v4), (5, (Value.int .i64 l1i5)), (6, (str (a0.drop (l1i5).toNat))), (8, (Value.int .i64 r6.2.1)), (10, (Value.int .i64 (IntKind.i64.wrap (r6.2.1 + (IntKind.i64.wrap r6.1))))), (37, (Value.bool true)), (41, undef)]) 50 undef) F_) ?_
    refine al_val (ov_pick_t rfl rfl rfl) ?_
    refine al_nil ?_
    exact fr_fin hK_ ()⟩, trivial⟩ ?_
          intro _
          intro _
          intro _
          intro _
          intro _
          intro _
          intro _
          intro _
          intro _
          intro _
          refine aq_show (m := (memOf w0 Z0 [] [(oRow l1v4 9 tyStr l1x4)] [])) (S := (put (put (put (put (put (put (put (put (put (put (tab [(0, (str a0)), (4, l1v4), (5, (Value.int .i64 l1i5)), (6, (str (a0.drop (l1i5).toNat))), (8, (Value.int .i64 r6.2.1)), (10, (Value.int .i64 (IntKind.i64.wrap (r6.2.1 + (IntKind.i64.wrap r6.1))))), (37, (Value.bool true)), (41, undef)]) 42 undef) 43 undef) 44 undef) 45 undef) 46 undef) 47 undef) 48 undef) 49 undef) 50 undef) 51 (Value.bool true))) ?_
          exact aq_join true h (fun w a hm hs => norm hm hs [0] [] [(0, (str a0)), (4, l1v4), (5, (Value.int .i64 l1i5)), (6, (str (a0.drop (l1i5).toNat))), (8, (Value.int .i64 r6.2.1)), (10, (Value.int .i64 (IntKind.i64.wrap (r6.2.1 + (IntKind.i64.wrap r6.1))))), (51, (Value.bool true))] (by decide) ⟨rfl, rfl, rfl, rfl, rfl, rfl, rfl, trivial⟩)
        · replace h := bif_f hb17 h
          obtain ⟨hc18, h⟩ := req_some h
          obtain ⟨hc19, h⟩ := req_some h
          obtain ⟨hc20, h⟩ := req_some h
          obtain ⟨hc23, h⟩ := req_some h
          refine aw_region_open [⟨0, 32, Unit, fun _ => { val := (str (a0.drop (l1i5).toNat)) }⟩, ⟨1, 33, Unit, fun _ => { val := (Value.int .i64 ((a0.drop (l1i5).toNat).length : Int)) }⟩, ⟨2, 34, Unit, fun _ => { val := (Value.int .i64 (IntKind.i64.wrap (r6.2.1 + (IntKind.i64.wrap r6.1)))) }⟩, ⟨3, 35, Unit, fun _ => { val := (Value.int .i64 (IntKind.i64.wrap ((IntKind.i64.wrap (r6.2.1 + (IntKind.i64.wrap r6.1))) + (8 : Int)))) }⟩, ⟨4, 36, Unit, fun _ => { val := (Value.bool (decide (((a0.drop (l1i5).toNat).length : Int) < (IntKind.i64.wrap ((IntKind.i64.wrap (r6.2.1 + (IntKind.i64.wrap r6.1))) + (8 : Int)))))) }⟩, ⟨5, 37, Unit, fun _ => { val := (Value.bool false) }⟩, ⟨6, 38, Unit, fun _ => { val := (str (a0.drop (l1i5).toNat)) }⟩, ⟨7, 39, Unit, fun _ => { val := (Value.int .i64 (IntKind.i64.wrap (r6.2.1 + (IntKind.i64.wrap r6.1)))) }⟩, ⟨8, 40, Unit, fun _ => { val := (str ((a0.drop (l1i5).toNat).take ((IntKind.i64.wrap (r6.2.1 + (IntKind.i64.wrap r6.1)))).toNat)) }⟩, ⟨10, 42, Unit, fun _ => { val := (str (a0.drop (l1i5).toNat)) }⟩, ⟨11, 43, Unit, fun _ => { val := (Value.int .i64 (IntKind.i64.wrap (r6.2.1 + (IntKind.i64.wrap r6.1)))) }⟩, ⟨12, 44, Unit, fun _ => { val := (Value.int .i64 (IntKind.i64.wrap (r6.2.1 + (IntKind.i64.wrap r6.1)))) }⟩, ⟨13, 45, Unit, fun _ => { val := (Value.int .i64 (IntKind.i64.wrap ((IntKind.i64.wrap (r6.2.1 + (IntKind.i64.wrap r6.1))) + (8 : Int)))) }⟩, ⟨14, 46, Unit, fun _ => { val := (str (cut (a0.drop (l1i5).toNat) (IntKind.i64.wrap (r6.2.1 + (IntKind.i64.wrap r6.1))) (IntKind.i64.wrap ((IntKind.i64.wrap (r6.2.1 + (IntKind.i64.wrap r6.1))) + (8 : Int))))) }⟩, ⟨15, 47, Value, fun (i : Value) => { val := i, fz := [(fDat (tyList tyU8) [i] (cut (a0.drop (l1i5).toNat) (IntKind.i64.wrap (r6.2.1 + (IntKind.i64.wrap r6.1))) (IntKind.i64.wrap ((IntKind.i64.wrap (r6.2.1 + (IntKind.i64.wrap r6.1))) + (8 : Int)))))] }⟩, ⟨16, 48, Value, fun (i : Value) => { val := i, fz := [(fPtr tyA8u8 i (ofA8u8 (cut (a0.drop (l1i5).toNat) (IntKind.i64.wrap (r6.2.1 + (IntKind.i64.wrap r6.1))) (IntKind.i64.wrap ((IntKind.i64.wrap (r6.2.1 + (IntKind.i64.wrap r6.1))) + (8 : Int))))))] }⟩, ⟨17, 49, Unit, fun _ => { val := (ag (cA8u8 (ofA8u8 (cut (a0.drop (l1i5).toNat) (IntKind.i64.wrap (r6.2.1 + (IntKind.i64.wrap r6.1))) (IntKind.i64.wrap ((IntKind.i64.wrap (r6.2.1 + (IntKind.i64.wrap r6.1))) + (8 : Int))))))) }⟩] (tab [(0, (str a0)), (4, l1v4), (5, (Value.int .i64 l1i5)), (6, (str (a0.drop (l1i5).toNat))), (8, (Value.int .i64 r6.2.1)), (10, (Value.int .i64 (IntKind.i64.wrap (r6.2.1 + (IntKind.i64.wrap r6.1)))))]) mixed (fun a hs => hs.tab _ (allT_mem ⟨rfl, rfl, rfl, rfl, rfl, rfl, trivial⟩)) ?_
          refine ta_show (m := (memOf w0 Z0 [] [(oRow l1v4 9 tyStr l1x4)] [])) (S := (tab [(0, (str a0)), (4, l1v4), (5, (Value.int .i64 l1i5)), (6, (str (a0.drop (l1i5).toNat))), (8, (Value.int .i64 r6.2.1)), (10, (Value.int .i64 (IntKind.i64.wrap (r6.2.1 + (IntKind.i64.wrap r6.1)))))])) ?_
          refine ta_step 9 _ [0, 1, 2, 3, 4, 5, 6, 7, 8, 10, 11, 12, 13, 14, 15, 16, 17] [32, 33, 34, 35, 36, 37, 38, 39, 40, 42, 43, 44, 45, 46, 47, 48, 49] [0, 1, 2, 3, 4, 5, 6, 7, 8] [18, 19] [⟨0, 32, Unit, fun _ => { val := (str (a0.drop (l1i5).toNat)) }⟩, ⟨1, 33, Unit, fun _ => { val := (Value.int .i64 ((a0.drop (l1i5).toNat).length : Int)) }⟩, ⟨2, 34, Unit, fun _ => { val := (Value.int .i64 (IntKind.i64.wrap (r6.2.1 + (IntKind.i64.wrap r6.1)))) }⟩, ⟨3, 35, Unit, fun _ => { val := (Value.int .i64 (IntKind.i64.wrap ((IntKind.i64.wrap (r6.2.1 + (IntKind.i64.wrap r6.1))) + (8 : Int)))) }⟩, ⟨4, 36, Unit, fun _ => { val := (Value.bool (decide (((a0.drop (l1i5).toNat).length : Int) < (IntKind.i64.wrap ((IntKind.i64.wrap (r6.2.1 + (IntKind.i64.wrap r6.1))) + (8 : Int)))))) }⟩, ⟨5, 37, Unit, fun _ => { val := (Value.bool false) }⟩, ⟨6, 38, Unit, fun _ => { val := (str (a0.drop (l1i5).toNat)) }⟩, ⟨7, 39, Unit, fun _ => { val := (Value.int .i64 (IntKind.i64.wrap (r6.2.1 + (IntKind.i64.wrap r6.1)))) }⟩, ⟨8, 40, Unit, fun _ => { val := (str ((a0.drop (l1i5).toNat).take ((IntKind.i64.wrap (r6.2.1 + (IntKind.i64.wrap r6.1)))).toNat)) }⟩] [⟨10, 42, Unit, fun _ => { val := (str (a0.drop (l1i5).toNat)) }⟩, ⟨11, 43, Unit, fun _ => { val := (Value.int .i64 (IntKind.i64.wrap (r6.2.1 + (IntKind.i64.wrap r6.1)))) }⟩, ⟨12, 44, Unit, fun _ => { val := (Value.int .i64 (IntKind.i64.wrap (r6.2.1 + (IntKind.i64.wrap r6.1)))) }⟩, ⟨13, 45, Unit, fun _ => { val := (Value.int .i64 (IntKind.i64.wrap ((IntKind.i64.wrap (r6.2.1 + (IntKind.i64.wrap r6.1))) + (8 : Int)))) }⟩, ⟨14, 46, Unit, fun _ => { val := (str (cut (a0.drop (l1i5).toNat) (IntKind.i64.wrap (r6.2.1 + (IntKind.i64.wrap r6.1))) (IntKind.i64.wrap ((IntKind.i64.wrap (r6.2.1 + (IntKind.i64.wrap r6.1))) + (8 : Int))))) }⟩, ⟨15, 47, Value, fun (i : Value) => { val := i, fz := [(fDat (tyList tyU8) [i] (cut (a0.drop (l1i5).toNat) (IntKind.i64.wrap (r6.2.1 + (IntKind.i64.wrap r6.1))) (IntKind.i64.wrap ((IntKind.i64.wrap (r6.2.1 + (IntKind.i64.wrap r6.1))) + (8 : Int)))))] }⟩, ⟨16, 48, Value, fun (i : Value) => { val := i, fz := [(fPtr tyA8u8 i (ofA8u8 (cut (a0.drop (l1i5).toNat) (IntKind.i64.wrap (r6.2.1 + (IntKind.i64.wrap r6.1))) (IntKind.i64.wrap ((IntKind.i64.wrap (r6.2.1 + (IntKind.i64.wrap r6.1))) + (8 : Int))))))] }⟩, ⟨17, 49, Unit, fun _ => { val := (ag (cA8u8 (ofA8u8 (cut (a0.drop (l1i5).toNat) (IntKind.i64.wrap (r6.2.1 + (IntKind.i64.wrap r6.1))) (IntKind.i64.wrap ((IntKind.i64.wrap (r6.2.1 + (IntKind.i64.wrap r6.1))) + (8 : Int))))))) }⟩] rfl rfl rfl (by kernel_rfl) rfl rfl rfl ⟨⟨_, rfl, [], rfl, by
    intro X_ Y_ F_ K_ hK_
    refine al_show (m := Mem.plus (memOf w0 Z0 [] [(oRow l1v4 9 tyStr l1x4)] []) X_ Y_) (S := over (tab [(0, (str a0)), (4, l1v4), (5, (Value.int .i64 l1i5)), (6, (str (a0.drop (l1i5).toNat))), (8, (Value.int .i64 r6.2.1)), (10, (Value.int .i64 (IntKind.i64.wrap (r6.2.1 + (IntKind.i64.wrap r6.1)))))]) F_) ?_
    refine al_val (ov_move rfl rfl) ?_
    refine al_nil ?_
    exact fr_fin hK_ ()⟩, ⟨_, rfl, [0], rfl, by
    intro _
    intro X_ Y_ F_ K_ hK_
    refine al_show (m := Mem.plus (memOf w0 Z0 [] [(oRow l1v4 9 tyStr l1x4)] []) X_ Y_) (S := over (put (tab [(0, (str a0)), (4, l1v4), (5, (Value.int .i64 l1i5)), (6, (str (a0.drop (l1i5).toNat))), (8, (Value.int .i64 r6.2.1)), (10, (Value.int .i64 (IntKind.i64.wrap (r6.2.1 + (IntKind.i64.wrap r6.1)))))]) 32 (str (a0.drop (l1i5).toNat))) F_) ?_
    refine al_val (ov_strLen Tryd.underlying9 rfl rfl) ?_
    refine al_nil ?_
    exact fr_fin hK_ ()⟩, ⟨_, rfl, [], rfl, by
    intro X_ Y_ F_ K_ hK_
    refine al_show (m := Mem.plus (memOf w0 Z0 [] [(oRow l1v4 9 tyStr l1x4)] []) X_ Y_) (S := over (tab [(0, (str a0)), (4, l1v4), (5, (Value.int .i64 l1i5)), (6, (str (a0.drop (l1i5).toNat))), (8, (Value.int .i64 r6.2.1)), (10, (Value.int .i64 (IntKind.i64.wrap (r6.2.1 + (IntKind.i64.wrap r6.1)))))]) F_) ?_
    refine al_val (ov_move rfl rfl) ?_
    refine al_nil ?_
    exact fr_fin hK_ ()⟩, ⟨_, rfl, [2], rfl, by
    intro _
    intro X_ Y_ F_ K_ hK_
    refine al_show (m := Mem.plus (memOf w0 Z0 [] [(oRow l1v4 9 tyStr l1x4)] []) X_ Y_) (S := over (put (tab [(0, (str a0)), (4, l1v4), (5, (Value.int .i64 l1i5)), (6, (str (a0.drop (l1i5).toNat))), (8, (Value.int .i64 r6.2.1)), (10, (Value.int .i64 (IntKind.i64.wrap (r6.2.1 + (IntKind.i64.wrap r6.1)))))]) 34 (Value.int .i64 (IntKind.i64.wrap (r6.2.1 + (IntKind.i64.wrap r6.1))))) F_) ?_
    refine al_val (ov_int rfl rfl rfl rfl) ?_
    refine al_nil ?_
    exact fr_fin hK_ ()⟩, ⟨_, rfl, [1, 3], rfl, by
    intro _
    intro _
    intro X_ Y_ F_ K_ hK_
    refine al_show (m := Mem.plus (memOf w0 Z0 [] [(oRow l1v4 9 tyStr l1x4)] []) X_ Y_) (S := over (put (put (tab [(0, (str a0)), (4, l1v4), (5, (Value.int .i64 l1i5)), (6, (str (a0.drop (l1i5).toNat))), (8, (Value.int .i64 r6.2.1)), (10, (Value.int .i64 (IntKind.i64.wrap (r6.2.1 + (IntKind.i64.wrap r6.1)))))]) 33 (Value.int .i64 ((a0.drop (l1i5).toNat).length : Int))) 35 (Value.int .i64 (IntKind.i64.wrap ((IntKind.i64.wrap (r6.2.1 + (IntKind.i64.wrap r6.1))) + (8 : Int))))) F_) ?_
    refine al_val (ov_int rfl rfl rfl rfl) ?_
    refine al_nil ?_
    exact fr_fin hK_ ()⟩, ⟨_, rfl, [4], rfl, by
    intro _
    intro X_ Y_ F_ K_ hK_
    refine al_show (m := Mem.plus (memOf w0 Z0 [] [(oRow l1v4 9 tyStr l1x4)] []) X_ Y_) (S := over (put (tab [(0, (str a0)), (4, l1v4), (5, (Value.int .i64 l1i5)), (6, (str (a0.drop (l1i5).toNat))), (8, (Value.int .i64 r6.2.1)), (10, (Value.int .i64 (IntKind.i64.wrap (r6.2.1 + (IntKind.i64.wrap r6.1)))))]) 36 (Value.bool (decide (((a0.drop (l1i5).toNat).length : Int) < (IntKind.i64.wrap ((IntKind.i64.wrap (r6.2.1 + (IntKind.i64.wrap r6.1))) + (8 : Int))))))) F_) ?_
    refine al_val (ov_cast (by first | rw [hb17] | rfl) (ov_move rfl rfl)) ?_
    refine al_nil ?_
    exact fr_fin hK_ ()⟩, ⟨_, rfl, [5], rfl, by
    intro _
    intro X_ Y_ F_ K_ hK_
    refine al_show (m := Mem.plus (memOf w0 Z0 [] [(oRow l1v4 9 tyStr l1x4)] []) X_ Y_) (S := over (put (tab [(0, (str a0)), (4, l1v4), (5, (Value.int .i64 l1i5)), (6, (str (a0.drop (l1i5).toNat))), (8, (Value.int .i64 r6.2.1)), (10, (Value.int .i64 (IntKind.i64.wrap (r6.2.1 + (IntKind.i64.wrap r6.1)))))]) 37 (Value.bool false)) F_) ?_
    refine al_val (ov_move rfl rfl) ?_
    refine al_nil ?_
    exact fr_fin hK_ ()⟩, ⟨_, rfl, [5], rfl, by
    intro _
    intro X_ Y_ F_ K_ hK_
    refine al_show (m := Mem.plus (memOf w0 Z0 [] [(oRow l1v4 9 tyStr l1x4)] []) X_ Y_) (S := over (put (tab [(0, (str a0)), (4, l1v4), (5, (Value.int .i64 l1i5)), (6, (str (a0.drop (l1i5).toNat))), (8, (Value.int .i64 r6.2.1)), (10, (Value.int .i64 (IntKind.i64.wrap (r6.2.1 + (IntKind.i64.wrap r6.1)))))]) 37 (Value.bool false)) F_) ?_
    refine al_val (ov_move rfl rfl) ?_
    refine al_nil ?_
    exact fr_fin hK_ ()⟩, ⟨_, rfl, [5, 6, 7], rfl, by
    intro _
    intro _
    intro _
    intro X_ Y_ F_ K_ hK_
    refine al_show (m := Mem.plus (memOf w0 Z0 [] [(oRow l1v4 9 tyStr l1x4)] []) X_ Y_) (S := over (put (put (put (tab [(0, (str a0)), (4, l1v4), (5, (Value.int .i64 l1i5)), (6, (str (a0.drop (l1i5).toNat))), (8, (Value.int .i64 r6.2.1)), (10, (Value.int .i64 (IntKind.i64.wrap (r6.2.1 + (IntKind.i64.wrap r6.1)))))]) 37 (Value.bool false)) 38 (str (a0.drop (l1i5).toNat))) 39 (Value.int .i64 (IntKind.i64.wrap (r6.2.1 + (IntKind.i64.wrap r6.1))))) F_) ?_
    refine al_val (ov_strTo hc18.1 hc18.2 Tryd.underlying9 rfl rfl rfl) ?_
    refine al_nil ?_
    exact fr_fin hK_ ()⟩, ⟨_, rfl, [5], rfl, by
    intro _
    intro X_ Y_ F_ K_ hK_
    refine al_show (m := Mem.plus (memOf w0 Z0 [] [(oRow l1v4 9 tyStr l1x4)] []) X_ Y_) (S := over (put (tab [(0, (str a0)), (4, l1v4), (5, (Value.int .i64 l1i5)), (6, (str (a0.drop (l1i5).toNat))), (8, (Value.int .i64 r6.2.1)), (10, (Value.int .i64 (IntKind.i64.wrap (r6.2.1 + (IntKind.i64.wrap r6.1)))))]) 37 (Value.bool false)) F_) ?_
    refine al_val (ov_move rfl rfl) ?_
    refine al_nil ?_
    exact fr_fin hK_ ()⟩, ⟨_, rfl, [5], rfl, by
    intro _
    intro X_ Y_ F_ K_ hK_
    refine al_show (m := Mem.plus (memOf w0 Z0 [] [(oRow l1v4 9 tyStr l1x4)] []) X_ Y_) (S := over (put (tab [(0, (str a0)), (4, l1v4), (5, (Value.int .i64 l1i5)), (6, (str (a0.drop (l1i5).toNat))), (8, (Value.int .i64 r6.2.1)), (10, (Value.int .i64 (IntKind.i64.wrap (r6.2.1 + (IntKind.i64.wrap r6.1)))))]) 37 (Value.bool false)) F_) ?_
    refine al_val (ov_move rfl rfl) ?_
    refine al_nil ?_
    exact fr_fin hK_ ()⟩, ⟨_, rfl, [5], rfl, by
    intro _
    intro X_ Y_ F_ K_ hK_
    refine al_show (m := Mem.plus (memOf w0 Z0 [] [(oRow l1v4 9 tyStr l1x4)] []) X_ Y_) (S := over (put (tab [(0, (str a0)), (4, l1v4), (5, (Value.int .i64 l1i5)), (6, (str (a0.drop (l1i5).toNat))), (8, (Value.int .i64 r6.2.1)), (10, (Value.int .i64 (IntKind.i64.wrap (r6.2.1 + (IntKind.i64.wrap r6.1)))))]) 37 (Value.bool false)) F_) ?_
    refine al_val (ov_move rfl rfl) ?_
    refine al_nil ?_
    exact fr_fin hK_ ()⟩, ⟨_, rfl, [5, 11], rfl, by
    intro _
    intro _
    intro X_ Y_ F_ K_ hK_
    refine al_show (m := Mem.plus (memOf w0 Z0 [] [(oRow l1v4 9 tyStr l1x4)] []) X_ Y_) (S := over (put (put (tab [(0, (str a0)), (4, l1v4), (5, (Value.int .i64 l1i5)), (6, (str (a0.drop (l1i5).toNat))), (8, (Value.int .i64 r6.2.1)), (10, (Value.int .i64 (IntKind.i64.wrap (r6.2.1 + (IntKind.i64.wrap r6.1)))))]) 37 (Value.bool false)) 44 (Value.int .i64 (IntKind.i64.wrap (r6.2.1 + (IntKind.i64.wrap r6.1))))) F_) ?_
    refine al_val (ov_int rfl rfl rfl rfl) ?_
    refine al_nil ?_
    exact fr_fin hK_ ()⟩, ⟨_, rfl, [5, 9, 10, 12], rfl, by
    intro _
    intro _
    intro _
    intro _
    intro X_ Y_ F_ K_ hK_
    refine al_show (m := Mem.plus (memOf w0 Z0 [] [(oRow l1v4 9 tyStr l1x4)] []) X_ Y_) (S := over (put (put (put (put (tab [(0, (str a0)), (4, l1v4), (5, (Value.int .i64 l1i5)), (6, (str (a0.drop (l1i5).toNat))), (8, (Value.int .i64 r6.2.1)), (10, (Value.int .i64 (IntKind.i64.wrap (r6.2.1 + (IntKind.i64.wrap r6.1)))))]) 37 (Value.bool false)) 42 (str (a0.drop (l1i5).toNat))) 43 (Value.int .i64 (IntKind.i64.wrap (r6.2.1 + (IntKind.i64.wrap r6.1))))) 45 (Value.int .i64 (IntKind.i64.wrap ((IntKind.i64.wrap (r6.2.1 + (IntKind.i64.wrap r6.1))) + (8 : Int))))) F_) ?_
    refine al_val (ov_strCut hc19.1 hc19.2.1 hc19.2.2 Tryd.underlying9 rfl rfl rfl rfl) ?_
    refine al_nil ?_
    exact fr_fin hK_ ()⟩, ⟨_, rfl, [5, 13], rfl, by
    intro _
    intro _
    intro X_ Y_ F_ K_ hK_
    refine al_show (m := Mem.plus (memOf w0 Z0 [] [(oRow l1v4 9 tyStr l1x4)] []) X_ Y_) (S := over (put (put (tab [(0, (str a0)), (4, l1v4), (5, (Value.int .i64 l1i5)), (6, (str (a0.drop (l1i5).toNat))), (8, (Value.int .i64 r6.2.1)), (10, (Value.int .i64 (IntKind.i64.wrap (r6.2.1 + (IntKind.i64.wrap r6.1)))))]) 37 (Value.bool false)) 46 (str (cut (a0.drop (l1i5).toNat) (IntKind.i64.wrap (r6.2.1 + (IntKind.i64.wrap r6.1))) (IntKind.i64.wrap ((IntKind.i64.wrap (r6.2.1 + (IntKind.i64.wrap r6.1))) + (8 : Int)))))) F_) ?_
    refine al_bytes hc20 rfl Tryd.underlying9 Tryd.underlying89 Tryd.underlying5 rfl (fun s21 => ?_)
    refine al_nil ?_
    exact fr_fin hK_ s21⟩, ⟨_, rfl, [5, 14], rfl, by
    intro _
    intro s21
    intro X_ Y_ F_ K_ hK_
    refine al_show (m := Mem.plus (memOf w0 Z0 [] [(oRow l1v4 9 tyStr l1x4)] [(fDat (tyList tyU8) [s21] (cut (a0.drop (l1i5).toNat) (IntKind.i64.wrap (r6.2.1 + (IntKind.i64.wrap r6.1))) (IntKind.i64.wrap ((IntKind.i64.wrap (r6.2.1 + (IntKind.i64.wrap r6.1))) + (8 : Int)))))]) X_ Y_) (S := over (put (put (tab [(0, (str a0)), (4, l1v4), (5, (Value.int .i64 l1i5)), (6, (str (a0.drop (l1i5).toNat))), (8, (Value.int .i64 r6.2.1)), (10, (Value.int .i64 (IntKind.i64.wrap (r6.2.1 + (IntKind.i64.wrap r6.1)))))]) 37 (Value.bool false)) 47 s21) F_) ?_
    refine al_s2ap (τA := tyA8u8) (x := (ofA8u8 (cut (a0.drop (l1i5).toNat) (IntKind.i64.wrap (r6.2.1 + (IntKind.i64.wrap r6.1))) (IntKind.i64.wrap ((IntKind.i64.wrap (r6.2.1 + (IntKind.i64.wrap r6.1))) + (8 : Int)))))) 0 8 hc23 rfl (fun h9 => oflA8u8 hc23 h9) rfl rfl Tryd.underlying49 rfl (fun p22 => ?_)
    refine al_nil ?_
    exact fr_fin hK_ p22⟩, ⟨_, rfl, [5, 15], rfl, by
    intro _
    intro p22
    intro X_ Y_ F_ K_ hK_
    refine al_show (m := Mem.plus (memOf w0 Z0 [] [(oRow l1v4 9 tyStr l1x4)] [(fPtr tyA8u8 p22 (ofA8u8 (cut (a0.drop (l1i5).toNat) (IntKind.i64.wrap (r6.2.1 + (IntKind.i64.wrap r6.1))) (IntKind.i64.wrap ((IntKind.i64.wrap (r6.2.1 + (IntKind.i64.wrap r6.1))) + (8 : Int))))))]) X_ Y_) (S := over (put (put (tab [(0, (str a0)), (4, l1v4), (5, (Value.int .i64 l1i5)), (6, (str (a0.drop (l1i5).toNat))), (8, (Value.int .i64 r6.2.1)), (10, (Value.int .i64 (IntKind.i64.wrap (r6.2.1 + (IntKind.i64.wrap r6.1)))))]) 37 (Value.bool false)) 48 p22) F_) ?_
    refine al_val (ov_loadP (ds := (cA8u8 (ofA8u8 (cut (a0.drop (l1i5).toNat) (IntKind.i64.wrap (r6.2.1 + (IntKind.i64.wrap r6.1))) (IntKind.i64.wrap ((IntKind.i64.wrap (r6.2.1 + (IntKind.i64.wrap r6.1))) + (8 : Int))))))) 0 rfl encA8u8 rfl Tryd.underlying49 sz49 rfl rfl rfl) ?_
    refine al_nil ?_
    exact fr_fin hK_ ()⟩, trivial⟩ ?_
          intro _
          intro _
          intro _
          intro _
          intro _
          intro _
          intro _
          intro _
          intro _
          intro X_ Y_ F_ K_ hK_
          refine al_show (m := Mem.plus (memOf w0 Z0 [] [(oRow l1v4 9 tyStr l1x4)] []) X_ Y_) (S := over (put (put (put (put (put (put (put (put (put (tab [(0, (str a0)), (4, l1v4), (5, (Value.int .i64 l1i5)), (6, (str (a0.drop (l1i5).toNat))), (8, (Value.int .i64 r6.2.1)), (10, (Value.int .i64 (IntKind.i64.wrap (r6.2.1 + (IntKind.i64.wrap r6.1)))))]) 32 (str (a0.drop (l1i5).toNat))) 33 (Value.int .i64 ((a0.drop (l1i5).toNat).length : Int))) 34 (Value.int .i64 (IntKind.i64.wrap (r6.2.1 + (IntKind.i64.wrap r6.1))))) 35 (Value.int .i64 (IntKind.i64.wrap ((IntKind.i64.wrap (r6.2.1 + (IntKind.i64.wrap r6.1))) + (8 : Int))))) 36 (Value.bool (decide (((a0.drop (l1i5).toNat).length : Int) < (IntKind.i64.wrap ((IntKind.i64.wrap (r6.2.1 + (IntKind.i64.wrap r6.1))) + (8 : Int))))))) 37 (Value.bool false)) 38 (str (a0.drop (l1i5).toNat))) 39 (Value.int .i64 (IntKind.i64.wrap (r6.2.1 + (IntKind.i64.wrap r6.1))))) 40 (str ((a0.drop (l1i5).toNat).take ((IntKind.i64.wrap (r6.2.1 + (IntKind.i64.wrap r6.1)))).toNat))) F_) ?_
          obtain ⟨r25, hc24, h⟩ := opt_some h
          refine al_callX (vs := [(str ((a0.drop (l1i5).toNat).take ((IntKind.i64.wrap (r6.2.1 + (IntKind.i64.wrap r6.1)))).toNat))]) (f_mix_ID_ok fu ((a0.drop (l1i5).toNat).take ((IntKind.i64.wrap (r6.2.1 + (IntKind.i64.wrap r6.1)))).toNat) hc24) [] [] [0] pre_nil rfl (by simp) (by decide) rfl (.inl rfl) rfl Tryd.func55 rfl rfl rfl (fun _ => ?_)
          refine al_nil ?_
          refine aq_show (m := Mem.plus (memOf w0 Z0 [] [(oRow l1v4 9 tyStr l1x4)] []) X_ Y_) ?_
          refine aq_next hK_ [0] [] [(0, (str a0)), (4, l1v4), (5, (Value.int .i64 l1i5)), (6, (str (a0.drop (l1i5).toNat))), (8, (Value.int .i64 r6.2.1)), (10, (Value.int .i64 (IntKind.i64.wrap (r6.2.1 + (IntKind.i64.wrap r6.1))))), (37, (Value.bool false)), (41, (ag (cA8u8 r25)))] [42, 43, 44, 45, 46, 47, 48, 49] [⟨18, 50, Unit, fun _ => { val := (Value.bool (!(r25 == (ofA8u8 (cut (a0.drop (l1i5).toNat) (IntKind.i64.wrap (r6.2.1 + (IntKind.i64.wrap r6.1))) (IntKind.i64.wrap ((IntKind.i64.wrap (r6.2.1 + (IntKind.i64.wrap r6.1))) + (8 : Int)))))))) }⟩, ⟨19, 51, Unit, fun _ => { val := (Value.bool (!(r25 == (ofA8u8 (cut (a0.drop (l1i5).toNat) (IntKind.i64.wrap (r6.2.1 + (IntKind.i64.wrap r6.1))) (IntKind.i64.wrap ((IntKind.i64.wrap (r6.2.1 + (IntKind.i64.wrap r6.1))) + (8 : Int)))))))) }⟩] rfl rfl (by decide) rfl ⟨rfl, rfl, rfl, rfl, rfl, rfl, rfl, rfl, trivial⟩ ⟨rfl, rfl, rfl, rfl, rfl, rfl, rfl, rfl, trivial⟩ ?_
          clear hK_ K_ F_ X_ Y_
          refine ta_show (m := (memOf w0 Z0 [] [(oRow l1v4 9 tyStr l1x4)] [])) (S := (tab [(0, (str a0)), (4, l1v4), (5, (Value.int .i64 l1i5)), (6, (str (a0.drop (l1i5).toNat))), (8, (Value.int .i64 r6.2.1)), (10, (Value.int .i64 (IntKind.i64.wrap (r6.2.1 + (IntKind.i64.wrap r6.1))))), (37, (Value.bool false)), (41, (ag (cA8u8 r25)))])) ?_
          refine ta_end [10, 11, 12, 13, 14, 15, 16, 17, 18, 19] [42, 43, 44, 45, 46, 47, 48, 49, 50, 51] rfl rfl (by kernel_rfl) rfl ⟨⟨_, rfl, [], rfl, by
    intro X_ Y_ F_ K_ hK_
    refine al_show (m := Mem.plus (memOf w0 Z0 [] [(oRow l1v4 9 tyStr l1x4)] []) X_ Y_) (S := over (tab [(0, (str a0)), (4, l1v4), (5, (Value.int .i64 l1i5)), (6, (str (a0.drop (l1i5).toNat))), (8, (Value.int .i64 r6.2.1)), (10, (Value.int .i64 (IntKind.i64.wrap (r6.2.1 + (IntKind.i64.wrap r6.1))))), (37, (Value.bool false)), (41, (ag (cA8u8 r25)))]) F_) ?_
    refine al_val (ov_move rfl rfl) ?_
    refine al_nil ?_
    exact fr_fin hK_ ()⟩, ⟨_, rfl, [], rfl, by
    intro X_ Y_ F_ K_ hK_
    refine al_show (m := Mem.plus (memOf w0 Z0 [] [(oRow l1v4 9 tyStr l1x4)] []) X_ Y_) (S := over (tab [(0, (str a0)), (4, l1v4), (5, (Value.int .i64 l1i5)), (6, (str (a0.drop (l1i5).toNat))), (8, (Value.int .i64 r6.2.1)), (10, (Value.int .i64 (IntKind.i64.wrap (r6.2.1 + (IntKind.i64.wrap r6.1))))), (37, (Value.bool false)), (41, (ag (cA8u8 r25)))]) F_) ?_
    refine al_val (ov_move rfl rfl) ?_
    refine al_nil ?_
    exact fr_fin hK_ ()⟩, ⟨_, rfl, [], rfl, by
    intro X_ Y_ F_ K_ hK_
    refine al_show (m := Mem.plus (memOf w0 Z0 [] [(oRow l1v4 9 tyStr l1x4)] []) X_ Y_) (S := over (tab [(0, (str a0)), (4, l1v4), (5, (Value.int .i64 l1i5)), (6, (str (a0.drop (l1i5).toNat))), (8, (Value.int .i64 r6.2.1)), (10, (Value.int .i64 (IntKind.i64.wrap (r6.2.1 + (IntKind.i64.wrap r6.1))))), (37, (Value.bool false)), (41, (ag (cA8u8 r25)))]) F_) ?_
    refine al_val (ov_move rfl rfl) ?_
    refine al_nil ?_
    exact fr_fin hK_ ()⟩, ⟨_, rfl, [2], rfl, by
    intro _
    intro X_ Y_ F_ K_ hK_
    refine al_show (m := Mem.plus (memOf w0 Z0 [] [(oRow l1v4 9 tyStr l1x4)] []) X_ Y_) (S := over (put (tab [(0, (str a0)), (4, l1v4), (5, (Value.int .i64 l1i5)), (6, (str (a0.drop (l1i5).toNat))), (8, (Value.int .i64 r6.2.1)), (10, (Value.int .i64 (IntKind.i64.wrap (r6.2.1 + (IntKind.i64.wrap r6.1))))), (37, (Value.bool false)), (41, (ag (cA8u8 r25)))]) 44 (Value.int .i64 (IntKind.i64.wrap (r6.2.1 + (IntKind.i64.wrap r6.1))))) F_) ?_
    refine al_val (ov_int rfl rfl rfl rfl) ?_
    refine al_nil ?_
    exact fr_fin hK_ ()⟩, ⟨_, rfl, [0, 1, 3], rfl, by
    intro _
    intro _
    intro _
    intro X_ Y_ F_ K_ hK_
    refine al_show (m := Mem.plus (memOf w0 Z0 [] [(oRow l1v4 9 tyStr l1x4)] []) X_ Y_) (S := over (put (put (put (tab [(0, (str a0)), (4, l1v4), (5, (Value.int .i64 l1i5)), (6, (str (a0.drop (l1i5).toNat))), (8, (Value.int .i64 r6.2.1)), (10, (Value.int .i64 (IntKind.i64.wrap (r6.2.1 + (IntKind.i64.wrap r6.1))))), (37, (Value.bool false)), (41, (ag (cA8u8 r25)))]) 42 (str (a0.drop (l1i5).toNat))) 43 (Value.int .i64 (IntKind.i64.wrap (r6.2.1 + (IntKind.i64.wrap r6.1))))) 45 (Value.int .i64 (IntKind.i64.wrap ((IntKind.i64.wrap (r6.2.1 + (IntKind.i64.wrap r6.1))) + (8 : Int))))) F_) ?_
    refine al_val (ov_strCut hc19.1 hc19.2.1 hc19.2.2 Tryd.underlying9 rfl rfl rfl rfl) ?_
    refine al_nil ?_
    exact fr_fin hK_ ()⟩, ⟨_, rfl, [4], rfl, by
    intro _
    intro X_ Y_ F_ K_ hK_
    refine al_show (m := Mem.plus (memOf w0 Z0 [] [(oRow l1v4 9 tyStr l1x4)] []) X_ Y_) (S := over (put (tab [(0, (str a0)), (4, l1v4), (5, (Value.int .i64 l1i5)), (6, (str (a0.drop (l1i5).toNat))), (8, (Value.int .i64 r6.2.1)), (10, (Value.int .i64 (IntKind.i64.wrap (r6.2.1 + (IntKind.i64.wrap r6.1))))), (37, (Value.bool false)), (41, (ag (cA8u8 r25)))]) 46 (str (cut (a0.drop (l1i5).toNat) (IntKind.i64.wrap (r6.2.1 + (IntKind.i64.wrap r6.1))) (IntKind.i64.wrap ((IntKind.i64.wrap (r6.2.1 + (IntKind.i64.wrap r6.1))) + (8 : Int)))))) F_) ?_
    refine al_bytes hc20 rfl Tryd.underlying9 Tryd.underlying89 Tryd.underlying5 rfl (fun s21 => ?_)
    refine al_nil ?_
    exact fr_fin hK_ s21⟩, ⟨_, rfl, [5], rfl, by
    intro s21
    intro X_ Y_ F_ K_ hK_
    refine al_show (m := Mem.plus (memOf w0 Z0 [] [(oRow l1v4 9 tyStr l1x4)] [(fDat (tyList tyU8) [s21] (cut (a0.drop (l1i5).toNat) (IntKind.i64.wrap (r6.2.1 + (IntKind.i64.wrap r6.1))) (IntKind.i64.wrap ((IntKind.i64.wrap (r6.2.1 + (IntKind.i64.wrap r6.1))) + (8 : Int)))))]) X_ Y_) (S := over (put (tab [(0, (str a0)), (4, l1v4), (5, (Value.int .i64 l1i5)), (6, (str (a0.drop (l1i5).toNat))), (8, (Value.int .i64 r6.2.1)), (10, (Value.int .i64 (IntKind.i64.wrap (r6.2.1 + (IntKind.i64.wrap r6.1))))), (37, (Value.bool false)), (41, (ag (cA8u8 r25)))]) 47 s21) F_) ?_
    refine al_s2ap (τA := tyA8u8) (x := (ofA8u8 (cut (a0.drop (l1i5).toNat) (IntKind.i64.wrap (r6.2.1 + (IntKind.i64.wrap r6.1))) (IntKind.i64.wrap ((IntKind.i64.wrap (r6.2.1 + (IntKind.i64.wrap r6.1))) + (8 : Int)))))) 0 8 hc23 rfl (fun h9 => oflA8u8 hc23 h9) rfl rfl Tryd.underlying49 rfl (fun p22 => ?_)
    refine al_nil ?_
    exact fr_fin hK_ p22⟩, ⟨_, rfl, [6], rfl, by
    intro p22
    intro X_ Y_ F_ K_ hK_
    refine al_show (m := Mem.plus (memOf w0 Z0 [] [(oRow l1v4 9 tyStr l1x4)] [(fPtr tyA8u8 p22 (ofA8u8 (cut (a0.drop (l1i5).toNat) (IntKind.i64.wrap (r6.2.1 + (IntKind.i64.wrap r6.1))) (IntKind.i64.wrap ((IntKind.i64.wrap (r6.2.1 + (IntKind.i64.wrap r6.1))) + (8 : Int))))))]) X_ Y_) (S := over (put (tab [(0, (str a0)), (4, l1v4), (5, (Value.int .i64 l1i5)), (6, (str (a0.drop (l1i5).toNat))), (8, (Value.int .i64 r6.2.1)), (10, (Value.int .i64 (IntKind.i64.wrap (r6.2.1 + (IntKind.i64.wrap r6.1))))), (37, (Value.bool false)), (41, (ag (cA8u8 r25)))]) 48 p22) F_) ?_
    refine al_val (ov_loadP (ds := (cA8u8 (ofA8u8 (cut (a0.drop (l1i5).toNat) (IntKind.i64.wrap (r6.2.1 + (IntKind.i64.wrap r6.1))) (IntKind.i64.wrap ((IntKind.i64.wrap (r6.2.1 + (IntKind.i64.wrap r6.1))) + (8 : Int))))))) 0 rfl encA8u8 rfl Tryd.underlying49 sz49 rfl rfl rfl) ?_
    refine al_nil ?_
    exact fr_fin hK_ ()⟩, ⟨_, rfl, [7], rfl, by
    intro _
    intro X_ Y_ F_ K_ hK_
    refine al_show (m := Mem.plus (memOf w0 Z0 [] [(oRow l1v4 9 tyStr l1x4)] []) X_ Y_) (S := over (put (tab [(0, (str a0)), (4, l1v4), (5, (Value.int .i64 l1i5)), (6, (str (a0.drop (l1i5).toNat))), (8, (Value.int .i64 r6.2.1)), (10, (Value.int .i64 (IntKind.i64.wrap (r6.2.1 + (IntKind.i64.wrap r6.1))))), (37, (Value.bool false)), (41, (ag (cA8u8 r25)))]) 49 (ag (cA8u8 (ofA8u8 (cut (a0.drop (l1i5).toNat) (IntKind.i64.wrap (r6.2.1 + (IntKind.i64.wrap r6.1))) (IntKind.i64.wrap ((IntKind.i64.wrap (r6.2.1 + (IntKind.i64.wrap r6.1))) + (8 : Int)))))))) F_) ?_
    refine al_val (ov_neqA (cs := (cA8u8 r25)) (ds := (cA8u8 (ofA8u8 (cut (a0.drop (l1i5).toNat) (IntKind.i64.wrap (r6.2.1 + (IntKind.i64.wrap r6.1))) (IntKind.i64.wrap ((IntKind.i64.wrap (r6.2.1 + (IntKind.i64.wrap r6.1))) + (8 : Int))))))) (ls := [5, 5, 5, 5, 5, 5, 5, 5]) (p := (r25 == (ofA8u8 (cut (a0.drop (l1i5).toNat) (IntKind.i64.wrap (r6.2.1 + (IntKind.i64.wrap r6.1))) (IntKind.i64.wrap ((IntKind.i64.wrap (r6.2.1 + (IntKind.i64.wrap r6.1))) + (8 : Int))))))) eg49 kt49 lv49 rfl rfl (by kernel_rfl) (by kernel_rfl) (fit_cons (fit_u8 Tryd.underlying5) (fit_cons (fit_u8 Tryd.underlying5) (fit_cons (fit_u8 Tryd.underlying5) (fit_cons (fit_u8 Tryd.underlying5) (fit_cons (fit_u8 Tryd.underlying5) (fit_cons (fit_u8 Tryd.underlying5) (fit_cons (fit_u8 Tryd.underlying5) (fit_cons (fit_u8 Tryd.underlying5) fit_nil)))))))) (fit_cons (fit_u8 Tryd.underlying5) (fit_cons (fit_u8 Tryd.underlying5) (fit_cons (fit_u8 Tryd.underlying5) (fit_cons (fit_u8 Tryd.underlying5) (fit_cons (fit_u8 Tryd.underlying5) (fit_cons (fit_u8 Tryd.underlying5) (fit_cons (fit_u8 Tryd.underlying5) (fit_cons (fit_u8 Tryd.underlying5) fit_nil)))))))) (injA8u8 (x := r25) (y := (ofA8u8 (cut (a0.drop (l1i5).toNat) (IntKind.i64.wrap (r6.2.1 + (IntKind.i64.wrap r6.1))) (IntKind.i64.wrap ((IntKind.i64.wrap (r6.2.1 + (IntKind.i64.wrap r6.1))) + (8 : Int))))))) rfl) ?_
    refine al_nil ?_
    exact fr_fin hK_ ()⟩, ⟨_, rfl, [8], rfl, by
    intro _
    intro X_ Y_ F_ K_ hK_
    refine al_show (m := Mem.plus (memOf w0 Z0 [] [(oRow l1v4 9 tyStr l1x4)] []) X_ Y_) (S := over (put (tab [(0, (str a0)), (4, l1v4), (5, (Value.int .i64 l1i5)), (6, (str (a0.drop (l1i5).toNat))), (8, (Value.int .i64 r6.2.1)), (10, (Value.int .i64 (IntKind.i64.wrap (r6.2.1 + (IntKind.i64.wrap r6.1))))), (37, (Value.bool false)), (41, (ag (cA8u8 r25)))]) 50 (Value.bool (!(r25 == (ofA8u8 (cut (a0.drop (l1i5).toNat) (IntKind.i64.wrap (r6.2.1 + (IntKind.i64.wrap r6.1))) (IntKind.i64.wrap ((IntKind.i64.wrap (r6.2.1 + (IntKind.i64.wrap r6.1))) + (8 : Int))))))))) F_) ?_
    refine al_val (ov_pick_f rfl rfl rfl) ?_
    refine al_nil ?_
    exact fr_fin hK_ ()⟩, trivial⟩ ?_
          intro _
          intro _
          intro _
          intro _
          intro _
          intro s21
          intro p22
          intro _
          intro _
          intro _
          refine aq_show (m := (memOf w0 Z0 [] [(oRow l1v4 9 tyStr l1x4)] [(fPtr tyA8u8 p22 (ofA8u8 (cut (a0.drop (l1i5).toNat) (IntKind.i64.wrap (r6.2.1 + (IntKind.i64.wrap r6.1))) (IntKind.i64.wrap ((IntKind.i64.wrap (r6.2.1 + (IntKind.i64.wrap r6.1))) + (8 : Int)))))), (fDat (tyList tyU8) [s21] (cut (a0.drop (l1i5).toNat) (IntKind.i64.wrap (r6.2.1 + (IntKind.i64.wrap r6.1))) (IntKind.i64.wrap ((IntKind.i64.wrap (r6.2.1 + (IntKind.i64.wrap r6.1))) + (8 : Int)))))])) (S := (put (put (put (put (put (put (put (put (put (put (tab [(0, (str a0)), (4, l1v4), (5, (Value.int .i64 l1i5)), (6, (str (a0.drop (l1i5).toNat))), (8, (Value.int .i64 r6.2.1)), (10, (Value.int .i64 (IntKind.i64.wrap (r6.2.1 + (IntKind.i64.wrap r6.1))))), (37, (Value.bool false)), (41, (ag (cA8u8 r25)))]) 42 (str (a0.drop (l1i5).toNat))) 43 (Value.int .i64 (IntKind.i64.wrap (r6.2.1 + (IntKind.i64.wrap r6.1))))) 44 (Value.int .i64 (IntKind.i64.wrap (r6.2.1 + (IntKind.i64.wrap r6.1))))) 45 (Value.int .i64 (IntKind.i64.wrap ((IntKind.i64.wrap (r6.2.1 + (IntKind.i64.wrap r6.1))) + (8 : Int))))) 46 (str (cut (a0.drop (l1i5).toNat) (IntKind.i64.wrap (r6.2.1 + (IntKind.i64.wrap r6.1))) (IntKind.i64.wrap ((IntKind.i64.wrap (r6.2.1 + (IntKind.i64.wrap r6.1))) + (8 : Int)))))) 47 s21) 48 p22) 49 (ag (cA8u8 (ofA8u8 (cut (a0.drop (l1i5).toNat) (IntKind.i64.wrap (r6.2.1 + (IntKind.i64.wrap r6.1))) (IntKind.i64.wrap ((IntKind.i64.wrap (r6.2.1 + (IntKind.i64.wrap r6.1))) + (8 : Int)))))))) 50 (Value.bool (!(r25 == (ofA8u8 (cut (a0.drop (l1i5).toNat) (IntKind.i64.wrap (r6.2.1 + (IntKind.i64.wrap r6.1))) (IntKind.i64.wrap ((IntKind.i64.wrap (r6.2.1 + (IntKind.i64.wrap r6.1))) + (8 : Int))))))))) 51 (Value.bool (!(r25 == (ofA8u8 (cut (a0.drop (l1i5).toNat) (IntKind.i64.wrap (r6.2.1 + (IntKind.i64.wrap r6.1))) (IntKind.i64.wrap ((IntKind.i64.wrap (r6.2.1 + (IntKind.i64.wrap r6.1))) + (8 : Int)))))))))) ?_
          exact aq_join (!(r25 == (ofA8u8 (cut (a0.drop (l1i5).toNat) (IntKind.i64.wrap (r6.2.1 + (IntKind.i64.wrap r6.1))) (IntKind.i64.wrap ((IntKind.i64.wrap (r6.2.1 + (IntKind.i64.wrap r6.1))) + (8 : Int))))))) h (fun w a hm hs => norm hm hs [0] [] [(0, (str a0)), (4, l1v4), (5, (Value.int .i64 l1i5)), (6, (str (a0.drop (l1i5).toNat))), (8, (Value.int .i64 r6.2.1)), (10, (Value.int .i64 (IntKind.i64.wrap (r6.2.1 + (IntKind.i64.wrap r6.1))))), (51, (Value.bool (!(r25 == (ofA8u8 (cut (a0.drop (l1i5).toNat) (IntKind.i64.wrap (r6.2.1 + (IntKind.i64.wrap r6.1))) (IntKind.i64.wrap ((IntKind.i64.wrap (r6.2.1 + (IntKind.i64.wrap r6.1))) + (8 : Int)))))))))] (by decide) ⟨rfl, rfl, rfl, rfl, rfl, rfl, rfl, trivial⟩)
  · clear hkk8
    refine aw_region ?_
    refine al_val (ov_move rfl rfl) ?_
    refine al_val (ov_int rfl rfl rfl rfl) ?_
    refine al_val (ov_move rfl rfl) ?_
    refine al_caseB 22 rfl (fun hb26 => ?_) (fun hb26 => ?_)
    · replace h := bif_t hb26 h
      refine al_skip ?_
      refine al_skip ?_
      refine al_val (ov_pick_t rfl rfl rfl) ?_
      refine al_nil ?_
      exact aq_join true h (fun w a hm hs => norm hm hs [0] [] [(0, (str a0)), (4, l1v4), (5, (Value.int .i64 l1i5)), (6, (str (a0.drop (l1i5).toNat))), (7, (Value.int .u64 r6.1)), (8, (Value.int .i64 r6.2.1)), (25, (Value.bool true))] (by decide) ⟨rfl, rfl, rfl, rfl, rfl, rfl, rfl, trivial⟩)
    · replace h := bif_f hb26 h
      refine al_val (ov_move rfl rfl) ?_
      refine al_val (ov_int rfl rfl rfl rfl) ?_
      refine al_val (ov_pick_f rfl rfl rfl) ?_
      refine al_nil ?_
      exact aq_join (decide (r6.1 > (4096 : Int))) h (fun w a hm hs => norm hm hs [0] [] [(0, (str a0)), (4, l1v4), (5, (Value.int .i64 l1i5)), (6, (str (a0.drop (l1i5).toNat))), (7, (Value.int .u64 r6.1)), (8, (Value.int .i64 r6.2.1)), (25, (Value.bool (decide (r6.1 > (4096 : Int)))))] (by decide) ⟨rfl, rfl, rfl, rfl, rfl, rfl, rfl, trivial⟩)
-- STUCK (*lumberroom/room.reader).number: lty ['pointer', 107]
def f_num_GetText_L5 (a0 : (List UInt8)) (kk2 : (Unit → Option ((List UInt8) × Int × Int))) : Nat → (List UInt8) → Int → Option ((List UInt8) × Int × Int)
  | 0, _, _ => none
  | k4 + 1, l3x5, l3i6 => (bif (decide (l3i6 < (a0.length : Int))) then (lt (fun (j7x5 : (List UInt8)) (j7i6 : Int) => (bif (decide ((j7x5.length : Int) > (1024 : Int))) then (some (([] : List UInt8), (0 : Int), (2 : Int))) else (f_num_GetText_L5 a0 kk2 k4 j7x5 (IntKind.i64.wrap (j7i6 + (1 : Int)))))) fun (kk8 : (List UInt8) → Int → Option ((List UInt8) × Int × Int)) => (req (0 ≤ l3i6 ∧ l3i6 < (a0.length : Int)) (bif ((En.bAt a0 l3i6) == (0 : Int)) then (bif ((IntKind.i64.wrap (l3i6 + (1 : Int))) == (a0.length : Int)) then (kk2 ()) else (req (0 ≤ (IntKind.i64.wrap (l3i6 + (1 : Int))) ∧ (IntKind.i64.wrap (l3i6 + (1 : Int))) < (a0.length : Int)) (bif ((En.bAt a0 (IntKind.i64.wrap (l3i6 + (1 : Int)))) == (0 : Int)) then (some (l3x5, (IntKind.i64.wrap ((IntKind.i64.wrap (l3i6 + (1 : Int))) + (1 : Int))), (0 : Int))) else (bif ((En.bAt a0 (IntKind.i64.wrap (l3i6 + (1 : Int)))) == (255 : Int)) then (req (0 ≤ (0 : Int) ∧ (0 : Int) ≤ 255) (req (((l3x5.length + ([(UInt8.ofNat ((0 : Int)).toNat)]).length) * 1 : Nat) ≤ 140737488355328 ∧ l3x5.length + ([(UInt8.ofNat ((0 : Int)).toNat)]).length ≤ 9223372036854775807) (kk8 (l3x5 ++ ([(UInt8.ofNat ((0 : Int)).toNat)])) (IntKind.i64.wrap (l3i6 + (1 : Int)))))) else (some (([] : List UInt8), (0 : Int), (4 : Int))))))) else (req (0 ≤ l3i6 ∧ l3i6 < (a0.length : Int)) (req (0 ≤ (En.bAt a0 l3i6) ∧ (En.bAt a0 l3i6) ≤ 255) (req (((l3x5.length + ([(UInt8.ofNat ((En.bAt a0 l3i6)).toNat)]).length) * 1 : Nat) ≤ 140737488355328 ∧ l3x5.length + ([(UInt8.ofNat ((En.bAt a0 l3i6)).toNat)]).length ≤ 9223372036854775807) (kk8 (l3x5 ++ ([(UInt8.ofNat ((En.bAt a0 l3i6)).toNat)])) l3i6))))))) else (kk2 ()))
def f_num_GetText (fu : Nat) (a0 : (List UInt8)) : Option ((List UInt8) × Int × Int) := (lt (fun (_ : Unit) => (some (([] : List UInt8), (0 : Int), (3 : Int)))) fun (kk2 : Unit → Option ((List UInt8) × Int × Int)) => (f_num_GetText_L5 a0 kk2 fu ([] : List UInt8) (0 : Int)))
set_option maxRecDepth 100000 in
theorem f_num_GetText_ok (fu : Nat) (a0 : (List UInt8)) {r : ((List UInt8) × Int × Int)} (h : f_num_GetText fu a0 = some r) : FnOk Tryd.prog 115 [(str a0)] [] [] (fun (i : Unit) => { val := (Value.tuple #[(str r.1), (Value.int .i64 r.2.1), (Value.int .i64 r.2.2)]) }) := by
  unfold f_num_GetText at h
  refine fn_enter Tryd.func115 rfl Tryd.ntmps115 rfl (fun w0 Z0 => ?_)
  refine aw_seq ?_
  refine aw_region ?_
  refine al_val (ov_assign rfl rfl) ?_
  refine al_val (ov_assign rfl rfl) ?_
  refine al_val (ov_assign rfl rfl) ?_
  refine al_nil ?_
  refine aq_then ?_
  refine aw_seq ?_
  refine aw_region ?_
  refine al_val (ov_assign rfl rfl) ?_
  refine al_nil ?_
  refine aq_then ?_
  obtain ⟨kk2, hkk2, h⟩ := lt_some h
  refine aw_seq_join (ι := Unit) (fun i => (memOf w0 Z0 [] [] [])) (fun i => (tab [])) (fun i => kk2 () = some r) ?_ ?_
  · rintro _ h
    have h : kk2 () = some r := h
    rw [hkk2] at h
    dsimp only at h
    clear hkk2
    refine aw_show (m := (memOf w0 Z0 [] [] [])) (S := (tab [])) ?_
    refine aw_seq ?_
    refine aw_region ?_
    refine al_val (ov_assign rfl rfl) ?_
    refine al_val (ov_assign rfl rfl) ?_
    refine al_val (ov_assign rfl rfl) ?_
    refine al_nil ?_
    refine aq_then ?_
    refine aw_ret ?_
    obtain rfl := Option.some.inj h
    exact fn_ret () [] [] rfl rfl rfl rfl (res3 rfl rfl rfl rfl) rfl rfl rfl (by decide)
  · clear hkk2
    refine aw_seq ?_
    refine aw_region ?_
    refine al_val (ov_assign rfl rfl) ?_
    refine al_nil ?_
    refine aq_then ?_
    refine aw_block ?_
    refine aw_nilR 5 tyU8 ?_
    refine aw_state (aw_loop (ι := Value × (List UInt8) × Int) (fun i => (memOf w0 Z0 [] [(oRow i.1 5 tyU8 i.2.1)] [])) (fun i => (tab [(0, (str a0)), (5, i.1), (6, (Value.int .i64 i.2.2))])) (fun q i => f_num_GetText_L5 a0 kk2 q i.2.1 i.2.2 = some r) ?_ fu ((Value.slice none 0 0), ([] : List UInt8), (0 : Int)) h) (fun w a hm hs => norm hm hs [0] [] [(0, (str a0)), (5, (Value.slice none 0 0)), (6, (Value.int .i64 (0 : Int)))] (by decide) ⟨rfl, rfl, rfl, trivial⟩)
    clear h
    rintro k4 ⟨l3v5, l3x5, l3i6⟩ h
    have h : f_num_GetText_L5 a0 kk2 k4 l3x5 l3i6 = some r := h
    obtain _ | k4 := k4
    · rw [f_num_GetText_L5] at h; cases h
    rw [f_num_GetText_L5] at h
    refine aw_show (m := (memOf w0 Z0 [] [(oRow l3v5 5 tyU8 l3x5)] [])) (S := (tab [(0, (str a0)), (5, l3v5), (6, (Value.int .i64 l3i6))])) ?_
    refine aw_seq ?_
    refine aw_seq ?_
    refine aw_region ?_
    refine al_val (ov_move rfl rfl) ?_
    refine al_val (ov_move rfl rfl) ?_
    refine al_val (ov_strLen Tryd.underlying9 rfl rfl) ?_
    refine al_val (ov_int rfl rfl rfl rfl) ?_
    refine al_nil ?_
    refine aq_then ?_
    refine aw_cond rfl (fun hb6 => ?_) (fun hb6 => ?_)
    · replace h := bif_t hb6 h
      refine aw_skip ?_
      refine aq_then ?_
      refine aw_seq ?_
      refine aw_block ?_
      obtain ⟨kk8, hkk8, h⟩ := lt_some h
      refine aw_seq_join (ι := Value × (List UInt8) × Int) (fun i => (memOf w0 Z0 [] [(oRow i.1 5 tyU8 i.2.1)] [])) (fun i => (tab [(0, (str a0)), (5, i.1), (6, (Value.int .i64 i.2.2))])) (fun i => kk8 i.2.1 i.2.2 = some r) ?_ ?_
      · rintro ⟨j7v5, j7x5, j7i6⟩ h
        have h : kk8 j7x5 j7i6 = some r := h
        rw [hkk8] at h
        dsimp only at h
        clear hkk8
        refine aw_show (m := (memOf w0 Z0 [] [(oRow j7v5 5 tyU8 j7x5)] [])) (S := (tab [(0, (str a0)), (5, j7v5), (6, (Value.int .i64 j7i6))])) ?_
        refine aw_seq ?_
        refine aw_region ?_
        refine al_val (ov_move rfl rfl) ?_
        refine al_val (ov_lenR 0 rfl rfl Tryd.underlying89 rfl) ?_
        refine al_val (ov_int rfl rfl rfl rfl) ?_
        refine al_nil ?_
        refine aq_then ?_
        refine aw_cond rfl (fun hb9 => ?_) (fun hb9 => ?_)
        · replace h := bif_t hb9 h
          refine aw_seq ?_
          refine aw_region ?_
          refine al_val (ov_assign rfl rfl) ?_
          refine al_val (ov_assign rfl rfl) ?_
          refine al_val (ov_assign rfl rfl) ?_
          refine al_nil ?_
          refine aq_then ?_
          refine aw_ret ?_
          refine aq_block_ret ?_
          refine aq_then_ret ?_
          refine aq_then_ret ?_
          refine aq_block_ret ?_
          refine aq_then_ret ?_
          obtain rfl := Option.some.inj h
          exact fn_ret () [] [] rfl rfl rfl rfl (res3 rfl rfl rfl rfl) rfl rfl rfl (by decide)
        · replace h := bif_f hb9 h
          refine aw_skip ?_
          refine aq_block ?_
          refine aq_then ?_
          refine aw_region ?_
          refine al_val (ov_move rfl rfl) ?_
          refine al_val (ov_int rfl rfl rfl rfl) ?_
          refine al_val (ov_assign rfl rfl) ?_
          refine al_nil ?_
          exact aq_again k4 (j7v5, j7x5, (IntKind.i64.wrap (j7i6 + (1 : Int)))) (Nat.lt_succ_self _) h (fun w a hm hs => norm hm hs [0] [] [(0, (str a0)), (5, j7v5), (6, (Value.int .i64 (IntKind.i64.wrap (j7i6 + (1 : Int)))))] (by decide) ⟨rfl, rfl, rfl, trivial⟩)
      · clear hkk8
        refine aw_seq ?_
        refine aw_region ?_
        refine al_val (ov_move rfl rfl) ?_
        refine al_val (ov_move rfl rfl) ?_
        obtain ⟨hc10, h⟩ := req_some h
        refine al_val (ov_strIdx hc10.1 hc10.2 Tryd.underlying9 rfl rfl rfl) ?_
        refine al_val (ov_int rfl rfl rfl rfl) ?_
        refine al_nil ?_
        refine aq_then ?_
        refine aw_cond rfl (fun hb11 => ?_) (fun hb11 => ?_)
        · replace h := bif_t hb11 h
          refine aw_seq ?_
          refine aw_seq ?_
          refine aw_region ?_
          refine al_val (ov_move rfl rfl) ?_
          refine al_val (ov_int rfl rfl rfl rfl) ?_
          refine al_val (ov_assign rfl rfl) ?_
          refine al_nil ?_
          refine aq_then ?_
          refine aw_seq ?_
          refine aw_region ?_
          refine al_val (ov_move rfl rfl) ?_
          refine al_val (ov_move rfl rfl) ?_
          refine al_val (ov_strLen Tryd.underlying9 rfl rfl) ?_
          refine al_val (ov_int rfl rfl rfl rfl) ?_
          refine al_nil ?_
          refine aq_then ?_
          refine aw_cond rfl (fun hb12 => ?_) (fun hb12 => ?_)
          · replace h := bif_t hb12 h
            refine aw_exit ?_
            refine aq_then_exit ?_
            refine aq_then_exit ?_
            refine aq_block_other rfl ?_
            refine aq_then_exit ?_
            refine aq_then_exit ?_
            refine aq_block_exit ?_
            exact aq_join () h (fun w a hm hs => norm hm hs [] [] [] (by decide) trivial)
          · replace h := bif_f hb12 h
            refine aw_skip ?_
            refine aq_then ?_
            refine aw_seq ?_
            refine aw_seq ?_
            refine aw_region ?_
            refine al_val (ov_move rfl rfl) ?_
            refine al_val (ov_move rfl rfl) ?_
            obtain ⟨hc13, h⟩ := req_some h
            refine al_val (ov_strIdx hc13.1 hc13.2 Tryd.underlying9 rfl rfl rfl) ?_
            refine al_nil ?_
            refine aq_then ?_
            refine aw_block ?_
            refine aw_seq ?_
            refine aw_region ?_
            refine al_val (ov_int rfl rfl rfl rfl) ?_
            refine al_val (ov_assign rfl rfl) ?_
            refine al_nil ?_
            refine aq_then ?_
            refine aw_cond rfl (fun hb14 => ?_) (fun hb14 => ?_)
            · replace h := bif_t hb14 h
              refine aw_seq ?_
              refine aw_region ?_
              refine al_val (ov_move rfl rfl) ?_
              refine al_val (ov_toStrR 0 rfl rfl Tryd.underlying89 Tryd.underlying5 Tryd.underlying9 rfl) ?_
              refine al_val (ov_move rfl rfl) ?_
              refine al_val (ov_int rfl rfl rfl rfl) ?_
              refine al_val (ov_assign rfl rfl) ?_
              refine al_val (ov_assign rfl rfl) ?_
              refine al_val (ov_assign rfl rfl) ?_
              refine al_nil ?_
              refine aq_then ?_
              refine aw_ret ?_
              refine aq_block_ret ?_
              refine aq_then_ret ?_
              refine aq_then_ret ?_
              refine aq_block_ret ?_
              refine aq_then_ret ?_
              refine aq_then_ret ?_
              refine aq_block_ret ?_
              refine aq_then_ret ?_
              obtain rfl := Option.some.inj h
              exact fn_ret () [] [] rfl rfl rfl rfl (res3 rfl rfl rfl rfl) rfl rfl rfl (by decide)
            · replace h := bif_f hb14 h
              refine aw_seq ?_
              refine aw_region ?_
              refine al_val (ov_int rfl rfl rfl rfl) ?_
              refine al_val (ov_assign rfl rfl) ?_
              refine al_nil ?_
              refine aq_then ?_
              refine aw_cond rfl (fun hb15 => ?_) (fun hb15 => ?_)
              · replace h := bif_t hb15 h
                refine aw_skip ?_
                refine aq_block ?_
                refine aq_then ?_
                refine aw_region ?_
                refine al_val (ov_move rfl rfl) ?_
                obtain ⟨hc17, h⟩ := req_some h
                refine al_buildSlice (τ := tyU8) (e := 5) (k := 1) (sz := 0) (by_ := 0) (z := undef) (cs := [(Value.int .u8 (0 : Int))]) (xs := [(UInt8.ofNat ((0 : Int)).toNat)]) rfl (by decide) (fun w a hm hs => ⟨([(Value.int .u8 (0 : Int))]).toArray, rfl, by simp only [List.map_toArray, List.map_cons, List.map_nil, hs.ev (x := .const (Value.int .u8 (0 : Int))) rfl]; exact run_bs [(Value.int .u8 (0 : Int))] [(Value.int .u8 (0 : Int))] Tryd.underlying89 to5 rfl rfl (bs_cons (l := [(Value.int .u8 (0 : Int))]) (cs := []) (cv_rfl rfl) rfl bs_nil) hm⟩) (fun hm => ⟨_, _, rfl, (fun _ => u8_rep hc17) hm, rfl⟩) rfl (fun v16 => ?_)
                obtain ⟨hc18, h⟩ := req_some h
                refine al_append 1 hc18.1 hc18.2 rfl (src_own (i := 1) 0 rfl) rfl rfl Tryd.underlying89 to5 rfl rfl rfl (fun v19 => ?_)
                refine al_val (ov_assign rfl rfl) ?_
                refine al_nil ?_
                exact aq_join (v19, (l3x5 ++ ([(UInt8.ofNat ((0 : Int)).toNat)])), (IntKind.i64.wrap (l3i6 + (1 : Int)))) h (fun w a hm hs => norm hm hs [1] [] [(0, (str a0)), (5, v19), (6, (Value.int .i64 (IntKind.i64.wrap (l3i6 + (1 : Int)))))] (by decide) ⟨rfl, rfl, rfl, trivial⟩)
              · replace h := bif_f hb15 h
                refine aw_seq ?_
                refine aw_region ?_
                refine al_val (ov_assign rfl rfl) ?_
                refine al_val (ov_assign rfl rfl) ?_
                refine al_val (ov_assign rfl rfl) ?_
                refine al_nil ?_
                refine aq_then ?_
                refine aw_ret ?_
                refine aq_block_ret ?_
                refine aq_then_ret ?_
                refine aq_then_ret ?_
                refine aq_block_ret ?_
                refine aq_then_ret ?_
                refine aq_then_ret ?_
                refine aq_block_ret ?_
                refine aq_then_ret ?_
                obtain rfl := Option.some.inj h
                exact fn_ret () [] [] rfl rfl rfl rfl (res3 rfl rfl rfl rfl) rfl rfl rfl (by decide)
        · replace h := bif_f hb11 h
          refine aw_region ?_
          refine al_val (ov_move rfl rfl) ?_
          refine al_val (ov_move rfl rfl) ?_
          refine al_val (ov_move rfl rfl) ?_
          obtain ⟨hc20, h⟩ := req_some h
          refine al_val (ov_strIdx hc20.1 hc20.2 Tryd.underlying9 rfl rfl rfl) ?_
          obtain ⟨hc22, h⟩ := req_some h
          refine al_buildSlice (τ := tyU8) (e := 5) (k := 1) (sz := 0) (by_ := 0) (z := undef) (cs := [(Value.int .u8 (En.bAt a0 l3i6))]) (xs := [(UInt8.ofNat ((En.bAt a0 l3i6)).toNat)]) rfl (by decide) (fun w a hm hs => ⟨([(Value.int .u8 (En.bAt a0 l3i6))]).toArray, rfl, by simp only [List.map_toArray, List.map_cons, List.map_nil, hs.ev (x := .tmp 40) rfl]; exact run_bs [(Value.int .u8 (En.bAt a0 l3i6))] [(Value.int .u8 (En.bAt a0 l3i6))] Tryd.underlying89 to5 rfl rfl (bs_cons (l := [(Value.int .u8 (En.bAt a0 l3i6))]) (cs := []) (cv_rfl rfl) rfl bs_nil) hm⟩) (fun hm => ⟨_, _, rfl, (fun _ => u8_rep hc22) hm, rfl⟩) rfl (fun v21 => ?_)
          obtain ⟨hc23, h⟩ := req_some h
          refine al_append 1 hc23.1 hc23.2 rfl (src_own (i := 1) 0 rfl) rfl rfl Tryd.underlying89 to5 rfl rfl rfl (fun v24 => ?_)
          refine al_val (ov_assign rfl rfl) ?_
          refine al_nil ?_
          exact aq_join (v24, (l3x5 ++ ([(UInt8.ofNat ((En.bAt a0 l3i6)).toNat)])), l3i6) h (fun w a hm hs => norm hm hs [1] [] [(0, (str a0)), (5, v24), (6, (Value.int .i64 l3i6))] (by decide) ⟨rfl, rfl, rfl, trivial⟩)
    · replace h := bif_f hb6 h
      refine aw_exit ?_
      refine aq_then_exit ?_
      refine aq_then_exit ?_
      refine aq_block_exit ?_
      exact aq_join () h (fun w a hm hs => norm hm hs [] [] [] (by decide) trivial)
-- STUCK (*lumberroom/room.reader).snap: lty ['pointer', 107]
def f___room_reader__number (fu : Nat) (a0 : S_room_reader) (a1 : Int) : Option (Int × S_room_reader) := (opt (f_num_Get fu a0.s) fun (r2 : (Int × Int × Int)) => (lt (fun (j3b29 : Bool) => (bif j3b29 then (some ((0 : Int), (S_room_reader.mk a0.s true))) else (req (0 ≤ r2.2.1 ∧ r2.2.1 ≤ (a0.s.length : Int)) (some ((IntKind.i64.wrap r2.1), (S_room_reader.mk (a0.s.drop (r2.2.1).toNat) a0.bad)))))) fun (kk4 : Bool → Option (Int × S_room_reader)) => (bif a0.bad then (kk4 true) else (bif (r2.2.2 != (0 : Int)) then (kk4 true) else (kk4 (decide (r2.1 > a1)))))))
set_option maxRecDepth 100000 in
theorem f___room_reader__number_ok (fu : Nat) (bx0 : Nat) (a0 : S_room_reader) (a1 : Int) {r : (Int × S_room_reader)} (h : f___room_reader__number fu a0 a1 = some r) : FnOk Tryd.prog 78 [(ptr bx0 0), (Value.int .u64 a1)] [] [(oBox bx0 107 [(str a0.s), (Value.bool a0.bad)])] (fun (i : Unit) => { val := (Value.int .i64 r.1), own := [(oBox bx0 107 [(str r.2.s), (Value.bool r.2.bad)])] }) := by
  unfold f___room_reader__number at h
  refine fn_enter Tryd.func78 rfl Tryd.ntmps78 rfl (fun w0 Z0 => ?_)
  refine aw_seq ?_
  refine aw_region ?_
  refine al_val (ov_assign rfl rfl) ?_
  refine al_nil ?_
  refine aq_then ?_
  refine aw_seq ?_
  refine aw_region ?_
  refine al_val (ov_move rfl rfl) ?_
  refine al_val (ov_nilCheck rfl rfl) ?_
  refine al_val (ov_fieldA (p := 0) rfl Tryd.underlying107 rfl sz9 rfl rfl rfl) ?_
  refine al_val (ov_load (i := 0) (v := (str a0.s)) rfl rfl Tryd.underlying9 sz9 rfl rfl rfl rfl) ?_
  obtain ⟨r2, hc1, h⟩ := opt_some h
  refine al_call (vs := [(str a0.s)]) (f_num_Get_ok fu a0.s hc1) [] [] [0] pre_nil rfl (by simp) (by decide) (.inl rfl) rfl Tryd.func58 rfl rfl rfl (fun _ => ?_)
  refine al_val (ov_move rfl rfl) ?_
  refine al_val (ov_extract rfl rfl rfl) ?_
  refine al_val (ov_extract rfl rfl rfl) ?_
  refine al_val (ov_extract rfl rfl rfl) ?_
  refine al_val (ov_assign rfl rfl) ?_
  refine al_val (ov_assign rfl rfl) ?_
  refine al_val (ov_assign rfl rfl) ?_
  refine al_nil ?_
  refine aq_then ?_
  refine aw_seq ?_
  obtain ⟨kk4, hkk4, h⟩ := lt_some h
  refine aw_seq_join (ι := Bool) (fun i => (memOf w0 Z0 [(oBox bx0 107 [(str a0.s), (Value.bool a0.bad)])] [(oBox bx0 107 [(str a0.s), (Value.bool a0.bad)])] [])) (fun i => (tab [(0, (ptr bx0 0)), (5, (Value.int .u64 r2.1)), (6, (Value.int .i64 r2.2.1)), (29, (Value.bool i))])) (fun i => kk4 i = some r) ?_ ?_
  · rintro j3b29 h
    have h : kk4 j3b29 = some r := h
    rw [hkk4] at h
    dsimp only at h
    clear hkk4
    refine aw_show (m := (memOf w0 Z0 [(oBox bx0 107 [(str a0.s), (Value.bool a0.bad)])] [(oBox bx0 107 [(str a0.s), (Value.bool a0.bad)])] [])) (S := (tab [(0, (ptr bx0 0)), (5, (Value.int .u64 r2.1)), (6, (Value.int .i64 r2.2.1)), (29, (Value.bool j3b29))])) ?_
    refine aw_cond rfl (fun hb5 => ?_) (fun hb5 => ?_)
    · replace h := bif_t hb5 h
      refine aw_seq ?_
      refine aw_region ?_
      refine al_val (ov_move rfl rfl) ?_
      refine al_val (ov_nilCheck rfl rfl) ?_
      refine al_val (ov_fieldA (p := 1) rfl Tryd.underlying107 rfl sz4 rfl rfl rfl) ?_
      refine al_store (i := 0) (vs := [(Value.bool true)]) (cs' := [(str a0.s), (Value.bool true)]) rfl rfl rfl sz4 (cv_rfl rfl) rfl (co_val rfl co_nil) (Nat.le_of_ble_eq_true rfl) rfl rfl ?_
      refine al_nil ?_
      refine aq_then ?_
      refine aw_seq ?_
      refine aw_region ?_
      refine al_val (ov_assign rfl rfl) ?_
      refine al_nil ?_
      refine aq_then ?_
      refine aw_ret ?_
      refine aq_then_ret ?_
      obtain rfl := Option.some.inj h
      exact fn_ret () [0] [] rfl rfl rfl rfl (res1 rfl rfl) rfl rfl rfl (by decide)
    · replace h := bif_f hb5 h
      refine aw_skip ?_
      refine aq_then ?_
      refine aw_seq ?_
      refine aw_region ?_
      refine al_val (ov_move rfl rfl) ?_
      refine al_val (ov_move rfl rfl) ?_
      refine al_val (ov_nilCheck rfl rfl) ?_
      refine al_val (ov_fieldA (p := 0) rfl Tryd.underlying107 rfl sz9 rfl rfl rfl) ?_
      refine al_val (ov_load (i := 0) (v := (str a0.s)) rfl rfl Tryd.underlying9 sz9 rfl rfl rfl rfl) ?_
      refine al_val (ov_move rfl rfl) ?_
      obtain ⟨hc6, h⟩ := req_some h
      refine al_val (ov_strFrom hc6.1 hc6.2 Tryd.underlying9 rfl rfl rfl) ?_
      refine al_val (ov_nilCheck rfl rfl) ?_
      refine al_val (ov_fieldA (p := 0) rfl Tryd.underlying107 rfl sz9 rfl rfl rfl) ?_
      refine al_store (i := 0) (vs := [(str (a0.s.drop (r2.2.1).toNat))]) (cs' := [(str (a0.s.drop (r2.2.1).toNat)), (Value.bool a0.bad)]) rfl rfl rfl sz9 (cv_rfl rfl) rfl (co_val rfl co_nil) (Nat.le_of_ble_eq_true rfl) rfl rfl ?_
      refine al_nil ?_
      refine aq_then ?_
      refine aw_seq ?_
      refine aw_region ?_
      refine al_val (ov_move rfl rfl) ?_
      refine al_val (ov_convInt (by rw [Tryd.underlying87]; rfl) Tryd.underlying3 rfl rfl) ?_
      refine al_val (ov_assign rfl rfl) ?_
      refine al_nil ?_
      refine aq_then ?_
      refine aw_ret ?_
      obtain rfl := Option.some.inj h
      exact fn_ret () [0] [] rfl rfl rfl rfl (res1 rfl rfl) rfl rfl rfl (by decide)
  · clear hkk4
    refine aw_region ?_
    refine al_val (ov_move rfl rfl) ?_
    refine al_val (ov_nilCheck rfl rfl) ?_
    refine al_val (ov_fieldA (p := 1) rfl Tryd.underlying107 rfl sz4 rfl rfl rfl) ?_
    refine al_val (ov_load (i := 0) (v := (Value.bool a0.bad)) rfl rfl Tryd.underlying4 sz4 rfl rfl rfl rfl) ?_
    refine al_val (ov_move rfl rfl) ?_
    refine al_caseB 21 rfl (fun hb7 => ?_) (fun hb7 => ?_)
    · replace h := bif_t hb7 h
      refine al_skip ?_
      refine al_skip ?_
      refine al_val (ov_pick_t rfl rfl rfl) ?_
      refine al_val (ov_move rfl rfl) ?_
      refine al_skip ?_
      refine al_skip ?_
      refine al_skip ?_
      refine al_val (ov_pick_t rfl rfl rfl) ?_
      refine al_nil ?_
      exact aq_join true h (fun w a hm hs => norm hm hs [0] [] [(0, (ptr bx0 0)), (5, (Value.int .u64 r2.1)), (6, (Value.int .i64 r2.2.1)), (29, (Value.bool true))] (by decide) ⟨rfl, rfl, rfl, rfl, trivial⟩)
    · replace h := bif_f hb7 h
      refine al_val (ov_move rfl rfl) ?_
      refine al_val (ov_int rfl rfl rfl rfl) ?_
      refine al_val (ov_pick_f rfl rfl rfl) ?_
      refine al_val (ov_move rfl rfl) ?_
      refine al_caseB 25 rfl (fun hb8 => ?_) (fun hb8 => ?_)
      · replace h := bif_t hb8 h
        refine al_skip ?_
        refine al_skip ?_
        refine al_skip ?_
        refine al_val (ov_pick_t rfl rfl rfl) ?_
        refine al_nil ?_
        exact aq_join true h (fun w a hm hs => norm hm hs [0] [] [(0, (ptr bx0 0)), (5, (Value.int .u64 r2.1)), (6, (Value.int .i64 r2.2.1)), (29, (Value.bool true))] (by decide) ⟨rfl, rfl, rfl, rfl, trivial⟩)
      · replace h := bif_f hb8 h
        refine al_val (ov_move rfl rfl) ?_
        refine al_val (ov_move rfl rfl) ?_
        refine al_val (ov_int rfl rfl rfl rfl) ?_
        refine al_val (ov_pick_f rfl rfl rfl) ?_
        refine al_nil ?_
        exact aq_join (decide (r2.1 > a1)) h (fun w a hm hs => norm hm hs [0] [] [(0, (ptr bx0 0)), (5, (Value.int .u64 r2.1)), (6, (Value.int .i64 r2.2.1)), (29, (Value.bool (decide (r2.1 > a1))))] (by decide) ⟨rfl, rfl, rfl, rfl, trivial⟩)
def f___room_reader__snap (fu : Nat) (a0 : S_room_reader) : Option (S_api_Snap × S_room_reader) := (opt (f_num_GetText fu a0.s) fun (r3 : ((List UInt8) × Int × Int)) => (lt (fun (j4b23 : Bool) => (bif j4b23 then (some ((S_api_Snap.mk ([] : List UInt8) (0 : Int) (A8u8.mk (0 : UInt8) (0 : UInt8) (0 : UInt8) (0 : UInt8) (0 : UInt8) (0 : UInt8) (0 : UInt8) (0 : UInt8))), (S_room_reader.mk a0.s true))) else (req (0 ≤ r3.2.1 ∧ r3.2.1 ≤ (a0.s.length : Int)) (opt (f___room_reader__number fu (S_room_reader.mk (a0.s.drop (r3.2.1).toNat) a0.bad) (4223371679 : Int)) fun (r9 : (Int × S_room_reader)) => (lt (fun (j11b52 : Bool) => (bif j11b52 then (some ((S_api_Snap.mk ([] : List UInt8) (0 : Int) (A8u8.mk (0 : UInt8) (0 : UInt8) (0 : UInt8) (0 : UInt8) (0 : UInt8) (0 : UInt8) (0 : UInt8) (0 : UInt8))), (S_room_reader.mk r9.2.s true))) else (req (0 ≤ (8 : Int) ∧ (8 : Int) ≤ (r9.2.s.length : Int)) (req ((r9.2.s.take ((8 : Int)).toNat).length ≤ 9223372036854775807) (req (8 ≤ (r9.2.s.take ((8 : Int)).toNat).length) (req (0 ≤ (8 : Int) ∧ (8 : Int) ≤ (r9.2.s.length : Int)) (some ((S_api_Snap.mk r3.1 r9.1 (ofA8u8 (r9.2.s.take ((8 : Int)).toNat))), (S_room_reader.mk (r9.2.s.drop ((8 : Int)).toNat) r9.2.bad))))))))) fun (kk12 : Bool → Option (S_api_Snap × S_room_reader)) => (bif r9.2.bad then (kk12 true) else (kk12 (decide ((r9.2.s.length : Int) < (8 : Int)))))))))) fun (kk5 : Bool → Option (S_api_Snap × S_room_reader)) => (bif a0.bad then (kk5 true) else (kk5 (r3.2.2 != (0 : Int))))))
set_option maxRecDepth 100000 in
theorem f___room_reader__snap_ok (fu : Nat) (bx0 : Nat) (a0 : S_room_reader) {r : (S_api_Snap × S_room_reader)} (h : f___room_reader__snap fu a0 = some r) : FnOk Tryd.prog 79 [(ptr bx0 0)] [] [(oBox bx0 107 [(str a0.s), (Value.bool a0.bad)])] (fun (i : Unit) => { val := (ag ([(str r.1.Name), (Value.int .i64 r.1.Time)] ++ (cA8u8 r.1.Root))), own := [(oBox bx0 107 [(str r.2.s), (Value.bool r.2.bad)])] }) := by
  unfold f___room_reader__snap at h
  refine fn_enter Tryd.func79 rfl Tryd.ntmps79 rfl (fun w0 Z0 => ?_)
  refine aw_seq ?_
  refine aw_region ?_
  refine al_alloc (zs := ([(str ([] : List UInt8)), (Value.int .i64 (0 : Int))] ++ (cA8u8 (A8u8.mk (0 : UInt8) (0 : UInt8) (0 : UInt8) (0 : UInt8) (0 : UInt8) (0 : UInt8) (0 : UInt8) (0 : UInt8))))) (zeroOf_to to104) rfl rfl (fun g1 => ?_)
  refine al_nil ?_
  refine aq_then ?_
  refine aw_seq ?_
  refine aw_region ?_
  refine al_val (ov_move rfl rfl) ?_
  refine al_val (ov_nilCheck rfl rfl) ?_
  refine al_val (ov_fieldA (p := 0) rfl Tryd.underlying107 rfl sz9 rfl rfl rfl) ?_
  refine al_val (ov_load (i := 1) (v := (str a0.s)) rfl rfl Tryd.underlying9 sz9 rfl rfl rfl rfl) ?_
  obtain ⟨r3, hc2, h⟩ := opt_some h
  refine al_call (vs := [(str a0.s)]) (f_num_GetText_ok fu a0.s hc2) [] [] [0, 1] pre_nil rfl (by simp) (by decide) (.inl rfl) rfl Tryd.func115 rfl rfl rfl (fun _ => ?_)
  refine al_val (ov_move rfl rfl) ?_
  refine al_val (ov_extract rfl rfl rfl) ?_
  refine al_val (ov_extract rfl rfl rfl) ?_
  refine al_val (ov_extract rfl rfl rfl) ?_
  refine al_val (ov_assign rfl rfl) ?_
  refine al_val (ov_assign rfl rfl) ?_
  refine al_val (ov_assign rfl rfl) ?_
  refine al_nil ?_
  refine aq_then ?_
  refine aw_seq ?_
  obtain ⟨kk5, hkk5, h⟩ := lt_some h
  refine aw_seq_join (ι := Bool) (fun i => (memOf w0 Z0 [(oBox bx0 107 [(str a0.s), (Value.bool a0.bad)])] [(oBox bx0 107 [(str a0.s), (Value.bool a0.bad)]), (oBox g1 104 ([(str ([] : List UInt8)), (Value.int .i64 (0 : Int))] ++ (cA8u8 (A8u8.mk (0 : UInt8) (0 : UInt8) (0 : UInt8) (0 : UInt8) (0 : UInt8) (0 : UInt8) (0 : UInt8) (0 : UInt8)))))] [])) (fun i => (tab [(0, (ptr bx0 0)), (2, (ptr g1 0)), (3, (str r3.1)), (4, (Value.int .i64 r3.2.1)), (23, (Value.bool i))])) (fun i => kk5 i = some r) ?_ ?_
  · rintro j4b23 h
    have h : kk5 j4b23 = some r := h
    rw [hkk5] at h
    dsimp only at h
    clear hkk5
    refine aw_show (m := (memOf w0 Z0 [(oBox bx0 107 [(str a0.s), (Value.bool a0.bad)])] [(oBox bx0 107 [(str a0.s), (Value.bool a0.bad)]), (oBox g1 104 ([(str ([] : List UInt8)), (Value.int .i64 (0 : Int))] ++ (cA8u8 (A8u8.mk (0 : UInt8) (0 : UInt8) (0 : UInt8) (0 : UInt8) (0 : UInt8) (0 : UInt8) (0 : UInt8) (0 : UInt8)))))] [])) (S := (tab [(0, (ptr bx0 0)), (2, (ptr g1 0)), (3, (str r3.1)), (4, (Value.int .i64 r3.2.1)), (23, (Value.bool j4b23))])) ?_
    refine aw_cond rfl (fun hb6 => ?_) (fun hb6 => ?_)
    · replace h := bif_t hb6 h
      refine aw_seq ?_
      refine aw_region ?_
      refine al_val (ov_move rfl rfl) ?_
      refine al_val (ov_nilCheck rfl rfl) ?_
      refine al_val (ov_fieldA (p := 1) rfl Tryd.underlying107 rfl sz4 rfl rfl rfl) ?_
      refine al_store (i := 0) (vs := [(Value.bool true)]) (cs' := [(str a0.s), (Value.bool true)]) rfl rfl rfl sz4 (cv_rfl rfl) rfl (co_val rfl co_nil) (Nat.le_of_ble_eq_true rfl) rfl rfl ?_
      refine al_nil ?_
      refine aq_then ?_
      refine aw_seq ?_
      refine aw_region ?_
      refine al_val (ov_build (cells := (([(str ([] : List UInt8)), (Value.int .i64 (0 : Int))] ++ (cA8u8 (A8u8.mk (0 : UInt8) (0 : UInt8) (0 : UInt8) (0 : UInt8) (0 : UInt8) (0 : UInt8) (0 : UInt8) (0 : UInt8))))).toArray) (cs := ([(str ([] : List UInt8)), (Value.int .i64 (0 : Int))] ++ (cA8u8 (A8u8.mk (0 : UInt8) (0 : UInt8) (0 : UInt8) (0 : UInt8) (0 : UInt8) (0 : UInt8) (0 : UInt8) (0 : UInt8))))) rfl (fun w a hm hs => by simp only [List.map_toArray, List.map_cons, List.map_nil, List.toList_toArray]; kernel_rfl)) ?_
      refine al_store (i := 1) (vs := ([(str ([] : List UInt8)), (Value.int .i64 (0 : Int))] ++ (cA8u8 (A8u8.mk (0 : UInt8) (0 : UInt8) (0 : UInt8) (0 : UInt8) (0 : UInt8) (0 : UInt8) (0 : UInt8) (0 : UInt8))))) (cs' := ([(str ([] : List UInt8)), (Value.int .i64 (0 : Int))] ++ (cA8u8 (A8u8.mk (0 : UInt8) (0 : UInt8) (0 : UInt8) (0 : UInt8) (0 : UInt8) (0 : UInt8) (0 : UInt8) (0 : UInt8))))) rfl rfl rfl sz104 (cv_rfl rfl) rfl (co_val rfl (co_val rfl (co_all (oneA8u8 (A8u8.mk (0 : UInt8) (0 : UInt8) (0 : UInt8) (0 : UInt8) (0 : UInt8) (0 : UInt8) (0 : UInt8) (0 : UInt8)))))) (Nat.le_of_ble_eq_true rfl) rfl rfl ?_
      refine al_nil ?_
      refine aq_then ?_
      refine aw_ret ?_
      refine aq_then_ret ?_
      obtain rfl := Option.some.inj h
      exact fn_ret () [0] [] rfl rfl rfl rfl (resC rfl (resB (i := 1) rfl rfl Tryd.underlying104 sz104 rfl rfl rfl (resN)) rfl) rfl rfl rfl (by decide)
    · replace h := bif_f hb6 h
      refine aw_skip ?_
      refine aq_then ?_
      refine aw_seq ?_
      refine aw_region ?_
      refine al_val (ov_move rfl rfl) ?_
      refine al_val (ov_move rfl rfl) ?_
      refine al_val (ov_nilCheck rfl rfl) ?_
      refine al_val (ov_fieldA (p := 0) rfl Tryd.underlying107 rfl sz9 rfl rfl rfl) ?_
      refine al_val (ov_load (i := 0) (v := (str a0.s)) rfl rfl Tryd.underlying9 sz9 rfl rfl rfl rfl) ?_
      refine al_val (ov_move rfl rfl) ?_
      obtain ⟨hc7, h⟩ := req_some h
      refine al_val (ov_strFrom hc7.1 hc7.2 Tryd.underlying9 rfl rfl rfl) ?_
      refine al_val (ov_nilCheck rfl rfl) ?_
      refine al_val (ov_fieldA (p := 0) rfl Tryd.underlying107 rfl sz9 rfl rfl rfl) ?_
      refine al_store (i := 0) (vs := [(str (a0.s.drop (r3.2.1).toNat))]) (cs' := [(str (a0.s.drop (r3.2.1).toNat)), (Value.bool a0.bad)]) rfl rfl rfl sz9 (cv_rfl rfl) rfl (co_val rfl co_nil) (Nat.le_of_ble_eq_true rfl) rfl rfl ?_
      refine al_nil ?_
      refine aq_then ?_
      refine aw_seq ?_
      refine aw_region ?_
      refine al_val (ov_move rfl rfl) ?_
      refine al_val (ov_move rfl rfl) ?_
      obtain ⟨r9, hc8, h⟩ := opt_some h
      refine al_call (vs := [(ptr bx0 0), (Value.int .u64 (4223371679 : Int))]) (f___room_reader__number_ok fu bx0 (S_room_reader.mk (a0.s.drop (r3.2.1).toNat) a0.bad) (4223371679 : Int) hc8) [] [0] [1] pre_nil rfl (by simp) (by decide) (.inl rfl) rfl Tryd.func78 rfl rfl rfl (fun _ => ?_)
      refine al_val (ov_build (cells := (([(str r3.1), (Value.int .i64 r9.1)] ++ (cA8u8 (A8u8.mk (0 : UInt8) (0 : UInt8) (0 : UInt8) (0 : UInt8) (0 : UInt8) (0 : UInt8) (0 : UInt8) (0 : UInt8))))).toArray) (cs := ([(str r3.1), (Value.int .i64 r9.1)] ++ (cA8u8 (A8u8.mk (0 : UInt8) (0 : UInt8) (0 : UInt8) (0 : UInt8) (0 : UInt8) (0 : UInt8) (0 : UInt8) (0 : UInt8))))) rfl (fun w a hm hs => by simp only [List.map_toArray, List.map_cons, List.map_nil, List.toList_toArray, hs.ev (x := .tmp 37) rfl, hs.ev (x := .tmp 39) rfl]; kernel_rfl)) ?_
      refine al_alloc (zs := ([(str ([] : List UInt8)), (Value.int .i64 (0 : Int))] ++ (cA8u8 (A8u8.mk (0 : UInt8) (0 : UInt8) (0 : UInt8) (0 : UInt8) (0 : UInt8) (0 : UInt8) (0 : UInt8) (0 : UInt8))))) (zeroOf_to to104) rfl rfl (fun g10 => ?_)
      refine al_store (i := 0) (vs := ([(str r3.1), (Value.int .i64 r9.1)] ++ (cA8u8 (A8u8.mk (0 : UInt8) (0 : UInt8) (0 : UInt8) (0 : UInt8) (0 : UInt8) (0 : UInt8) (0 : UInt8) (0 : UInt8))))) (cs' := ([(str r3.1), (Value.int .i64 r9.1)] ++ (cA8u8 (A8u8.mk (0 : UInt8) (0 : UInt8) (0 : UInt8) (0 : UInt8) (0 : UInt8) (0 : UInt8) (0 : UInt8) (0 : UInt8))))) rfl rfl rfl sz104 (cv_rfl rfl) rfl (co_val rfl (co_val rfl (co_all (oneA8u8 (A8u8.mk (0 : UInt8) (0 : UInt8) (0 : UInt8) (0 : UInt8) (0 : UInt8) (0 : UInt8) (0 : UInt8) (0 : UInt8)))))) (Nat.le_of_ble_eq_true rfl) rfl rfl ?_
      refine al_nil ?_
      refine aq_then ?_
      refine aw_seq ?_
      obtain ⟨kk12, hkk12, h⟩ := lt_some h
      refine aw_seq_join (ι := Bool) (fun i => (memOf w0 Z0 [(oBox bx0 107 [(str a0.s), (Value.bool a0.bad)])] [(oBox bx0 107 [(str r9.2.s), (Value.bool r9.2.bad)]), (oBox g1 104 ([(str ([] : List UInt8)), (Value.int .i64 (0 : Int))] ++ (cA8u8 (A8u8.mk (0 : UInt8) (0 : UInt8) (0 : UInt8) (0 : UInt8) (0 : UInt8) (0 : UInt8) (0 : UInt8) (0 : UInt8))))), (oBox g10 104 ([(str r3.1), (Value.int .i64 r9.1)] ++ (cA8u8 (A8u8.mk (0 : UInt8) (0 : UInt8) (0 : UInt8) (0 : UInt8) (0 : UInt8) (0 : UInt8) (0 : UInt8) (0 : UInt8)))))] [])) (fun i => (tab [(0, (ptr bx0 0)), (2, (ptr g1 0)), (6, (ptr g10 0)), (52, (Value.bool i))])) (fun i => kk12 i = some r) ?_ ?_
      · rintro j11b52 h
        have h : kk12 j11b52 = some r := h
        rw [hkk12] at h
        dsimp only at h
        clear hkk12
        refine aw_show (m := (memOf w0 Z0 [(oBox bx0 107 [(str a0.s), (Value.bool a0.bad)])] [(oBox bx0 107 [(str r9.2.s), (Value.bool r9.2.bad)]), (oBox g1 104 ([(str ([] : List UInt8)), (Value.int .i64 (0 : Int))] ++ (cA8u8 (A8u8.mk (0 : UInt8) (0 : UInt8) (0 : UInt8) (0 : UInt8) (0 : UInt8) (0 : UInt8) (0 : UInt8) (0 : UInt8))))), (oBox g10 104 ([(str r3.1), (Value.int .i64 r9.1)] ++ (cA8u8 (A8u8.mk (0 : UInt8) (0 : UInt8) (0 : UInt8) (0 : UInt8) (0 : UInt8) (0 : UInt8) (0 : UInt8) (0 : UInt8)))))] [])) (S := (tab [(0, (ptr bx0 0)), (2, (ptr g1 0)), (6, (ptr g10 0)), (52, (Value.bool j11b52))])) ?_
        refine aw_cond rfl (fun hb13 => ?_) (fun hb13 => ?_)
        · replace h := bif_t hb13 h
          refine aw_seq ?_
          refine aw_region ?_
          refine al_val (ov_move rfl rfl) ?_
          refine al_val (ov_nilCheck rfl rfl) ?_
          refine al_val (ov_fieldA (p := 1) rfl Tryd.underlying107 rfl sz4 rfl rfl rfl) ?_
          refine al_store (i := 0) (vs := [(Value.bool true)]) (cs' := [(str r9.2.s), (Value.bool true)]) rfl rfl rfl sz4 (cv_rfl rfl) rfl (co_val rfl co_nil) (Nat.le_of_ble_eq_true rfl) rfl rfl ?_
          refine al_nil ?_
          refine aq_then ?_
          refine aw_seq ?_
          refine aw_region ?_
          refine al_val (ov_build (cells := (([(str ([] : List UInt8)), (Value.int .i64 (0 : Int))] ++ (cA8u8 (A8u8.mk (0 : UInt8) (0 : UInt8) (0 : UInt8) (0 : UInt8) (0 : UInt8) (0 : UInt8) (0 : UInt8) (0 : UInt8))))).toArray) (cs := ([(str ([] : List UInt8)), (Value.int .i64 (0 : Int))] ++ (cA8u8 (A8u8.mk (0 : UInt8) (0 : UInt8) (0 : UInt8) (0 : UInt8) (0 : UInt8) (0 : UInt8) (0 : UInt8) (0 : UInt8))))) rfl (fun w a hm hs => by simp only [List.map_toArray, List.map_cons, List.map_nil, List.toList_toArray]; kernel_rfl)) ?_
          refine al_store (i := 1) (vs := ([(str ([] : List UInt8)), (Value.int .i64 (0 : Int))] ++ (cA8u8 (A8u8.mk (0 : UInt8) (0 : UInt8) (0 : UInt8) (0 : UInt8) (0 : UInt8) (0 : UInt8) (0 : UInt8) (0 : UInt8))))) (cs' := ([(str ([] : List UInt8)), (Value.int .i64 (0 : Int))] ++ (cA8u8 (A8u8.mk (0 : UInt8) (0 : UInt8) (0 : UInt8) (0 : UInt8) (0 : UInt8) (0 : UInt8) (0 : UInt8) (0 : UInt8))))) rfl rfl rfl sz104 (cv_rfl rfl) rfl (co_val rfl (co_val rfl (co_all (oneA8u8 (A8u8.mk (0 : UInt8) (0 : UInt8) (0 : UInt8) (0 : UInt8) (0 : UInt8) (0 : UInt8) (0 : UInt8) (0 : UInt8)))))) (Nat.le_of_ble_eq_true rfl) rfl rfl ?_
          refine al_nil ?_
          refine aq_then ?_
          refine aw_ret ?_
          refine aq_then_ret ?_
          obtain rfl := Option.some.inj h
          exact fn_ret () [0] [] rfl rfl rfl rfl (resC rfl (resB (i := 1) rfl rfl Tryd.underlying104 sz104 rfl rfl rfl (resN)) rfl) rfl rfl rfl (by decide)
        · replace h := bif_f hb13 h
          refine aw_skip ?_
          refine aq_then ?_
          refine aw_seq ?_
          refine aw_region ?_
          refine al_val (ov_move rfl rfl) ?_
          refine al_val (ov_nilCheck rfl rfl) ?_
          refine al_val (ov_fieldA (p := 0) rfl Tryd.underlying107 rfl sz9 rfl rfl rfl) ?_
          refine al_val (ov_load (i := 0) (v := (str r9.2.s)) rfl rfl Tryd.underlying9 sz9 rfl rfl rfl rfl) ?_
          obtain ⟨hc14, h⟩ := req_some h
          refine al_val (ov_strTo hc14.1 hc14.2 Tryd.underlying9 rfl rfl rfl) ?_
          obtain ⟨hc15, h⟩ := req_some h
          refine al_bytes hc15 rfl Tryd.underlying9 Tryd.underlying89 Tryd.underlying5 rfl (fun s16 => ?_)
          obtain ⟨hc18, h⟩ := req_some h
          refine al_s2ap (τA := tyA8u8) (x := (ofA8u8 (r9.2.s.take ((8 : Int)).toNat))) 0 8 hc18 rfl (fun h9 => oflA8u8 hc18 h9) rfl rfl Tryd.underlying49 rfl (fun p17 => ?_)
          refine al_val (ov_loadP (ds := (cA8u8 (ofA8u8 (r9.2.s.take ((8 : Int)).toNat)))) 0 rfl encA8u8 rfl Tryd.underlying49 sz49 rfl rfl rfl) ?_
          refine al_val (ov_fieldA (p := 2) rfl Tryd.underlying104 rfl sz49 rfl rfl rfl) ?_
          refine al_store (i := 2) (vs := (cA8u8 (ofA8u8 (r9.2.s.take ((8 : Int)).toNat)))) (cs' := ([(str r3.1), (Value.int .i64 r9.1)] ++ (cA8u8 (ofA8u8 (r9.2.s.take ((8 : Int)).toNat))))) rfl rfl rfl sz49 (cv_rfl rfl) rfl (co_all (oneA8u8 (ofA8u8 (r9.2.s.take ((8 : Int)).toNat)))) (Nat.le_of_ble_eq_true rfl) rfl rfl ?_
          refine al_nil ?_
          refine aq_then ?_
          refine aw_seq ?_
          refine aw_region ?_
          refine al_val (ov_move rfl rfl) ?_
          refine al_val (ov_move rfl rfl) ?_
          refine al_val (ov_nilCheck rfl rfl) ?_
          refine al_val (ov_fieldA (p := 0) rfl Tryd.underlying107 rfl sz9 rfl rfl rfl) ?_
          refine al_val (ov_load (i := 0) (v := (str r9.2.s)) rfl rfl Tryd.underlying9 sz9 rfl rfl rfl rfl) ?_
          obtain ⟨hc19, h⟩ := req_some h
          refine al_val (ov_strFrom hc19.1 hc19.2 Tryd.underlying9 rfl rfl rfl) ?_
          refine al_val (ov_nilCheck rfl rfl) ?_
          refine al_val (ov_fieldA (p := 0) rfl Tryd.underlying107 rfl sz9 rfl rfl rfl) ?_
          refine al_store (i := 0) (vs := [(str (r9.2.s.drop ((8 : Int)).toNat))]) (cs' := [(str (r9.2.s.drop ((8 : Int)).toNat)), (Value.bool r9.2.bad)]) rfl rfl rfl sz9 (cv_rfl rfl) rfl (co_val rfl co_nil) (Nat.le_of_ble_eq_true rfl) rfl rfl ?_
          refine al_nil ?_
          refine aq_then ?_
          refine aw_seq ?_
          refine aw_region ?_
          refine al_val (ov_load (i := 2) (v := (ag ([(str r3.1), (Value.int .i64 r9.1)] ++ (cA8u8 (ofA8u8 (r9.2.s.take ((8 : Int)).toNat)))))) rfl rfl Tryd.underlying104 sz104 rfl rfl rfl rfl) ?_
          refine al_store (i := 1) (vs := ([(str r3.1), (Value.int .i64 r9.1)] ++ (cA8u8 (ofA8u8 (r9.2.s.take ((8 : Int)).toNat))))) (cs' := ([(str r3.1), (Value.int .i64 r9.1)] ++ (cA8u8 (ofA8u8 (r9.2.s.take ((8 : Int)).toNat))))) rfl rfl rfl sz104 (cv_rfl rfl) rfl (co_val rfl (co_val rfl (co_all (oneA8u8 (ofA8u8 (r9.2.s.take ((8 : Int)).toNat)))))) (Nat.le_of_ble_eq_true rfl) rfl rfl ?_
          refine al_nil ?_
          refine aq_then ?_
          refine aw_ret ?_
          obtain rfl := Option.some.inj h
          exact fn_ret () [0] [] rfl rfl rfl rfl (resC rfl (resB (i := 1) rfl rfl Tryd.underlying104 sz104 rfl rfl rfl (resN)) rfl) rfl rfl rfl (by decide)
      · clear hkk12
        refine aw_region ?_
        refine al_val (ov_move rfl rfl) ?_
        refine al_val (ov_nilCheck rfl rfl) ?_
        refine al_val (ov_fieldA (p := 1) rfl Tryd.underlying107 rfl sz4 rfl rfl rfl) ?_
        refine al_val (ov_load (i := 1) (v := (Value.bool r9.2.bad)) rfl rfl Tryd.underlying4 sz4 rfl rfl rfl rfl) ?_
        refine al_val (ov_move rfl rfl) ?_
        refine al_caseB 45 rfl (fun hb20 => ?_) (fun hb20 => ?_)
        · replace h := bif_t hb20 h
          refine al_skip ?_
          refine al_skip ?_
          refine al_skip ?_
          refine al_skip ?_
          refine al_skip ?_
          refine al_skip ?_
          refine al_val (ov_pick_t rfl rfl rfl) ?_
          refine al_nil ?_
          exact aq_join true h (fun w a hm hs => norm hm hs [1, 2, 0] [] [(0, (ptr bx0 0)), (2, (ptr g1 0)), (6, (ptr g10 0)), (52, (Value.bool true))] (by decide) ⟨rfl, rfl, rfl, rfl, trivial⟩)
        · replace h := bif_f hb20 h
          refine al_val (ov_move rfl rfl) ?_
          refine al_val (ov_nilCheck rfl rfl) ?_
          refine al_val (ov_fieldA (p := 0) rfl Tryd.underlying107 rfl sz9 rfl rfl rfl) ?_
          refine al_val (ov_load (i := 1) (v := (str r9.2.s)) rfl rfl Tryd.underlying9 sz9 rfl rfl rfl rfl) ?_
          refine al_val (ov_strLen Tryd.underlying9 rfl rfl) ?_
          refine al_val (ov_int rfl rfl rfl rfl) ?_
          refine al_val (ov_pick_f rfl rfl rfl) ?_
          refine al_nil ?_
          exact aq_join (decide ((r9.2.s.length : Int) < (8 : Int))) h (fun w a hm hs => norm hm hs [1, 2, 0] [] [(0, (ptr bx0 0)), (2, (ptr g1 0)), (6, (ptr g10 0)), (52, (Value.bool (decide ((r9.2.s.length : Int) < (8 : Int)))))] (by decide) ⟨rfl, rfl, rfl, rfl, trivial⟩)
  · clear hkk5
    refine aw_region ?_
    refine al_val (ov_move rfl rfl) ?_
    refine al_val (ov_nilCheck rfl rfl) ?_
    refine al_val (ov_fieldA (p := 1) rfl Tryd.underlying107 rfl sz4 rfl rfl rfl) ?_
    refine al_val (ov_load (i := 1) (v := (Value.bool a0.bad)) rfl rfl Tryd.underlying4 sz4 rfl rfl rfl rfl) ?_
    refine al_val (ov_move rfl rfl) ?_
    refine al_caseB 20 rfl (fun hb21 => ?_) (fun hb21 => ?_)
    · replace h := bif_t hb21 h
      refine al_skip ?_
      refine al_skip ?_
      refine al_val (ov_pick_t rfl rfl rfl) ?_
      refine al_nil ?_
      exact aq_join true h (fun w a hm hs => norm hm hs [1, 0] [] [(0, (ptr bx0 0)), (2, (ptr g1 0)), (3, (str r3.1)), (4, (Value.int .i64 r3.2.1)), (23, (Value.bool true))] (by decide) ⟨rfl, rfl, rfl, rfl, rfl, trivial⟩)
    · replace h := bif_f hb21 h
      refine al_val (ov_move rfl rfl) ?_
      refine al_val (ov_int rfl rfl rfl rfl) ?_
      refine al_val (ov_pick_f rfl rfl rfl) ?_
      refine al_nil ?_
      exact aq_join (r3.2.2 != (0 : Int)) h (fun w a hm hs => norm hm hs [1, 0] [] [(0, (ptr bx0 0)), (2, (ptr g1 0)), (3, (str r3.1)), (4, (Value.int .i64 r3.2.1)), (23, (Value.bool (r3.2.2 != (0 : Int))))] (by decide) ⟨rfl, rfl, rfl, rfl, rfl, trivial⟩)
def f_room_Read_L31 (kk19 : ((List UInt8) → Bool → (List S_api_Snap) → Option (S_api_Head × Int))) (r28 : (Int × S_room_reader)) (fu : Nat) : Nat → (List UInt8) → Bool → (List S_api_Snap) → Int → Option (S_api_Head × Int)
  | 0, _, _, _, _ => none
  | k30 + 1, l29s6_0, l29b6_1, l29x7_2, l29i47 => (bif (decide (l29i47 < r28.1)) then (opt (f___room_reader__snap fu (S_room_reader.mk l29s6_0 l29b6_1)) fun (r34 : (S_api_Snap × S_room_reader)) => (req (((l29x7_2.length + ([(S_api_Snap.mk r34.1.Name r34.1.Time r34.1.Root)]).length) * 32 : Nat) ≤ 140737488355328 ∧ l29x7_2.length + ([(S_api_Snap.mk r34.1.Name r34.1.Time r34.1.Root)]).length ≤ 9223372036854775807) (f_room_Read_L31 kk19 r28 fu k30 r34.2.s r34.2.bad (l29x7_2 ++ ([(S_api_Snap.mk r34.1.Name r34.1.Time r34.1.Root)])) (IntKind.i64.wrap (l29i47 + (1 : Int)))))) else (kk19 l29s6_0 l29b6_1 l29x7_2))
def f_room_Read_L42 (kk17 : ((List UInt8) → Bool → (List Int) → Option (S_api_Head × Int))) (r39 : (Int × S_room_reader)) (fu : Nat) : Nat → (List UInt8) → Bool → (List Int) → Int → Option (S_api_Head × Int)
  | 0, _, _, _, _ => none
  | k41 + 1, l40s6_0, l40b6_1, l40x7_1, l40i35 => (bif (decide (l40i35 < r39.1)) then (opt (f___room_reader__number fu (S_room_reader.mk l40s6_0 l40b6_1) (65536 : Int)) fun (r45 : (Int × S_room_reader)) => (req (((l40x7_1.length + ([r45.1]).length) * 8 : Nat) ≤ 140737488355328 ∧ l40x7_1.length + ([r45.1]).length ≤ 9223372036854775807) (f_room_Read_L42 kk17 r39 fu k41 r45.2.s r45.2.bad (l40x7_1 ++ ([r45.1])) (IntKind.i64.wrap (l40i35 + (1 : Int)))))) else (kk17 l40s6_0 l40b6_1 l40x7_1))
def f_room_Read (fu : Nat) (a0 : (List UInt8)) : Option (S_api_Head × Int) := (opt (f_journal_Scan fu a0) fun (r3 : ((List (List UInt8)) × Int)) => (lt (fun (j5b23 : Bool) => (bif j5b23 then (some ((S_api_Head.mk (0 : Int) ([] : (List Int)) ([] : (List S_api_Snap))), (4 : Int))) else (opt (at? r3.1 (0 : Int)) fun (u8 : (List UInt8)) => (opt (f___room_reader__number fu (S_room_reader.mk u8 false) (65536 : Int)) fun (r14 : (Int × S_room_reader)) => (lt (fun (j16s6_0 : (List UInt8)) (j16b6_1 : Bool) (j16x7_1 : (List Int)) => (lt (fun (j18s6_0 : (List UInt8)) (j18b6_1 : Bool) (j18x7_2 : (List S_api_Snap)) => (opt (f_room_Write fu (S_api_Head.mk r14.1 j16x7_1 j18x7_2)) fun (r21 : ((List UInt8) × Int)) => (lt (fun (j22b74 : Bool) => (bif j22b74 then (some ((S_api_Head.mk (0 : Int) ([] : (List Int)) ([] : (List S_api_Snap))), (4 : Int))) else (some ((S_api_Head.mk r14.1 j16x7_1 j18x7_2), (0 : Int))))) fun (kk23 : Bool → Option (S_api_Head × Int)) => (bif j18b6_1 then (kk23 true) else (bif (r21.2 != (0 : Int)) then (kk23 true) else (kk23 (!(r21.1 == a0)))))))) fun (kk19 : (List UInt8) → Bool → (List S_api_Snap) → Option (S_api_Head × Int)) => (opt (f___room_reader__number fu (S_room_reader.mk j16s6_0 j16b6_1) (20 : Int)) fun (r28 : (Int × S_room_reader)) => (f_room_Read_L31 kk19 r28 fu fu r28.2.s r28.2.bad ([] : List S_api_Snap) (0 : Int))))) fun (kk17 : (List UInt8) → Bool → (List Int) → Option (S_api_Head × Int)) => (opt (f___room_reader__number fu (S_room_reader.mk r14.2.s r14.2.bad) (100 : Int)) fun (r39 : (Int × S_room_reader)) => (f_room_Read_L42 kk17 r39 fu fu r39.2.s r39.2.bad ([] : List Int) (0 : Int)))))))) fun (kk6 : Bool → Option (S_api_Head × Int)) => (bif ((r3.1.length : Int) != (1 : Int)) then (kk6 true) else (kk6 (r3.2 != (a0.length : Int))))))
set_option maxRecDepth 100000 in
theorem f_room_Read_ok (fu : Nat) (a0 : (List UInt8)) {r : (S_api_Head × Int)} (h : f_room_Read fu a0 = some r) : FnOk Tryd.prog 35 [(str a0)] [uMax, uTabs] [] (fun (i : Value × Value) => { val := (Value.tuple #[(ag [(Value.int .i64 r.1.Next), i.1, i.2]), (Value.int .i64 r.2)]), fz := [(fDat (tyList (tyInt .i64)) [i.1] r.1.Packs), (fDat (tyList tyS_api_Snap) [i.2] r.1.Snaps)] }) := by
  unfold f_room_Read at h
  refine fn_enter Tryd.func35 rfl Tryd.ntmps35 rfl (fun w0 Z0 => ?_)
  refine aw_seq ?_
  refine aw_region ?_
  refine al_alloc (zs := [(Value.int .i64 (0 : Int)), (Value.slice none 0 0), (Value.slice none 0 0)]) (zeroOf_to to62) rfl rfl (fun g1 => ?_)
  refine al_val (ov_assign rfl rfl) ?_
  refine al_nil ?_
  refine aq_then ?_
  refine aw_seq ?_
  refine aw_region ?_
  refine al_val (ov_move rfl rfl) ?_
  obtain ⟨r3, hc2, h⟩ := opt_some h
  refine al_call (vs := [(str a0)]) (f_journal_Scan_ok fu a0 hc2) [] [] [0] pre_nil rfl (by simp) (by decide) (.inl rfl) rfl Tryd.func14 rfl rfl rfl (fun v4 => ?_)
  refine al_val (ov_move rfl rfl) ?_
  refine al_val (ov_extract rfl rfl rfl) ?_
  refine al_val (ov_extract rfl rfl rfl) ?_
  refine al_val (ov_assign rfl rfl) ?_
  refine al_val (ov_assign rfl rfl) ?_
  refine al_nil ?_
  refine aq_then ?_
  refine aw_seq ?_
  obtain ⟨kk6, hkk6, h⟩ := lt_some h
  refine aw_seq_join (ι := Bool) (fun i => (memOf w0 Z0 [] [(oBox g1 62 [(Value.int .i64 (0 : Int)), (Value.slice none 0 0), (Value.slice none 0 0)]), (oRow v4 9 tyStr r3.1)] [uMax, uTabs])) (fun i => (tab [(0, (str a0)), (2, (ptr g1 0)), (4, v4), (23, (Value.bool i))])) (fun i => kk6 i = some r) ?_ ?_
  · rintro j5b23 h
    have h : kk6 j5b23 = some r := h
    rw [hkk6] at h
    dsimp only at h
    clear hkk6
    refine aw_show (m := (memOf w0 Z0 [] [(oBox g1 62 [(Value.int .i64 (0 : Int)), (Value.slice none 0 0), (Value.slice none 0 0)]), (oRow v4 9 tyStr r3.1)] [uMax, uTabs])) (S := (tab [(0, (str a0)), (2, (ptr g1 0)), (4, v4), (23, (Value.bool j5b23))])) ?_
    refine aw_cond rfl (fun hb7 => ?_) (fun hb7 => ?_)
    · replace h := bif_t hb7 h
      refine aw_seq ?_
      refine aw_region ?_
      refine al_val (ov_build (cells := ([(Value.int .i64 (0 : Int)), (Value.slice none 0 0), (Value.slice none 0 0)]).toArray) (cs := [(Value.int .i64 (0 : Int)), (Value.slice none 0 0), (Value.slice none 0 0)]) rfl (fun w a hm hs => by simp only [List.map_toArray, List.map_cons, List.map_nil, List.toList_toArray]; kernel_rfl)) ?_
      refine al_store (i := 0) (vs := [(Value.int .i64 (0 : Int)), (Value.slice none 0 0), (Value.slice none 0 0)]) (cs' := [(Value.int .i64 (0 : Int)), (Value.slice none 0 0), (Value.slice none 0 0)]) rfl rfl rfl sz62 (cv_rfl rfl) rfl (co_val rfl (co_val rfl (co_val rfl co_nil))) (Nat.le_of_ble_eq_true rfl) rfl rfl ?_
      refine al_val (ov_assign rfl rfl) ?_
      refine al_nil ?_
      refine aq_then ?_
      refine aw_ret ?_
      refine aq_then_ret ?_
      refine aq_nilD (tyInt .i64) ?_
      refine aq_nilD tyS_api_Snap ?_
      obtain rfl := Option.some.inj h
      exact fn_ret ((Value.slice none 0 0), (Value.slice none 0 0)) [] [1, 0] rfl rfl rfl rfl (resC rfl (resB (i := 0) rfl rfl Tryd.underlying62 sz62 rfl rfl rfl (resT rfl (resN))) rfl) rfl rfl rfl (by decide)
    · replace h := bif_f hb7 h
      refine aw_skip ?_
      refine aq_then ?_
      refine aw_seq ?_
      refine aw_region ?_
      refine al_val (ov_move rfl rfl) ?_
      obtain ⟨u8, hu9, h⟩ := opt_some h
      refine al_idxR 1 (at_some hu9).1 (at_some hu9).2.1 rfl rfl rfl Tryd.underlying22 sz9 rfl (fun p10 hp11 => ?_)
      refine al_val (ov_loadR (ds := [(str u8)]) 1 rfl hp11 (at_some hu9).2.2 (fun h => h) rfl Tryd.underlying9 sz9 rfl rfl rfl) ?_
      refine al_val (ov_build (cells := ([(str u8), (Value.bool false)]).toArray) (cs := [(str u8), (Value.bool false)]) rfl (fun w a hm hs => by simp only [List.map_toArray, List.map_cons, List.map_nil, List.toList_toArray, hs.ev (x := .tmp 27) rfl]; kernel_rfl)) ?_
      refine al_box (vs := [(str u8), (Value.bool false)]) rfl (cv_rfl rfl) rfl (fun g12 => ?_)
      refine al_val (ov_assign rfl rfl) ?_
      refine al_nil ?_
      refine aq_then ?_
      refine aw_seq ?_
      refine aw_region ?_
      refine al_val (ov_move rfl rfl) ?_
      obtain ⟨r14, hc13, h⟩ := opt_some h
      refine al_call (vs := [(ptr g12 0), (Value.int .u64 (65536 : Int))]) (f___room_reader__number_ok fu g12 (S_room_reader.mk u8 false) (65536 : Int) hc13) [] [0] [1, 2] pre_nil rfl (by simp) (by decide) (.inl rfl) rfl Tryd.func78 rfl rfl rfl (fun _ => ?_)
      refine al_val (ov_build (cells := ([(Value.int .i64 r14.1), (Value.slice none 0 0), (Value.slice none 0 0)]).toArray) (cs := [(Value.int .i64 r14.1), (Value.slice none 0 0), (Value.slice none 0 0)]) rfl (fun w a hm hs => by simp only [List.map_toArray, List.map_cons, List.map_nil, List.toList_toArray, hs.ev (x := .tmp 31) rfl]; kernel_rfl)) ?_
      refine al_alloc (zs := [(Value.int .i64 (0 : Int)), (Value.slice none 0 0), (Value.slice none 0 0)]) (zeroOf_to to62) rfl rfl (fun g15 => ?_)
      refine al_store (i := 0) (vs := [(Value.int .i64 r14.1), (Value.slice none 0 0), (Value.slice none 0 0)]) (cs' := [(Value.int .i64 r14.1), (Value.slice none 0 0), (Value.slice none 0 0)]) rfl rfl rfl sz62 (cv_rfl rfl) rfl (co_val rfl (co_val rfl (co_val rfl co_nil))) (Nat.le_of_ble_eq_true rfl) rfl rfl ?_
      refine al_nil ?_
      refine aq_then ?_
      obtain ⟨kk17, hkk17, h⟩ := lt_some h
      refine aw_seq_join (ι := (List UInt8) × Bool × Value × (List Int)) (fun i => (memOf w0 Z0 [] [(oBox g1 62 [(Value.int .i64 (0 : Int)), (Value.slice none 0 0), (Value.slice none 0 0)]), (oBox g12 107 [(str i.1), (Value.bool i.2.1)]), (oRow i.2.2.1 3 (tyInt .i64) i.2.2.2), (oBox g15 62 [(Value.int .i64 r14.1), i.2.2.1, (Value.slice none 0 0)])] [uMax, uTabs])) (fun i => (tab [(0, (str a0)), (2, (ptr g1 0)), (6, (ptr g12 0)), (7, (ptr g15 0))])) (fun i => kk17 i.1 i.2.1 i.2.2.2 = some r) ?_ ?_
      · rintro ⟨j16s6_0, j16b6_1, j16v7_1, j16x7_1⟩ h
        have h : kk17 j16s6_0 j16b6_1 j16x7_1 = some r := h
        rw [hkk17] at h
        dsimp only at h
        clear hkk17
        refine aw_show (m := (memOf w0 Z0 [] [(oBox g1 62 [(Value.int .i64 (0 : Int)), (Value.slice none 0 0), (Value.slice none 0 0)]), (oBox g12 107 [(str j16s6_0), (Value.bool j16b6_1)]), (oRow j16v7_1 3 (tyInt .i64) j16x7_1), (oBox g15 62 [(Value.int .i64 r14.1), j16v7_1, (Value.slice none 0 0)])] [uMax, uTabs])) (S := (tab [(0, (str a0)), (2, (ptr g1 0)), (6, (ptr g12 0)), (7, (ptr g15 0))])) ?_
        obtain ⟨kk19, hkk19, h⟩ := lt_some h
        refine aw_seq_join (ι := (List UInt8) × Bool × Value × (List S_api_Snap)) (fun i => (memOf w0 Z0 [] [(oBox g1 62 [(Value.int .i64 (0 : Int)), (Value.slice none 0 0), (Value.slice none 0 0)]), (oBox g12 107 [(str i.1), (Value.bool i.2.1)]), (oRow j16v7_1 3 (tyInt .i64) j16x7_1), (oRow i.2.2.1 104 tyS_api_Snap i.2.2.2), (oBox g15 62 [(Value.int .i64 r14.1), j16v7_1, i.2.2.1])] [uMax, uTabs])) (fun i => (tab [(0, (str a0)), (2, (ptr g1 0)), (6, (ptr g12 0)), (7, (ptr g15 0))])) (fun i => kk19 i.1 i.2.1 i.2.2.2 = some r) ?_ ?_
        · rintro ⟨j18s6_0, j18b6_1, j18v7_2, j18x7_2⟩ h
          have h : kk19 j18s6_0 j18b6_1 j18x7_2 = some r := h
          rw [hkk19] at h
          dsimp only at h
          clear hkk19
          refine aw_show (m := (memOf w0 Z0 [] [(oBox g1 62 [(Value.int .i64 (0 : Int)), (Value.slice none 0 0), (Value.slice none 0 0)]), (oBox g12 107 [(str j18s6_0), (Value.bool j18b6_1)]), (oRow j16v7_1 3 (tyInt .i64) j16x7_1), (oRow j18v7_2 104 tyS_api_Snap j18x7_2), (oBox g15 62 [(Value.int .i64 r14.1), j16v7_1, j18v7_2])] [uMax, uTabs])) (S := (tab [(0, (str a0)), (2, (ptr g1 0)), (6, (ptr g12 0)), (7, (ptr g15 0))])) ?_
          refine aw_seq ?_
          refine aw_seq ?_
          refine aw_region ?_
          refine al_val (ov_load (i := 4) (v := (ag [(Value.int .i64 r14.1), j16v7_1, j18v7_2])) rfl rfl Tryd.underlying62 sz62 rfl rfl rfl rfl) ?_
          obtain ⟨r21, hc20, h⟩ := opt_some h
          refine al_call (vs := [(ag [(Value.int .i64 r14.1), j16v7_1, j18v7_2])]) (f_room_Write_ok fu j16v7_1 j18v7_2 (S_api_Head.mk r14.1 j16x7_1 j18x7_2) hc20) [2, 3] [] [0, 1, 2, 3, 4] (pre_own 2 rfl rfl (pre_own 3 rfl rfl (pre_fz 0 rfl (pre_fz 1 rfl pre_nil)))) rfl (by simp) (by decide) (.inr flat_res0) rfl Tryd.func33 rfl rfl rfl (fun _ => ?_)
          refine al_val (ov_move rfl rfl) ?_
          refine al_val (ov_extract rfl rfl rfl) ?_
          refine al_val (ov_extract rfl rfl rfl) ?_
          refine al_val (ov_assign rfl rfl) ?_
          refine al_val (ov_assign rfl rfl) ?_
          refine al_nil ?_
          refine aq_then ?_
          obtain ⟨kk23, hkk23, h⟩ := lt_some h
          refine aw_seq_join (ι := Bool) (fun i => (memOf w0 Z0 [] [(oBox g1 62 [(Value.int .i64 (0 : Int)), (Value.slice none 0 0), (Value.slice none 0 0)]), (oRow j16v7_1 3 (tyInt .i64) j16x7_1), (oRow j18v7_2 104 tyS_api_Snap j18x7_2), (oBox g15 62 [(Value.int .i64 r14.1), j16v7_1, j18v7_2])] [uMax, uTabs])) (fun i => (tab [(2, (ptr g1 0)), (7, (ptr g15 0)), (74, (Value.bool i))])) (fun i => kk23 i = some r) ?_ ?_
          · rintro j22b74 h
            have h : kk23 j22b74 = some r := h
            rw [hkk23] at h
            dsimp only at h
            clear hkk23
            refine aw_show (m := (memOf w0 Z0 [] [(oBox g1 62 [(Value.int .i64 (0 : Int)), (Value.slice none 0 0), (Value.slice none 0 0)]), (oRow j16v7_1 3 (tyInt .i64) j16x7_1), (oRow j18v7_2 104 tyS_api_Snap j18x7_2), (oBox g15 62 [(Value.int .i64 r14.1), j16v7_1, j18v7_2])] [uMax, uTabs])) (S := (tab [(2, (ptr g1 0)), (7, (ptr g15 0)), (74, (Value.bool j22b74))])) ?_
            refine aw_cond rfl (fun hb24 => ?_) (fun hb24 => ?_)
            · replace h := bif_t hb24 h
              refine aw_seq ?_
              refine aw_region ?_
              refine al_val (ov_build (cells := ([(Value.int .i64 (0 : Int)), (Value.slice none 0 0), (Value.slice none 0 0)]).toArray) (cs := [(Value.int .i64 (0 : Int)), (Value.slice none 0 0), (Value.slice none 0 0)]) rfl (fun w a hm hs => by simp only [List.map_toArray, List.map_cons, List.map_nil, List.toList_toArray]; kernel_rfl)) ?_
              refine al_store (i := 0) (vs := [(Value.int .i64 (0 : Int)), (Value.slice none 0 0), (Value.slice none 0 0)]) (cs' := [(Value.int .i64 (0 : Int)), (Value.slice none 0 0), (Value.slice none 0 0)]) rfl rfl rfl sz62 (cv_rfl rfl) rfl (co_val rfl (co_val rfl (co_val rfl co_nil))) (Nat.le_of_ble_eq_true rfl) rfl rfl ?_
              refine al_val (ov_assign rfl rfl) ?_
              refine al_nil ?_
              refine aq_then ?_
              refine aw_ret ?_
              refine aq_then_ret ?_
              refine aq_nilD (tyInt .i64) ?_
              refine aq_nilD tyS_api_Snap ?_
              obtain rfl := Option.some.inj h
              exact fn_ret ((Value.slice none 0 0), (Value.slice none 0 0)) [] [1, 0] rfl rfl rfl rfl (resC rfl (resB (i := 0) rfl rfl Tryd.underlying62 sz62 rfl rfl rfl (resT rfl (resN))) rfl) rfl rfl rfl (by decide)
            · replace h := bif_f hb24 h
              refine aw_skip ?_
              refine aq_then ?_
              refine aw_seq ?_
              refine aw_region ?_
              refine al_val (ov_load (i := 3) (v := (ag [(Value.int .i64 r14.1), j16v7_1, j18v7_2])) rfl rfl Tryd.underlying62 sz62 rfl rfl rfl rfl) ?_
              refine al_store (i := 0) (vs := [(Value.int .i64 r14.1), j16v7_1, j18v7_2]) (cs' := [(Value.int .i64 r14.1), j16v7_1, j18v7_2]) rfl rfl rfl sz62 (cv_rfl rfl) rfl (co_val rfl (co_own 1 rfl (co_own 2 rfl co_nil))) (Nat.le_of_ble_eq_true rfl) rfl rfl ?_
              refine al_val (ov_assign rfl rfl) ?_
              refine al_nil ?_
              refine aq_then ?_
              refine aw_ret ?_
              refine aq_freeze 1 rfl rfl ?_
              refine aq_freeze 1 rfl rfl ?_
              obtain rfl := Option.some.inj h
              exact fn_ret (j16v7_1, j18v7_2) [] [1, 0] rfl rfl rfl rfl (resC rfl (resB (i := 0) rfl rfl Tryd.underlying62 sz62 rfl rfl rfl (resT rfl (resN))) rfl) rfl rfl rfl (by decide)
          · clear hkk23
            refine aw_region ?_
            refine al_val (ov_move rfl rfl) ?_
            refine al_val (ov_nilCheck rfl rfl) ?_
            refine al_val (ov_fieldA (p := 1) rfl Tryd.underlying107 rfl sz4 rfl rfl rfl) ?_
            refine al_val (ov_load (i := 1) (v := (Value.bool j18b6_1)) rfl rfl Tryd.underlying4 sz4 rfl rfl rfl rfl) ?_
            refine al_val (ov_move rfl rfl) ?_
            refine al_caseB 66 rfl (fun hb25 => ?_) (fun hb25 => ?_)
            · replace h := bif_t hb25 h
              refine al_skip ?_
              refine al_skip ?_
              refine al_val (ov_pick_t rfl rfl rfl) ?_
              refine al_val (ov_move rfl rfl) ?_
              refine al_skip ?_
              refine al_skip ?_
              refine al_skip ?_
              refine al_val (ov_pick_t rfl rfl rfl) ?_
              refine al_nil ?_
              exact aq_join true h (fun w a hm hs => norm hm hs [0, 2, 3, 4] [0, 1] [(2, (ptr g1 0)), (7, (ptr g15 0)), (74, (Value.bool true))] (by decide) ⟨rfl, rfl, rfl, trivial⟩)
            · replace h := bif_f hb25 h
              refine al_val (ov_move rfl rfl) ?_
              refine al_val (ov_int rfl rfl rfl rfl) ?_
              refine al_val (ov_pick_f rfl rfl rfl) ?_
              refine al_val (ov_move rfl rfl) ?_
              refine al_caseB 70 rfl (fun hb26 => ?_) (fun hb26 => ?_)
              · replace h := bif_t hb26 h
                refine al_skip ?_
                refine al_skip ?_
                refine al_skip ?_
                refine al_val (ov_pick_t rfl rfl rfl) ?_
                refine al_nil ?_
                exact aq_join true h (fun w a hm hs => norm hm hs [0, 2, 3, 4] [0, 1] [(2, (ptr g1 0)), (7, (ptr g15 0)), (74, (Value.bool true))] (by decide) ⟨rfl, rfl, rfl, trivial⟩)
              · replace h := bif_f hb26 h
                refine al_val (ov_move rfl rfl) ?_
                refine al_val (ov_move rfl rfl) ?_
                refine al_val (ov_strCmp rfl rfl rfl rfl) ?_
                refine al_val (ov_pick_f rfl rfl rfl) ?_
                refine al_nil ?_
                exact aq_join (!(r21.1 == a0)) h (fun w a hm hs => norm hm hs [0, 2, 3, 4] [0, 1] [(2, (ptr g1 0)), (7, (ptr g15 0)), (74, (Value.bool (!(r21.1 == a0))))] (by decide) ⟨rfl, rfl, rfl, trivial⟩)
        · clear hkk19
          refine aw_seq ?_
          refine aw_region ?_
          refine al_val (ov_move rfl rfl) ?_
          obtain ⟨r28, hc27, h⟩ := opt_some h
          refine al_call (vs := [(ptr g12 0), (Value.int .u64 (20 : Int))]) (f___room_reader__number_ok fu g12 (S_room_reader.mk j16s6_0 j16b6_1) (20 : Int) hc27) [] [1] [0, 2, 3] pre_nil rfl (by simp) (by decide) (.inl rfl) rfl Tryd.func78 rfl rfl rfl (fun _ => ?_)
          refine al_val (ov_move rfl rfl) ?_
          refine al_nil ?_
          refine aq_then ?_
          refine aw_block ?_
          refine aw_nilR 104 tyS_api_Snap ?_
          refine aw_state (aw_loop (ι := (List UInt8) × Bool × Value × (List S_api_Snap) × Int) (fun i => (memOf w0 Z0 [] [(oBox g1 62 [(Value.int .i64 (0 : Int)), (Value.slice none 0 0), (Value.slice none 0 0)]), (oBox g12 107 [(str i.1), (Value.bool i.2.1)]), (oRow j16v7_1 3 (tyInt .i64) j16x7_1), (oRow i.2.2.1 104 tyS_api_Snap i.2.2.2.1), (oBox g15 62 [(Value.int .i64 r14.1), j16v7_1, i.2.2.1])] [uMax, uTabs])) (fun i => (tab [(0, (str a0)), (2, (ptr g1 0)), (6, (ptr g12 0)), (7, (ptr g15 0)), (46, (Value.int .i64 r28.1)), (47, (Value.int .i64 i.2.2.2.2))])) (fun q i => f_room_Read_L31 kk19 r28 fu q i.1 i.2.1 i.2.2.2.1 i.2.2.2.2 = some r) ?_ fu (r28.2.s, r28.2.bad, (Value.slice none 0 0), ([] : List S_api_Snap), (0 : Int)) h) (fun w a hm hs => norm hm hs [2, 1, 3, 0, 4] [0, 1] [(0, (str a0)), (2, (ptr g1 0)), (6, (ptr g12 0)), (7, (ptr g15 0)), (46, (Value.int .i64 r28.1)), (47, (Value.int .i64 (0 : Int)))] (by decide) ⟨rfl, rfl, rfl, rfl, rfl, rfl, trivial⟩)
          clear h
          rintro k30 ⟨l29s6_0, l29b6_1, l29v7_2, l29x7_2, l29i47⟩ h
          have h : f_room_Read_L31 kk19 r28 fu k30 l29s6_0 l29b6_1 l29x7_2 l29i47 = some r := h
          obtain _ | k30 := k30
          · rw [f_room_Read_L31] at h; cases h
          rw [f_room_Read_L31] at h
          refine aw_show (m := (memOf w0 Z0 [] [(oBox g1 62 [(Value.int .i64 (0 : Int)), (Value.slice none 0 0), (Value.slice none 0 0)]), (oBox g12 107 [(str l29s6_0), (Value.bool l29b6_1)]), (oRow j16v7_1 3 (tyInt .i64) j16x7_1), (oRow l29v7_2 104 tyS_api_Snap l29x7_2), (oBox g15 62 [(Value.int .i64 r14.1), j16v7_1, l29v7_2])] [uMax, uTabs])) (S := (tab [(0, (str a0)), (2, (ptr g1 0)), (6, (ptr g12 0)), (7, (ptr g15 0)), (46, (Value.int .i64 r28.1)), (47, (Value.int .i64 l29i47))])) ?_
          refine aw_seq ?_
          refine aw_region ?_
          refine al_val (ov_int rfl rfl rfl rfl) ?_
          refine al_nil ?_
          refine aq_then ?_
          refine aw_seq ?_
          refine aw_cond rfl (fun hb32 => ?_) (fun hb32 => ?_)
          · replace h := bif_t hb32 h
            refine aw_skip ?_
            refine aq_then ?_
            refine aw_seq ?_
            refine aw_block ?_
            refine aw_region_open [⟨0, 49, Unit, fun _ => { val := (ptr g15 2) }⟩, ⟨1, 50, Unit, fun _ => { val := l29v7_2 }⟩, ⟨2, 51, Unit, fun _ => { val := (ptr g12 0) }⟩] (tab [(0, (str a0)), (2, (ptr g1 0)), (6, (ptr g12 0)), (7, (ptr g15 0)), (46, (Value.int .i64 r28.1)), (47, (Value.int .i64 l29i47))]) mixed (fun a hs => hs.tab _ (allT_mem ⟨rfl, rfl, rfl, rfl, rfl, rfl, trivial⟩)) ?_
            refine ta_show (m := (memOf w0 Z0 [] [(oBox g1 62 [(Value.int .i64 (0 : Int)), (Value.slice none 0 0), (Value.slice none 0 0)]), (oBox g12 107 [(str l29s6_0), (Value.bool l29b6_1)]), (oRow j16v7_1 3 (tyInt .i64) j16x7_1), (oRow l29v7_2 104 tyS_api_Snap l29x7_2), (oBox g15 62 [(Value.int .i64 r14.1), j16v7_1, l29v7_2])] [uMax, uTabs])) (S := (tab [(0, (str a0)), (2, (ptr g1 0)), (6, (ptr g12 0)), (7, (ptr g15 0)), (46, (Value.int .i64 r28.1)), (47, (Value.int .i64 l29i47))])) ?_
            refine ta_step 3 _ [0, 1, 2] [49, 50, 51] [2] [4] [⟨2, 51, Unit, fun _ => { val := (ptr g12 0) }⟩] [⟨0, 49, Unit, fun _ => { val := (ptr g15 2) }⟩, ⟨1, 50, Unit, fun _ => { val := l29v7_2 }⟩] rfl rfl rfl (by kernel_rfl) rfl rfl rfl ⟨⟨_, rfl, [], rfl, by
    intro X_ Y_ F_ K_ hK_
    refine al_show (m := Mem.plus (memOf w0 Z0 [] [(oBox g1 62 [(Value.int .i64 (0 : Int)), (Value.slice none 0 0), (Value.slice none 0 0)]), (oBox g12 107 [(str l29s6_0), (Value.bool l29b6_1)]), (oRow j16v7_1 3 (tyInt .i64) j16x7_1), (oRow l29v7_2 104 tyS_api_Snap l29x7_2), (oBox g15 62 [(Value.int .i64 r14.1), j16v7_1, l29v7_2])] [uMax, uTabs]) X_ Y_) (S := over (tab [(0, (str a0)), (2, (ptr g1 0)), (6, (ptr g12 0)), (7, (ptr g15 0)), (46, (Value.int .i64 r28.1)), (47, (Value.int .i64 l29i47))]) F_) ?_
    refine al_val (ov_fieldA (p := 2) rfl Tryd.underlying62 rfl sz60 rfl rfl rfl) ?_
    refine al_nil ?_
    exact fr_fin hK_ ()⟩, ⟨_, rfl, [0], rfl, by
    intro _
    intro X_ Y_ F_ K_ hK_
    refine al_show (m := Mem.plus (memOf w0 Z0 [] [(oBox g1 62 [(Value.int .i64 (0 : Int)), (Value.slice none 0 0), (Value.slice none 0 0)]), (oBox g12 107 [(str l29s6_0), (Value.bool l29b6_1)]), (oRow j16v7_1 3 (tyInt .i64) j16x7_1), (oRow l29v7_2 104 tyS_api_Snap l29x7_2), (oBox g15 62 [(Value.int .i64 r14.1), j16v7_1, l29v7_2])] [uMax, uTabs]) X_ Y_) (S := over (put (tab [(0, (str a0)), (2, (ptr g1 0)), (6, (ptr g12 0)), (7, (ptr g15 0)), (46, (Value.int .i64 r28.1)), (47, (Value.int .i64 l29i47))]) 49 (ptr g15 2)) F_) ?_
    refine al_val (ov_load (i := 4) (v := l29v7_2) rfl rfl Tryd.underlying60 sz60 rfl rfl rfl rfl) ?_
    refine al_nil ?_
    exact fr_fin hK_ ()⟩, ⟨_, rfl, [], rfl, by
    intro X_ Y_ F_ K_ hK_
    refine al_show (m := Mem.plus (memOf w0 Z0 [] [(oBox g1 62 [(Value.int .i64 (0 : Int)), (Value.slice none 0 0), (Value.slice none 0 0)]), (oBox g12 107 [(str l29s6_0), (Value.bool l29b6_1)]), (oRow j16v7_1 3 (tyInt .i64) j16x7_1), (oRow l29v7_2 104 tyS_api_Snap l29x7_2), (oBox g15 62 [(Value.int .i64 r14.1), j16v7_1, l29v7_2])] [uMax, uTabs]) X_ Y_) (S := over (tab [(0, (str a0)), (2, (ptr g1 0)), (6, (ptr g12 0)), (7, (ptr g15 0)), (46, (Value.int .i64 r28.1)), (47, (Value.int .i64 l29i47))]) F_) ?_
    refine al_val (ov_move rfl rfl) ?_
    refine al_nil ?_
    exact fr_fin hK_ ()⟩, trivial⟩ ?_
            intro _
            intro X_ Y_ F_ K_ hK_
            refine al_show (m := Mem.plus (memOf w0 Z0 [] [(oBox g1 62 [(Value.int .i64 (0 : Int)), (Value.slice none 0 0), (Value.slice none 0 0)]), (oBox g12 107 [(str l29s6_0), (Value.bool l29b6_1)]), (oRow j16v7_1 3 (tyInt .i64) j16x7_1), (oRow l29v7_2 104 tyS_api_Snap l29x7_2), (oBox g15 62 [(Value.int .i64 r14.1), j16v7_1, l29v7_2])] [uMax, uTabs]) X_ Y_) (S := over (put (tab [(0, (str a0)), (2, (ptr g1 0)), (6, (ptr g12 0)), (7, (ptr g15 0)), (46, (Value.int .i64 r28.1)), (47, (Value.int .i64 l29i47))]) 51 (ptr g12 0)) F_) ?_
            obtain ⟨r34, hc33, h⟩ := opt_some h
            refine al_callX (vs := [(ptr g12 0)]) (f___room_reader__snap_ok fu g12 (S_room_reader.mk l29s6_0 l29b6_1) hc33) [] [1] [0, 2, 3, 4] pre_nil rfl (by simp) (by decide) rfl (.inl rfl) rfl Tryd.func79 rfl rfl rfl (fun _ => ?_)
            refine al_nil ?_
            refine aq_show (m := Mem.plus (memOf w0 Z0 [] [(oBox g12 107 [(str r34.2.s), (Value.bool r34.2.bad)]), (oBox g1 62 [(Value.int .i64 (0 : Int)), (Value.slice none 0 0), (Value.slice none 0 0)]), (oRow j16v7_1 3 (tyInt .i64) j16x7_1), (oRow l29v7_2 104 tyS_api_Snap l29x7_2), (oBox g15 62 [(Value.int .i64 r14.1), j16v7_1, l29v7_2])] [uMax, uTabs]) X_ Y_) ?_
            refine aq_next hK_ [0, 1, 2, 3, 4] [0, 1] [(0, (str a0)), (2, (ptr g1 0)), (6, (ptr g12 0)), (7, (ptr g15 0)), (46, (Value.int .i64 r28.1)), (47, (Value.int .i64 l29i47)), (52, (ag ([(str r34.1.Name), (Value.int .i64 r34.1.Time)] ++ (cA8u8 r34.1.Root))))] [49, 50] [⟨4, 53, Value, fun (i : Value) => { val := i, fz := [(fDat (tyList tyS_api_Snap) [i] [(S_api_Snap.mk r34.1.Name r34.1.Time r34.1.Root)])] }⟩] rfl rfl (by decide) rfl ⟨rfl, rfl, rfl, rfl, rfl, rfl, rfl, trivial⟩ ⟨rfl, rfl, trivial⟩ ?_
            clear hK_ K_ F_ X_ Y_
            refine ta_show (m := (memOf w0 Z0 [] [(oBox g12 107 [(str r34.2.s), (Value.bool r34.2.bad)]), (oBox g1 62 [(Value.int .i64 (0 : Int)), (Value.slice none 0 0), (Value.slice none 0 0)]), (oRow j16v7_1 3 (tyInt .i64) j16x7_1), (oRow l29v7_2 104 tyS_api_Snap l29x7_2), (oBox g15 62 [(Value.int .i64 r14.1), j16v7_1, l29v7_2])] [uMax, uTabs])) (S := (tab [(0, (str a0)), (2, (ptr g1 0)), (6, (ptr g12 0)), (7, (ptr g15 0)), (46, (Value.int .i64 r28.1)), (47, (Value.int .i64 l29i47)), (52, (ag ([(str r34.1.Name), (Value.int .i64 r34.1.Time)] ++ (cA8u8 r34.1.Root))))])) ?_
            refine ta_step 5 _ [0, 1, 4] [49, 50, 53] [0, 1, 4] [6] [⟨0, 49, Unit, fun _ => { val := (ptr g15 2) }⟩, ⟨1, 50, Unit, fun _ => { val := l29v7_2 }⟩, ⟨4, 53, Value, fun (i : Value) => { val := i, fz := [(fDat (tyList tyS_api_Snap) [i] [(S_api_Snap.mk r34.1.Name r34.1.Time r34.1.Root)])] }⟩] [] rfl rfl rfl (by kernel_rfl) rfl rfl rfl ⟨⟨_, rfl, [], rfl, by
    intro X_ Y_ F_ K_ hK_
    refine al_show (m := Mem.plus (memOf w0 Z0 [] [(oBox g12 107 [(str r34.2.s), (Value.bool r34.2.bad)]), (oBox g1 62 [(Value.int .i64 (0 : Int)), (Value.slice none 0 0), (Value.slice none 0 0)]), (oRow j16v7_1 3 (tyInt .i64) j16x7_1), (oRow l29v7_2 104 tyS_api_Snap l29x7_2), (oBox g15 62 [(Value.int .i64 r14.1), j16v7_1, l29v7_2])] [uMax, uTabs]) X_ Y_) (S := over (tab [(0, (str a0)), (2, (ptr g1 0)), (6, (ptr g12 0)), (7, (ptr g15 0)), (46, (Value.int .i64 r28.1)), (47, (Value.int .i64 l29i47)), (52, (ag ([(str r34.1.Name), (Value.int .i64 r34.1.Time)] ++ (cA8u8 r34.1.Root))))]) F_) ?_
    refine al_val (ov_fieldA (p := 2) rfl Tryd.underlying62 rfl sz60 rfl rfl rfl) ?_
    refine al_nil ?_
    exact fr_fin hK_ ()⟩, ⟨_, rfl, [0], rfl, by
    intro _
    intro X_ Y_ F_ K_ hK_
    refine al_show (m := Mem.plus (memOf w0 Z0 [] [(oBox g12 107 [(str r34.2.s), (Value.bool r34.2.bad)]), (oBox g1 62 [(Value.int .i64 (0 : Int)), (Value.slice none 0 0), (Value.slice none 0 0)]), (oRow j16v7_1 3 (tyInt .i64) j16x7_1), (oRow l29v7_2 104 tyS_api_Snap l29x7_2), (oBox g15 62 [(Value.int .i64 r14.1), j16v7_1, l29v7_2])] [uMax, uTabs]) X_ Y_) (S := over (put (tab [(0, (str a0)), (2, (ptr g1 0)), (6, (ptr g12 0)), (7, (ptr g15 0)), (46, (Value.int .i64 r28.1)), (47, (Value.int .i64 l29i47)), (52, (ag ([(str r34.1.Name), (Value.int .i64 r34.1.Time)] ++ (cA8u8 r34.1.Root))))]) 49 (ptr g15 2)) F_) ?_
    refine al_val (ov_load (i := 4) (v := l29v7_2) rfl rfl Tryd.underlying60 sz60 rfl rfl rfl rfl) ?_
    refine al_nil ?_
    exact fr_fin hK_ ()⟩, ⟨_, rfl, [], rfl, by
    intro X_ Y_ F_ K_ hK_
    refine al_show (m := Mem.plus (memOf w0 Z0 [] [(oBox g12 107 [(str r34.2.s), (Value.bool r34.2.bad)]), (oBox g1 62 [(Value.int .i64 (0 : Int)), (Value.slice none 0 0), (Value.slice none 0 0)]), (oRow j16v7_1 3 (tyInt .i64) j16x7_1), (oRow l29v7_2 104 tyS_api_Snap l29x7_2), (oBox g15 62 [(Value.int .i64 r14.1), j16v7_1, l29v7_2])] [uMax, uTabs]) X_ Y_) (S := over (tab [(0, (str a0)), (2, (ptr g1 0)), (6, (ptr g12 0)), (7, (ptr g15 0)), (46, (Value.int .i64 r28.1)), (47, (Value.int .i64 l29i47)), (52, (ag ([(str r34.1.Name), (Value.int .i64 r34.1.Time)] ++ (cA8u8 r34.1.Root))))]) F_) ?_
    refine al_buildSlice (τ := tyS_api_Snap) (e := 104) (k := 1) (sz := 0) (by_ := 0) (z := undef) (cs := ([(str r34.1.Name), (Value.int .i64 r34.1.Time)] ++ (cA8u8 r34.1.Root))) (xs := [(S_api_Snap.mk r34.1.Name r34.1.Time r34.1.Root)]) rfl (by decide) (fun w a hm hs => ⟨(([(str r34.1.Name), (Value.int .i64 r34.1.Time)] ++ (cA8u8 r34.1.Root))).toArray, rfl, by simp only [List.map_toArray, List.map_cons, List.map_nil, hs.ev (x := .tmp 52) rfl]; exact run_bs [(ag ([(str r34.1.Name), (Value.int .i64 r34.1.Time)] ++ (cA8u8 r34.1.Root)))] ([(str r34.1.Name), (Value.int .i64 r34.1.Time)] ++ (cA8u8 r34.1.Root)) Tryd.underlying60 to104 rfl rfl (bs_cons (l := ([(str r34.1.Name), (Value.int .i64 r34.1.Time)] ++ (cA8u8 r34.1.Root))) (cs := []) (cv_rfl rfl) rfl bs_nil) hm⟩) (fun hm => ⟨([(str r34.1.Name), (Value.int .i64 r34.1.Time)] ++ (cA8u8 r34.1.Root)), [], rfl, mkS_api_Snap rfl, rfl⟩) rfl (fun v35 => ?_)
    refine al_freeze 0 rfl rfl ?_
    refine al_nil ?_
    exact fr_fin hK_ v35⟩, trivial⟩ ?_
            intro _
            intro _
            intro v35
            intro X_ Y_ F_ K_ hK_
            refine al_show (m := Mem.plus (memOf w0 Z0 [] [(oBox g12 107 [(str r34.2.s), (Value.bool r34.2.bad)]), (oBox g1 62 [(Value.int .i64 (0 : Int)), (Value.slice none 0 0), (Value.slice none 0 0)]), (oRow j16v7_1 3 (tyInt .i64) j16x7_1), (oRow l29v7_2 104 tyS_api_Snap l29x7_2), (oBox g15 62 [(Value.int .i64 r14.1), j16v7_1, l29v7_2])] [(fDat (tyList tyS_api_Snap) [v35] [(S_api_Snap.mk r34.1.Name r34.1.Time r34.1.Root)]), uMax, uTabs]) X_ Y_) (S := over (put (put (put (tab [(0, (str a0)), (2, (ptr g1 0)), (6, (ptr g12 0)), (7, (ptr g15 0)), (46, (Value.int .i64 r28.1)), (47, (Value.int .i64 l29i47)), (52, (ag ([(str r34.1.Name), (Value.int .i64 r34.1.Time)] ++ (cA8u8 r34.1.Root))))]) 49 (ptr g15 2)) 50 l29v7_2) 53 v35) F_) ?_
            obtain ⟨hc36, h⟩ := req_some h
            refine al_append 3 hc36.1 hc36.2 rfl (src_dat (i := 3) 0 rfl) rfl rfl Tryd.underlying60 to104 rfl rfl rfl (fun v37 => ?_)
            refine al_nil ?_
            refine aq_show (m := Mem.plus (memOf w0 Z0 [] [(oBox g12 107 [(str r34.2.s), (Value.bool r34.2.bad)]), (oBox g1 62 [(Value.int .i64 (0 : Int)), (Value.slice none 0 0), (Value.slice none 0 0)]), (oRow j16v7_1 3 (tyInt .i64) j16x7_1), (oRow v37 104 tyS_api_Snap (l29x7_2 ++ ([(S_api_Snap.mk r34.1.Name r34.1.Time r34.1.Root)]))), (oBox g15 62 [(Value.int .i64 r14.1), j16v7_1, l29v7_2])] [(fDat (tyList tyS_api_Snap) [v35] [(S_api_Snap.mk r34.1.Name r34.1.Time r34.1.Root)]), uMax, uTabs]) X_ Y_) ?_
            refine aq_next hK_ [0, 1, 2, 3, 4] [1, 2] [(0, (str a0)), (2, (ptr g1 0)), (6, (ptr g12 0)), (7, (ptr g15 0)), (46, (Value.int .i64 r28.1)), (47, (Value.int .i64 l29i47)), (54, v37)] [] [⟨6, 55, Unit, fun _ => { val := (ptr g15 2) }⟩] rfl rfl (by decide) rfl ⟨rfl, rfl, rfl, rfl, rfl, rfl, rfl, trivial⟩ trivial ?_
            clear hK_ K_ F_ X_ Y_
            refine ta_show (m := (memOf w0 Z0 [] [(oBox g12 107 [(str r34.2.s), (Value.bool r34.2.bad)]), (oBox g1 62 [(Value.int .i64 (0 : Int)), (Value.slice none 0 0), (Value.slice none 0 0)]), (oRow j16v7_1 3 (tyInt .i64) j16x7_1), (oRow v37 104 tyS_api_Snap (l29x7_2 ++ ([(S_api_Snap.mk r34.1.Name r34.1.Time r34.1.Root)]))), (oBox g15 62 [(Value.int .i64 r14.1), j16v7_1, l29v7_2])] [uMax, uTabs])) (S := (tab [(0, (str a0)), (2, (ptr g1 0)), (6, (ptr g12 0)), (7, (ptr g15 0)), (46, (Value.int .i64 r28.1)), (47, (Value.int .i64 l29i47)), (54, v37)])) ?_
            refine ta_step 7 _ [6] [55] [6] [] [⟨6, 55, Unit, fun _ => { val := (ptr g15 2) }⟩] [] rfl rfl rfl (by kernel_rfl) rfl rfl rfl ⟨⟨_, rfl, [], rfl, by
    intro X_ Y_ F_ K_ hK_
    refine al_show (m := Mem.plus (memOf w0 Z0 [] [(oBox g12 107 [(str r34.2.s), (Value.bool r34.2.bad)]), (oBox g1 62 [(Value.int .i64 (0 : Int)), (Value.slice none 0 0), (Value.slice none 0 0)]), (oRow j16v7_1 3 (tyInt .i64) j16x7_1), (oRow v37 104 tyS_api_Snap (l29x7_2 ++ ([(S_api_Snap.mk r34.1.Name r34.1.Time r34.1.Root)]))), (oBox g15 62 [(Value.int .i64 r14.1), j16v7_1, l29v7_2])] [uMax, uTabs]) X_ Y_) (S := over (tab [(0, (str a0)), (2, (ptr g1 0)), (6, (ptr g12 0)), (7, (ptr g15 0)), (46, (Value.int .i64 r28.1)), (47, (Value.int .i64 l29i47)), (54, v37)]) F_) ?_
    refine al_val (ov_fieldA (p := 2) rfl Tryd.underlying62 rfl sz60 rfl rfl rfl) ?_
    refine al_nil ?_
    exact fr_fin hK_ ()⟩, trivial⟩ ?_
            intro _
            intro X_ Y_ F_ K_ hK_
            refine al_show (m := Mem.plus (memOf w0 Z0 [] [(oBox g12 107 [(str r34.2.s), (Value.bool r34.2.bad)]), (oBox g1 62 [(Value.int .i64 (0 : Int)), (Value.slice none 0 0), (Value.slice none 0 0)]), (oRow j16v7_1 3 (tyInt .i64) j16x7_1), (oRow v37 104 tyS_api_Snap (l29x7_2 ++ ([(S_api_Snap.mk r34.1.Name r34.1.Time r34.1.Root)]))), (oBox g15 62 [(Value.int .i64 r14.1), j16v7_1, l29v7_2])] [uMax, uTabs]) X_ Y_) (S := over (put (tab [(0, (str a0)), (2, (ptr g1 0)), (6, (ptr g12 0)), (7, (ptr g15 0)), (46, (Value.int .i64 r28.1)), (47, (Value.int .i64 l29i47)), (54, v37)]) 55 (ptr g15 2)) F_) ?_
            refine al_store (i := 4) (vs := [v37]) (cs' := [(Value.int .i64 r14.1), j16v7_1, v37]) rfl rfl rfl sz60 (cv_own 3 rfl) rfl (co_own 3 rfl co_nil) (Nat.le_of_ble_eq_true rfl) rfl rfl ?_
            refine al_nil ?_
            refine aq_show (m := Mem.plus (memOf w0 Z0 [] [(oBox g12 107 [(str r34.2.s), (Value.bool r34.2.bad)]), (oBox g1 62 [(Value.int .i64 (0 : Int)), (Value.slice none 0 0), (Value.slice none 0 0)]), (oRow j16v7_1 3 (tyInt .i64) j16x7_1), (oRow v37 104 tyS_api_Snap (l29x7_2 ++ ([(S_api_Snap.mk r34.1.Name r34.1.Time r34.1.Root)]))), (oBox g15 62 [(Value.int .i64 r14.1), j16v7_1, v37])] [uMax, uTabs]) X_ Y_) ?_
            refine aq_next hK_ [0, 1, 2, 3, 4] [0, 1] [(0, (str a0)), (2, (ptr g1 0)), (6, (ptr g12 0)), (7, (ptr g15 0)), (46, (Value.int .i64 r28.1)), (47, (Value.int .i64 l29i47))] [] [] rfl rfl (by decide) rfl ⟨rfl, rfl, rfl, rfl, rfl, rfl, trivial⟩ trivial ?_
            clear hK_ K_ F_ X_ Y_
            refine ta_show (m := (memOf w0 Z0 [] [(oBox g12 107 [(str r34.2.s), (Value.bool r34.2.bad)]), (oBox g1 62 [(Value.int .i64 (0 : Int)), (Value.slice none 0 0), (Value.slice none 0 0)]), (oRow j16v7_1 3 (tyInt .i64) j16x7_1), (oRow v37 104 tyS_api_Snap (l29x7_2 ++ ([(S_api_Snap.mk r34.1.Name r34.1.Time r34.1.Root)]))), (oBox g15 62 [(Value.int .i64 r14.1), j16v7_1, v37])] [uMax, uTabs])) (S := (tab [(0, (str a0)), (2, (ptr g1 0)), (6, (ptr g12 0)), (7, (ptr g15 0)), (46, (Value.int .i64 r28.1)), (47, (Value.int .i64 l29i47))])) ?_
            refine ta_end [] [] rfl rfl (by kernel_rfl) rfl trivial ?_
            refine aq_show (m := (memOf w0 Z0 [] [(oBox g12 107 [(str r34.2.s), (Value.bool r34.2.bad)]), (oBox g1 62 [(Value.int .i64 (0 : Int)), (Value.slice none 0 0), (Value.slice none 0 0)]), (oRow j16v7_1 3 (tyInt .i64) j16x7_1), (oRow v37 104 tyS_api_Snap (l29x7_2 ++ ([(S_api_Snap.mk r34.1.Name r34.1.Time r34.1.Root)]))), (oBox g15 62 [(Value.int .i64 r14.1), j16v7_1, v37])] [uMax, uTabs])) (S := (tab [(0, (str a0)), (2, (ptr g1 0)), (6, (ptr g12 0)), (7, (ptr g15 0)), (46, (Value.int .i64 r28.1)), (47, (Value.int .i64 l29i47))])) ?_
            refine aq_block ?_
            refine aq_then ?_
            refine aw_region ?_
            refine al_val (ov_int rfl rfl rfl rfl) ?_
            refine al_val (ov_move rfl rfl) ?_
            refine al_nil ?_
            exact aq_again k30 (r34.2.s, r34.2.bad, v37, (l29x7_2 ++ ([(S_api_Snap.mk r34.1.Name r34.1.Time r34.1.Root)])), (IntKind.i64.wrap (l29i47 + (1 : Int)))) (Nat.lt_succ_self _) h (fun w a hm hs => norm hm hs [1, 0, 2, 3, 4] [0, 1] [(0, (str a0)), (2, (ptr g1 0)), (6, (ptr g12 0)), (7, (ptr g15 0)), (46, (Value.int .i64 r28.1)), (47, (Value.int .i64 (IntKind.i64.wrap (l29i47 + (1 : Int)))))] (by decide) ⟨rfl, rfl, rfl, rfl, rfl, rfl, trivial⟩)
          · replace h := bif_f hb32 h
            refine aw_exit ?_
            refine aq_then_exit ?_
            refine aq_then_exit ?_
            refine aq_block_exit ?_
            exact aq_join (l29s6_0, l29b6_1, l29v7_2, l29x7_2) h (fun w a hm hs => norm hm hs [0, 1, 2, 3, 4] [0, 1] [(0, (str a0)), (2, (ptr g1 0)), (6, (ptr g12 0)), (7, (ptr g15 0))] (by decide) ⟨rfl, rfl, rfl, rfl, trivial⟩)
      · clear hkk17
        refine aw_seq ?_
        refine aw_region ?_
        refine al_val (ov_move rfl rfl) ?_
        obtain ⟨r39, hc38, h⟩ := opt_some h
        refine al_call (vs := [(ptr g12 0), (Value.int .u64 (100 : Int))]) (f___room_reader__number_ok fu g12 (S_room_reader.mk r14.2.s r14.2.bad) (100 : Int) hc38) [] [1] [0, 2, 3] pre_nil rfl (by simp) (by decide) (.inl rfl) rfl Tryd.func78 rfl rfl rfl (fun _ => ?_)
        refine al_val (ov_move rfl rfl) ?_
        refine al_nil ?_
        refine aq_then ?_
        refine aw_block ?_
        refine aw_nilR 3 (tyInt .i64) ?_
        refine aw_state (aw_loop (ι := (List UInt8) × Bool × Value × (List Int) × Int) (fun i => (memOf w0 Z0 [] [(oBox g1 62 [(Value.int .i64 (0 : Int)), (Value.slice none 0 0), (Value.slice none 0 0)]), (oBox g12 107 [(str i.1), (Value.bool i.2.1)]), (oRow i.2.2.1 3 (tyInt .i64) i.2.2.2.1), (oBox g15 62 [(Value.int .i64 r14.1), i.2.2.1, (Value.slice none 0 0)])] [uMax, uTabs])) (fun i => (tab [(0, (str a0)), (2, (ptr g1 0)), (6, (ptr g12 0)), (7, (ptr g15 0)), (34, (Value.int .i64 r39.1)), (35, (Value.int .i64 i.2.2.2.2))])) (fun q i => f_room_Read_L42 kk17 r39 fu q i.1 i.2.1 i.2.2.2.1 i.2.2.2.2 = some r) ?_ fu (r39.2.s, r39.2.bad, (Value.slice none 0 0), ([] : List Int), (0 : Int)) h) (fun w a hm hs => norm hm hs [3, 1, 0, 2] [0, 1] [(0, (str a0)), (2, (ptr g1 0)), (6, (ptr g12 0)), (7, (ptr g15 0)), (34, (Value.int .i64 r39.1)), (35, (Value.int .i64 (0 : Int)))] (by decide) ⟨rfl, rfl, rfl, rfl, rfl, rfl, trivial⟩)
        clear h
        rintro k41 ⟨l40s6_0, l40b6_1, l40v7_1, l40x7_1, l40i35⟩ h
        have h : f_room_Read_L42 kk17 r39 fu k41 l40s6_0 l40b6_1 l40x7_1 l40i35 = some r := h
        obtain _ | k41 := k41
        · rw [f_room_Read_L42] at h; cases h
        rw [f_room_Read_L42] at h
        refine aw_show (m := (memOf w0 Z0 [] [(oBox g1 62 [(Value.int .i64 (0 : Int)), (Value.slice none 0 0), (Value.slice none 0 0)]), (oBox g12 107 [(str l40s6_0), (Value.bool l40b6_1)]), (oRow l40v7_1 3 (tyInt .i64) l40x7_1), (oBox g15 62 [(Value.int .i64 r14.1), l40v7_1, (Value.slice none 0 0)])] [uMax, uTabs])) (S := (tab [(0, (str a0)), (2, (ptr g1 0)), (6, (ptr g12 0)), (7, (ptr g15 0)), (34, (Value.int .i64 r39.1)), (35, (Value.int .i64 l40i35))])) ?_
        refine aw_seq ?_
        refine aw_region ?_
        refine al_val (ov_int rfl rfl rfl rfl) ?_
        refine al_nil ?_
        refine aq_then ?_
        refine aw_seq ?_
        refine aw_cond rfl (fun hb43 => ?_) (fun hb43 => ?_)
        · replace h := bif_t hb43 h
          refine aw_skip ?_
          refine aq_then ?_
          refine aw_seq ?_
          refine aw_block ?_
          refine aw_region_open [⟨0, 37, Unit, fun _ => { val := (ptr g15 1) }⟩, ⟨1, 38, Unit, fun _ => { val := l40v7_1 }⟩, ⟨2, 39, Unit, fun _ => { val := (ptr g12 0) }⟩] (tab [(0, (str a0)), (2, (ptr g1 0)), (6, (ptr g12 0)), (7, (ptr g15 0)), (34, (Value.int .i64 r39.1)), (35, (Value.int .i64 l40i35))]) mixed (fun a hs => hs.tab _ (allT_mem ⟨rfl, rfl, rfl, rfl, rfl, rfl, trivial⟩)) ?_
          refine ta_show (m := (memOf w0 Z0 [] [(oBox g1 62 [(Value.int .i64 (0 : Int)), (Value.slice none 0 0), (Value.slice none 0 0)]), (oBox g12 107 [(str l40s6_0), (Value.bool l40b6_1)]), (oRow l40v7_1 3 (tyInt .i64) l40x7_1), (oBox g15 62 [(Value.int .i64 r14.1), l40v7_1, (Value.slice none 0 0)])] [uMax, uTabs])) (S := (tab [(0, (str a0)), (2, (ptr g1 0)), (6, (ptr g12 0)), (7, (ptr g15 0)), (34, (Value.int .i64 r39.1)), (35, (Value.int .i64 l40i35))])) ?_
          refine ta_step 3 _ [0, 1, 2] [37, 38, 39] [2] [4] [⟨2, 39, Unit, fun _ => { val := (ptr g12 0) }⟩] [⟨0, 37, Unit, fun _ => { val := (ptr g15 1) }⟩, ⟨1, 38, Unit, fun _ => { val := l40v7_1 }⟩] rfl rfl rfl (by kernel_rfl) rfl rfl rfl ⟨⟨_, rfl, [], rfl, by
    intro X_ Y_ F_ K_ hK_
    refine al_show (m := Mem.plus (memOf w0 Z0 [] [(oBox g1 62 [(Value.int .i64 (0 : Int)), (Value.slice none 0 0), (Value.slice none 0 0)]), (oBox g12 107 [(str l40s6_0), (Value.bool l40b6_1)]), (oRow l40v7_1 3 (tyInt .i64) l40x7_1), (oBox g15 62 [(Value.int .i64 r14.1), l40v7_1, (Value.slice none 0 0)])] [uMax, uTabs]) X_ Y_) (S := over (tab [(0, (str a0)), (2, (ptr g1 0)), (6, (ptr g12 0)), (7, (ptr g15 0)), (34, (Value.int .i64 r39.1)), (35, (Value.int .i64 l40i35))]) F_) ?_
    refine al_val (ov_fieldA (p := 1) rfl Tryd.underlying62 rfl sz59 rfl rfl rfl) ?_
    refine al_nil ?_
    exact fr_fin hK_ ()⟩, ⟨_, rfl, [0], rfl, by
    intro _
    intro X_ Y_ F_ K_ hK_
    refine al_show (m := Mem.plus (memOf w0 Z0 [] [(oBox g1 62 [(Value.int .i64 (0 : Int)), (Value.slice none 0 0), (Value.slice none 0 0)]), (oBox g12 107 [(str l40s6_0), (Value.bool l40b6_1)]), (oRow l40v7_1 3 (tyInt .i64) l40x7_1), (oBox g15 62 [(Value.int .i64 r14.1), l40v7_1, (Value.slice none 0 0)])] [uMax, uTabs]) X_ Y_) (S := over (put (tab [(0, (str a0)), (2, (ptr g1 0)), (6, (ptr g12 0)), (7, (ptr g15 0)), (34, (Value.int .i64 r39.1)), (35, (Value.int .i64 l40i35))]) 37 (ptr g15 1)) F_) ?_
    refine al_val (ov_load (i := 3) (v := l40v7_1) rfl rfl Tryd.underlying59 sz59 rfl rfl rfl rfl) ?_
    refine al_nil ?_
    exact fr_fin hK_ ()⟩, ⟨_, rfl, [], rfl, by
    intro X_ Y_ F_ K_ hK_
    refine al_show (m := Mem.plus (memOf w0 Z0 [] [(oBox g1 62 [(Value.int .i64 (0 : Int)), (Value.slice none 0 0), (Value.slice none 0 0)]), (oBox g12 107 [(str l40s6_0), (Value.bool l40b6_1)]), (oRow l40v7_1 3 (tyInt .i64) l40x7_1), (oBox g15 62 [(Value.int .i64 r14.1), l40v7_1, (Value.slice none 0 0)])] [uMax, uTabs]) X_ Y_) (S := over (tab [(0, (str a0)), (2, (ptr g1 0)), (6, (ptr g12 0)), (7, (ptr g15 0)), (34, (Value.int .i64 r39.1)), (35, (Value.int .i64 l40i35))]) F_) ?_
    refine al_val (ov_move rfl rfl) ?_
    refine al_nil ?_
    exact fr_fin hK_ ()⟩, trivial⟩ ?_
          intro _
          intro X_ Y_ F_ K_ hK_
          refine al_show (m := Mem.plus (memOf w0 Z0 [] [(oBox g1 62 [(Value.int .i64 (0 : Int)), (Value.slice none 0 0), (Value.slice none 0 0)]), (oBox g12 107 [(str l40s6_0), (Value.bool l40b6_1)]), (oRow l40v7_1 3 (tyInt .i64) l40x7_1), (oBox g15 62 [(Value.int .i64 r14.1), l40v7_1, (Value.slice none 0 0)])] [uMax, uTabs]) X_ Y_) (S := over (put (tab [(0, (str a0)), (2, (ptr g1 0)), (6, (ptr g12 0)), (7, (ptr g15 0)), (34, (Value.int .i64 r39.1)), (35, (Value.int .i64 l40i35))]) 39 (ptr g12 0)) F_) ?_
          obtain ⟨r45, hc44, h⟩ := opt_some h
          refine al_callX (vs := [(ptr g12 0), (Value.int .u64 (65536 : Int))]) (f___room_reader__number_ok fu g12 (S_room_reader.mk l40s6_0 l40b6_1) (65536 : Int) hc44) [] [1] [0, 2, 3] pre_nil rfl (by simp) (by decide) rfl (.inl rfl) rfl Tryd.func78 rfl rfl rfl (fun _ => ?_)
          refine al_nil ?_
          refine aq_show (m := Mem.plus (memOf w0 Z0 [] [(oBox g12 107 [(str r45.2.s), (Value.bool r45.2.bad)]), (oBox g1 62 [(Value.int .i64 (0 : Int)), (Value.slice none 0 0), (Value.slice none 0 0)]), (oRow l40v7_1 3 (tyInt .i64) l40x7_1), (oBox g15 62 [(Value.int .i64 r14.1), l40v7_1, (Value.slice none 0 0)])] [uMax, uTabs]) X_ Y_) ?_
          refine aq_next hK_ [0, 1, 2, 3] [0, 1] [(0, (str a0)), (2, (ptr g1 0)), (6, (ptr g12 0)), (7, (ptr g15 0)), (34, (Value.int .i64 r39.1)), (35, (Value.int .i64 l40i35)), (40, (Value.int .i64 r45.1))] [37, 38] [⟨4, 41, Value, fun (i : Value) => { val := i, fz := [(fDat (tyList (tyInt .i64)) [i] [r45.1])] }⟩] rfl rfl (by decide) rfl ⟨rfl, rfl, rfl, rfl, rfl, rfl, rfl, trivial⟩ ⟨rfl, rfl, trivial⟩ ?_
          clear hK_ K_ F_ X_ Y_
          refine ta_show (m := (memOf w0 Z0 [] [(oBox g12 107 [(str r45.2.s), (Value.bool r45.2.bad)]), (oBox g1 62 [(Value.int .i64 (0 : Int)), (Value.slice none 0 0), (Value.slice none 0 0)]), (oRow l40v7_1 3 (tyInt .i64) l40x7_1), (oBox g15 62 [(Value.int .i64 r14.1), l40v7_1, (Value.slice none 0 0)])] [uMax, uTabs])) (S := (tab [(0, (str a0)), (2, (ptr g1 0)), (6, (ptr g12 0)), (7, (ptr g15 0)), (34, (Value.int .i64 r39.1)), (35, (Value.int .i64 l40i35)), (40, (Value.int .i64 r45.1))])) ?_
          refine ta_step 5 _ [0, 1, 4] [37, 38, 41] [0, 1, 4] [6] [⟨0, 37, Unit, fun _ => { val := (ptr g15 1) }⟩, ⟨1, 38, Unit, fun _ => { val := l40v7_1 }⟩, ⟨4, 41, Value, fun (i : Value) => { val := i, fz := [(fDat (tyList (tyInt .i64)) [i] [r45.1])] }⟩] [] rfl rfl rfl (by kernel_rfl) rfl rfl rfl ⟨⟨_, rfl, [], rfl, by
    intro X_ Y_ F_ K_ hK_
    refine al_show (m := Mem.plus (memOf w0 Z0 [] [(oBox g12 107 [(str r45.2.s), (Value.bool r45.2.bad)]), (oBox g1 62 [(Value.int .i64 (0 : Int)), (Value.slice none 0 0), (Value.slice none 0 0)]), (oRow l40v7_1 3 (tyInt .i64) l40x7_1), (oBox g15 62 [(Value.int .i64 r14.1), l40v7_1, (Value.slice none 0 0)])] [uMax, uTabs]) X_ Y_) (S := over (tab [(0, (str a0)), (2, (ptr g1 0)), (6, (ptr g12 0)), (7, (ptr g15 0)), (34, (Value.int .i64 r39.1)), (35, (Value.int .i64 l40i35)), (40, (Value.int .i64 r45.1))]) F_) ?_
    refine al_val (ov_fieldA (p := 1) rfl Tryd.underlying62 rfl sz59 rfl rfl rfl) ?_
    refine al_nil ?_
    exact fr_fin hK_ ()⟩, ⟨_, rfl, [0], rfl, by
    intro _
    intro X_ Y_ F_ K_ hK_
    refine al_show (m := Mem.plus (memOf w0 Z0 [] [(oBox g12 107 [(str r45.2.s), (Value.bool r45.2.bad)]), (oBox g1 62 [(Value.int .i64 (0 : Int)), (Value.slice none 0 0), (Value.slice none 0 0)]), (oRow l40v7_1 3 (tyInt .i64) l40x7_1), (oBox g15 62 [(Value.int .i64 r14.1), l40v7_1, (Value.slice none 0 0)])] [uMax, uTabs]) X_ Y_) (S := over (put (tab [(0, (str a0)), (2, (ptr g1 0)), (6, (ptr g12 0)), (7, (ptr g15 0)), (34, (Value.int .i64 r39.1)), (35, (Value.int .i64 l40i35)), (40, (Value.int .i64 r45.1))]) 37 (ptr g15 1)) F_) ?_
    refine al_val (ov_load (i := 3) (v := l40v7_1) rfl rfl Tryd.underlying59 sz59 rfl rfl rfl rfl) ?_
    refine al_nil ?_
    exact fr_fin hK_ ()⟩, ⟨_, rfl, [], rfl, by
    intro X_ Y_ F_ K_ hK_
    refine al_show (m := Mem.plus (memOf w0 Z0 [] [(oBox g12 107 [(str r45.2.s), (Value.bool r45.2.bad)]), (oBox g1 62 [(Value.int .i64 (0 : Int)), (Value.slice none 0 0), (Value.slice none 0 0)]), (oRow l40v7_1 3 (tyInt .i64) l40x7_1), (oBox g15 62 [(Value.int .i64 r14.1), l40v7_1, (Value.slice none 0 0)])] [uMax, uTabs]) X_ Y_) (S := over (tab [(0, (str a0)), (2, (ptr g1 0)), (6, (ptr g12 0)), (7, (ptr g15 0)), (34, (Value.int .i64 r39.1)), (35, (Value.int .i64 l40i35)), (40, (Value.int .i64 r45.1))]) F_) ?_
    refine al_buildSlice (τ := (tyInt .i64)) (e := 3) (k := 1) (sz := 0) (by_ := 0) (z := undef) (cs := [(Value.int .i64 r45.1)]) (xs := [r45.1]) rfl (by decide) (fun w a hm hs => ⟨([(Value.int .i64 r45.1)]).toArray, rfl, by simp only [List.map_toArray, List.map_cons, List.map_nil, hs.ev (x := .tmp 40) rfl]; exact run_bs [(Value.int .i64 r45.1)] [(Value.int .i64 r45.1)] Tryd.underlying59 to3 rfl rfl (bs_cons (l := [(Value.int .i64 r45.1)]) (cs := []) (cv_rfl rfl) rfl bs_nil) hm⟩) (fun hm => ⟨_, _, rfl, (fun _ => rfl) hm, rfl⟩) rfl (fun v46 => ?_)
    refine al_freeze 0 rfl rfl ?_
    refine al_nil ?_
    exact fr_fin hK_ v46⟩, trivial⟩ ?_
          intro _
          intro _
          intro v46
          intro X_ Y_ F_ K_ hK_
          refine al_show (m := Mem.plus (memOf w0 Z0 [] [(oBox g12 107 [(str r45.2.s), (Value.bool r45.2.bad)]), (oBox g1 62 [(Value.int .i64 (0 : Int)), (Value.slice none 0 0), (Value.slice none 0 0)]), (oRow l40v7_1 3 (tyInt .i64) l40x7_1), (oBox g15 62 [(Value.int .i64 r14.1), l40v7_1, (Value.slice none 0 0)])] [(fDat (tyList (tyInt .i64)) [v46] [r45.1]), uMax, uTabs]) X_ Y_) (S := over (put (put (put (tab [(0, (str a0)), (2, (ptr g1 0)), (6, (ptr g12 0)), (7, (ptr g15 0)), (34, (Value.int .i64 r39.1)), (35, (Value.int .i64 l40i35)), (40, (Value.int .i64 r45.1))]) 37 (ptr g15 1)) 38 l40v7_1) 41 v46) F_) ?_
          obtain ⟨hc47, h⟩ := req_some h
          refine al_append 2 hc47.1 hc47.2 rfl (src_dat (i := 2) 0 rfl) rfl rfl Tryd.underlying59 to3 rfl rfl rfl (fun v48 => ?_)
          refine al_nil ?_
          refine aq_show (m := Mem.plus (memOf w0 Z0 [] [(oBox g12 107 [(str r45.2.s), (Value.bool r45.2.bad)]), (oBox g1 62 [(Value.int .i64 (0 : Int)), (Value.slice none 0 0), (Value.slice none 0 0)]), (oRow v48 3 (tyInt .i64) (l40x7_1 ++ ([r45.1]))), (oBox g15 62 [(Value.int .i64 r14.1), l40v7_1, (Value.slice none 0 0)])] [(fDat (tyList (tyInt .i64)) [v46] [r45.1]), uMax, uTabs]) X_ Y_) ?_
          refine aq_next hK_ [0, 1, 2, 3] [1, 2] [(0, (str a0)), (2, (ptr g1 0)), (6, (ptr g12 0)), (7, (ptr g15 0)), (34, (Value.int .i64 r39.1)), (35, (Value.int .i64 l40i35)), (42, v48)] [] [⟨6, 43, Unit, fun _ => { val := (ptr g15 1) }⟩] rfl rfl (by decide) rfl ⟨rfl, rfl, rfl, rfl, rfl, rfl, rfl, trivial⟩ trivial ?_
          clear hK_ K_ F_ X_ Y_
          refine ta_show (m := (memOf w0 Z0 [] [(oBox g12 107 [(str r45.2.s), (Value.bool r45.2.bad)]), (oBox g1 62 [(Value.int .i64 (0 : Int)), (Value.slice none 0 0), (Value.slice none 0 0)]), (oRow v48 3 (tyInt .i64) (l40x7_1 ++ ([r45.1]))), (oBox g15 62 [(Value.int .i64 r14.1), l40v7_1, (Value.slice none 0 0)])] [uMax, uTabs])) (S := (tab [(0, (str a0)), (2, (ptr g1 0)), (6, (ptr g12 0)), (7, (ptr g15 0)), (34, (Value.int .i64 r39.1)), (35, (Value.int .i64 l40i35)), (42, v48)])) ?_
          refine ta_step 7 _ [6] [43] [6] [] [⟨6, 43, Unit, fun _ => { val := (ptr g15 1) }⟩] [] rfl rfl rfl (by kernel_rfl) rfl rfl rfl ⟨⟨_, rfl, [], rfl, by
    intro X_ Y_ F_ K_ hK_
    refine al_show (m := Mem.plus (memOf w0 Z0 [] [(oBox g12 107 [(str r45.2.s), (Value.bool r45.2.bad)]), (oBox g1 62 [(Value.int .i64 (0 : Int)), (Value.slice none 0 0), (Value.slice none 0 0)]), (oRow v48 3 (tyInt .i64) (l40x7_1 ++ ([r45.1]))), (oBox g15 62 [(Value.int .i64 r14.1), l40v7_1, (Value.slice none 0 0)])] [uMax, uTabs]) X_ Y_) (S := over (tab [(0, (str a0)), (2, (ptr g1 0)), (6, (ptr g12 0)), (7, (ptr g15 0)), (34, (Value.int .i64 r39.1)), (35, (Value.int .i64 l40i35)), (42, v48)]) F_) ?_
    refine al_val (ov_fieldA (p := 1) rfl Tryd.underlying62 rfl sz59 rfl rfl rfl) ?_
    refine al_nil ?_
    exact fr_fin hK_ ()⟩, trivial⟩ ?_
          intro _
          intro X_ Y_ F_ K_ hK_
          refine al_show (m := Mem.plus (memOf w0 Z0 [] [(oBox g12 107 [(str r45.2.s), (Value.bool r45.2.bad)]), (oBox g1 62 [(Value.int .i64 (0 : Int)), (Value.slice none 0 0), (Value.slice none 0 0)]), (oRow v48 3 (tyInt .i64) (l40x7_1 ++ ([r45.1]))), (oBox g15 62 [(Value.int .i64 r14.1), l40v7_1, (Value.slice none 0 0)])] [uMax, uTabs]) X_ Y_) (S := over (put (tab [(0, (str a0)), (2, (ptr g1 0)), (6, (ptr g12 0)), (7, (ptr g15 0)), (34, (Value.int .i64 r39.1)), (35, (Value.int .i64 l40i35)), (42, v48)]) 43 (ptr g15 1)) F_) ?_
          refine al_store (i := 3) (vs := [v48]) (cs' := [(Value.int .i64 r14.1), v48, (Value.slice none 0 0)]) rfl rfl rfl sz59 (cv_own 2 rfl) rfl (co_own 2 rfl co_nil) (Nat.le_of_ble_eq_true rfl) rfl rfl ?_
          refine al_nil ?_
          refine aq_show (m := Mem.plus (memOf w0 Z0 [] [(oBox g12 107 [(str r45.2.s), (Value.bool r45.2.bad)]), (oBox g1 62 [(Value.int .i64 (0 : Int)), (Value.slice none 0 0), (Value.slice none 0 0)]), (oRow v48 3 (tyInt .i64) (l40x7_1 ++ ([r45.1]))), (oBox g15 62 [(Value.int .i64 r14.1), v48, (Value.slice none 0 0)])] [uMax, uTabs]) X_ Y_) ?_
          refine aq_next hK_ [0, 1, 2, 3] [0, 1] [(0, (str a0)), (2, (ptr g1 0)), (6, (ptr g12 0)), (7, (ptr g15 0)), (34, (Value.int .i64 r39.1)), (35, (Value.int .i64 l40i35))] [] [] rfl rfl (by decide) rfl ⟨rfl, rfl, rfl, rfl, rfl, rfl, trivial⟩ trivial ?_
          clear hK_ K_ F_ X_ Y_
          refine ta_show (m := (memOf w0 Z0 [] [(oBox g12 107 [(str r45.2.s), (Value.bool r45.2.bad)]), (oBox g1 62 [(Value.int .i64 (0 : Int)), (Value.slice none 0 0), (Value.slice none 0 0)]), (oRow v48 3 (tyInt .i64) (l40x7_1 ++ ([r45.1]))), (oBox g15 62 [(Value.int .i64 r14.1), v48, (Value.slice none 0 0)])] [uMax, uTabs])) (S := (tab [(0, (str a0)), (2, (ptr g1 0)), (6, (ptr g12 0)), (7, (ptr g15 0)), (34, (Value.int .i64 r39.1)), (35, (Value.int .i64 l40i35))])) ?_
          refine ta_end [] [] rfl rfl (by kernel_rfl) rfl trivial ?_
          refine aq_show (m := (memOf w0 Z0 [] [(oBox g12 107 [(str r45.2.s), (Value.bool r45.2.bad)]), (oBox g1 62 [(Value.int .i64 (0 : Int)), (Value.slice none 0 0), (Value.slice none 0 0)]), (oRow v48 3 (tyInt .i64) (l40x7_1 ++ ([r45.1]))), (oBox g15 62 [(Value.int .i64 r14.1), v48, (Value.slice none 0 0)])] [uMax, uTabs])) (S := (tab [(0, (str a0)), (2, (ptr g1 0)), (6, (ptr g12 0)), (7, (ptr g15 0)), (34, (Value.int .i64 r39.1)), (35, (Value.int .i64 l40i35))])) ?_
          refine aq_block ?_
          refine aq_then ?_
          refine aw_region ?_
          refine al_val (ov_int rfl rfl rfl rfl) ?_
          refine al_val (ov_move rfl rfl) ?_
          refine al_nil ?_
          exact aq_again k41 (r45.2.s, r45.2.bad, v48, (l40x7_1 ++ ([r45.1])), (IntKind.i64.wrap (l40i35 + (1 : Int)))) (Nat.lt_succ_self _) h (fun w a hm hs => norm hm hs [1, 0, 2, 3] [0, 1] [(0, (str a0)), (2, (ptr g1 0)), (6, (ptr g12 0)), (7, (ptr g15 0)), (34, (Value.int .i64 r39.1)), (35, (Value.int .i64 (IntKind.i64.wrap (l40i35 + (1 : Int)))))] (by decide) ⟨rfl, rfl, rfl, rfl, rfl, rfl, trivial⟩)
        · replace h := bif_f hb43 h
          refine aw_exit ?_
          refine aq_then_exit ?_
          refine aq_then_exit ?_
          refine aq_block_exit ?_
          exact aq_join (l40s6_0, l40b6_1, l40v7_1, l40x7_1) h (fun w a hm hs => norm hm hs [0, 1, 2, 3] [0, 1] [(0, (str a0)), (2, (ptr g1 0)), (6, (ptr g12 0)), (7, (ptr g15 0))] (by decide) ⟨rfl, rfl, rfl, rfl, trivial⟩)
  · clear hkk6
    refine aw_region ?_
    refine al_val (ov_move rfl rfl) ?_
    refine al_val (ov_lenR 0 rfl rfl Tryd.underlying22 rfl) ?_
    refine al_val (ov_int rfl rfl rfl rfl) ?_
    refine al_val (ov_move rfl rfl) ?_
    refine al_caseB 18 rfl (fun hb49 => ?_) (fun hb49 => ?_)
    · replace h := bif_t hb49 h
      refine al_skip ?_
      refine al_skip ?_
      refine al_skip ?_
      refine al_skip ?_
      refine al_val (ov_pick_t rfl rfl rfl) ?_
      refine al_nil ?_
      exact aq_join true h (fun w a hm hs => norm hm hs [1, 0] [0, 1] [(0, (str a0)), (2, (ptr g1 0)), (4, v4), (23, (Value.bool true))] (by decide) ⟨rfl, rfl, rfl, rfl, trivial⟩)
    · replace h := bif_f hb49 h
      refine al_val (ov_move rfl rfl) ?_
      refine al_val (ov_move rfl rfl) ?_
      refine al_val (ov_strLen Tryd.underlying9 rfl rfl) ?_
      refine al_val (ov_int rfl rfl rfl rfl) ?_
      refine al_val (ov_pick_f rfl rfl rfl) ?_
      refine al_nil ?_
      exact aq_join (r3.2 != (a0.length : Int)) h (fun w a hm hs => norm hm hs [1, 0] [0, 1] [(0, (str a0)), (2, (ptr g1 0)), (4, v4), (23, (Value.bool (r3.2 != (a0.length : Int))))] (by decide) ⟨rfl, rfl, rfl, rfl, trivial⟩)
def f_stringslite_HasPrefix (fu : Nat) (a0 : (List UInt8)) (a1 : (List UInt8)) : Option Bool := (lt (fun (j1b4 : Bool) => (some j1b4)) fun (kk2 : Bool → Option Bool) => (bif (decide ((a0.length : Int) ≥ (a1.length : Int))) then (req (0 ≤ (a1.length : Int) ∧ (a1.length : Int) ≤ (a0.length : Int)) (kk2 ((a0.take ((a1.length : Int)).toNat) == a1))) else (kk2 false)))
set_option maxRecDepth 100000 in
theorem f_stringslite_HasPrefix_ok (fu : Nat) (a0 : (List UInt8)) (a1 : (List UInt8)) {r : Bool} (h : f_stringslite_HasPrefix fu a0 a1 = some r) : FnOk Tryd.prog 134 [(str a0), (str a1)] [] [] (fun (i : Unit) => { val := (Value.bool r) }) := by
  unfold f_stringslite_HasPrefix at h
  refine fn_enter Tryd.func134 rfl Tryd.ntmps134 rfl (fun w0 Z0 => ?_)
  refine aw_seq ?_
  refine aw_region ?_
  refine al_val (ov_assign rfl rfl) ?_
  refine al_nil ?_
  refine aq_then ?_
  obtain ⟨kk2, hkk2, h⟩ := lt_some h
  refine aw_seq_join (ι := Bool) (fun i => (memOf w0 Z0 [] [] [])) (fun i => (tab [(4, (Value.bool i))])) (fun i => kk2 i = some r) ?_ ?_
  · rintro j1b4 h
    have h : kk2 j1b4 = some r := h
    rw [hkk2] at h
    dsimp only at h
    clear hkk2
    refine aw_show (m := (memOf w0 Z0 [] [] [])) (S := (tab [(4, (Value.bool j1b4))])) ?_
    refine aw_ret ?_
    obtain rfl := Option.some.inj h
    exact fn_ret () [] [] rfl rfl rfl rfl (res1 rfl rfl) rfl rfl rfl (by decide)
  · clear hkk2
    refine aw_region ?_
    refine al_val (ov_move rfl rfl) ?_
    refine al_val (ov_strLen Tryd.underlying9 rfl rfl) ?_
    refine al_val (ov_move rfl rfl) ?_
    refine al_val (ov_strLen Tryd.underlying9 rfl rfl) ?_
    refine al_val (ov_int rfl rfl rfl rfl) ?_
    refine al_val (ov_move rfl rfl) ?_
    refine al_caseB 10 rfl (fun hb3 => ?_) (fun hb3 => ?_)
    · replace h := bif_t hb3 h
      refine al_val (ov_move rfl rfl) ?_
      refine al_val (ov_move rfl rfl) ?_
      refine al_val (ov_strLen Tryd.underlying9 rfl rfl) ?_
      obtain ⟨hc4, h⟩ := req_some h
      refine al_val (ov_strTo hc4.1 hc4.2 Tryd.underlying9 rfl rfl rfl) ?_
      refine al_val (ov_move rfl rfl) ?_
      refine al_val (ov_strCmp rfl rfl rfl rfl) ?_
      refine al_val (ov_pick_t rfl rfl rfl) ?_
      refine al_val (ov_assign rfl rfl) ?_
      refine al_nil ?_
      exact aq_join ((a0.take ((a1.length : Int)).toNat) == a1) h (fun w a hm hs => norm hm hs [] [] [(4, (Value.bool ((a0.take ((a1.length : Int)).toNat) == a1)))] (by decide) ⟨rfl, trivial⟩)
    · replace h := bif_f hb3 h
      refine al_skip ?_
      refine al_skip ?_
      refine al_skip ?_
      refine al_skip ?_
      refine al_skip ?_
      refine al_skip ?_
      refine al_val (ov_pick_f rfl rfl rfl) ?_
      refine al_val (ov_assign rfl rfl) ?_
      refine al_nil ?_
      exact aq_join false h (fun w a hm hs => norm hm hs [] [] [(4, (Value.bool false))] (by decide) ⟨rfl, trivial⟩)
def f_strings_HasPrefix (fu : Nat) (a0 : (List UInt8)) (a1 : (List UInt8)) : Option Bool := (opt (f_stringslite_HasPrefix fu a0 a1) fun (r2 : Bool) => (some r2))
set_option maxRecDepth 100000 in
theorem f_strings_HasPrefix_ok (fu : Nat) (a0 : (List UInt8)) (a1 : (List UInt8)) {r : Bool} (h : f_strings_HasPrefix fu a0 a1 = some r) : FnOk Tryd.prog 102 [(str a0), (str a1)] [] [] (fun (i : Unit) => { val := (Value.bool r) }) := by
  unfold f_strings_HasPrefix at h
  refine fn_enter Tryd.func102 rfl Tryd.ntmps102 rfl (fun w0 Z0 => ?_)
  refine aw_seq ?_
  refine aw_region ?_
  refine al_val (ov_assign rfl rfl) ?_
  refine al_nil ?_
  refine aq_then ?_
  refine aw_seq ?_
  refine aw_region ?_
  refine al_val (ov_move rfl rfl) ?_
  refine al_val (ov_move rfl rfl) ?_
  obtain ⟨r2, hc1, h⟩ := opt_some h
  refine al_call (vs := [(str a0), (str a1)]) (f_stringslite_HasPrefix_ok fu a0 a1 hc1) [] [] [] pre_nil rfl (by simp) (by decide) (.inl rfl) rfl Tryd.func134 rfl rfl rfl (fun _ => ?_)
  refine al_val (ov_assign rfl rfl) ?_
  refine al_nil ?_
  refine aq_then ?_
  refine aw_ret ?_
  obtain rfl := Option.some.inj h
  exact fn_ret () [] [] rfl rfl rfl rfl (res1 rfl rfl) rfl rfl rfl (by decide)
def f_lumref_number : Nat → (List UInt8) → Option Int
  | 0, _ => none
  | fu + 1, a0 => (bif (a0 == ([] : List UInt8)) then (some (0 : Int)) else (req (0 ≤ (IntKind.i64.wrap ((a0.length : Int) - (1 : Int))) ∧ (IntKind.i64.wrap ((a0.length : Int) - (1 : Int))) ≤ (a0.length : Int)) (opt (f_lumref_number fu (a0.take ((IntKind.i64.wrap ((a0.length : Int) - (1 : Int)))).toNat)) fun (r4 : Int) => (req (0 ≤ (IntKind.i64.wrap ((a0.length : Int) - (1 : Int))) ∧ (IntKind.i64.wrap ((a0.length : Int) - (1 : Int))) < (a0.length : Int)) (some (IntKind.u64.wrap ((IntKind.u64.wrap ((256 : Int) * r4)) + (IntKind.u64.wrap (En.bAt a0 (IntKind.i64.wrap ((a0.length : Int) - (1 : Int))))))))))))
set_option maxRecDepth 100000 in
theorem f_lumref_number_ok (fu : Nat) (a0 : (List UInt8)) {r : Int} (h : f_lumref_number fu a0 = some r) : FnOk Tryd.prog 103 [(str a0)] [] [] (fun (i : Unit) => { val := (Value.int .u64 r) }) := by
  cases fu with
  | zero => rw [f_lumref_number] at h; cases h
  | succ fu =>
    rw [f_lumref_number] at h
    refine fn_enter Tryd.func103 rfl Tryd.ntmps103 rfl (fun w0 Z0 => ?_)
    refine aw_seq ?_
    refine aw_region ?_
    refine al_val (ov_assign rfl rfl) ?_
    refine al_nil ?_
    refine aq_then ?_
    refine aw_seq ?_
    refine aw_seq ?_
    refine aw_region ?_
    refine al_val (ov_move rfl rfl) ?_
    refine al_val (ov_strCmp rfl rfl rfl rfl) ?_
    refine al_nil ?_
    refine aq_then ?_
    refine aw_cond rfl (fun hb1 => ?_) (fun hb1 => ?_)
    · replace h := bif_t hb1 h
      refine aw_seq ?_
      refine aw_region ?_
      refine al_val (ov_assign rfl rfl) ?_
      refine al_nil ?_
      refine aq_then ?_
      refine aw_ret ?_
      refine aq_then_ret ?_
      obtain rfl := Option.some.inj h
      exact fn_ret () [] [] rfl rfl rfl rfl (res1 rfl rfl) rfl rfl rfl (by decide)
    · replace h := bif_f hb1 h
      refine aw_skip ?_
      refine aq_then ?_
      refine aw_seq ?_
      obtain ⟨hc2, h⟩ := req_some h
      obtain ⟨r4, hc3, h⟩ := opt_some h
      obtain ⟨hc5, h⟩ := req_some h
      refine aw_region_draw 14 [(5, (fun u => fEq u (str a0))), (6, (fun u => fEq u (str a0))), (7, (fun u => fEq u (Value.int .i64 (a0.length : Int)))), (8, (fun u => fEq u (Value.int .i64 (IntKind.i64.wrap ((a0.length : Int) - (1 : Int)))))), (9, (fun u => fEq u (str (a0.take ((IntKind.i64.wrap ((a0.length : Int) - (1 : Int)))).toNat)))), (10, (fun u => fEq u (Value.int .u64 r4))), (11, (fun u => fEq u (Value.int .u64 (IntKind.u64.wrap ((256 : Int) * r4))))), (12, (fun u => fEq u (str a0))), (13, (fun u => fEq u (str a0))), (14, (fun u => fEq u (Value.int .i64 (a0.length : Int)))), (15, (fun u => fEq u (Value.int .i64 (IntKind.i64.wrap ((a0.length : Int) - (1 : Int)))))), (16, (fun u => fEq u (Value.int .u8 (En.bAt a0 (IntKind.i64.wrap ((a0.length : Int) - (1 : Int))))))), (17, (fun u => fEq u (Value.int .u64 (IntKind.u64.wrap (En.bAt a0 (IntKind.i64.wrap ((a0.length : Int) - (1 : Int)))))))), (18, (fun u => fEq u (Value.int .u64 (IntKind.u64.wrap ((IntKind.u64.wrap ((256 : Int) * r4)) + (IntKind.u64.wrap (En.bAt a0 (IntKind.i64.wrap ((a0.length : Int) - (1 : Int))))))))))] (tab [(0, (str a0)), (2, (Value.int .u64 (0 : Int)))]) mixed (by kernel_rfl) rfl rfl rfl (fun a hs => hs.tab _ (allT_mem ⟨rfl, rfl, trivial⟩)) ⟨⟨rfl, ld_val (ov_move rfl rfl)⟩, ⟨rfl, ld_val (ov_move rfl rfl)⟩, ⟨rfl, ld_eq (j := 1) rfl rfl (ld_val (ov_strLen Tryd.underlying9 rfl rfl))⟩, ⟨rfl, ld_eq (j := 2) rfl rfl (ld_val (ov_int rfl rfl rfl rfl))⟩, ⟨rfl, ld_eq (j := 0) rfl rfl (ld_eq (j := 3) rfl rfl (ld_val (ov_strTo hc2.1 hc2.2 Tryd.underlying9 rfl rfl rfl)))⟩, ⟨rfl, ld_eq (j := 4) rfl rfl (ld_callV (vs := [(str (a0.take ((IntKind.i64.wrap ((a0.length : Int) - (1 : Int)))).toNat))]) (f_lumref_number_ok fu (a0.take ((IntKind.i64.wrap ((a0.length : Int) - (1 : Int)))).toNat) hc3) [] pre_nil rfl Tryd.func103 rfl rfl rfl)⟩, ⟨rfl, ld_eq (j := 5) rfl rfl (ld_val (ov_int rfl rfl rfl rfl))⟩, ⟨rfl, ld_val (ov_move rfl rfl)⟩, ⟨rfl, ld_val (ov_move rfl rfl)⟩, ⟨rfl, ld_eq (j := 8) rfl rfl (ld_val (ov_strLen Tryd.underlying9 rfl rfl))⟩, ⟨rfl, ld_eq (j := 9) rfl rfl (ld_val (ov_int rfl rfl rfl rfl))⟩, ⟨rfl, ld_eq (j := 7) rfl rfl (ld_eq (j := 10) rfl rfl (ld_val (ov_strIdx hc5.1 hc5.2 Tryd.underlying9 rfl rfl rfl)))⟩, ⟨rfl, ld_eq (j := 11) rfl rfl (ld_val (ov_convInt (by rw [Tryd.underlying5]; rfl) Tryd.underlying87 rfl rfl))⟩, ⟨rfl, ld_eq (j := 6) rfl rfl (ld_eq (j := 12) rfl rfl (ld_val (ov_int rfl rfl rfl rfl)))⟩, trivial⟩ ?_
      refine tl_eq 13 rfl ?_
      refine tl_done ?_
      refine al_val (ov_assign rfl rfl) ?_
      refine al_nil ?_
      refine aq_then ?_
      refine aw_ret ?_
      obtain rfl := Option.some.inj h
      exact fn_ret () [] [] rfl rfl rfl rfl (res1 rfl rfl) rfl rfl rfl (by decide)
def f_lumref_Get (fu : Nat) (a0 : (List UInt8)) : Option (Int × Int × Int) := (bif ((a0.length : Int) == (0 : Int)) then (some ((0 : Int), (0 : Int), (3 : Int))) else (req (0 ≤ (0 : Int) ∧ (0 : Int) < (a0.length : Int)) (bif (decide ((En.bAt a0 (0 : Int)) > (8 : Int))) then (some ((0 : Int), (0 : Int), (4 : Int))) else (req (0 ≤ (0 : Int) ∧ (0 : Int) < (a0.length : Int)) (bif (decide ((a0.length : Int) < (IntKind.i64.wrap ((1 : Int) + (IntKind.i64.wrap (En.bAt a0 (0 : Int))))))) then (some ((0 : Int), (0 : Int), (3 : Int))) else (req (0 ≤ (1 : Int) ∧ (1 : Int) ≤ (IntKind.i64.wrap ((1 : Int) + (IntKind.i64.wrap (En.bAt a0 (0 : Int))))) ∧ (IntKind.i64.wrap ((1 : Int) + (IntKind.i64.wrap (En.bAt a0 (0 : Int))))) ≤ (a0.length : Int)) (opt (f_strings_HasPrefix fu (cut a0 (1 : Int) (IntKind.i64.wrap ((1 : Int) + (IntKind.i64.wrap (En.bAt a0 (0 : Int)))))) ([0] : List UInt8)) fun (r8 : Bool) => (bif r8 then (some ((0 : Int), (0 : Int), (4 : Int))) else (req (0 ≤ (1 : Int) ∧ (1 : Int) ≤ (IntKind.i64.wrap ((1 : Int) + (IntKind.i64.wrap (En.bAt a0 (0 : Int))))) ∧ (IntKind.i64.wrap ((1 : Int) + (IntKind.i64.wrap (En.bAt a0 (0 : Int))))) ≤ (a0.length : Int)) (opt (f_lumref_number fu (cut a0 (1 : Int) (IntKind.i64.wrap ((1 : Int) + (IntKind.i64.wrap (En.bAt a0 (0 : Int))))))) fun (r12 : Int) => (some (r12, (IntKind.i64.wrap ((1 : Int) + (IntKind.i64.wrap (En.bAt a0 (0 : Int))))), (0 : Int)))))))))))))
set_option maxRecDepth 100000 in
theorem f_lumref_Get_ok (fu : Nat) (a0 : (List UInt8)) {r : (Int × Int × Int)} (h : f_lumref_Get fu a0 = some r) : FnOk Tryd.prog 59 [(str a0)] [] [] (fun (i : Unit) => { val := (Value.tuple #[(Value.int .u64 r.1), (Value.int .i64 r.2.1), (Value.int .i64 r.2.2)]) }) := by
  unfold f_lumref_Get at h
  refine fn_enter Tryd.func59 rfl Tryd.ntmps59 rfl (fun w0 Z0 => ?_)
  refine aw_seq ?_
  refine aw_region ?_
  refine al_val (ov_assign rfl rfl) ?_
  refine al_val (ov_assign rfl rfl) ?_
  refine al_val (ov_assign rfl rfl) ?_
  refine al_nil ?_
  refine aq_then ?_
  refine aw_seq ?_
  refine aw_seq ?_
  refine aw_region ?_
  refine al_val (ov_move rfl rfl) ?_
  refine al_val (ov_strLen Tryd.underlying9 rfl rfl) ?_
  refine al_val (ov_int rfl rfl rfl rfl) ?_
  refine al_nil ?_
  refine aq_then ?_
  refine aw_cond rfl (fun hb1 => ?_) (fun hb1 => ?_)
  · replace h := bif_t hb1 h
    refine aw_seq ?_
    refine aw_region ?_
    refine al_val (ov_assign rfl rfl) ?_
    refine al_val (ov_assign rfl rfl) ?_
    refine al_val (ov_assign rfl rfl) ?_
    refine al_nil ?_
    refine aq_then ?_
    refine aw_ret ?_
    refine aq_then_ret ?_
    obtain rfl := Option.some.inj h
    exact fn_ret () [] [] rfl rfl rfl rfl (res3 rfl rfl rfl rfl) rfl rfl rfl (by decide)
  · replace h := bif_f hb1 h
    refine aw_skip ?_
    refine aq_then ?_
    refine aw_seq ?_
    refine aw_seq ?_
    refine aw_region ?_
    refine al_val (ov_move rfl rfl) ?_
    obtain ⟨hc2, h⟩ := req_some h
    refine al_val (ov_strIdx hc2.1 hc2.2 Tryd.underlying9 rfl rfl rfl) ?_
    refine al_val (ov_int rfl rfl rfl rfl) ?_
    refine al_nil ?_
    refine aq_then ?_
    refine aw_cond rfl (fun hb3 => ?_) (fun hb3 => ?_)
    · replace h := bif_t hb3 h
      refine aw_seq ?_
      refine aw_region ?_
      refine al_val (ov_assign rfl rfl) ?_
      refine al_val (ov_assign rfl rfl) ?_
      refine al_val (ov_assign rfl rfl) ?_
      refine al_nil ?_
      refine aq_then ?_
      refine aw_ret ?_
      refine aq_then_ret ?_
      obtain rfl := Option.some.inj h
      exact fn_ret () [] [] rfl rfl rfl rfl (res3 rfl rfl rfl rfl) rfl rfl rfl (by decide)
    · replace h := bif_f hb3 h
      refine aw_skip ?_
      refine aq_then ?_
      refine aw_seq ?_
      refine aw_region ?_
      refine al_val (ov_move rfl rfl) ?_
      obtain ⟨hc4, h⟩ := req_some h
      refine al_val (ov_strIdx hc4.1 hc4.2 Tryd.underlying9 rfl rfl rfl) ?_
      refine al_val (ov_convInt (by rw [Tryd.underlying5]; rfl) Tryd.underlying3 rfl rfl) ?_
      refine al_val (ov_int rfl rfl rfl rfl) ?_
      refine al_val (ov_assign rfl rfl) ?_
      refine al_nil ?_
      refine aq_then ?_
      refine aw_seq ?_
      refine aw_seq ?_
      refine aw_region ?_
      refine al_val (ov_move rfl rfl) ?_
      refine al_val (ov_strLen Tryd.underlying9 rfl rfl) ?_
      refine al_val (ov_move rfl rfl) ?_
      refine al_val (ov_int rfl rfl rfl rfl) ?_
      refine al_nil ?_
      refine aq_then ?_
      refine aw_cond rfl (fun hb5 => ?_) (fun hb5 => ?_)
      · replace h := bif_t hb5 h
        refine aw_seq ?_
        refine aw_region ?_
        refine al_val (ov_assign rfl rfl) ?_
        refine al_val (ov_assign rfl rfl) ?_
        refine al_val (ov_assign rfl rfl) ?_
        refine al_nil ?_
        refine aq_then ?_
        refine aw_ret ?_
        refine aq_then_ret ?_
        obtain rfl := Option.some.inj h
        exact fn_ret () [] [] rfl rfl rfl rfl (res3 rfl rfl rfl rfl) rfl rfl rfl (by decide)
      · replace h := bif_f hb5 h
        refine aw_skip ?_
        refine aq_then ?_
        refine aw_seq ?_
        refine aw_seq ?_
        refine aw_region ?_
        refine al_val (ov_move rfl rfl) ?_
        refine al_val (ov_move rfl rfl) ?_
        obtain ⟨hc6, h⟩ := req_some h
        refine al_val (ov_strCut hc6.1 hc6.2.1 hc6.2.2 Tryd.underlying9 rfl rfl rfl rfl) ?_
        obtain ⟨r8, hc7, h⟩ := opt_some h
        refine al_call (vs := [(str (cut a0 (1 : Int) (IntKind.i64.wrap ((1 : Int) + (IntKind.i64.wrap (En.bAt a0 (0 : Int))))))), (str ([0] : List UInt8))]) (f_strings_HasPrefix_ok fu (cut a0 (1 : Int) (IntKind.i64.wrap ((1 : Int) + (IntKind.i64.wrap (En.bAt a0 (0 : Int)))))) ([0] : List UInt8) hc7) [] [] [] pre_nil rfl (by simp) (by decide) (.inl rfl) rfl Tryd.func102 rfl rfl rfl (fun _ => ?_)
        refine al_nil ?_
        refine aq_then ?_
        refine aw_cond rfl (fun hb9 => ?_) (fun hb9 => ?_)
        · replace h := bif_t hb9 h
          refine aw_seq ?_
          refine aw_region ?_
          refine al_val (ov_assign rfl rfl) ?_
          refine al_val (ov_assign rfl rfl) ?_
          refine al_val (ov_assign rfl rfl) ?_
          refine al_nil ?_
          refine aq_then ?_
          refine aw_ret ?_
          refine aq_then_ret ?_
          obtain rfl := Option.some.inj h
          exact fn_ret () [] [] rfl rfl rfl rfl (res3 rfl rfl rfl rfl) rfl rfl rfl (by decide)
        · replace h := bif_f hb9 h
          refine aw_skip ?_
          refine aq_then ?_
          refine aw_seq ?_
          refine aw_region ?_
          refine al_val (ov_move rfl rfl) ?_
          refine al_val (ov_move rfl rfl) ?_
          obtain ⟨hc10, h⟩ := req_some h
          refine al_val (ov_strCut hc10.1 hc10.2.1 hc10.2.2 Tryd.underlying9 rfl rfl rfl rfl) ?_
          obtain ⟨r12, hc11, h⟩ := opt_some h
          refine al_call (vs := [(str (cut a0 (1 : Int) (IntKind.i64.wrap ((1 : Int) + (IntKind.i64.wrap (En.bAt a0 (0 : Int)))))))]) (f_lumref_number_ok fu (cut a0 (1 : Int) (IntKind.i64.wrap ((1 : Int) + (IntKind.i64.wrap (En.bAt a0 (0 : Int)))))) hc11) [] [] [] pre_nil rfl (by simp) (by decide) (.inl rfl) rfl Tryd.func103 rfl rfl rfl (fun _ => ?_)
          refine al_val (ov_move rfl rfl) ?_
          refine al_val (ov_assign rfl rfl) ?_
          refine al_val (ov_assign rfl rfl) ?_
          refine al_val (ov_assign rfl rfl) ?_
          refine al_nil ?_
          refine aq_then ?_
          refine aw_ret ?_
          obtain rfl := Option.some.inj h
          exact fn_ret () [] [] rfl rfl rfl rfl (res3 rfl rfl rfl rfl) rfl rfl rfl (by decide)
def f_lumref_Scan : Nat → (List UInt8) → Option ((List (List UInt8)) × Int)
  | 0, _ => none
  | fu + 1, a0 => (opt (f_lumref_Get fu a0) fun (r2 : (Int × Int × Int)) => (lt (fun (j3b31 : Bool) => (bif j3b31 then (some (([] : List (List UInt8)), (0 : Int))) else (req (0 ≤ r2.2.1 ∧ r2.2.1 ≤ (IntKind.i64.wrap (r2.2.1 + (IntKind.i64.wrap r2.1))) ∧ (IntKind.i64.wrap (r2.2.1 + (IntKind.i64.wrap r2.1))) ≤ (a0.length : Int)) (opt (f_lumref_Frame fu (cut a0 r2.2.1 (IntKind.i64.wrap (r2.2.1 + (IntKind.i64.wrap r2.1))))) fun (r8 : (List UInt8)) => (lt (fun (j9b53 : Bool) => (bif j9b53 then (some (([] : List (List UInt8)), (0 : Int))) else (req (0 ≤ (r8.length : Int) ∧ (r8.length : Int) ≤ (a0.length : Int)) (opt (f_lumref_Scan fu (a0.drop ((r8.length : Int)).toNat)) fun (r14 : ((List (List UInt8)) × Int)) => (req (((([(cut a0 r2.2.1 (IntKind.i64.wrap (r2.2.1 + (IntKind.i64.wrap r2.1))))]).length + r14.1.length) * 16 : Nat) ≤ 140737488355328 ∧ ([(cut a0 r2.2.1 (IntKind.i64.wrap (r2.2.1 + (IntKind.i64.wrap r2.1))))]).length + r14.1.length ≤ 9223372036854775807) (some ((([(cut a0 r2.2.1 (IntKind.i64.wrap (r2.2.1 + (IntKind.i64.wrap r2.1))))]) ++ r14.1), (IntKind.i64.wrap ((r8.length : Int) + r14.2))))))))) fun (kk10 : Bool → Option ((List (List UInt8)) × Int)) => (bif (decide ((a0.length : Int) < (r8.length : Int))) then (kk10 true) else (req (0 ≤ (r8.length : Int) ∧ (r8.length : Int) ≤ (a0.length : Int)) (kk10 (!((a0.take ((r8.length : Int)).toNat) == r8)))))))))) fun (kk4 : Bool → Option ((List (List UInt8)) × Int)) => (bif (r2.2.2 != (0 : Int)) then (kk4 true) else (bif (decide (r2.1 > (4096 : Int))) then (kk4 true) else (kk4 (decide ((IntKind.u64.wrap (IntKind.i64.wrap ((a0.length : Int) - r2.2.1))) < r2.1)))))))
set_option maxRecDepth 100000 in
theorem f_lumref_Scan_ok (fu : Nat) (a0 : (List UInt8)) {r : ((List (List UInt8)) × Int)} (h : f_lumref_Scan fu a0 = some r) : FnOk Tryd.prog 15 [(str a0)] [] [] (fun (i : Value) => { val := (Value.tuple #[i, (Value.int .i64 r.2)]), own := [(oRow i 9 tyStr r.1)] }) := by
  cases fu with
  | zero => rw [f_lumref_Scan] at h; cases h
  | succ fu =>
    rw [f_lumref_Scan] at h
    refine fn_enter Tryd.func15 rfl Tryd.ntmps15 rfl (fun w0 Z0 => ?_)
    refine aw_seq ?_
    refine aw_region ?_
    refine al_val (ov_assign rfl rfl) ?_
    refine al_val (ov_assign rfl rfl) ?_
    refine al_nil ?_
    refine aq_then ?_
    refine aw_seq ?_
    refine aw_region ?_
    refine al_val (ov_move rfl rfl) ?_
    obtain ⟨r2, hc1, h⟩ := opt_some h
    refine al_call (vs := [(str a0)]) (f_lumref_Get_ok fu a0 hc1) [] [] [] pre_nil rfl (by simp) (by decide) (.inl rfl) rfl Tryd.func59 rfl rfl rfl (fun _ => ?_)
    refine al_val (ov_move rfl rfl) ?_
    refine al_val (ov_extract rfl rfl rfl) ?_
    refine al_val (ov_extract rfl rfl rfl) ?_
    refine al_val (ov_extract rfl rfl rfl) ?_
    refine al_val (ov_assign rfl rfl) ?_
    refine al_val (ov_assign rfl rfl) ?_
    refine al_val (ov_assign rfl rfl) ?_
    refine al_nil ?_
    refine aq_then ?_
    refine aw_seq ?_
    obtain ⟨kk4, hkk4, h⟩ := lt_some h
    refine aw_seq_join (ι := Bool) (fun i => (memOf w0 Z0 [] [] [])) (fun i => (tab [(0, (str a0)), (4, (Value.int .u64 r2.1)), (5, (Value.int .i64 r2.2.1)), (31, (Value.bool i))])) (fun i => kk4 i = some r) ?_ ?_
    · rintro j3b31 h
      have h : kk4 j3b31 = some r := h
      rw [hkk4] at h
      dsimp only at h
      clear hkk4
      refine aw_show (m := (memOf w0 Z0 [] [] [])) (S := (tab [(0, (str a0)), (4, (Value.int .u64 r2.1)), (5, (Value.int .i64 r2.2.1)), (31, (Value.bool j3b31))])) ?_
      refine aw_cond rfl (fun hb5 => ?_) (fun hb5 => ?_)
      · replace h := bif_t hb5 h
        refine aw_seq ?_
        refine aw_region ?_
        refine al_val (ov_assign rfl rfl) ?_
        refine al_val (ov_assign rfl rfl) ?_
        refine al_nil ?_
        refine aq_then ?_
        refine aw_ret ?_
        refine aq_then_ret ?_
        refine aq_nilR 9 tyStr ?_
        obtain rfl := Option.some.inj h
        exact fn_ret (Value.slice none 0 0) [0] [] rfl rfl rfl rfl (res2 rfl rfl rfl) rfl rfl rfl (by decide)
      · replace h := bif_f hb5 h
        refine aw_skip ?_
        refine aq_then ?_
        refine aw_seq ?_
        refine aw_region ?_
        refine al_val (ov_move rfl rfl) ?_
        refine al_val (ov_move rfl rfl) ?_
        refine al_val (ov_move rfl rfl) ?_
        refine al_val (ov_move rfl rfl) ?_
        refine al_val (ov_convInt (by rw [Tryd.underlying87]; rfl) Tryd.underlying3 rfl rfl) ?_
        refine al_val (ov_int rfl rfl rfl rfl) ?_
        obtain ⟨hc6, h⟩ := req_some h
        refine al_val (ov_strCut hc6.1 hc6.2.1 hc6.2.2 Tryd.underlying9 rfl rfl rfl rfl) ?_
        refine al_val (ov_assign rfl rfl) ?_
        refine al_nil ?_
        refine aq_then ?_
        refine aw_seq ?_
        refine aw_region ?_
        refine al_val (ov_move rfl rfl) ?_
        obtain ⟨r8, hc7, h⟩ := opt_some h
        refine al_call (vs := [(str (cut a0 r2.2.1 (IntKind.i64.wrap (r2.2.1 + (IntKind.i64.wrap r2.1)))))]) (f_lumref_Frame_ok fu (cut a0 r2.2.1 (IntKind.i64.wrap (r2.2.1 + (IntKind.i64.wrap r2.1)))) hc7) [] [] [] pre_nil rfl (by simp) (by decide) (.inl rfl) rfl Tryd.func11 rfl rfl rfl (fun _ => ?_)
        refine al_val (ov_assign rfl rfl) ?_
        refine al_nil ?_
        refine aq_then ?_
        refine aw_seq ?_
        obtain ⟨kk10, hkk10, h⟩ := lt_some h
        refine aw_seq_join (ι := Bool) (fun i => (memOf w0 Z0 [] [] [])) (fun i => (tab [(0, (str a0)), (7, (str (cut a0 r2.2.1 (IntKind.i64.wrap (r2.2.1 + (IntKind.i64.wrap r2.1)))))), (8, (str r8)), (53, (Value.bool i))])) (fun i => kk10 i = some r) ?_ ?_
        · rintro j9b53 h
          have h : kk10 j9b53 = some r := h
          rw [hkk10] at h
          dsimp only at h
          clear hkk10
          refine aw_show (m := (memOf w0 Z0 [] [] [])) (S := (tab [(0, (str a0)), (7, (str (cut a0 r2.2.1 (IntKind.i64.wrap (r2.2.1 + (IntKind.i64.wrap r2.1)))))), (8, (str r8)), (53, (Value.bool j9b53))])) ?_
          refine aw_cond rfl (fun hb11 => ?_) (fun hb11 => ?_)
          · replace h := bif_t hb11 h
            refine aw_seq ?_
            refine aw_region ?_
            refine al_val (ov_assign rfl rfl) ?_
            refine al_val (ov_assign rfl rfl) ?_
            refine al_nil ?_
            refine aq_then ?_
            refine aw_ret ?_
            refine aq_then_ret ?_
            refine aq_nilR 9 tyStr ?_
            obtain rfl := Option.some.inj h
            exact fn_ret (Value.slice none 0 0) [0] [] rfl rfl rfl rfl (res2 rfl rfl rfl) rfl rfl rfl (by decide)
          · replace h := bif_f hb11 h
            refine aw_skip ?_
            refine aq_then ?_
            refine aw_seq ?_
            refine aw_region ?_
            refine al_val (ov_move rfl rfl) ?_
            refine al_val (ov_move rfl rfl) ?_
            refine al_val (ov_strLen Tryd.underlying9 rfl rfl) ?_
            obtain ⟨hc12, h⟩ := req_some h
            refine al_val (ov_strFrom hc12.1 hc12.2 Tryd.underlying9 rfl rfl rfl) ?_
            obtain ⟨r14, hc13, h⟩ := opt_some h
            refine al_call (vs := [(str (a0.drop ((r8.length : Int)).toNat))]) (f_lumref_Scan_ok fu (a0.drop ((r8.length : Int)).toNat) hc13) [] [] [] pre_nil rfl (by simp) (by decide) (.inl rfl) rfl Tryd.func15 rfl rfl rfl (fun v15 => ?_)
            refine al_val (ov_move rfl rfl) ?_
            refine al_val (ov_extract rfl rfl rfl) ?_
            refine al_val (ov_extract rfl rfl rfl) ?_
            refine al_val (ov_assign rfl rfl) ?_
            refine al_val (ov_assign rfl rfl) ?_
            refine al_nil ?_
            refine aq_then ?_
            refine aw_seq ?_
            refine aw_region ?_
            refine al_val (ov_move rfl rfl) ?_
            refine al_buildSlice (τ := tyStr) (e := 9) (k := 1) (sz := 0) (by_ := 0) (z := undef) (cs := [(str (cut a0 r2.2.1 (IntKind.i64.wrap (r2.2.1 + (IntKind.i64.wrap r2.1)))))]) (xs := [(cut a0 r2.2.1 (IntKind.i64.wrap (r2.2.1 + (IntKind.i64.wrap r2.1))))]) rfl (by decide) (fun w a hm hs => ⟨([(str (cut a0 r2.2.1 (IntKind.i64.wrap (r2.2.1 + (IntKind.i64.wrap r2.1)))))]).toArray, rfl, by simp only [List.map_toArray, List.map_cons, List.map_nil, hs.ev (x := .tmp 62) rfl]; exact run_bs [(str (cut a0 r2.2.1 (IntKind.i64.wrap (r2.2.1 + (IntKind.i64.wrap r2.1)))))] [(str (cut a0 r2.2.1 (IntKind.i64.wrap (r2.2.1 + (IntKind.i64.wrap r2.1)))))] Tryd.underlying22 to9 rfl rfl (bs_cons (l := [(str (cut a0 r2.2.1 (IntKind.i64.wrap (r2.2.1 + (IntKind.i64.wrap r2.1)))))]) (cs := []) (cv_rfl rfl) rfl bs_nil) hm⟩) (fun hm => ⟨_, _, rfl, (fun _ => rfl) hm, rfl⟩) rfl (fun v16 => ?_)
            refine al_val (ov_move rfl rfl) ?_
            obtain ⟨hc17, h⟩ := req_some h
            refine al_append 0 hc17.1 hc17.2 rfl (src_own (i := 0) 1 rfl) rfl rfl Tryd.underlying22 to9 rfl rfl rfl (fun v18 => ?_)
            refine al_val (ov_move rfl rfl) ?_
            refine al_val (ov_strLen Tryd.underlying9 rfl rfl) ?_
            refine al_val (ov_move rfl rfl) ?_
            refine al_val (ov_int rfl rfl rfl rfl) ?_
            refine al_val (ov_assign rfl rfl) ?_
            refine al_val (ov_assign rfl rfl) ?_
            refine al_nil ?_
            refine aq_then ?_
            refine aw_ret ?_
            obtain rfl := Option.some.inj h
            exact fn_ret v18 [0] [] rfl rfl rfl rfl (res2 rfl rfl rfl) rfl rfl rfl (by decide)
        · clear hkk10
          refine aw_region ?_
          refine al_val (ov_move rfl rfl) ?_
          refine al_val (ov_strLen Tryd.underlying9 rfl rfl) ?_
          refine al_val (ov_move rfl rfl) ?_
          refine al_val (ov_strLen Tryd.underlying9 rfl rfl) ?_
          refine al_val (ov_int rfl rfl rfl rfl) ?_
          refine al_val (ov_move rfl rfl) ?_
          refine al_caseB 46 rfl (fun hb19 => ?_) (fun hb19 => ?_)
          · replace h := bif_t hb19 h
            refine al_skip ?_
            refine al_skip ?_
            refine al_skip ?_
            refine al_skip ?_
            refine al_skip ?_
            refine al_skip ?_
            refine al_val (ov_pick_t rfl rfl rfl) ?_
            refine al_nil ?_
            exact aq_join true h (fun w a hm hs => norm hm hs [] [] [(0, (str a0)), (7, (str (cut a0 r2.2.1 (IntKind.i64.wrap (r2.2.1 + (IntKind.i64.wrap r2.1)))))), (8, (str r8)), (53, (Value.bool true))] (by decide) ⟨rfl, rfl, rfl, rfl, trivial⟩)
          · replace h := bif_f hb19 h
            refine al_val (ov_move rfl rfl) ?_
            refine al_val (ov_move rfl rfl) ?_
            refine al_val (ov_strLen Tryd.underlying9 rfl rfl) ?_
            obtain ⟨hc20, h⟩ := req_some h
            refine al_val (ov_strTo hc20.1 hc20.2 Tryd.underlying9 rfl rfl rfl) ?_
            refine al_val (ov_move rfl rfl) ?_
            refine al_val (ov_strCmp rfl rfl rfl rfl) ?_
            refine al_val (ov_pick_f rfl rfl rfl) ?_
            refine al_nil ?_
            exact aq_join (!((a0.take ((r8.length : Int)).toNat) == r8)) h (fun w a hm hs => norm hm hs [] [] [(0, (str a0)), (7, (str (cut a0 r2.2.1 (IntKind.i64.wrap (r2.2.1 + (IntKind.i64.wrap r2.1)))))), (8, (str r8)), (53, (Value.bool (!((a0.take ((r8.length : Int)).toNat) == r8))))] (by decide) ⟨rfl, rfl, rfl, rfl, trivial⟩)
    · clear hkk4
      refine aw_region ?_
      refine al_val (ov_move rfl rfl) ?_
      refine al_val (ov_int rfl rfl rfl rfl) ?_
      refine al_val (ov_move rfl rfl) ?_
      refine al_caseB 19 rfl (fun hb21 => ?_) (fun hb21 => ?_)
      · replace h := bif_t hb21 h
        refine al_skip ?_
        refine al_skip ?_
        refine al_val (ov_pick_t rfl rfl rfl) ?_
        refine al_val (ov_move rfl rfl) ?_
        refine al_skip ?_
        refine al_skip ?_
        refine al_skip ?_
        refine al_skip ?_
        refine al_skip ?_
        refine al_skip ?_
        refine al_skip ?_
        refine al_val (ov_pick_t rfl rfl rfl) ?_
        refine al_nil ?_
        exact aq_join true h (fun w a hm hs => norm hm hs [] [] [(0, (str a0)), (4, (Value.int .u64 r2.1)), (5, (Value.int .i64 r2.2.1)), (31, (Value.bool true))] (by decide) ⟨rfl, rfl, rfl, rfl, trivial⟩)
      · replace h := bif_f hb21 h
        refine al_val (ov_move rfl rfl) ?_
        refine al_val (ov_int rfl rfl rfl rfl) ?_
        refine al_val (ov_pick_f rfl rfl rfl) ?_
        refine al_val (ov_move rfl rfl) ?_
        refine al_caseB 23 rfl (fun hb22 => ?_) (fun hb22 => ?_)
        · replace h := bif_t hb22 h
          refine al_skip ?_
          refine al_skip ?_
          refine al_skip ?_
          refine al_skip ?_
          refine al_skip ?_
          refine al_skip ?_
          refine al_skip ?_
          refine al_val (ov_pick_t rfl rfl rfl) ?_
          refine al_nil ?_
          exact aq_join true h (fun w a hm hs => norm hm hs [] [] [(0, (str a0)), (4, (Value.int .u64 r2.1)), (5, (Value.int .i64 r2.2.1)), (31, (Value.bool true))] (by decide) ⟨rfl, rfl, rfl, rfl, trivial⟩)
        · replace h := bif_f hb22 h
          refine al_val (ov_move rfl rfl) ?_
          refine al_val (ov_strLen Tryd.underlying9 rfl rfl) ?_
          refine al_val (ov_move rfl rfl) ?_
          refine al_val (ov_int rfl rfl rfl rfl) ?_
          refine al_val (ov_convInt (by rw [Tryd.underlying3]; rfl) Tryd.underlying87 rfl rfl) ?_
          refine al_val (ov_move rfl rfl) ?_
          refine al_val (ov_int rfl rfl rfl rfl) ?_
          refine al_val (ov_pick_f rfl rfl rfl) ?_
          refine al_nil ?_
          exact aq_join (decide ((IntKind.u64.wrap (IntKind.i64.wrap ((a0.length : Int) - r2.2.1))) < r2.1)) h (fun w a hm hs => norm hm hs [] [] [(0, (str a0)), (4, (Value.int .u64 r2.1)), (5, (Value.int .i64 r2.2.1)), (31, (Value.bool (decide ((IntKind.u64.wrap (IntKind.i64.wrap ((a0.length : Int) - r2.2.1))) < r2.1))))] (by decide) ⟨rfl, rfl, rfl, rfl, trivial⟩)
def f_lumref_HeadRead_1 (fu : Nat) (a0 : (List UInt8)) (a1 : Bool) : Option (Int × (List UInt8) × Bool) := (opt (f_lumref_Get fu a0) fun (r2 : (Int × Int × Int)) => (lt (fun (j3b17 : Bool) => (bif j3b17 then (some ((0 : Int), a0, false)) else (req (0 ≤ r2.2.1 ∧ r2.2.1 ≤ (a0.length : Int)) (some ((IntKind.i64.wrap r2.1), (a0.drop (r2.2.1).toNat), a1))))) fun (kk4 : Bool → Option (Int × (List UInt8) × Bool)) => (bif (r2.2.2 != (0 : Int)) then (kk4 true) else (kk4 (decide (r2.1 > (1099511627776 : Int)))))))
set_option maxRecDepth 100000 in
theorem f_lumref_HeadRead_1_ok (fu : Nat) (bx0 : Nat) (a0 : (List UInt8)) (bx1 : Nat) (a1 : Bool) {r : (Int × (List UInt8) × Bool)} (h : f_lumref_HeadRead_1 fu a0 a1 = some r) : FnOk Tryd.prog 80 [(ptr bx0 0), (ptr bx1 0)] [] [(oBox bx0 9 [(str a0)]), (oBox bx1 4 [(Value.bool a1)])] (fun (i : Unit) => { val := (Value.int .i64 r.1), own := [(oBox bx0 9 [(str r.2.1)]), (oBox bx1 4 [(Value.bool r.2.2)])] }) := by
  unfold f_lumref_HeadRead_1 at h
  refine fn_enter Tryd.func80 rfl Tryd.ntmps80 rfl (fun w0 Z0 => ?_)
  refine aw_seq ?_
  refine aw_region ?_
  refine al_val (ov_assign rfl rfl) ?_
  refine al_nil ?_
  refine aq_then ?_
  refine aw_seq ?_
  refine aw_region ?_
  refine al_val (ov_load (i := 0) (v := (str a0)) rfl rfl Tryd.underlying9 sz9 rfl rfl rfl rfl) ?_
  obtain ⟨r2, hc1, h⟩ := opt_some h
  refine al_call (vs := [(str a0)]) (f_lumref_Get_ok fu a0 hc1) [] [] [0, 1] pre_nil rfl (by simp) (by decide) (.inl rfl) rfl Tryd.func59 rfl rfl rfl (fun _ => ?_)
  refine al_val (ov_move rfl rfl) ?_
  refine al_val (ov_extract rfl rfl rfl) ?_
  refine al_val (ov_extract rfl rfl rfl) ?_
  refine al_val (ov_extract rfl rfl rfl) ?_
  refine al_val (ov_assign rfl rfl) ?_
  refine al_val (ov_assign rfl rfl) ?_
  refine al_val (ov_assign rfl rfl) ?_
  refine al_nil ?_
  refine aq_then ?_
  refine aw_seq ?_
  obtain ⟨kk4, hkk4, h⟩ := lt_some h
  refine aw_seq_join (ι := Bool) (fun i => (memOf w0 Z0 [(oBox bx0 9 [(str a0)]), (oBox bx1 4 [(Value.bool a1)])] [(oBox bx0 9 [(str a0)]), (oBox bx1 4 [(Value.bool a1)])] [])) (fun i => (tab [(0, (ptr bx0 0)), (1, (ptr bx1 0)), (3, (Value.int .u64 r2.1)), (4, (Value.int .i64 r2.2.1)), (17, (Value.bool i))])) (fun i => kk4 i = some r) ?_ ?_
  · rintro j3b17 h
    have h : kk4 j3b17 = some r := h
    rw [hkk4] at h
    dsimp only at h
    clear hkk4
    refine aw_show (m := (memOf w0 Z0 [(oBox bx0 9 [(str a0)]), (oBox bx1 4 [(Value.bool a1)])] [(oBox bx0 9 [(str a0)]), (oBox bx1 4 [(Value.bool a1)])] [])) (S := (tab [(0, (ptr bx0 0)), (1, (ptr bx1 0)), (3, (Value.int .u64 r2.1)), (4, (Value.int .i64 r2.2.1)), (17, (Value.bool j3b17))])) ?_
    refine aw_cond rfl (fun hb5 => ?_) (fun hb5 => ?_)
    · replace h := bif_t hb5 h
      refine aw_seq ?_
      refine aw_region ?_
      refine al_store (i := 1) (vs := [(Value.bool false)]) (cs' := [(Value.bool false)]) rfl rfl rfl sz4 (cv_rfl rfl) rfl (co_val rfl co_nil) (Nat.le_of_ble_eq_true rfl) rfl rfl ?_
      refine al_nil ?_
      refine aq_then ?_
      refine aw_seq ?_
      refine aw_region ?_
      refine al_val (ov_assign rfl rfl) ?_
      refine al_nil ?_
      refine aq_then ?_
      refine aw_ret ?_
      refine aq_then_ret ?_
      obtain rfl := Option.some.inj h
      exact fn_ret () [0, 1] [] rfl rfl rfl rfl (res1 rfl rfl) rfl rfl rfl (by decide)
    · replace h := bif_f hb5 h
      refine aw_skip ?_
      refine aq_then ?_
      refine aw_seq ?_
      refine aw_region ?_
      refine al_val (ov_load (i := 0) (v := (str a0)) rfl rfl Tryd.underlying9 sz9 rfl rfl rfl rfl) ?_
      refine al_val (ov_move rfl rfl) ?_
      obtain ⟨hc6, h⟩ := req_some h
      refine al_val (ov_strFrom hc6.1 hc6.2 Tryd.underlying9 rfl rfl rfl) ?_
      refine al_store (i := 0) (vs := [(str (a0.drop (r2.2.1).toNat))]) (cs' := [(str (a0.drop (r2.2.1).toNat))]) rfl rfl rfl sz9 (cv_rfl rfl) rfl (co_val rfl co_nil) (Nat.le_of_ble_eq_true rfl) rfl rfl ?_
      refine al_nil ?_
      refine aq_then ?_
      refine aw_seq ?_
      refine aw_region ?_
      refine al_val (ov_move rfl rfl) ?_
      refine al_val (ov_convInt (by rw [Tryd.underlying87]; rfl) Tryd.underlying3 rfl rfl) ?_
      refine al_val (ov_assign rfl rfl) ?_
      refine al_nil ?_
      refine aq_then ?_
      refine aw_ret ?_
      obtain rfl := Option.some.inj h
      exact fn_ret () [0, 1] [] rfl rfl rfl rfl (res1 rfl rfl) rfl rfl rfl (by decide)
  · clear hkk4
    refine aw_region ?_
    refine al_val (ov_move rfl rfl) ?_
    refine al_val (ov_int rfl rfl rfl rfl) ?_
    refine al_val (ov_move rfl rfl) ?_
    refine al_caseB 14 rfl (fun hb7 => ?_) (fun hb7 => ?_)
    · replace h := bif_t hb7 h
      refine al_skip ?_
      refine al_skip ?_
      refine al_val (ov_pick_t rfl rfl rfl) ?_
      refine al_nil ?_
      exact aq_join true h (fun w a hm hs => norm hm hs [0, 1] [] [(0, (ptr bx0 0)), (1, (ptr bx1 0)), (3, (Value.int .u64 r2.1)), (4, (Value.int .i64 r2.2.1)), (17, (Value.bool true))] (by decide) ⟨rfl, rfl, rfl, rfl, rfl, trivial⟩)
    · replace h := bif_f hb7 h
      refine al_val (ov_move rfl rfl) ?_
      refine al_val (ov_int rfl rfl rfl rfl) ?_
      refine al_val (ov_pick_f rfl rfl rfl) ?_
      refine al_nil ?_
      exact aq_join (decide (r2.1 > (1099511627776 : Int))) h (fun w a hm hs => norm hm hs [0, 1] [] [(0, (ptr bx0 0)), (1, (ptr bx1 0)), (3, (Value.int .u64 r2.1)), (4, (Value.int .i64 r2.2.1)), (17, (Value.bool (decide (r2.1 > (1099511627776 : Int)))))] (by decide) ⟨rfl, rfl, rfl, rfl, rfl, trivial⟩)
def f_lumref_GetText_L3 (a0 : (List UInt8)) : Nat → (List UInt8) → Int → Option ((List UInt8) × Int × Int)
  | 0, _, _ => none
  | k2 + 1, l1s5, l1i6 => (lt (fun (j4b24 : Bool) => (bif j4b24 then (some (([] : List UInt8), (0 : Int), (3 : Int))) else (lt (fun (j7i7 : Int) => (bif ((l1s5.length : Int) == (1024 : Int)) then (some (([] : List UInt8), (0 : Int), (2 : Int))) else (req (0 ≤ l1i6 ∧ l1i6 ≤ (IntKind.i64.wrap (l1i6 + (1 : Int))) ∧ (IntKind.i64.wrap (l1i6 + (1 : Int))) ≤ (a0.length : Int)) (req (l1s5.length + (cut a0 l1i6 (IntKind.i64.wrap (l1i6 + (1 : Int)))).length ≤ 9223372036854775807) (f_lumref_GetText_L3 a0 k2 (l1s5 ++ (cut a0 l1i6 (IntKind.i64.wrap (l1i6 + (1 : Int))))) (IntKind.i64.wrap (l1i6 + j7i7))))))) fun (kk8 : Int → Option ((List UInt8) × Int × Int)) => (req (0 ≤ l1i6 ∧ l1i6 < (a0.length : Int)) (bif ((En.bAt a0 l1i6) == (0 : Int)) then (req (0 ≤ (IntKind.i64.wrap (l1i6 + (1 : Int))) ∧ (IntKind.i64.wrap (l1i6 + (1 : Int))) < (a0.length : Int)) (bif ((En.bAt a0 (IntKind.i64.wrap (l1i6 + (1 : Int)))) == (0 : Int)) then (some (l1s5, (IntKind.i64.wrap (l1i6 + (2 : Int))), (0 : Int))) else (req (0 ≤ (IntKind.i64.wrap (l1i6 + (1 : Int))) ∧ (IntKind.i64.wrap (l1i6 + (1 : Int))) < (a0.length : Int)) (bif ((En.bAt a0 (IntKind.i64.wrap (l1i6 + (1 : Int)))) != (255 : Int)) then (some (([] : List UInt8), (0 : Int), (4 : Int))) else (kk8 (2 : Int)))))) else (kk8 (1 : Int))))))) fun (kk5 : Bool → Option ((List UInt8) × Int × Int)) => (bif (decide (l1i6 ≥ (a0.length : Int))) then (kk5 true) else (req (0 ≤ l1i6 ∧ l1i6 < (a0.length : Int)) (bif ((En.bAt a0 l1i6) == (0 : Int)) then (kk5 (decide ((IntKind.i64.wrap (l1i6 + (1 : Int))) ≥ (a0.length : Int)))) else (kk5 false)))))
def f_lumref_GetText (fu : Nat) (a0 : (List UInt8)) : Option ((List UInt8) × Int × Int) := (f_lumref_GetText_L3 a0 fu ([] : List UInt8) (0 : Int))
set_option maxRecDepth 100000 in
theorem f_lumref_GetText_ok (fu : Nat) (a0 : (List UInt8)) {r : ((List UInt8) × Int × Int)} (h : f_lumref_GetText fu a0 = some r) : FnOk Tryd.prog 75 [(str a0)] [] [] (fun (i : Unit) => { val := (Value.tuple #[(str r.1), (Value.int .i64 r.2.1), (Value.int .i64 r.2.2)]) }) := by
  unfold f_lumref_GetText at h
  refine fn_enter Tryd.func75 rfl Tryd.ntmps75 rfl (fun w0 Z0 => ?_)
  refine aw_seq ?_
  refine aw_region ?_
  refine al_val (ov_assign rfl rfl) ?_
  refine al_val (ov_assign rfl rfl) ?_
  refine al_val (ov_assign rfl rfl) ?_
  refine al_nil ?_
  refine aq_then ?_
  refine aw_seq ?_
  refine aw_region ?_
  refine al_val (ov_assign rfl rfl) ?_
  refine al_val (ov_assign rfl rfl) ?_
  refine al_nil ?_
  refine aq_then ?_
  refine aw_block ?_
  refine aw_state (aw_loop (ι := (List UInt8) × Int) (fun i => (memOf w0 Z0 [] [] [])) (fun i => (tab [(0, (str a0)), (5, (str i.1)), (6, (Value.int .i64 i.2))])) (fun q i => f_lumref_GetText_L3 a0 q i.1 i.2 = some r) ?_ fu (([] : List UInt8), (0 : Int)) h) (fun w a hm hs => norm hm hs [] [] [(0, (str a0)), (5, (str ([] : List UInt8))), (6, (Value.int .i64 (0 : Int)))] (by decide) ⟨rfl, rfl, rfl, trivial⟩)
  clear h
  rintro k2 ⟨l1s5, l1i6⟩ h
  have h : f_lumref_GetText_L3 a0 k2 l1s5 l1i6 = some r := h
  obtain _ | k2 := k2
  · rw [f_lumref_GetText_L3] at h; cases h
  rw [f_lumref_GetText_L3] at h
  refine aw_show (m := (memOf w0 Z0 [] [] [])) (S := (tab [(0, (str a0)), (5, (str l1s5)), (6, (Value.int .i64 l1i6))])) ?_
  refine aw_block ?_
  refine aw_seq ?_
  obtain ⟨kk5, hkk5, h⟩ := lt_some h
  refine aw_seq_join (ι := Bool) (fun i => (memOf w0 Z0 [] [] [])) (fun i => (tab [(0, (str a0)), (5, (str l1s5)), (6, (Value.int .i64 l1i6)), (24, (Value.bool i))])) (fun i => kk5 i = some r) ?_ ?_
  · rintro j4b24 h
    have h : kk5 j4b24 = some r := h
    rw [hkk5] at h
    dsimp only at h
    clear hkk5
    refine aw_show (m := (memOf w0 Z0 [] [] [])) (S := (tab [(0, (str a0)), (5, (str l1s5)), (6, (Value.int .i64 l1i6)), (24, (Value.bool j4b24))])) ?_
    refine aw_cond rfl (fun hb6 => ?_) (fun hb6 => ?_)
    · replace h := bif_t hb6 h
      refine aw_seq ?_
      refine aw_region ?_
      refine al_val (ov_assign rfl rfl) ?_
      refine al_val (ov_assign rfl rfl) ?_
      refine al_val (ov_assign rfl rfl) ?_
      refine al_nil ?_
      refine aq_then ?_
      refine aw_ret ?_
      refine aq_then_ret ?_
      refine aq_block_ret ?_
      refine aq_then_ret ?_
      refine aq_block_ret ?_
      obtain rfl := Option.some.inj h
      exact fn_ret () [] [] rfl rfl rfl rfl (res3 rfl rfl rfl rfl) rfl rfl rfl (by decide)
    · replace h := bif_f hb6 h
      refine aw_skip ?_
      refine aq_then ?_
      refine aw_seq ?_
      refine aw_region ?_
      refine al_val (ov_assign rfl rfl) ?_
      refine al_nil ?_
      refine aq_then ?_
      obtain ⟨kk8, hkk8, h⟩ := lt_some h
      refine aw_seq_join (ι := Int) (fun i => (memOf w0 Z0 [] [] [])) (fun i => (tab [(0, (str a0)), (5, (str l1s5)), (6, (Value.int .i64 l1i6)), (7, (Value.int .i64 i))])) (fun i => kk8 i = some r) ?_ ?_
      · rintro j7i7 h
        have h : kk8 j7i7 = some r := h
        rw [hkk8] at h
        dsimp only at h
        clear hkk8
        refine aw_show (m := (memOf w0 Z0 [] [] [])) (S := (tab [(0, (str a0)), (5, (str l1s5)), (6, (Value.int .i64 l1i6)), (7, (Value.int .i64 j7i7))])) ?_
        refine aw_seq ?_
        refine aw_seq ?_
        refine aw_region ?_
        refine al_val (ov_move rfl rfl) ?_
        refine al_val (ov_strLen Tryd.underlying9 rfl rfl) ?_
        refine al_val (ov_int rfl rfl rfl rfl) ?_
        refine al_nil ?_
        refine aq_then ?_
        refine aw_cond rfl (fun hb9 => ?_) (fun hb9 => ?_)
        · replace h := bif_t hb9 h
          refine aw_seq ?_
          refine aw_region ?_
          refine al_val (ov_assign rfl rfl) ?_
          refine al_val (ov_assign rfl rfl) ?_
          refine al_val (ov_assign rfl rfl) ?_
          refine al_nil ?_
          refine aq_then ?_
          refine aw_ret ?_
          refine aq_then_ret ?_
          refine aq_block_ret ?_
          refine aq_then_ret ?_
          refine aq_block_ret ?_
          obtain rfl := Option.some.inj h
          exact fn_ret () [] [] rfl rfl rfl rfl (res3 rfl rfl rfl rfl) rfl rfl rfl (by decide)
        · replace h := bif_f hb9 h
          refine aw_skip ?_
          refine aq_then ?_
          refine aw_seq ?_
          refine aw_region ?_
          refine al_val (ov_move rfl rfl) ?_
          refine al_val (ov_move rfl rfl) ?_
          refine al_val (ov_move rfl rfl) ?_
          refine al_val (ov_move rfl rfl) ?_
          refine al_val (ov_int rfl rfl rfl rfl) ?_
          obtain ⟨hc10, h⟩ := req_some h
          refine al_val (ov_strCut hc10.1 hc10.2.1 hc10.2.2 Tryd.underlying9 rfl rfl rfl rfl) ?_
          obtain ⟨hc11, h⟩ := req_some h
          refine al_val (ov_strAdd hc11 rfl rfl rfl) ?_
          refine al_val (ov_assign rfl rfl) ?_
          refine al_nil ?_
          refine aq_then ?_
          refine aw_region ?_
          refine al_val (ov_move rfl rfl) ?_
          refine al_val (ov_move rfl rfl) ?_
          refine al_val (ov_int rfl rfl rfl rfl) ?_
          refine al_val (ov_assign rfl rfl) ?_
          refine al_nil ?_
          refine aq_block ?_
          exact aq_again k2 ((l1s5 ++ (cut a0 l1i6 (IntKind.i64.wrap (l1i6 + (1 : Int))))), (IntKind.i64.wrap (l1i6 + j7i7))) (Nat.lt_succ_self _) h (fun w a hm hs => norm hm hs [] [] [(0, (str a0)), (5, (str (l1s5 ++ (cut a0 l1i6 (IntKind.i64.wrap (l1i6 + (1 : Int))))))), (6, (Value.int .i64 (IntKind.i64.wrap (l1i6 + j7i7))))] (by decide) ⟨rfl, rfl, rfl, trivial⟩)
      · clear hkk8
        refine aw_seq ?_
        refine aw_region ?_
        refine al_val (ov_move rfl rfl) ?_
        refine al_val (ov_move rfl rfl) ?_
        obtain ⟨hc12, h⟩ := req_some h
        refine al_val (ov_strIdx hc12.1 hc12.2 Tryd.underlying9 rfl rfl rfl) ?_
        refine al_val (ov_int rfl rfl rfl rfl) ?_
        refine al_nil ?_
        refine aq_then ?_
        refine aw_cond rfl (fun hb13 => ?_) (fun hb13 => ?_)
        · replace h := bif_t hb13 h
          refine aw_seq ?_
          refine aw_seq ?_
          refine aw_region ?_
          refine al_val (ov_move rfl rfl) ?_
          refine al_val (ov_move rfl rfl) ?_
          refine al_val (ov_int rfl rfl rfl rfl) ?_
          obtain ⟨hc14, h⟩ := req_some h
          refine al_val (ov_strIdx hc14.1 hc14.2 Tryd.underlying9 rfl rfl rfl) ?_
          refine al_val (ov_int rfl rfl rfl rfl) ?_
          refine al_nil ?_
          refine aq_then ?_
          refine aw_cond rfl (fun hb15 => ?_) (fun hb15 => ?_)
          · replace h := bif_t hb15 h
            refine aw_seq ?_
            refine aw_region ?_
            refine al_val (ov_move rfl rfl) ?_
            refine al_val (ov_move rfl rfl) ?_
            refine al_val (ov_int rfl rfl rfl rfl) ?_
            refine al_val (ov_assign rfl rfl) ?_
            refine al_val (ov_assign rfl rfl) ?_
            refine al_val (ov_assign rfl rfl) ?_
            refine al_nil ?_
            refine aq_then ?_
            refine aw_ret ?_
            refine aq_then_ret ?_
            refine aq_then_ret ?_
            refine aq_block_ret ?_
            refine aq_then_ret ?_
            refine aq_block_ret ?_
            obtain rfl := Option.some.inj h
            exact fn_ret () [] [] rfl rfl rfl rfl (res3 rfl rfl rfl rfl) rfl rfl rfl (by decide)
          · replace h := bif_f hb15 h
            refine aw_skip ?_
            refine aq_then ?_
            refine aw_seq ?_
            refine aw_seq ?_
            refine aw_region ?_
            refine al_val (ov_move rfl rfl) ?_
            refine al_val (ov_move rfl rfl) ?_
            refine al_val (ov_int rfl rfl rfl rfl) ?_
            obtain ⟨hc16, h⟩ := req_some h
            refine al_val (ov_strIdx hc16.1 hc16.2 Tryd.underlying9 rfl rfl rfl) ?_
            refine al_val (ov_int rfl rfl rfl rfl) ?_
            refine al_nil ?_
            refine aq_then ?_
            refine aw_cond rfl (fun hb17 => ?_) (fun hb17 => ?_)
            · replace h := bif_t hb17 h
              refine aw_seq ?_
              refine aw_region ?_
              refine al_val (ov_assign rfl rfl) ?_
              refine al_val (ov_assign rfl rfl) ?_
              refine al_val (ov_assign rfl rfl) ?_
              refine al_nil ?_
              refine aq_then ?_
              refine aw_ret ?_
              refine aq_then_ret ?_
              refine aq_then_ret ?_
              refine aq_block_ret ?_
              refine aq_then_ret ?_
              refine aq_block_ret ?_
              obtain rfl := Option.some.inj h
              exact fn_ret () [] [] rfl rfl rfl rfl (res3 rfl rfl rfl rfl) rfl rfl rfl (by decide)
            · replace h := bif_f hb17 h
              refine aw_skip ?_
              refine aq_then ?_
              refine aw_region ?_
              refine al_val (ov_assign rfl rfl) ?_
              refine al_nil ?_
              exact aq_join (2 : Int) h (fun w a hm hs => norm hm hs [] [] [(0, (str a0)), (5, (str l1s5)), (6, (Value.int .i64 l1i6)), (7, (Value.int .i64 (2 : Int)))] (by decide) ⟨rfl, rfl, rfl, rfl, trivial⟩)
        · replace h := bif_f hb13 h
          refine aw_skip ?_
          exact aq_join (1 : Int) h (fun w a hm hs => norm hm hs [] [] [(0, (str a0)), (5, (str l1s5)), (6, (Value.int .i64 l1i6)), (7, (Value.int .i64 (1 : Int)))] (by decide) ⟨rfl, rfl, rfl, rfl, trivial⟩)
  · clear hkk5
    refine aw_region ?_
    refine al_val (ov_move rfl rfl) ?_
    refine al_val (ov_move rfl rfl) ?_
    refine al_val (ov_strLen Tryd.underlying9 rfl rfl) ?_
    refine al_val (ov_int rfl rfl rfl rfl) ?_
    refine al_val (ov_move rfl rfl) ?_
    refine al_caseB 12 rfl (fun hb18 => ?_) (fun hb18 => ?_)
    · replace h := bif_t hb18 h
      refine al_skip ?_
      refine al_skip ?_
      refine al_skip ?_
      refine al_skip ?_
      refine al_skip ?_
      refine al_skip ?_
      refine al_skip ?_
      refine al_skip ?_
      refine al_skip ?_
      refine al_skip ?_
      refine al_skip ?_
      refine al_val (ov_pick_t rfl rfl rfl) ?_
      refine al_nil ?_
      exact aq_join true h (fun w a hm hs => norm hm hs [] [] [(0, (str a0)), (5, (str l1s5)), (6, (Value.int .i64 l1i6)), (24, (Value.bool true))] (by decide) ⟨rfl, rfl, rfl, rfl, trivial⟩)
    · replace h := bif_f hb18 h
      refine al_val (ov_move rfl rfl) ?_
      refine al_val (ov_move rfl rfl) ?_
      obtain ⟨hc19, h⟩ := req_some h
      refine al_val (ov_strIdx hc19.1 hc19.2 Tryd.underlying9 rfl rfl rfl) ?_
      refine al_val (ov_int rfl rfl rfl rfl) ?_
      refine al_val (ov_move rfl rfl) ?_
      refine al_caseB 17 rfl (fun hb20 => ?_) (fun hb20 => ?_)
      · replace h := bif_t hb20 h
        refine al_val (ov_move rfl rfl) ?_
        refine al_val (ov_int rfl rfl rfl rfl) ?_
        refine al_val (ov_move rfl rfl) ?_
        refine al_val (ov_strLen Tryd.underlying9 rfl rfl) ?_
        refine al_val (ov_int rfl rfl rfl rfl) ?_
        refine al_val (ov_pick_t rfl rfl rfl) ?_
        refine al_val (ov_pick_f rfl rfl rfl) ?_
        refine al_nil ?_
        exact aq_join (decide ((IntKind.i64.wrap (l1i6 + (1 : Int))) ≥ (a0.length : Int))) h (fun w a hm hs => norm hm hs [] [] [(0, (str a0)), (5, (str l1s5)), (6, (Value.int .i64 l1i6)), (24, (Value.bool (decide ((IntKind.i64.wrap (l1i6 + (1 : Int))) ≥ (a0.length : Int)))))] (by decide) ⟨rfl, rfl, rfl, rfl, trivial⟩)
      · replace h := bif_f hb20 h
        refine al_skip ?_
        refine al_skip ?_
        refine al_skip ?_
        refine al_skip ?_
        refine al_skip ?_
        refine al_val (ov_pick_f rfl rfl rfl) ?_
        refine al_val (ov_pick_f rfl rfl rfl) ?_
        refine al_nil ?_
        exact aq_join false h (fun w a hm hs => norm hm hs [] [] [(0, (str a0)), (5, (str l1s5)), (6, (Value.int .i64 l1i6)), (24, (Value.bool false))] (by decide) ⟨rfl, rfl, rfl, rfl, trivial⟩)
def f_lumref_HeadRead_L32 (kk18 : ((List S_api_Snap) → Bool → Option (S_api_Head × Int))) (fu : Nat) : Nat → (List S_api_Snap) → (List UInt8) → Bool → Int → Option (S_api_Head × Int)
  | 0, _, _, _, _ => none
  | k31 + 1, l30x6_2, l30s7_0, l30b8_0, l30i11 => (lt (fun (j33b54 : Bool) => (bif j33b54 then (opt (f_lumref_GetText fu l30s7_0) fun (r37 : ((List UInt8) × Int × Int)) => (bif (r37.2.2 != (0 : Int)) then (kk18 l30x6_2 false) else (req (0 ≤ r37.2.1 ∧ r37.2.1 ≤ (l30s7_0.length : Int)) (opt (f_lumref_HeadRead_1 fu (l30s7_0.drop (r37.2.1).toNat) l30b8_0) fun (r41 : (Int × (List UInt8) × Bool)) => (bif (decide ((r41.2.1.length : Int) < (8 : Int))) then (kk18 l30x6_2 false) else (req (0 ≤ (8 : Int) ∧ (8 : Int) ≤ (r41.2.1.length : Int)) (req (((l30x6_2.length + ([(S_api_Snap.mk r37.1 r41.1 (cpA8u8 (A8u8.mk (0 : UInt8) (0 : UInt8) (0 : UInt8) (0 : UInt8) (0 : UInt8) (0 : UInt8) (0 : UInt8) (0 : UInt8)) r41.2.1))]).length) * 32 : Nat) ≤ 140737488355328 ∧ l30x6_2.length + ([(S_api_Snap.mk r37.1 r41.1 (cpA8u8 (A8u8.mk (0 : UInt8) (0 : UInt8) (0 : UInt8) (0 : UInt8) (0 : UInt8) (0 : UInt8) (0 : UInt8) (0 : UInt8)) r41.2.1))]).length ≤ 9223372036854775807) (f_lumref_HeadRead_L32 kk18 fu k31 (l30x6_2 ++ ([(S_api_Snap.mk r37.1 r41.1 (cpA8u8 (A8u8.mk (0 : UInt8) (0 : UInt8) (0 : UInt8) (0 : UInt8) (0 : UInt8) (0 : UInt8) (0 : UInt8) (0 : UInt8)) r41.2.1))])) (r41.2.1.drop ((8 : Int)).toNat) r41.2.2 (IntKind.i64.wrap (l30i11 - (1 : Int))))))))))) else (kk18 l30x6_2 l30b8_0))) fun (kk34 : Bool → Option (S_api_Head × Int)) => (bif (decide (l30i11 > (0 : Int))) then (kk34 l30b8_0) else (kk34 false)))
def f_lumref_HeadRead_L53 (kk16 : ((List Int) → (List UInt8) → Bool → Option (S_api_Head × Int))) (fu : Nat) : Nat → (List Int) → (List UInt8) → Bool → Int → Option (S_api_Head × Int)
  | 0, _, _, _, _ => none
  | k52 + 1, l51x6_1, l51s7_0, l51b8_0, l51i10 => (lt (fun (j54b38 : Bool) => (bif j54b38 then (opt (f_lumref_HeadRead_1 fu l51s7_0 l51b8_0) fun (r58 : (Int × (List UInt8) × Bool)) => (req (((l51x6_1.length + ([r58.1]).length) * 8 : Nat) ≤ 140737488355328 ∧ l51x6_1.length + ([r58.1]).length ≤ 9223372036854775807) (f_lumref_HeadRead_L53 kk16 fu k52 (l51x6_1 ++ ([r58.1])) r58.2.1 r58.2.2 (IntKind.i64.wrap (l51i10 - (1 : Int)))))) else (kk16 l51x6_1 l51s7_0 l51b8_0))) fun (kk55 : Bool → Option (S_api_Head × Int)) => (bif (decide (l51i10 > (0 : Int))) then (kk55 l51b8_0) else (kk55 false)))
def f_lumref_HeadRead (fu : Nat) (a0 : (List UInt8)) : Option (S_api_Head × Int) := (opt (f_lumref_Scan fu a0) fun (r3 : ((List (List UInt8)) × Int)) => (bif ((r3.1.length : Int) == (0 : Int)) then (some ((S_api_Head.mk (0 : Int) ([] : (List Int)) ([] : (List S_api_Snap))), (4 : Int))) else (opt (at? r3.1 (0 : Int)) fun (u7 : (List UInt8)) => (opt (f_lumref_HeadRead_1 fu u7 true) fun (r14 : (Int × (List UInt8) × Bool)) => (lt (fun (j15x6_1 : (List Int)) (j15s7_0 : (List UInt8)) (j15b8_0 : Bool) => (lt (fun (j17x6_2 : (List S_api_Snap)) (j17b8_0 : Bool) => (lt (fun (j19b99 : Bool) => (bif j19b99 then (some ((S_api_Head.mk (0 : Int) ([] : (List Int)) ([] : (List S_api_Snap))), (4 : Int))) else (some ((S_api_Head.mk r14.1 j15x6_1 j17x6_2), (0 : Int))))) fun (kk20 : Bool → Option (S_api_Head × Int)) => (bif (!j17b8_0) then (kk20 true) else (opt (f_lumref_HeadErr fu (S_api_Head.mk r14.1 j15x6_1 j17x6_2)) fun (r24 : Int) => (bif (r24 != (0 : Int)) then (kk20 true) else (opt (f_lumref_HeadText fu (S_api_Head.mk r14.1 j15x6_1 j17x6_2)) fun (r27 : (List UInt8)) => (kk20 (!(r27 == a0))))))))) fun (kk18 : (List S_api_Snap) → Bool → Option (S_api_Head × Int)) => (opt (f_lumref_HeadRead_1 fu j15s7_0 j15b8_0) fun (r29 : (Int × (List UInt8) × Bool)) => (f_lumref_HeadRead_L32 kk18 fu fu ([] : List S_api_Snap) r29.2.1 r29.2.2 r29.1)))) fun (kk16 : (List Int) → (List UInt8) → Bool → Option (S_api_Head × Int)) => (opt (f_lumref_HeadRead_1 fu r14.2.1 r14.2.2) fun (r50 : (Int × (List UInt8) × Bool)) => (f_lumref_HeadRead_L53 kk16 fu fu ([] : List Int) r50.2.1 r50.2.2 r50.1)))))))
end Go.Proofs.YtjbgahmcobcojaaDoor
