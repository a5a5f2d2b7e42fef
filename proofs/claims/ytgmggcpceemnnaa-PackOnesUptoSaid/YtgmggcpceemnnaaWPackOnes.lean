/- Walks by program. No condition. -/
import Derived.Test.YtgmggcpceemnnaaEn25
import Derived.Test.YtgmggcpceemnnaaChecked
import Derived.Test.YtgmggcpceemnnaaEn25
import Derived.Test.YtgmggcpceemnnaaShBEPut
import Derived.Test.YtgmggcpceemnnaaShCont
import Derived.Test.YtgmggcpceemnnaaShRepeat
import Derived.Test.YtgmggcpceemnnaaEnS
import Derived.Test.YtgmggcpceemnnaaWPackOnes_b
namespace Go.Proofs.Ytgmggcpceemnnaa
open Go.RowKit Ytgmggcpceemnnaa.En
set_option linter.unusedVariables false
set_option linter.unusedSimpArgs false
open Go.Value (int bool)
set_option maxRecDepth 100000 in
theorem f_lumref_Narrow_ok (fu : Nat) (a0 : Int) (a1 : (List UInt8)) {r : Int} (h : f_lumref_Narrow fu a0 a1 = some r) : FnOk Try.prog 189 [(int .i64 a0), (str a1)] [] [] (fun (i : Unit) => { val := (int .u64 r) }) := by
 unfold f_lumref_Narrow at h
 refine fn_enter Try.func189 rfl Try.ntmps189 rfl (fun w0 Z0 => ?_)
 refine aw_sr ?_
 refine al_box (vs := [(int .i64 a0)]) rfl (cv_rfl rfl) rfl (fun g1 => ?_)
 refine al_as rfl rfl ?_
 refine al_nt ?_
 refine aw_sr ?_
 refine al_as rfl rfl ?_
 refine al_nt ?_
 refine aw_sr ?_
 refine al_val (ov_makeFunc2 (vs := [(ptr g1 0)]) rfl rfl) ?_
 refine al_as rfl rfl ?_
 refine al_nt ?_
 refine aw_sr ?_
 refine al_mv rfl rfl ?_
 refine al_mv rfl rfl ?_
 refine al_val (ov_strLen Try.underlying9 rfl rfl) ?_
 refine al_val (ov_rem (by decide) rfl rfl rfl) ?_
 refine al_in rfl rfl rfl rfl ?_
 refine al_val (ov_rem (by decide) rfl rfl rfl) ?_
 obtain ⟨r3, hc2, h⟩ := opt_some h
 refine al_call (vs := [(str ([0] : List UInt8)), (int .i64 (((IntKind.i64.wrap ((8 : Int) - (((a1.length : Int)).tmod (8 : Int))))).tmod (8 : Int)))]) (f_strings_Repeat_ok fu ([0] : List UInt8) (((IntKind.i64.wrap ((8 : Int) - (((a1.length : Int)).tmod (8 : Int))))).tmod (8 : Int)) hc2) [] [] [0] pre_nil rfl (by simp) (by decide) (.inl rfl) rfl Try.func133 rfl rfl rfl (fun _ => ?_)
 obtain ⟨hc4, h⟩ := req_some h
 refine al_val (ov_strAdd hc4 rfl rfl rfl) ?_
 refine al_as rfl rfl ?_
 refine al_nt ?_
 obtain ⟨kk6, hkk6, h⟩ := lt_some h
 refine aw_seq_join (ι := Int) (fun i => (memOf w0 Z0 [] [(oBox g1 3 [(int .i64 a0)])] [])) (fun i => (tab [(1, (str a1)), (5, (int .u64 i)), (6, (Value.func (.func 219) #[] #[(ptr g1 0)]))])) (fun i => kk6 i = some r) ?_ ?_
 ·rintro j5i5 h
  have h : kk6 j5i5 = some r := h
  rw [hkk6] at h
  dsimp only at h
  clear hkk6
  refine aw_show (m := (memOf w0 Z0 [] [(oBox g1 3 [(int .i64 a0)])] [])) (S := (tab [(1, (str a1)), (5, (int .u64 j5i5)), (6, (Value.func (.func 219) #[] #[(ptr g1 0)]))])) ?_
  refine aw_sr ?_
  refine al_mv rfl rfl ?_
  refine al_mv rfl rfl ?_
  refine al_mv rfl rfl ?_
  refine al_val (ov_strLen Try.underlying9 rfl rfl) ?_
  refine al_val (ov_convInt (by rw [Try.underlying3]; rfl) Try.underlying55 rfl rfl) ?_
  obtain ⟨r8, hc7, h⟩ := opt_some h
  refine al_call (vs := [(int .u64 j5i5), (int .u64 (IntKind.u64.wrap (a1.length : Int)))]) (f_lumref_Step_ok fu j5i5 (IntKind.u64.wrap (a1.length : Int)) hc7) [] [] [0] pre_nil rfl (by simp) (by decide) (.inl rfl) rfl Try.func220 rfl rfl rfl (fun _ => ?_)
  obtain ⟨r10, hc9, h⟩ := opt_some h
  refine al_callF (vs := [(int .u64 r8)]) (caps := [(ptr g1 0)]) (f_lumref_Narrow_1_ok fu r8 (ptr g1 0) a0 hc9) rfl [0] [] [0] (pre_boxP (x := a0) 0 rfl rfl (fun _ _ => rfl) pre_nil) rfl (by simp) (by decide) (.inr flat_res0) rfl rfl Try.func219 rfl rfl rfl (fun _ => ?_)
  refine al_as rfl rfl ?_
  refine al_nt ?_
  refine aw_ret ?_
  obtain rfl := Option.some.inj h
  exact fn_ret () [] [] rfl rfl rfl rfl (res1 rfl rfl) rfl rfl rfl (by decide)
 ·clear hkk6
  refine aw_block ?_
  refine aw_state (aw_loop (ι := Int × (List UInt8)) (fun i => (memOf w0 Z0 [] [(oBox g1 3 [(int .i64 a0)])] [])) (fun i => (tab [(1, (str a1)), (5, (int .u64 i.1)), (6, (Value.func (.func 219) #[] #[(ptr g1 0)])), (7, (str i.2))])) (fun q i => f_lumref_Narrow_L13 a0 kk6 fu q i.1 i.2 = some r) ?_ fu ((0 : Int), (a1 ++ r3)) h) (fun w a hm hs => norm hm hs [0] [] [(1, (str a1)), (5, (int .u64 (0 : Int))), (6, (Value.func (.func 219) #[] #[(ptr g1 0)])), (7, (str (a1 ++ r3)))] (by decide) ⟨rfl, rfl, rfl, rfl, trivial⟩)
  clear h
  rintro k12 ⟨l11i5, l11s7⟩ h
  have h : f_lumref_Narrow_L13 a0 kk6 fu k12 l11i5 l11s7 = some r := h
  obtain _ | k12 := k12
  · rw [f_lumref_Narrow_L13] at h; cases h
  rw [f_lumref_Narrow_L13] at h
  refine aw_show (m := (memOf w0 Z0 [] [(oBox g1 3 [(int .i64 a0)])] [])) (S := (tab [(1, (str a1)), (5, (int .u64 l11i5)), (6, (Value.func (.func 219) #[] #[(ptr g1 0)])), (7, (str l11s7))])) ?_
  obtain ⟨kk14, hkk14, h⟩ := lt_some h
  refine aw_body_join (ι := Int × (List UInt8)) (fun i => (memOf w0 Z0 [] [(oBox g1 3 [(int .i64 a0)])] [])) (fun i => (tab [(1, (str a1)), (5, (int .u64 i.1)), (6, (Value.func (.func 219) #[] #[(ptr g1 0)])), (7, (str i.2))])) (fun i => kk14 i.1 i.2 = some r) (fun i h => aq_again k12 i (Nat.lt_succ_self _) (by rw [hkk14] at h; exact h) (fun w a hm hs => ⟨hm, hs⟩)) ?_
  clear hkk14
  refine aw_seq ?_
  refine aw_sr ?_
  refine al_mv rfl rfl ?_
  refine al_val (ov_strCmp rfl rfl rfl rfl) ?_
  refine al_nt ?_
  refine aw_cond rfl (fun hb15 => ?_) (fun hb15 => ?_)
  ·replace h := bif_t hb15 h
   refine aw_skip ?_
   refine aq_then ?_
   obtain ⟨kk17, hkk17, h⟩ := lt_some h
   refine aw_seq_join (ι := Int) (fun i => (memOf w0 Z0 [] [(oBox g1 3 [(int .i64 a0)])] [])) (fun i => (tab [(1, (str a1)), (5, (int .u64 i)), (6, (Value.func (.func 219) #[] #[(ptr g1 0)])), (7, (str l11s7))])) (fun i => kk17 i = some r) ?_ ?_
   ·rintro j16i5 h
    have h : kk17 j16i5 = some r := h
    rw [hkk17] at h
    dsimp only at h
    clear hkk17
    refine aw_show (m := (memOf w0 Z0 [] [(oBox g1 3 [(int .i64 a0)])] [])) (S := (tab [(1, (str a1)), (5, (int .u64 j16i5)), (6, (Value.func (.func 219) #[] #[(ptr g1 0)])), (7, (str l11s7))])) ?_
    refine aw_region ?_
    refine al_mv rfl rfl ?_
    obtain ⟨hc18, h⟩ := req_some h
    refine al_val (ov_strFrom hc18.1 hc18.2 Try.underlying9 rfl rfl rfl) ?_
    refine al_as rfl rfl ?_
    refine al_nil ?_
    exact aq_join (j16i5, (l11s7.drop ((8 : Int)).toNat)) h (fun w a hm hs => norm hm hs [0] [] [(1, (str a1)), (5, (int .u64 j16i5)), (6, (Value.func (.func 219) #[] #[(ptr g1 0)])), (7, (str (l11s7.drop ((8 : Int)).toNat)))] (by decide) ⟨rfl, rfl, rfl, rfl, trivial⟩)
   ·clear hkk17
    refine aw_block ?_
    refine aw_sr ?_
    refine al_as rfl rfl ?_
    refine al_nt ?_
    obtain ⟨kk20, hkk20, h⟩ := lt_some h
    refine aw_seq_join (ι := Int) (fun i => (memOf w0 Z0 [] [(oBox g1 3 [(int .i64 a0)])] [])) (fun i => (tab [(1, (str a1)), (5, (int .u64 l11i5)), (6, (Value.func (.func 219) #[] #[(ptr g1 0)])), (7, (str l11s7)), (8, (int .u64 i))])) (fun i => kk20 i = some r) ?_ ?_
    ·rintro j19i8 h
     have h : kk20 j19i8 = some r := h
     rw [hkk20] at h
     dsimp only at h
     clear hkk20
     refine aw_show (m := (memOf w0 Z0 [] [(oBox g1 3 [(int .i64 a0)])] [])) (S := (tab [(1, (str a1)), (5, (int .u64 l11i5)), (6, (Value.func (.func 219) #[] #[(ptr g1 0)])), (7, (str l11s7)), (8, (int .u64 j19i8))])) ?_
     refine aw_region ?_
     refine al_mv rfl rfl ?_
     refine al_mv rfl rfl ?_
     refine al_mv rfl rfl ?_
     obtain ⟨r22, hc21, h⟩ := opt_some h
     refine al_call (vs := [(int .u64 l11i5), (int .u64 j19i8)]) (f_lumref_Step_ok fu l11i5 j19i8 hc21) [] [] [0] pre_nil rfl (by simp) (by decide) (.inl rfl) rfl Try.func220 rfl rfl rfl (fun _ => ?_)
     obtain ⟨r24, hc23, h⟩ := opt_some h
     refine al_callF (vs := [(int .u64 r22)]) (caps := [(ptr g1 0)]) (f_lumref_Narrow_1_ok fu r22 (ptr g1 0) a0 hc23) rfl [0] [] [0] (pre_boxP (x := a0) 0 rfl rfl (fun _ _ => rfl) pre_nil) rfl (by simp) (by decide) (.inr flat_res0) rfl rfl Try.func219 rfl rfl rfl (fun _ => ?_)
     refine al_as rfl rfl ?_
     refine al_nil ?_
     refine aq_block ?_
     exact aq_join r24 h (fun w a hm hs => norm hm hs [0] [] [(1, (str a1)), (5, (int .u64 r24)), (6, (Value.func (.func 219) #[] #[(ptr g1 0)])), (7, (str l11s7))] (by decide) ⟨rfl, rfl, rfl, rfl, trivial⟩)
    ·clear hkk20
     refine aw_sr ?_
     refine al_as rfl rfl ?_
     refine al_nt ?_
     refine aw_block ?_
     refine aw_state (aw_loop (ι := Int × Int) (fun i => (memOf w0 Z0 [] [(oBox g1 3 [(int .i64 a0)])] [])) (fun i => (tab [(1, (str a1)), (5, (int .u64 l11i5)), (6, (Value.func (.func 219) #[] #[(ptr g1 0)])), (7, (str l11s7)), (8, (int .u64 i.1)), (9, (int .i64 i.2))])) (fun q i => f_lumref_Narrow_L27 l11s7 kk20 q i.1 i.2 = some r) ?_ fu ((0 : Int), (7 : Int)) h) (fun w a hm hs => norm hm hs [0] [] [(1, (str a1)), (5, (int .u64 l11i5)), (6, (Value.func (.func 219) #[] #[(ptr g1 0)])), (7, (str l11s7)), (8, (int .u64 (0 : Int))), (9, (int .i64 (7 : Int)))] (by decide) ⟨rfl, rfl, rfl, rfl, rfl, rfl, trivial⟩)
     clear h
     rintro k26 ⟨l25i8, l25i9⟩ h
     have h : f_lumref_Narrow_L27 l11s7 kk20 k26 l25i8 l25i9 = some r := h
     obtain _ | k26 := k26
     · rw [f_lumref_Narrow_L27] at h; cases h
     rw [f_lumref_Narrow_L27] at h
     refine aw_show (m := (memOf w0 Z0 [] [(oBox g1 3 [(int .i64 a0)])] [])) (S := (tab [(1, (str a1)), (5, (int .u64 l11i5)), (6, (Value.func (.func 219) #[] #[(ptr g1 0)])), (7, (str l11s7)), (8, (int .u64 l25i8)), (9, (int .i64 l25i9))])) ?_
     refine aw_seq ?_
     refine aw_sr ?_
     refine al_mv rfl rfl ?_
     refine al_in rfl rfl rfl rfl ?_
     refine al_nt ?_
     refine aw_cond rfl (fun hb28 => ?_) (fun hb28 => ?_)
     ·replace h := bif_t hb28 h
      refine aw_skip ?_
      refine aq_then ?_
      refine aw_seq ?_
      refine aw_block ?_
      refine aw_region ?_
      refine al_mv rfl rfl ?_
      refine al_in rfl rfl rfl rfl ?_
      refine al_mv rfl rfl ?_
      refine al_mv rfl rfl ?_
      obtain ⟨hc29, h⟩ := req_some h
      refine al_val (ov_strIdx hc29.1 hc29.2 Try.underlying9 rfl rfl rfl) ?_
      refine al_val (ov_convInt (by rw [Try.underlying5]; rfl) Try.underlying55 rfl rfl) ?_
      refine al_in rfl rfl rfl rfl ?_
      refine al_as rfl rfl ?_
      refine al_nil ?_
      refine aq_block ?_
      refine aq_then ?_
      refine aw_region ?_
      refine al_mv rfl rfl ?_
      refine al_in rfl rfl rfl rfl ?_
      refine al_as rfl rfl ?_
      refine al_nil ?_
      exact aq_again k26 ((IntKind.u64.wrap ((IntKind.u64.wrap ((256 : Int) * l25i8)) + (IntKind.u64.wrap (En.bAt l11s7 l25i9)))), (IntKind.i64.wrap (l25i9 - (1 : Int)))) (Nat.lt_succ_self _) h (fun w a hm hs => norm hm hs [0] [] [(1, (str a1)), (5, (int .u64 l11i5)), (6, (Value.func (.func 219) #[] #[(ptr g1 0)])), (7, (str l11s7)), (8, (int .u64 (IntKind.u64.wrap ((IntKind.u64.wrap ((256 : Int) * l25i8)) + (IntKind.u64.wrap (En.bAt l11s7 l25i9)))))), (9, (int .i64 (IntKind.i64.wrap (l25i9 - (1 : Int)))))] (by decide) ⟨rfl, rfl, rfl, rfl, rfl, rfl, trivial⟩)
     ·replace h := bif_f hb28 h
      refine aw_exit ?_
      refine aq_then_exit ?_
      refine aq_then_exit ?_
      refine aq_block_exit ?_
      exact aq_join l25i8 h (fun w a hm hs => norm hm hs [0] [] [(1, (str a1)), (5, (int .u64 l11i5)), (6, (Value.func (.func 219) #[] #[(ptr g1 0)])), (7, (str l11s7)), (8, (int .u64 l25i8))] (by decide) ⟨rfl, rfl, rfl, rfl, rfl, trivial⟩)
  ·replace h := bif_f hb15 h
   refine aw_exit ?_
   refine aq_then_exit ?_
   refine aq_then_exit ?_
   refine aq_block_exit ?_
   exact aq_join l11i5 h (fun w a hm hs => norm hm hs [0] [] [(1, (str a1)), (5, (int .u64 l11i5)), (6, (Value.func (.func 219) #[] #[(ptr g1 0)]))] (by decide) ⟨rfl, rfl, rfl, trivial⟩)
def f_lumref_digits : Nat → Int → Option (List UInt8)
  | 0, _ => none
  | fu + 1, a0 => (bif (a0 == (0 : Int)) then (some ([] : List UInt8)) else (opt (f_lumref_digits fu (IntKind.u64.wrap ((a0).tdiv (256 : Int)))) fun (r3 : (List UInt8)) => (req (0 ≤ (IntKind.u8.wrap ((a0).tmod (256 : Int))) ∧ (IntKind.u8.wrap ((a0).tmod (256 : Int))) ≤ 255) (req (r3.length + ([(UInt8.ofNat ((IntKind.u8.wrap ((a0).tmod (256 : Int)))).toNat)]).length ≤ 9223372036854775807) (some (r3 ++ ([(UInt8.ofNat ((IntKind.u8.wrap ((a0).tmod (256 : Int)))).toNat)])))))))
set_option maxRecDepth 100000 in
theorem f_lumref_digits_ok (fu : Nat) (a0 : Int) {r : (List UInt8)} (h : f_lumref_digits fu a0 = some r) : FnOk Try.prog 218 [(int .u64 a0)] [] [] (fun (i : Unit) => { val := (str r) }) := by
 cases fu with
 | zero => rw [f_lumref_digits] at h; cases h
 | succ fu =>
  rw [f_lumref_digits] at h
  refine fn_enter Try.func218 rfl Try.ntmps218 rfl (fun w0 Z0 => ?_)
  refine aw_sr ?_
  refine al_as rfl rfl ?_
  refine al_nt ?_
  refine aw_seq ?_
  refine aw_sr ?_
  refine al_mv rfl rfl ?_
  refine al_in rfl rfl rfl rfl ?_
  refine al_nt ?_
  refine aw_cond rfl (fun hb1 => ?_) (fun hb1 => ?_)
  ·replace h := bif_t hb1 h
   refine aw_sr ?_
   refine al_as rfl rfl ?_
   refine al_nt ?_
   refine aw_ret ?_
   refine aq_then_ret ?_
   obtain rfl := Option.some.inj h
   exact fn_ret () [] [] rfl rfl rfl rfl (res1 rfl rfl) rfl rfl rfl (by decide)
  ·replace h := bif_f hb1 h
   refine aw_skip ?_
   refine aq_then ?_
   refine aw_seq ?_
   obtain ⟨r3, hc2, h⟩ := opt_some h
   obtain ⟨hc5, h⟩ := req_some h
   obtain ⟨hc6, h⟩ := req_some h
   refine aw_region_draw 9 [(5, (fun u => fEq u (int .u64 a0))), (6, (fun u => fEq u (int .u64 (IntKind.u64.wrap ((a0).tdiv (256 : Int)))))), (7, (fun u => fEq u (str r3))), (8, (fun u => fEq u (int .u64 a0))), (9, (fun u => fEq u (int .u64 ((a0).tmod (256 : Int))))), (10, (fun u => fEq u (int .u8 (IntKind.u8.wrap ((a0).tmod (256 : Int)))))), (11, (fun v4 => (fDat (tyList tyU8) [v4] [(UInt8.ofNat ((IntKind.u8.wrap ((a0).tmod (256 : Int)))).toNat)]))), (12, (fun u => fEq u (str [(UInt8.ofNat ((IntKind.u8.wrap ((a0).tmod (256 : Int)))).toNat)]))), (13, (fun u => fEq u (str (r3 ++ ([(UInt8.ofNat ((IntKind.u8.wrap ((a0).tmod (256 : Int)))).toNat)])))))] (tab [(0, (int .u64 a0)), (2, (str ([] : List UInt8)))]) mixed (by kernel_rfl) rfl rfl rfl (fun a hs => hs.tab _ (allT_mem ⟨rfl, rfl, trivial⟩)) ⟨⟨rfl, ld_val (ov_move rfl rfl)⟩, ⟨rfl, ld_eq (j := 0) rfl rfl (ld_val (ov_quo (by decide) rfl rfl rfl))⟩, ⟨rfl, ld_eq (j := 1) rfl rfl (ld_callV (vs := [(int .u64 (IntKind.u64.wrap ((a0).tdiv (256 : Int))))]) (f_lumref_digits_ok fu (IntKind.u64.wrap ((a0).tdiv (256 : Int))) hc2) [] pre_nil rfl Try.func218 rfl rfl rfl)⟩, ⟨rfl, ld_val (ov_move rfl rfl)⟩, ⟨rfl, ld_eq (j := 3) rfl rfl (ld_val (ov_rem (by decide) rfl rfl rfl))⟩, ⟨rfl, ld_eq (j := 4) rfl rfl (ld_val (ov_convInt (by rw [Try.underlying55]; rfl) Try.underlying5 rfl rfl))⟩, ⟨rfl, ld_eq (j := 5) rfl rfl (ld_buildSlice (τ := tyU8) (e := 5) (k := 1) (cs := [(int .u8 (IntKind.u8.wrap ((a0).tmod (256 : Int))))]) (xs := [(UInt8.ofNat ((IntKind.u8.wrap ((a0).tmod (256 : Int)))).toNat)]) rfl (by decide) rfl (fun w a hm hs => ⟨([(int .u8 (IntKind.u8.wrap ((a0).tmod (256 : Int))))]).toArray, rfl, by simp only [List.map_toArray, List.map_cons, List.map_nil, hs.ev (x := .tmp 10) rfl]; exact run_bs [(int .u8 (IntKind.u8.wrap ((a0).tmod (256 : Int))))] [(int .u8 (IntKind.u8.wrap ((a0).tmod (256 : Int))))] Try.underlying121 to5 rfl rfl (bs_cons (l := [(int .u8 (IntKind.u8.wrap ((a0).tmod (256 : Int))))]) (cs := []) (cv_rfl rfl) rfl bs_nil) hm⟩) (fun hm => ⟨_, _, rfl, (fun _ => u8_rep hc5) hm, rfl⟩) rfl)⟩, ⟨rfl, ld_fact (j := 6) rfl rfl (fun v4 => ld_val (ov_toStr 0 rfl rfl Try.underlying121 Try.underlying5 Try.underlying9 rfl))⟩, ⟨rfl, ld_eq (j := 2) rfl rfl (ld_eq (j := 7) rfl rfl (ld_val (ov_strAdd hc6 rfl rfl rfl)))⟩, trivial⟩ ?_
   refine tl_eq 8 rfl ?_
   refine tl_done ?_
   refine al_as rfl rfl ?_
   refine al_nt ?_
   refine aw_ret ?_
   obtain rfl := Option.some.inj h
   exact fn_ret () [] [] rfl rfl rfl rfl (res1 rfl rfl) rfl rfl rfl (by decide)
def f_lumref_wide (fu : Nat) (a0 : Int) : Option (List UInt8) := (opt (f_lumref_digits fu a0) fun (r2 : (List UInt8)) => (opt (f_strings_Repeat fu ([0] : List UInt8) (IntKind.i64.wrap ((8 : Int) - (r2.length : Int)))) fun (r4 : (List UInt8)) => (req (r4.length + r2.length ≤ 9223372036854775807) (some (r4 ++ r2)))))
set_option maxRecDepth 100000 in
theorem f_lumref_wide_ok (fu : Nat) (a0 : Int) {r : (List UInt8)} (h : f_lumref_wide fu a0 = some r) : FnOk Try.prog 188 [(int .u64 a0)] [] [] (fun (i : Unit) => { val := (str r) }) := by
 unfold f_lumref_wide at h
 refine fn_enter Try.func188 rfl Try.ntmps188 rfl (fun w0 Z0 => ?_)
 refine aw_sr ?_
 refine al_as rfl rfl ?_
 refine al_nt ?_
 refine aw_sr ?_
 refine al_mv rfl rfl ?_
 obtain ⟨r2, hc1, h⟩ := opt_some h
 refine al_call (vs := [(int .u64 a0)]) (f_lumref_digits_ok fu a0 hc1) [] [] [] pre_nil rfl (by simp) (by decide) (.inl rfl) rfl Try.func218 rfl rfl rfl (fun _ => ?_)
 refine al_as rfl rfl ?_
 refine al_nt ?_
 refine aw_sr ?_
 refine al_mv rfl rfl ?_
 refine al_val (ov_strLen Try.underlying9 rfl rfl) ?_
 refine al_in rfl rfl rfl rfl ?_
 obtain ⟨r4, hc3, h⟩ := opt_some h
 refine al_call (vs := [(str ([0] : List UInt8)), (int .i64 (IntKind.i64.wrap ((8 : Int) - (r2.length : Int))))]) (f_strings_Repeat_ok fu ([0] : List UInt8) (IntKind.i64.wrap ((8 : Int) - (r2.length : Int))) hc3) [] [] [] pre_nil rfl (by simp) (by decide) (.inl rfl) rfl Try.func133 rfl rfl rfl (fun _ => ?_)
 refine al_mv rfl rfl ?_
 obtain ⟨hc5, h⟩ := req_some h
 refine al_val (ov_strAdd hc5 rfl rfl rfl) ?_
 refine al_as rfl rfl ?_
 refine al_nt ?_
 refine aw_ret ?_
 obtain rfl := Option.some.inj h
 exact fn_ret () [] [] rfl rfl rfl rfl (res1 rfl rfl) rfl rfl rfl (by decide)
def f_lumref_ID (fu : Nat) (a0 : (List UInt8)) : Option A8u8 := (opt (f_lumref_Narrow fu (64 : Int) a0) fun (r3 : Int) => (opt (f_lumref_wide fu r3) fun (r5 : (List UInt8)) => (req (r5.length ≤ 9223372036854775807) (req (8 ≤ r5.length) (some (ofA8u8 r5))))))
set_option maxRecDepth 100000 in
theorem f_lumref_ID_ok (fu : Nat) (a0 : (List UInt8)) {r : A8u8} (h : f_lumref_ID fu a0 = some r) : FnOk Try.prog 155 [(str a0)] [] [] (fun (i : Unit) => { val := (ag (cA8u8 r)) }) := by
 unfold f_lumref_ID at h
 refine fn_enter Try.func155 rfl Try.ntmps155 rfl (fun w0 Z0 => ?_)
 refine aw_sr ?_
 refine al_alloc (zs := (cA8u8 (A8u8.mk (0 : UInt8) (0 : UInt8) (0 : UInt8) (0 : UInt8) (0 : UInt8) (0 : UInt8) (0 : UInt8) (0 : UInt8)))) (zeroOf_to to69) rfl rfl (fun g1 => ?_)
 refine al_nt ?_
 refine aw_sr ?_
 refine al_mv rfl rfl ?_
 obtain ⟨r3, hc2, h⟩ := opt_some h
 refine al_call (vs := [(int .i64 (64 : Int)), (str a0)]) (f_lumref_Narrow_ok fu (64 : Int) a0 hc2) [] [] [0] pre_nil rfl (by simp) (by decide) (.inl rfl) rfl Try.func189 rfl rfl rfl (fun _ => ?_)
 obtain ⟨r5, hc4, h⟩ := opt_some h
 refine al_call (vs := [(int .u64 r3)]) (f_lumref_wide_ok fu r3 hc4) [] [] [0] pre_nil rfl (by simp) (by decide) (.inl rfl) rfl Try.func188 rfl rfl rfl (fun _ => ?_)
 obtain ⟨hc6, h⟩ := req_some h
 refine al_bytes hc6 rfl Try.underlying9 Try.underlying121 Try.underlying5 rfl (fun s7 => ?_)
 obtain ⟨hc9, h⟩ := req_some h
 refine al_s2ap (τA := tyA8u8) (x := (ofA8u8 r5)) 0 8 hc9 rfl (fun h9 => oflA8u8 hc9 h9) rfl rfl Try.underlying69 rfl (fun p8 => ?_)
 refine al_val (ov_loadP (ds := (cA8u8 (ofA8u8 r5))) 0 rfl encA8u8 rfl Try.underlying69 sz69 rfl rfl rfl) ?_
 refine al_store (i := 0) (vs := (cA8u8 (ofA8u8 r5))) (cs' := (cA8u8 (ofA8u8 r5))) rfl rfl rfl sz69 (cv_rfl rfl) rfl (co_all (oneA8u8 (ofA8u8 r5))) (Nat.le_of_ble_eq_true rfl) rfl rfl ?_
 refine al_nt ?_
 refine aw_ret ?_
 obtain rfl := Option.some.inj h
 exact fn_ret () [] [] rfl rfl rfl rfl (resC rfl (resB (i := 0) rfl rfl Try.underlying69 sz69 rfl rfl rfl (resN)) rfl) rfl rfl rfl (by decide)
def f_lumref_BlobID (fu : Nat) (a0 : S_api_Blob) : Option (A8u8 × Int) := (opt (f_lumref_kindOK fu a0.Kind) fun (r4 : Bool) => (bif (!r4) then (some ((A8u8.mk (0 : UInt8) (0 : UInt8) (0 : UInt8) (0 : UInt8) (0 : UInt8) (0 : UInt8) (0 : UInt8) (0 : UInt8)), (5 : Int))) else (bif (decide ((a0.Bytes.length : Int) > (4096 : Int))) then (some ((A8u8.mk (0 : UInt8) (0 : UInt8) (0 : UInt8) (0 : UInt8) (0 : UInt8) (0 : UInt8) (0 : UInt8) (0 : UInt8)), (2 : Int))) else (req (0 ≤ (IntKind.u8.wrap a0.Kind) ∧ (IntKind.u8.wrap a0.Kind) ≤ 255) (req (([(UInt8.ofNat ((IntKind.u8.wrap a0.Kind)).toNat)]).length + a0.Bytes.length ≤ 9223372036854775807) (opt (f_lumref_ID fu (([(UInt8.ofNat ((IntKind.u8.wrap a0.Kind)).toNat)]) ++ a0.Bytes)) fun (r11 : A8u8) => (some (r11, (0 : Int)))))))))
set_option maxRecDepth 100000 in
theorem f_lumref_BlobID_ok (fu : Nat) (a0 : S_api_Blob) {r : (A8u8 × Int)} (h : f_lumref_BlobID fu a0 = some r) : FnOk Try.prog 109 [(ag [(int .i64 a0.Kind), (str a0.Bytes)])] [] [] (fun (i : Unit) => { val := (Value.tuple #[(ag (cA8u8 r.1)), (int .i64 r.2)]) }) := by
 unfold f_lumref_BlobID at h
 refine fn_enter Try.func109 rfl Try.ntmps109 rfl (fun w0 Z0 => ?_)
 refine aw_sr ?_
 refine al_box (vs := [(int .i64 a0.Kind), (str a0.Bytes)]) rfl (cv_rfl rfl) rfl (fun g1 => ?_)
 refine al_alloc (zs := (cA8u8 (A8u8.mk (0 : UInt8) (0 : UInt8) (0 : UInt8) (0 : UInt8) (0 : UInt8) (0 : UInt8) (0 : UInt8) (0 : UInt8)))) (zeroOf_to to69) rfl rfl (fun g2 => ?_)
 refine al_as rfl rfl ?_
 refine al_nt ?_
 refine aw_seq ?_
 refine aw_sr ?_
 refine al_val (ov_fieldA (p := 0) rfl Try.underlying88 rfl sz3 rfl rfl rfl) ?_
 refine al_val (ov_load (i := 1) (v := (int .i64 a0.Kind)) rfl rfl Try.underlying3 sz3 rfl rfl rfl rfl) ?_
 obtain ⟨r4, hc3, h⟩ := opt_some h
 refine al_call (vs := [(int .i64 a0.Kind)]) (f_lumref_kindOK_ok fu a0.Kind hc3) [] [] [0, 1] pre_nil rfl (by simp) (by decide) (.inl rfl) rfl Try.func108 rfl rfl rfl (fun _ => ?_)
 refine al_val (ov_not rfl rfl) ?_
 refine al_nt ?_
 refine aw_cond rfl (fun hb5 => ?_) (fun hb5 => ?_)
 ·replace h := bif_t hb5 h
  refine aw_sr ?_
  refine al_val (ov_build (cells := ((cA8u8 (A8u8.mk (0 : UInt8) (0 : UInt8) (0 : UInt8) (0 : UInt8) (0 : UInt8) (0 : UInt8) (0 : UInt8) (0 : UInt8)))).toArray) (cs := (cA8u8 (A8u8.mk (0 : UInt8) (0 : UInt8) (0 : UInt8) (0 : UInt8) (0 : UInt8) (0 : UInt8) (0 : UInt8) (0 : UInt8)))) rfl (fun w a hm hs => by simp only [List.map_toArray, List.map_cons, List.map_nil, List.toList_toArray]; kernel_rfl)) ?_
  refine al_store (i := 0) (vs := (cA8u8 (A8u8.mk (0 : UInt8) (0 : UInt8) (0 : UInt8) (0 : UInt8) (0 : UInt8) (0 : UInt8) (0 : UInt8) (0 : UInt8)))) (cs' := (cA8u8 (A8u8.mk (0 : UInt8) (0 : UInt8) (0 : UInt8) (0 : UInt8) (0 : UInt8) (0 : UInt8) (0 : UInt8) (0 : UInt8)))) rfl rfl rfl sz69 (cv_rfl rfl) rfl (co_all (oneA8u8 (A8u8.mk (0 : UInt8) (0 : UInt8) (0 : UInt8) (0 : UInt8) (0 : UInt8) (0 : UInt8) (0 : UInt8) (0 : UInt8)))) (Nat.le_of_ble_eq_true rfl) rfl rfl ?_
  refine al_as rfl rfl ?_
  refine al_nt ?_
  refine aw_ret ?_
  refine aq_then_ret ?_
  obtain rfl := Option.some.inj h
  exact fn_ret () [] [] rfl rfl rfl rfl (resC rfl (resB (i := 0) rfl rfl Try.underlying69 sz69 rfl rfl rfl (resT rfl (resN))) rfl) rfl rfl rfl (by decide)
 ·replace h := bif_f hb5 h
  refine aw_skip ?_
  refine aq_then ?_
  refine aw_seq ?_
  refine aw_sr ?_
  refine al_val (ov_fieldA (p := 1) rfl Try.underlying88 rfl sz9 rfl rfl rfl) ?_
  refine al_val (ov_load (i := 1) (v := (str a0.Bytes)) rfl rfl Try.underlying9 sz9 rfl rfl rfl rfl) ?_
  refine al_val (ov_strLen Try.underlying9 rfl rfl) ?_
  refine al_in rfl rfl rfl rfl ?_
  refine al_nt ?_
  refine aw_cond rfl (fun hb6 => ?_) (fun hb6 => ?_)
  ·replace h := bif_t hb6 h
   refine aw_sr ?_
   refine al_val (ov_build (cells := ((cA8u8 (A8u8.mk (0 : UInt8) (0 : UInt8) (0 : UInt8) (0 : UInt8) (0 : UInt8) (0 : UInt8) (0 : UInt8) (0 : UInt8)))).toArray) (cs := (cA8u8 (A8u8.mk (0 : UInt8) (0 : UInt8) (0 : UInt8) (0 : UInt8) (0 : UInt8) (0 : UInt8) (0 : UInt8) (0 : UInt8)))) rfl (fun w a hm hs => by simp only [List.map_toArray, List.map_cons, List.map_nil, List.toList_toArray]; kernel_rfl)) ?_
   refine al_store (i := 0) (vs := (cA8u8 (A8u8.mk (0 : UInt8) (0 : UInt8) (0 : UInt8) (0 : UInt8) (0 : UInt8) (0 : UInt8) (0 : UInt8) (0 : UInt8)))) (cs' := (cA8u8 (A8u8.mk (0 : UInt8) (0 : UInt8) (0 : UInt8) (0 : UInt8) (0 : UInt8) (0 : UInt8) (0 : UInt8) (0 : UInt8)))) rfl rfl rfl sz69 (cv_rfl rfl) rfl (co_all (oneA8u8 (A8u8.mk (0 : UInt8) (0 : UInt8) (0 : UInt8) (0 : UInt8) (0 : UInt8) (0 : UInt8) (0 : UInt8) (0 : UInt8)))) (Nat.le_of_ble_eq_true rfl) rfl rfl ?_
   refine al_as rfl rfl ?_
   refine al_nt ?_
   refine aw_ret ?_
   refine aq_then_ret ?_
   obtain rfl := Option.some.inj h
   exact fn_ret () [] [] rfl rfl rfl rfl (resC rfl (resB (i := 0) rfl rfl Try.underlying69 sz69 rfl rfl rfl (resT rfl (resN))) rfl) rfl rfl rfl (by decide)
  ·replace h := bif_f hb6 h
   refine aw_skip ?_
   refine aq_tr ?_
   refine al_val (ov_fieldA (p := 0) rfl Try.underlying88 rfl sz3 rfl rfl rfl) ?_
   refine al_val (ov_load (i := 1) (v := (int .i64 a0.Kind)) rfl rfl Try.underlying3 sz3 rfl rfl rfl rfl) ?_
   refine al_val (ov_convInt (by rw [Try.underlying3]; rfl) Try.underlying5 rfl rfl) ?_
   obtain ⟨hc8, h⟩ := req_some h
   refine al_buildSlice (τ := tyU8) (e := 5) (k := 1) (sz := 0) (by_ := 0) (z := undef) (cs := [(int .u8 (IntKind.u8.wrap a0.Kind))]) (xs := [(UInt8.ofNat ((IntKind.u8.wrap a0.Kind)).toNat)]) rfl (by decide) (fun w a hm hs => ⟨([(int .u8 (IntKind.u8.wrap a0.Kind))]).toArray, rfl, by simp only [List.map_toArray, List.map_cons, List.map_nil, hs.ev (x := .tmp 16) rfl]; exact run_bs [(int .u8 (IntKind.u8.wrap a0.Kind))] [(int .u8 (IntKind.u8.wrap a0.Kind))] Try.underlying121 to5 rfl rfl (bs_cons (l := [(int .u8 (IntKind.u8.wrap a0.Kind))]) (cs := []) (cv_rfl rfl) rfl bs_nil) hm⟩) (fun hm => ⟨_, _, rfl, (fun _ => u8_rep hc8) hm, rfl⟩) rfl (fun v7 => ?_)
   refine al_val (ov_toStrR 0 rfl rfl Try.underlying121 Try.underlying5 Try.underlying9 rfl) ?_
   refine al_val (ov_fieldA (p := 1) rfl Try.underlying88 rfl sz9 rfl rfl rfl) ?_
   refine al_val (ov_load (i := 2) (v := (str a0.Bytes)) rfl rfl Try.underlying9 sz9 rfl rfl rfl rfl) ?_
   obtain ⟨hc9, h⟩ := req_some h
   refine al_val (ov_strAdd hc9 rfl rfl rfl) ?_
   obtain ⟨r11, hc10, h⟩ := opt_some h
   refine al_call (vs := [(str (([(UInt8.ofNat ((IntKind.u8.wrap a0.Kind)).toNat)]) ++ a0.Bytes))]) (f_lumref_ID_ok fu (([(UInt8.ofNat ((IntKind.u8.wrap a0.Kind)).toNat)]) ++ a0.Bytes) hc10) [] [] [0, 1, 2] pre_nil rfl (by simp) (by decide) (.inl rfl) rfl Try.func155 rfl rfl rfl (fun _ => ?_)
   refine al_store (i := 1) (vs := (cA8u8 r11)) (cs' := (cA8u8 r11)) rfl rfl rfl sz69 (cv_rfl rfl) rfl (co_all (oneA8u8 r11)) (Nat.le_of_ble_eq_true rfl) rfl rfl ?_
   refine al_as rfl rfl ?_
   refine al_nt ?_
   refine aw_ret ?_
   obtain rfl := Option.some.inj h
   exact fn_ret () [] [] rfl rfl rfl rfl (resC rfl (resB (i := 1) rfl rfl Try.underlying69 sz69 rfl rfl rfl (resT rfl (resN))) rfl) rfl rfl rfl (by decide)
def f_lumref_PackOne (fu : Nat) (a0 : (List UInt8)) (a1 : S_api_Entry) : Option (S_api_Blob × Int) := (lt (fun (j3b35 : Bool) => (bif j3b35 then (some ((S_api_Blob.mk (0 : Int) ([] : List UInt8)), (1 : Int))) else (opt (f_lumref_kindOK fu a1.Kind) fun (r7 : Bool) => (bif (!r7) then (some ((S_api_Blob.mk (0 : Int) ([] : List UInt8)), (5 : Int))) else (req (0 ≤ a1.At ∧ a1.At ≤ (a0.length : Int)) (req (0 ≤ a1.Len ∧ a1.Len ≤ ((a0.drop (a1.At).toNat).length : Int)) (opt (f_lumref_Open fu ((a0.drop (a1.At).toNat).take (a1.Len).toNat)) fun (r12 : ((List UInt8) × Int)) => (bif (r12.2 != (0 : Int)) then (some ((S_api_Blob.mk (0 : Int) ([] : List UInt8)), r12.2)) else (opt (f_lumref_BlobID fu (S_api_Blob.mk a1.Kind r12.1)) fun (r16 : (A8u8 × Int)) => (bif (!(r16.1 == a1.ID)) then (some ((S_api_Blob.mk (0 : Int) ([] : List UInt8)), (6 : Int))) else (some ((S_api_Blob.mk a1.Kind r12.1), (0 : Int))))))))))))) fun (kk4 : Bool → Option (S_api_Blob × Int)) => (bif (decide (a1.At < (0 : Int))) then (kk4 true) else (bif (decide (a1.Len < (0 : Int))) then (kk4 true) else (bif (decide (a1.Len > (a0.length : Int))) then (kk4 true) else (kk4 (decide (a1.At > (IntKind.i64.wrap ((a0.length : Int) - a1.Len)))))))))
set_option maxRecDepth 100000 in
theorem f_lumref_PackOne_ok (fu : Nat) (a0 : (List UInt8)) (a1 : S_api_Entry) {r : (S_api_Blob × Int)} (h : f_lumref_PackOne fu a0 a1 = some r) : FnOk Try.prog 44 [(str a0), (ag ((cA8u8 a1.ID) ++ [(int .i64 a1.Kind), (int .i64 a1.At), (int .i64 a1.Len)]))] [] [] (fun (i : Unit) => { val := (Value.tuple #[(ag [(int .i64 r.1.Kind), (str r.1.Bytes)]), (int .i64 r.2)]) }) := by
 unfold f_lumref_PackOne at h
 refine fn_enter Try.func44 rfl Try.ntmps44 rfl (fun w0 Z0 => ?_)
 refine aw_sr ?_
 refine al_box (vs := ((cA8u8 a1.ID) ++ [(int .i64 a1.Kind), (int .i64 a1.At), (int .i64 a1.Len)])) rfl (cv_rfl rfl) rfl (fun g1 => ?_)
 refine al_alloc (zs := [(int .i64 (0 : Int)), (str ([] : List UInt8))]) (zeroOf_to to88) rfl rfl (fun g2 => ?_)
 refine al_as rfl rfl ?_
 refine al_nt ?_
 refine aw_seq ?_
 obtain ⟨kk4, hkk4, h⟩ := lt_some h
 refine aw_seq_join (ι := Bool) (fun i => (memOf w0 Z0 [] [(oBox g1 86 ((cA8u8 a1.ID) ++ [(int .i64 a1.Kind), (int .i64 a1.At), (int .i64 a1.Len)])), (oBox g2 88 [(int .i64 (0 : Int)), (str ([] : List UInt8))])] [])) (fun i => (tab [(0, (str a0)), (3, (ptr g1 0)), (4, (ptr g2 0)), (35, (bool i))])) (fun i => kk4 i = some r) ?_ ?_
 ·rintro j3b35 h
  have h : kk4 j3b35 = some r := h
  rw [hkk4] at h
  dsimp only at h
  clear hkk4
  refine aw_show (m := (memOf w0 Z0 [] [(oBox g1 86 ((cA8u8 a1.ID) ++ [(int .i64 a1.Kind), (int .i64 a1.At), (int .i64 a1.Len)])), (oBox g2 88 [(int .i64 (0 : Int)), (str ([] : List UInt8))])] [])) (S := (tab [(0, (str a0)), (3, (ptr g1 0)), (4, (ptr g2 0)), (35, (bool j3b35))])) ?_
  refine aw_cond rfl (fun hb5 => ?_) (fun hb5 => ?_)
  ·replace h := bif_t hb5 h
   refine aw_sr ?_
   refine al_val (ov_build (cells := ([(int .i64 (0 : Int)), (str ([] : List UInt8))]).toArray) (cs := [(int .i64 (0 : Int)), (str ([] : List UInt8))]) rfl (fun w a hm hs => by simp only [List.map_toArray, List.map_cons, List.map_nil, List.toList_toArray]; kernel_rfl)) ?_
   refine al_store (i := 1) (vs := [(int .i64 (0 : Int)), (str ([] : List UInt8))]) (cs' := [(int .i64 (0 : Int)), (str ([] : List UInt8))]) rfl rfl rfl sz88 (cv_rfl rfl) rfl (co_val rfl (co_val rfl co_nil)) (Nat.le_of_ble_eq_true rfl) rfl rfl ?_
   refine al_as rfl rfl ?_
   refine al_nt ?_
   refine aw_ret ?_
   refine aq_then_ret ?_
   obtain rfl := Option.some.inj h
   exact fn_ret () [] [] rfl rfl rfl rfl (resC rfl (resB (i := 1) rfl rfl Try.underlying88 sz88 rfl rfl rfl (resT rfl (resN))) rfl) rfl rfl rfl (by decide)
  ·replace h := bif_f hb5 h
   refine aw_skip ?_
   refine aq_then ?_
   refine aw_seq ?_
   refine aw_sr ?_
   refine al_val (ov_fieldA (p := 8) rfl Try.underlying86 rfl sz3 rfl rfl rfl) ?_
   refine al_val (ov_load (i := 0) (v := (int .i64 a1.Kind)) rfl rfl Try.underlying3 sz3 rfl rfl rfl rfl) ?_
   obtain ⟨r7, hc6, h⟩ := opt_some h
   refine al_call (vs := [(int .i64 a1.Kind)]) (f_lumref_kindOK_ok fu a1.Kind hc6) [] [] [0, 1] pre_nil rfl (by simp) (by decide) (.inl rfl) rfl Try.func108 rfl rfl rfl (fun _ => ?_)
   refine al_val (ov_not rfl rfl) ?_
   refine al_nt ?_
   refine aw_cond rfl (fun hb8 => ?_) (fun hb8 => ?_)
   ·replace h := bif_t hb8 h
    refine aw_sr ?_
    refine al_val (ov_build (cells := ([(int .i64 (0 : Int)), (str ([] : List UInt8))]).toArray) (cs := [(int .i64 (0 : Int)), (str ([] : List UInt8))]) rfl (fun w a hm hs => by simp only [List.map_toArray, List.map_cons, List.map_nil, List.toList_toArray]; kernel_rfl)) ?_
    refine al_store (i := 1) (vs := [(int .i64 (0 : Int)), (str ([] : List UInt8))]) (cs' := [(int .i64 (0 : Int)), (str ([] : List UInt8))]) rfl rfl rfl sz88 (cv_rfl rfl) rfl (co_val rfl (co_val rfl co_nil)) (Nat.le_of_ble_eq_true rfl) rfl rfl ?_
    refine al_as rfl rfl ?_
    refine al_nt ?_
    refine aw_ret ?_
    refine aq_then_ret ?_
    obtain rfl := Option.some.inj h
    exact fn_ret () [] [] rfl rfl rfl rfl (resC rfl (resB (i := 1) rfl rfl Try.underlying88 sz88 rfl rfl rfl (resT rfl (resN))) rfl) rfl rfl rfl (by decide)
   ·replace h := bif_f hb8 h
    refine aw_skip ?_
    refine aq_then ?_
    refine aw_seq ?_
    obtain ⟨hc9, h⟩ := req_some h
    obtain ⟨hc10, h⟩ := req_some h
    obtain ⟨r12, hc11, h⟩ := opt_some h
    refine aw_region_draw 12 [(43, (fun u => fEq u (str a0))), (44, (fun u => fEq u (ptr g1 9))), (45, (fun u => fEq u (int .i64 a1.At))), (46, (fun u => fEq u (str (a0.drop (a1.At).toNat)))), (47, (fun u => fEq u (ptr g1 10))), (48, (fun u => fEq u (int .i64 a1.Len))), (49, (fun u => fEq u (str ((a0.drop (a1.At).toNat).take (a1.Len).toNat)))), (50, (fun u => fEq u (Value.tuple #[(str r12.1), (int .i64 r12.2)]))), (42, (fun u => fEq u (Value.tuple #[(str r12.1), (int .i64 r12.2)]))), (51, (fun u => fEq u (str r12.1))), (52, (fun u => fEq u (int .i64 r12.2))), (6, (fun u => fEq u (str r12.1)))] (tab [(0, (str a0)), (3, (ptr g1 0)), (4, (ptr g2 0))]) mixed (by kernel_rfl) rfl rfl rfl (fun a hs => hs.tab _ (allT_mem ⟨rfl, rfl, rfl, trivial⟩)) ⟨⟨rfl, ld_val (ov_move rfl rfl)⟩, ⟨rfl, ld_val (ov_fieldA (p := 9) rfl Try.underlying86 rfl sz3 rfl rfl rfl)⟩, ⟨rfl, ld_eq (j := 1) rfl rfl (ld_val (ov_load (i := 0) (v := (int .i64 a1.At)) rfl rfl Try.underlying3 sz3 rfl rfl rfl rfl))⟩, ⟨rfl, ld_eq (j := 0) rfl rfl (ld_eq (j := 2) rfl rfl (ld_val (ov_strFrom hc9.1 hc9.2 Try.underlying9 rfl rfl rfl)))⟩, ⟨rfl, ld_val (ov_fieldA (p := 10) rfl Try.underlying86 rfl sz3 rfl rfl rfl)⟩, ⟨rfl, ld_eq (j := 4) rfl rfl (ld_val (ov_load (i := 0) (v := (int .i64 a1.Len)) rfl rfl Try.underlying3 sz3 rfl rfl rfl rfl))⟩, ⟨rfl, ld_eq (j := 3) rfl rfl (ld_eq (j := 5) rfl rfl (ld_val (ov_strTo hc10.1 hc10.2 Try.underlying9 rfl rfl rfl)))⟩, ⟨rfl, ld_eq (j := 6) rfl rfl (ld_callV (vs := [(str ((a0.drop (a1.At).toNat).take (a1.Len).toNat))]) (f_lumref_Open_ok fu ((a0.drop (a1.At).toNat).take (a1.Len).toNat) hc11) [] pre_nil rfl Try.func33 rfl rfl rfl)⟩, ⟨rfl, ld_eq (j := 7) rfl rfl (ld_val (ov_move rfl rfl))⟩, ⟨rfl, ld_eq (j := 8) rfl rfl (ld_val (ov_extract rfl rfl rfl))⟩, ⟨rfl, ld_eq (j := 8) rfl rfl (ld_val (ov_extract rfl rfl rfl))⟩, ⟨rfl, ld_eq (j := 9) rfl rfl (ld_val (ov_assign rfl rfl))⟩, trivial⟩ ?_
    refine tl_eq 10 rfl ?_
    refine tl_eq 11 rfl ?_
    refine tl_done ?_
    refine al_as rfl rfl ?_
    refine al_nt ?_
    refine aw_seq ?_
    refine aw_sr ?_
    refine al_mv rfl rfl ?_
    refine al_in rfl rfl rfl rfl ?_
    refine al_nt ?_
    refine aw_cond rfl (fun hb13 => ?_) (fun hb13 => ?_)
    ·replace h := bif_t hb13 h
     refine aw_sr ?_
     refine al_val (ov_build (cells := ([(int .i64 (0 : Int)), (str ([] : List UInt8))]).toArray) (cs := [(int .i64 (0 : Int)), (str ([] : List UInt8))]) rfl (fun w a hm hs => by simp only [List.map_toArray, List.map_cons, List.map_nil, List.toList_toArray]; kernel_rfl)) ?_
     refine al_mv rfl rfl ?_
     refine al_store (i := 1) (vs := [(int .i64 (0 : Int)), (str ([] : List UInt8))]) (cs' := [(int .i64 (0 : Int)), (str ([] : List UInt8))]) rfl rfl rfl sz88 (cv_rfl rfl) rfl (co_val rfl (co_val rfl co_nil)) (Nat.le_of_ble_eq_true rfl) rfl rfl ?_
     refine al_as rfl rfl ?_
     refine al_nt ?_
     refine aw_ret ?_
     refine aq_then_ret ?_
     obtain rfl := Option.some.inj h
     exact fn_ret () [] [] rfl rfl rfl rfl (resC rfl (resB (i := 1) rfl rfl Try.underlying88 sz88 rfl rfl rfl (resT rfl (resN))) rfl) rfl rfl rfl (by decide)
    ·replace h := bif_f hb13 h
     refine aw_skip ?_
     refine aq_tr ?_
     refine al_val (ov_fieldA (p := 8) rfl Try.underlying86 rfl sz3 rfl rfl rfl) ?_
     refine al_val (ov_load (i := 0) (v := (int .i64 a1.Kind)) rfl rfl Try.underlying3 sz3 rfl rfl rfl rfl) ?_
     refine al_mv rfl rfl ?_
     refine al_val (ov_build (cells := ([(int .i64 a1.Kind), (str r12.1)]).toArray) (cs := [(int .i64 a1.Kind), (str r12.1)]) rfl (fun w a hm hs => by simp only [List.map_toArray, List.map_cons, List.map_nil, List.toList_toArray, hs.ev (x := .tmp 58) rfl, hs.ev (x := .tmp 59) rfl]; kernel_rfl)) ?_
     refine al_alloc (zs := [(int .i64 (0 : Int)), (str ([] : List UInt8))]) (zeroOf_to to88) rfl rfl (fun g14 => ?_)
     refine al_store (i := 0) (vs := [(int .i64 a1.Kind), (str r12.1)]) (cs' := [(int .i64 a1.Kind), (str r12.1)]) rfl rfl rfl sz88 (cv_rfl rfl) rfl (co_val rfl (co_val rfl co_nil)) (Nat.le_of_ble_eq_true rfl) rfl rfl ?_
     refine al_nt ?_
     refine aw_seq ?_
     refine aw_sr ?_
     refine al_val (ov_load (i := 0) (v := (ag [(int .i64 a1.Kind), (str r12.1)])) rfl rfl Try.underlying88 sz88 rfl rfl rfl rfl) ?_
     obtain ⟨r16, hc15, h⟩ := opt_some h
     refine al_call (vs := [(ag [(int .i64 a1.Kind), (str r12.1)])]) (f_lumref_BlobID_ok fu (S_api_Blob.mk a1.Kind r12.1) hc15) [] [] [0, 1, 2] pre_nil rfl (by simp) (by decide) (.inl rfl) rfl Try.func109 rfl rfl rfl (fun _ => ?_)
     refine al_mv rfl rfl ?_
     refine al_ex rfl rfl rfl ?_
     refine al_ex rfl rfl rfl ?_
     refine al_alloc (zs := (cA8u8 (A8u8.mk (0 : UInt8) (0 : UInt8) (0 : UInt8) (0 : UInt8) (0 : UInt8) (0 : UInt8) (0 : UInt8) (0 : UInt8)))) (zeroOf_to to69) rfl rfl (fun g17 => ?_)
     refine al_store (i := 0) (vs := (cA8u8 r16.1)) (cs' := (cA8u8 r16.1)) rfl rfl rfl sz69 (cv_rfl rfl) rfl (co_all (oneA8u8 r16.1)) (Nat.le_of_ble_eq_true rfl) rfl rfl ?_
     refine al_as rfl rfl ?_
     refine al_nt ?_
     refine aw_sr ?_
     refine al_val (ov_load (i := 0) (v := (ag (cA8u8 r16.1))) rfl rfl Try.underlying69 sz69 rfl rfl rfl rfl) ?_
     refine al_val (ov_fieldA (p := 0) rfl Try.underlying86 rfl sz69 rfl rfl rfl) ?_
     refine al_val (ov_load (i := 2) (v := (ag (cA8u8 a1.ID))) rfl rfl Try.underlying69 sz69 rfl rfl rfl rfl) ?_
     refine al_val (ov_neqA (cs := (cA8u8 r16.1)) (ds := (cA8u8 a1.ID)) (ls := [5, 5, 5, 5, 5, 5, 5, 5]) (p := (r16.1 == a1.ID)) eg69 kt69 lv69 rfl rfl (by kernel_rfl) (by kernel_rfl) (fit_cons (fit_u8 Try.underlying5) (fit_cons (fit_u8 Try.underlying5) (fit_cons (fit_u8 Try.underlying5) (fit_cons (fit_u8 Try.underlying5) (fit_cons (fit_u8 Try.underlying5) (fit_cons (fit_u8 Try.underlying5) (fit_cons (fit_u8 Try.underlying5) (fit_cons (fit_u8 Try.underlying5) fit_nil)))))))) (fit_cons (fit_u8 Try.underlying5) (fit_cons (fit_u8 Try.underlying5) (fit_cons (fit_u8 Try.underlying5) (fit_cons (fit_u8 Try.underlying5) (fit_cons (fit_u8 Try.underlying5) (fit_cons (fit_u8 Try.underlying5) (fit_cons (fit_u8 Try.underlying5) (fit_cons (fit_u8 Try.underlying5) fit_nil)))))))) (injA8u8 (x := r16.1) (y := a1.ID)) rfl) ?_
     refine al_nt ?_
     refine aw_cond rfl (fun hb18 => ?_) (fun hb18 => ?_)
     ·replace h := bif_t hb18 h
      refine aw_sr ?_
      refine al_val (ov_build (cells := ([(int .i64 (0 : Int)), (str ([] : List UInt8))]).toArray) (cs := [(int .i64 (0 : Int)), (str ([] : List UInt8))]) rfl (fun w a hm hs => by simp only [List.map_toArray, List.map_cons, List.map_nil, List.toList_toArray]; kernel_rfl)) ?_
      refine al_store (i := 3) (vs := [(int .i64 (0 : Int)), (str ([] : List UInt8))]) (cs' := [(int .i64 (0 : Int)), (str ([] : List UInt8))]) rfl rfl rfl sz88 (cv_rfl rfl) rfl (co_val rfl (co_val rfl co_nil)) (Nat.le_of_ble_eq_true rfl) rfl rfl ?_
      refine al_as rfl rfl ?_
      refine al_nt ?_
      refine aw_ret ?_
      refine aq_then_ret ?_
      obtain rfl := Option.some.inj h
      exact fn_ret () [] [] rfl rfl rfl rfl (resC rfl (resB (i := 3) rfl rfl Try.underlying88 sz88 rfl rfl rfl (resT rfl (resN))) rfl) rfl rfl rfl (by decide)
     ·replace h := bif_f hb18 h
      refine aw_skip ?_
      refine aq_tr ?_
      refine al_val (ov_load (i := 1) (v := (ag [(int .i64 a1.Kind), (str r12.1)])) rfl rfl Try.underlying88 sz88 rfl rfl rfl rfl) ?_
      refine al_store (i := 3) (vs := [(int .i64 a1.Kind), (str r12.1)]) (cs' := [(int .i64 a1.Kind), (str r12.1)]) rfl rfl rfl sz88 (cv_rfl rfl) rfl (co_val rfl (co_val rfl co_nil)) (Nat.le_of_ble_eq_true rfl) rfl rfl ?_
      refine al_as rfl rfl ?_
      refine al_nt ?_
      refine aw_ret ?_
      obtain rfl := Option.some.inj h
      exact fn_ret () [] [] rfl rfl rfl rfl (resC rfl (resB (i := 3) rfl rfl Try.underlying88 sz88 rfl rfl rfl (resT rfl (resN))) rfl) rfl rfl rfl (by decide)
 ·clear hkk4
  refine aw_region ?_
  refine al_val (ov_fieldA (p := 9) rfl Try.underlying86 rfl sz3 rfl rfl rfl) ?_
  refine al_val (ov_load (i := 1) (v := (int .i64 a1.At)) rfl rfl Try.underlying3 sz3 rfl rfl rfl rfl) ?_
  refine al_in rfl rfl rfl rfl ?_
  refine al_mv rfl rfl ?_
  refine al_caseB 14 rfl (fun hb19 => ?_) (fun hb19 => ?_)
  ·replace h := bif_t hb19 h
   refine al_skip ?_
   refine al_skip ?_
   refine al_skip ?_
   refine al_val (ov_pick_t rfl rfl rfl) ?_
   refine al_mv rfl rfl ?_
   refine al_skip ?_
   refine al_skip ?_
   refine al_skip ?_
   refine al_skip ?_
   refine al_skip ?_
   refine al_val (ov_pick_t rfl rfl rfl) ?_
   refine al_mv rfl rfl ?_
   refine al_skip ?_
   refine al_skip ?_
   refine al_skip ?_
   refine al_skip ?_
   refine al_skip ?_
   refine al_skip ?_
   refine al_skip ?_
   refine al_skip ?_
   refine al_val (ov_pick_t rfl rfl rfl) ?_
   refine al_nil ?_
   exact aq_join true h (fun w a hm hs => norm hm hs [1, 0] [] [(0, (str a0)), (3, (ptr g1 0)), (4, (ptr g2 0)), (35, (bool true))] (by decide) ⟨rfl, rfl, rfl, rfl, trivial⟩)
  ·replace h := bif_f hb19 h
   refine al_val (ov_fieldA (p := 10) rfl Try.underlying86 rfl sz3 rfl rfl rfl) ?_
   refine al_val (ov_load (i := 1) (v := (int .i64 a1.Len)) rfl rfl Try.underlying3 sz3 rfl rfl rfl rfl) ?_
   refine al_in rfl rfl rfl rfl ?_
   refine al_val (ov_pick_f rfl rfl rfl) ?_
   refine al_mv rfl rfl ?_
   refine al_caseB 19 rfl (fun hb20 => ?_) (fun hb20 => ?_)
   ·replace h := bif_t hb20 h
    refine al_skip ?_
    refine al_skip ?_
    refine al_skip ?_
    refine al_skip ?_
    refine al_skip ?_
    refine al_val (ov_pick_t rfl rfl rfl) ?_
    refine al_mv rfl rfl ?_
    refine al_skip ?_
    refine al_skip ?_
    refine al_skip ?_
    refine al_skip ?_
    refine al_skip ?_
    refine al_skip ?_
    refine al_skip ?_
    refine al_skip ?_
    refine al_val (ov_pick_t rfl rfl rfl) ?_
    refine al_nil ?_
    exact aq_join true h (fun w a hm hs => norm hm hs [1, 0] [] [(0, (str a0)), (3, (ptr g1 0)), (4, (ptr g2 0)), (35, (bool true))] (by decide) ⟨rfl, rfl, rfl, rfl, trivial⟩)
   ·replace h := bif_f hb20 h
    refine al_val (ov_fieldA (p := 10) rfl Try.underlying86 rfl sz3 rfl rfl rfl) ?_
    refine al_val (ov_load (i := 1) (v := (int .i64 a1.Len)) rfl rfl Try.underlying3 sz3 rfl rfl rfl rfl) ?_
    refine al_mv rfl rfl ?_
    refine al_val (ov_strLen Try.underlying9 rfl rfl) ?_
    refine al_in rfl rfl rfl rfl ?_
    refine al_val (ov_pick_f rfl rfl rfl) ?_
    refine al_mv rfl rfl ?_
    refine al_caseB 26 rfl (fun hb21 => ?_) (fun hb21 => ?_)
    ·replace h := bif_t hb21 h
     refine al_skip ?_
     refine al_skip ?_
     refine al_skip ?_
     refine al_skip ?_
     refine al_skip ?_
     refine al_skip ?_
     refine al_skip ?_
     refine al_skip ?_
     refine al_val (ov_pick_t rfl rfl rfl) ?_
     refine al_nil ?_
     exact aq_join true h (fun w a hm hs => norm hm hs [1, 0] [] [(0, (str a0)), (3, (ptr g1 0)), (4, (ptr g2 0)), (35, (bool true))] (by decide) ⟨rfl, rfl, rfl, rfl, trivial⟩)
    ·replace h := bif_f hb21 h
     refine al_val (ov_fieldA (p := 9) rfl Try.underlying86 rfl sz3 rfl rfl rfl) ?_
     refine al_val (ov_load (i := 1) (v := (int .i64 a1.At)) rfl rfl Try.underlying3 sz3 rfl rfl rfl rfl) ?_
     refine al_mv rfl rfl ?_
     refine al_val (ov_strLen Try.underlying9 rfl rfl) ?_
     refine al_val (ov_fieldA (p := 10) rfl Try.underlying86 rfl sz3 rfl rfl rfl) ?_
     refine al_val (ov_load (i := 1) (v := (int .i64 a1.Len)) rfl rfl Try.underlying3 sz3 rfl rfl rfl rfl) ?_
     refine al_in rfl rfl rfl rfl ?_
     refine al_in rfl rfl rfl rfl ?_
     refine al_val (ov_pick_f rfl rfl rfl) ?_
     refine al_nil ?_
     exact aq_join (decide (a1.At > (IntKind.i64.wrap ((a0.length : Int) - a1.Len)))) h (fun w a hm hs => norm hm hs [1, 0] [] [(0, (str a0)), (3, (ptr g1 0)), (4, (ptr g2 0)), (35, (bool (decide (a1.At > (IntKind.i64.wrap ((a0.length : Int) - a1.Len))))))] (by decide) ⟨rfl, rfl, rfl, rfl, trivial⟩)
def f_pack_directory_L15 (a1 : Int) (r2 : (Int × Int × Int)) (kk8 : ((List UInt8) → Int → (List S_api_Entry) → Option ((List S_api_Entry) × Int))) (fu : Nat) : Nat → (List UInt8) → Int → (List (A8u8 × Bool)) → (List S_api_Entry) → Int → Option ((List S_api_Entry) × Int)
  | 0, _, _, _, _, _ => none
  | k14 + 1, l13s0, l13i9, l13xm10, l13x11, l13i34 => (bif (decide (l13i34 < r2.1)) then (bif (decide ((l13s0.length : Int) < (9 : Int))) then (some (([] : List S_api_Entry), (3 : Int))) else (req (0 ≤ (1 : Int) ∧ (1 : Int) ≤ (9 : Int) ∧ (9 : Int) ≤ (l13s0.length : Int)) (req ((cut l13s0 (1 : Int) (9 : Int)).length ≤ 9223372036854775807) (req (8 ≤ (cut l13s0 (1 : Int) (9 : Int)).length) (req (0 ≤ (0 : Int) ∧ (0 : Int) < (l13s0.length : Int)) (opt (f_pack_Known fu (IntKind.i64.wrap (En.bAt l13s0 (0 : Int)))) fun (r26 : Bool) => (bif (!r26) then (some (([] : List S_api_Entry), (5 : Int))) else (req (0 ≤ (9 : Int) ∧ (9 : Int) ≤ (l13s0.length : Int)) (opt (f_num_Get fu (l13s0.drop ((9 : Int)).toNat)) fun (r30 : (Int × Int × Int)) => (bif (r30.2.2 != (0 : Int)) then (some (([] : List S_api_Entry), r30.2.2)) else (bif (decide (r30.1 > (4097 : Int))) then (some (([] : List S_api_Entry), (2 : Int))) else (lt (fun (j33b68 : Bool) => (bif j33b68 then (some (([] : List S_api_Entry), (4 : Int))) else (req (0 ≤ r30.2.1 ∧ r30.2.1 ≤ ((l13s0.drop ((9 : Int)).toNat).length : Int)) (req (((l13x11.length + ([(S_api_Entry.mk (ofA8u8 (cut l13s0 (1 : Int) (9 : Int))) (IntKind.i64.wrap (En.bAt l13s0 (0 : Int))) l13i9 (IntKind.i64.wrap r30.1))]).length) * 32 : Nat) ≤ 140737488355328 ∧ l13x11.length + ([(S_api_Entry.mk (ofA8u8 (cut l13s0 (1 : Int) (9 : Int))) (IntKind.i64.wrap (En.bAt l13s0 (0 : Int))) l13i9 (IntKind.i64.wrap r30.1))]).length ≤ 9223372036854775807) (f_pack_directory_L15 a1 r2 kk8 fu k14 ((l13s0.drop ((9 : Int)).toNat).drop (r30.2.1).toNat) (IntKind.i64.wrap (l13i9 + (IntKind.i64.wrap r30.1))) (gset l13xm10 (ofA8u8 (cut l13s0 (1 : Int) (9 : Int))) true) (l13x11 ++ ([(S_api_Entry.mk (ofA8u8 (cut l13s0 (1 : Int) (9 : Int))) (IntKind.i64.wrap (En.bAt l13s0 (0 : Int))) l13i9 (IntKind.i64.wrap r30.1))])) (IntKind.u64.wrap (l13i34 + (1 : Int)))))))) fun (kk34 : Bool → Option ((List S_api_Entry) × Int)) => (bif ((gget l13xm10 (ofA8u8 (cut l13s0 (1 : Int) (9 : Int)))).getD false) then (kk34 true) else (kk34 (decide ((IntKind.i64.wrap (l13i9 + (IntKind.i64.wrap r30.1))) > a1)))))))))))))))) else (kk8 l13s0 l13i9 l13x11))
def f_pack_directory (fu : Nat) (a0 : (List UInt8)) (a1 : Int) : Option ((List S_api_Entry) × Int) := (opt (f_num_Get fu a0) fun (r2 : (Int × Int × Int)) => (bif (r2.2.2 != (0 : Int)) then (some (([] : List S_api_Entry), r2.2.2)) else (bif (decide (r2.1 > (40 : Int))) then (some (([] : List S_api_Entry), (2 : Int))) else (req (0 ≤ r2.2.1 ∧ r2.2.1 ≤ (a0.length : Int)) (lt (fun (j7s0 : (List UInt8)) (j7i9 : Int) (j7x11 : (List S_api_Entry)) => (lt (fun (j9b105 : Bool) => (bif j9b105 then (some (([] : List S_api_Entry), (4 : Int))) else (some (j7x11, (0 : Int))))) fun (kk10 : Bool → Option ((List S_api_Entry) × Int)) => (bif (!(j7s0 == ([] : List UInt8))) then (kk10 true) else (kk10 (j7i9 != a1))))) fun (kk8 : (List UInt8) → Int → (List S_api_Entry) → Option ((List S_api_Entry) × Int)) => (f_pack_directory_L15 a1 r2 kk8 fu fu (a0.drop (r2.2.1).toNat) (0 : Int) ([] : List (A8u8 × Bool)) ([] : List S_api_Entry) (0 : Int)))))))
set_option maxRecDepth 100000 in
set_option maxHeartbeats 2000000 in
theorem f_pack_directory_ok (fu : Nat) (a0 : (List UInt8)) (a1 : Int) {r : ((List S_api_Entry) × Int)} (h : f_pack_directory fu a0 a1 = some r) : FnOk Try.prog 156 [(str a0), (int .i64 a1)] [] [] (fun (i : Value) => { val := (Value.tuple #[i, (int .i64 r.2)]), own := [(oRow i 86 tyS_api_Entry r.1)] }) := by
 unfold f_pack_directory at h
 refine fn_enter Try.func156 rfl Try.ntmps156 rfl (fun w0 Z0 => ?_)
 refine aw_sr ?_
 refine al_as rfl rfl ?_
 refine al_as rfl rfl ?_
 refine al_nt ?_
 refine aw_sr ?_
 refine al_mv rfl rfl ?_
 obtain ⟨r2, hc1, h⟩ := opt_some h
 refine al_call (vs := [(str a0)]) (f_num_Get_ok fu a0 hc1) [] [] [] pre_nil rfl (by simp) (by decide) (.inl rfl) rfl Try.func163 rfl rfl rfl (fun _ => ?_)
 refine al_mv rfl rfl ?_
 refine al_ex rfl rfl rfl ?_
 refine al_ex rfl rfl rfl ?_
 refine al_ex rfl rfl rfl ?_
 refine al_as rfl rfl ?_
 refine al_as rfl rfl ?_
 refine al_as rfl rfl ?_
 refine al_nt ?_
 refine aw_seq ?_
 refine aw_block ?_
 refine aw_sr ?_
 refine al_mv rfl rfl ?_
 refine al_in rfl rfl rfl rfl ?_
 refine al_as rfl rfl ?_
 refine al_nt ?_
 refine aw_cond rfl (fun hb3 => ?_) (fun hb3 => ?_)
 ·replace h := bif_t hb3 h
  refine aw_sr ?_
  refine al_mv rfl rfl ?_
  refine al_as rfl rfl ?_
  refine al_as rfl rfl ?_
  refine al_nt ?_
  refine aw_ret ?_
  refine aq_block_ret ?_
  refine aq_then_ret ?_
  refine aq_nilR 86 tyS_api_Entry ?_
  obtain rfl := Option.some.inj h
  exact fn_ret (Value.slice none 0 0) [0] [] rfl rfl rfl rfl (res2 rfl rfl rfl) rfl rfl rfl (by decide)
 ·replace h := bif_f hb3 h
  refine aw_sr ?_
  refine al_mv rfl rfl ?_
  refine al_in rfl rfl rfl rfl ?_
  refine al_as rfl rfl ?_
  refine al_nt ?_
  refine aw_cond rfl (fun hb4 => ?_) (fun hb4 => ?_)
  ·replace h := bif_t hb4 h
   refine aw_sr ?_
   refine al_as rfl rfl ?_
   refine al_as rfl rfl ?_
   refine al_nt ?_
   refine aw_ret ?_
   refine aq_block_ret ?_
   refine aq_then_ret ?_
   refine aq_nilR 86 tyS_api_Entry ?_
   obtain rfl := Option.some.inj h
   exact fn_ret (Value.slice none 0 0) [0] [] rfl rfl rfl rfl (res2 rfl rfl rfl) rfl rfl rfl (by decide)
  ·replace h := bif_f hb4 h
   refine aw_skip ?_
   refine aq_block ?_
   refine aq_tr ?_
   refine al_mv rfl rfl ?_
   refine al_mv rfl rfl ?_
   obtain ⟨hc5, h⟩ := req_some h
   refine al_val (ov_strFrom hc5.1 hc5.2 Try.underlying9 rfl rfl rfl) ?_
   refine al_as rfl rfl ?_
   refine al_nt ?_
   refine aw_sr ?_
   refine al_as rfl rfl ?_
   refine al_nt ?_
   refine aw_sr ?_
   refine al_makeMapK (ν := Bool) 69 (fun x : A8u8 => ag (cA8u8 x)) (fun x : Bool => bool x) rfl (fun g6 => ?_)
   refine al_as rfl rfl ?_
   refine al_nt ?_
   refine aw_sr ?_
   refine al_as rfl rfl ?_
   refine al_nt ?_
   obtain ⟨kk8, hkk8, h⟩ := lt_some h
   refine aw_seq_join (ι := (List UInt8) × Int × Value × (List S_api_Entry)) (fun i => (memOf w0 Z0 [] [(oRow i.2.2.1 86 tyS_api_Entry i.2.2.2)] [])) (fun i => (tab [(0, (str i.1)), (1, (int .i64 a1)), (9, (int .i64 i.2.1)), (11, i.2.2.1)])) (fun i => kk8 i.1 i.2.1 i.2.2.2 = some r) ?_ ?_
   ·rintro ⟨j7s0, j7i9, j7v11, j7x11⟩ h
    have h : kk8 j7s0 j7i9 j7x11 = some r := h
    rw [hkk8] at h
    dsimp only at h
    clear hkk8
    refine aw_show (m := (memOf w0 Z0 [] [(oRow j7v11 86 tyS_api_Entry j7x11)] [])) (S := (tab [(0, (str j7s0)), (1, (int .i64 a1)), (9, (int .i64 j7i9)), (11, j7v11)])) ?_
    refine aw_seq ?_
    obtain ⟨kk10, hkk10, h⟩ := lt_some h
    refine aw_seq_join (ι := Bool) (fun i => (memOf w0 Z0 [] [(oRow j7v11 86 tyS_api_Entry j7x11)] [])) (fun i => (tab [(11, j7v11), (105, (bool i))])) (fun i => kk10 i = some r) ?_ ?_
    ·rintro j9b105 h
     have h : kk10 j9b105 = some r := h
     rw [hkk10] at h
     dsimp only at h
     clear hkk10
     refine aw_show (m := (memOf w0 Z0 [] [(oRow j7v11 86 tyS_api_Entry j7x11)] [])) (S := (tab [(11, j7v11), (105, (bool j9b105))])) ?_
     refine aw_cond rfl (fun hb11 => ?_) (fun hb11 => ?_)
     ·replace h := bif_t hb11 h
      refine aw_sr ?_
      refine al_as rfl rfl ?_
      refine al_as rfl rfl ?_
      refine al_nt ?_
      refine aw_ret ?_
      refine aq_then_ret ?_
      refine aq_nilR 86 tyS_api_Entry ?_
      obtain rfl := Option.some.inj h
      exact fn_ret (Value.slice none 0 0) [0] [] rfl rfl rfl rfl (res2 rfl rfl rfl) rfl rfl rfl (by decide)
     ·replace h := bif_f hb11 h
      refine aw_skip ?_
      refine aq_tr ?_
      refine al_mv rfl rfl ?_
      refine al_as rfl rfl ?_
      refine al_as rfl rfl ?_
      refine al_nt ?_
      refine aw_ret ?_
      obtain rfl := Option.some.inj h
      exact fn_ret j7v11 [0] [] rfl rfl rfl rfl (res2 rfl rfl rfl) rfl rfl rfl (by decide)
    ·clear hkk10
     refine aw_region ?_
     refine al_mv rfl rfl ?_
     refine al_val (ov_strCmp rfl rfl rfl rfl) ?_
     refine al_mv rfl rfl ?_
     refine al_caseB 101 rfl (fun hb12 => ?_) (fun hb12 => ?_)
     ·replace h := bif_t hb12 h
      refine al_skip ?_
      refine al_skip ?_
      refine al_skip ?_
      refine al_val (ov_pick_t rfl rfl rfl) ?_
      refine al_nil ?_
      exact aq_join true h (fun w a hm hs => norm hm hs [0] [] [(11, j7v11), (105, (bool true))] (by decide) ⟨rfl, rfl, trivial⟩)
     ·replace h := bif_f hb12 h
      refine al_mv rfl rfl ?_
      refine al_mv rfl rfl ?_
      refine al_in rfl rfl rfl rfl ?_
      refine al_val (ov_pick_f rfl rfl rfl) ?_
      refine al_nil ?_
      exact aq_join (j7i9 != a1) h (fun w a hm hs => norm hm hs [0] [] [(11, j7v11), (105, (bool (j7i9 != a1)))] (by decide) ⟨rfl, rfl, trivial⟩)
   ·clear hkk8
    refine aw_sr ?_
    refine al_mv rfl rfl ?_
    refine al_mv rfl rfl ?_
    refine al_nt ?_
    refine aw_block ?_
    refine aw_nilR 86 tyS_api_Entry ?_
    refine aw_state (aw_loop (ι := (List UInt8) × Int × (List (A8u8 × Bool)) × Value × (List S_api_Entry) × Int) (fun i => (memOf w0 Z0 [] [(oMapK Try.prog 69 g6 (fun x : A8u8 => ag (cA8u8 x)) (fun x : Bool => bool x) i.2.2.1), (oRow i.2.2.2.1 86 tyS_api_Entry i.2.2.2.2.1)] [])) (fun i => (tab [(0, (str i.1)), (1, (int .i64 a1)), (9, (int .i64 i.2.1)), (10, (Value.map (some g6))), (11, i.2.2.2.1), (33, (int .u64 r2.1)), (34, (int .u64 i.2.2.2.2.2))])) (fun q i => f_pack_directory_L15 a1 r2 kk8 fu q i.1 i.2.1 i.2.2.1 i.2.2.2.2.1 i.2.2.2.2.2 = some r) ?_ fu ((a0.drop (r2.2.1).toNat), (0 : Int), ([] : List (A8u8 × Bool)), (Value.slice none 0 0), ([] : List S_api_Entry), (0 : Int)) h) (fun w a hm hs => norm hm hs [1, 0] [] [(0, (str (a0.drop (r2.2.1).toNat))), (1, (int .i64 a1)), (9, (int .i64 (0 : Int))), (10, (Value.map (some g6))), (11, (Value.slice none 0 0)), (33, (int .u64 r2.1)), (34, (int .u64 (0 : Int)))] (by decide) ⟨rfl, rfl, rfl, rfl, rfl, rfl, rfl, trivial⟩)
    clear h
    rintro k14 ⟨l13s0, l13i9, l13xm10, l13v11, l13x11, l13i34⟩ h
    have h : f_pack_directory_L15 a1 r2 kk8 fu k14 l13s0 l13i9 l13xm10 l13x11 l13i34 = some r := h
    obtain _ | k14 := k14
    · rw [f_pack_directory_L15] at h; cases h
    rw [f_pack_directory_L15] at h
    refine aw_show (m := (memOf w0 Z0 [] [(oMapK Try.prog 69 g6 (fun x : A8u8 => ag (cA8u8 x)) (fun x : Bool => bool x) l13xm10), (oRow l13v11 86 tyS_api_Entry l13x11)] [])) (S := (tab [(0, (str l13s0)), (1, (int .i64 a1)), (9, (int .i64 l13i9)), (10, (Value.map (some g6))), (11, l13v11), (33, (int .u64 r2.1)), (34, (int .u64 l13i34))])) ?_
    refine aw_sr ?_
    refine al_in rfl rfl rfl rfl ?_
    refine al_nt ?_
    refine aw_seq ?_
    refine aw_cond rfl (fun hb16 => ?_) (fun hb16 => ?_)
    ·replace h := bif_t hb16 h
     refine aw_skip ?_
     refine aq_then ?_
     refine aw_seq ?_
     refine aw_block ?_
     refine aw_seq ?_
     refine aw_sr ?_
     refine al_mv rfl rfl ?_
     refine al_val (ov_strLen Try.underlying9 rfl rfl) ?_
     refine al_in rfl rfl rfl rfl ?_
     refine al_nt ?_
     refine aw_cond rfl (fun hb17 => ?_) (fun hb17 => ?_)
     ·replace h := bif_t hb17 h
      refine aw_sr ?_
      refine al_as rfl rfl ?_
      refine al_as rfl rfl ?_
      refine al_nt ?_
      refine aw_ret ?_
      refine aq_then_ret ?_
      refine aq_block_ret ?_
      refine aq_then_ret ?_
      refine aq_then_ret ?_
      refine aq_block_ret ?_
      refine aq_then_ret ?_
      refine aq_nilR 86 tyS_api_Entry ?_
      obtain rfl := Option.some.inj h
      exact fn_ret (Value.slice none 0 0) [0] [] rfl rfl rfl rfl (res2 rfl rfl rfl) rfl rfl rfl (by decide)
     ·replace h := bif_f hb17 h
      refine aw_skip ?_
      refine aq_then ?_
      refine aw_seq ?_
      obtain ⟨hc18, h⟩ := req_some h
      obtain ⟨hc19, h⟩ := req_some h
      obtain ⟨hc22, h⟩ := req_some h
      obtain ⟨hc23, h⟩ := req_some h
      refine aw_region_open [⟨0, 39, Unit, fun _ => { val := (str l13s0) }⟩, ⟨1, 40, Unit, fun _ => { val := (str (cut l13s0 (1 : Int) (9 : Int))) }⟩, ⟨2, 41, Value, fun (i : Value) => { val := i, fz := [(fDat (tyList tyU8) [i] (cut l13s0 (1 : Int) (9 : Int)))] }⟩, ⟨3, 42, Value, fun (i : Value) => { val := i, fz := [(fPtr tyA8u8 i (ofA8u8 (cut l13s0 (1 : Int) (9 : Int))))] }⟩, ⟨4, 43, Unit, fun _ => { val := (ag (cA8u8 (ofA8u8 (cut l13s0 (1 : Int) (9 : Int))))) }⟩, ⟨5, 44, Unit, fun _ => { val := (str l13s0) }⟩, ⟨6, 45, Unit, fun _ => { val := (int .u8 (En.bAt l13s0 (0 : Int))) }⟩, ⟨7, 46, Unit, fun _ => { val := (int .i64 (IntKind.i64.wrap (En.bAt l13s0 (0 : Int)))) }⟩, ⟨8, 47, Unit, fun _ => { val := (int .i64 l13i9) }⟩, ⟨9, 48, Unit, fun _ => { val := (ag ((cA8u8 (ofA8u8 (cut l13s0 (1 : Int) (9 : Int)))) ++ [(int .i64 (IntKind.i64.wrap (En.bAt l13s0 (0 : Int)))), (int .i64 l13i9), (int .i64 (0 : Int))])) }⟩, ⟨10, 12, Nat, fun (i : Nat) => { val := (ptr i 0), own := [(oBox i 86 ((cA8u8 (A8u8.mk (0 : UInt8) (0 : UInt8) (0 : UInt8) (0 : UInt8) (0 : UInt8) (0 : UInt8) (0 : UInt8) (0 : UInt8))) ++ [(int .i64 (0 : Int)), (int .i64 (0 : Int)), (int .i64 (0 : Int))]))] }⟩] (tab [(0, (str l13s0)), (1, (int .i64 a1)), (9, (int .i64 l13i9)), (10, (Value.map (some g6))), (11, l13v11), (33, (int .u64 r2.1)), (34, (int .u64 l13i34))]) mixed (fun a hs => hs.tab _ (allT_mem ⟨rfl, rfl, rfl, rfl, rfl, rfl, rfl, trivial⟩)) ?_
      refine ta_show (m := (memOf w0 Z0 [] [(oMapK Try.prog 69 g6 (fun x : A8u8 => ag (cA8u8 x)) (fun x : Bool => bool x) l13xm10), (oRow l13v11 86 tyS_api_Entry l13x11)] [])) (S := (tab [(0, (str l13s0)), (1, (int .i64 a1)), (9, (int .i64 l13i9)), (10, (Value.map (some g6))), (11, l13v11), (33, (int .u64 r2.1)), (34, (int .u64 l13i34))])) ?_
      refine ta_step 11 _ [0, 1, 2, 3, 4, 5, 6, 7, 8, 9, 10] [39, 40, 41, 42, 43, 44, 45, 46, 47, 48, 12] [0, 1, 2, 3, 4, 5, 6, 7, 8, 9, 10] [] [⟨0, 39, Unit, fun _ => { val := (str l13s0) }⟩, ⟨1, 40, Unit, fun _ => { val := (str (cut l13s0 (1 : Int) (9 : Int))) }⟩, ⟨2, 41, Value, fun (i : Value) => { val := i, fz := [(fDat (tyList tyU8) [i] (cut l13s0 (1 : Int) (9 : Int)))] }⟩, ⟨3, 42, Value, fun (i : Value) => { val := i, fz := [(fPtr tyA8u8 i (ofA8u8 (cut l13s0 (1 : Int) (9 : Int))))] }⟩, ⟨4, 43, Unit, fun _ => { val := (ag (cA8u8 (ofA8u8 (cut l13s0 (1 : Int) (9 : Int))))) }⟩, ⟨5, 44, Unit, fun _ => { val := (str l13s0) }⟩, ⟨6, 45, Unit, fun _ => { val := (int .u8 (En.bAt l13s0 (0 : Int))) }⟩, ⟨7, 46, Unit, fun _ => { val := (int .i64 (IntKind.i64.wrap (En.bAt l13s0 (0 : Int)))) }⟩, ⟨8, 47, Unit, fun _ => { val := (int .i64 l13i9) }⟩, ⟨9, 48, Unit, fun _ => { val := (ag ((cA8u8 (ofA8u8 (cut l13s0 (1 : Int) (9 : Int)))) ++ [(int .i64 (IntKind.i64.wrap (En.bAt l13s0 (0 : Int)))), (int .i64 l13i9), (int .i64 (0 : Int))])) }⟩, ⟨10, 12, Nat, fun (i : Nat) => { val := (ptr i 0), own := [(oBox i 86 ((cA8u8 (A8u8.mk (0 : UInt8) (0 : UInt8) (0 : UInt8) (0 : UInt8) (0 : UInt8) (0 : UInt8) (0 : UInt8) (0 : UInt8))) ++ [(int .i64 (0 : Int)), (int .i64 (0 : Int)), (int .i64 (0 : Int))]))] }⟩] [] rfl rfl rfl (by kernel_rfl) rfl rfl rfl ⟨⟨_, rfl, [], rfl, by
 intro X_ Y_ F_ K_ hK_
 refine al_show (m := Mem.plus (memOf w0 Z0 [] [(oMapK Try.prog 69 g6 (fun x : A8u8 => ag (cA8u8 x)) (fun x : Bool => bool x) l13xm10), (oRow l13v11 86 tyS_api_Entry l13x11)] []) X_ Y_) (S := over (tab [(0, (str l13s0)), (1, (int .i64 a1)), (9, (int .i64 l13i9)), (10, (Value.map (some g6))), (11, l13v11), (33, (int .u64 r2.1)), (34, (int .u64 l13i34))]) F_) ?_
 refine al_mv rfl rfl ?_
 refine al_nil ?_
 exact fr_fin hK_ ()⟩, ⟨_, rfl, [0], rfl, by
 intro _
 intro X_ Y_ F_ K_ hK_
 refine al_show (m := Mem.plus (memOf w0 Z0 [] [(oMapK Try.prog 69 g6 (fun x : A8u8 => ag (cA8u8 x)) (fun x : Bool => bool x) l13xm10), (oRow l13v11 86 tyS_api_Entry l13x11)] []) X_ Y_) (S := over (put (tab [(0, (str l13s0)), (1, (int .i64 a1)), (9, (int .i64 l13i9)), (10, (Value.map (some g6))), (11, l13v11), (33, (int .u64 r2.1)), (34, (int .u64 l13i34))]) 39 (str l13s0)) F_) ?_
 refine al_val (ov_strCut hc18.1 hc18.2.1 hc18.2.2 Try.underlying9 rfl rfl rfl rfl) ?_
 refine al_nil ?_
 exact fr_fin hK_ ()⟩, ⟨_, rfl, [1], rfl, by
 intro _
 intro X_ Y_ F_ K_ hK_
 refine al_show (m := Mem.plus (memOf w0 Z0 [] [(oMapK Try.prog 69 g6 (fun x : A8u8 => ag (cA8u8 x)) (fun x : Bool => bool x) l13xm10), (oRow l13v11 86 tyS_api_Entry l13x11)] []) X_ Y_) (S := over (put (tab [(0, (str l13s0)), (1, (int .i64 a1)), (9, (int .i64 l13i9)), (10, (Value.map (some g6))), (11, l13v11), (33, (int .u64 r2.1)), (34, (int .u64 l13i34))]) 40 (str (cut l13s0 (1 : Int) (9 : Int)))) F_) ?_
 refine al_bytes hc19 rfl Try.underlying9 Try.underlying121 Try.underlying5 rfl (fun s20 => ?_)
 refine al_nil ?_
 exact fr_fin hK_ s20⟩, ⟨_, rfl, [2], rfl, by
 intro s20
 intro X_ Y_ F_ K_ hK_
 refine al_show (m := Mem.plus (memOf w0 Z0 [] [(oMapK Try.prog 69 g6 (fun x : A8u8 => ag (cA8u8 x)) (fun x : Bool => bool x) l13xm10), (oRow l13v11 86 tyS_api_Entry l13x11)] [(fDat (tyList tyU8) [s20] (cut l13s0 (1 : Int) (9 : Int)))]) X_ Y_) (S := over (put (tab [(0, (str l13s0)), (1, (int .i64 a1)), (9, (int .i64 l13i9)), (10, (Value.map (some g6))), (11, l13v11), (33, (int .u64 r2.1)), (34, (int .u64 l13i34))]) 41 s20) F_) ?_
 refine al_s2ap (τA := tyA8u8) (x := (ofA8u8 (cut l13s0 (1 : Int) (9 : Int)))) 0 8 hc22 rfl (fun h9 => oflA8u8 hc22 h9) rfl rfl Try.underlying69 rfl (fun p21 => ?_)
 refine al_nil ?_
 exact fr_fin hK_ p21⟩, ⟨_, rfl, [3], rfl, by
 intro p21
 intro X_ Y_ F_ K_ hK_
 refine al_show (m := Mem.plus (memOf w0 Z0 [] [(oMapK Try.prog 69 g6 (fun x : A8u8 => ag (cA8u8 x)) (fun x : Bool => bool x) l13xm10), (oRow l13v11 86 tyS_api_Entry l13x11)] [(fPtr tyA8u8 p21 (ofA8u8 (cut l13s0 (1 : Int) (9 : Int))))]) X_ Y_) (S := over (put (tab [(0, (str l13s0)), (1, (int .i64 a1)), (9, (int .i64 l13i9)), (10, (Value.map (some g6))), (11, l13v11), (33, (int .u64 r2.1)), (34, (int .u64 l13i34))]) 42 p21) F_) ?_
 refine al_val (ov_loadP (ds := (cA8u8 (ofA8u8 (cut l13s0 (1 : Int) (9 : Int))))) 0 rfl encA8u8 rfl Try.underlying69 sz69 rfl rfl rfl) ?_
 refine al_nil ?_
 exact fr_fin hK_ ()⟩, ⟨_, rfl, [], rfl, by
 intro X_ Y_ F_ K_ hK_
 refine al_show (m := Mem.plus (memOf w0 Z0 [] [(oMapK Try.prog 69 g6 (fun x : A8u8 => ag (cA8u8 x)) (fun x : Bool => bool x) l13xm10), (oRow l13v11 86 tyS_api_Entry l13x11)] []) X_ Y_) (S := over (tab [(0, (str l13s0)), (1, (int .i64 a1)), (9, (int .i64 l13i9)), (10, (Value.map (some g6))), (11, l13v11), (33, (int .u64 r2.1)), (34, (int .u64 l13i34))]) F_) ?_
 refine al_mv rfl rfl ?_
 refine al_nil ?_
 exact fr_fin hK_ ()⟩, ⟨_, rfl, [5], rfl, by
 intro _
 intro X_ Y_ F_ K_ hK_
 refine al_show (m := Mem.plus (memOf w0 Z0 [] [(oMapK Try.prog 69 g6 (fun x : A8u8 => ag (cA8u8 x)) (fun x : Bool => bool x) l13xm10), (oRow l13v11 86 tyS_api_Entry l13x11)] []) X_ Y_) (S := over (put (tab [(0, (str l13s0)), (1, (int .i64 a1)), (9, (int .i64 l13i9)), (10, (Value.map (some g6))), (11, l13v11), (33, (int .u64 r2.1)), (34, (int .u64 l13i34))]) 44 (str l13s0)) F_) ?_
 refine al_val (ov_strIdx hc23.1 hc23.2 Try.underlying9 rfl rfl rfl) ?_
 refine al_nil ?_
 exact fr_fin hK_ ()⟩, ⟨_, rfl, [6], rfl, by
 intro _
 intro X_ Y_ F_ K_ hK_
 refine al_show (m := Mem.plus (memOf w0 Z0 [] [(oMapK Try.prog 69 g6 (fun x : A8u8 => ag (cA8u8 x)) (fun x : Bool => bool x) l13xm10), (oRow l13v11 86 tyS_api_Entry l13x11)] []) X_ Y_) (S := over (put (tab [(0, (str l13s0)), (1, (int .i64 a1)), (9, (int .i64 l13i9)), (10, (Value.map (some g6))), (11, l13v11), (33, (int .u64 r2.1)), (34, (int .u64 l13i34))]) 45 (int .u8 (En.bAt l13s0 (0 : Int)))) F_) ?_
 refine al_val (ov_convInt (by rw [Try.underlying5]; rfl) Try.underlying3 rfl rfl) ?_
 refine al_nil ?_
 exact fr_fin hK_ ()⟩, ⟨_, rfl, [], rfl, by
 intro X_ Y_ F_ K_ hK_
 refine al_show (m := Mem.plus (memOf w0 Z0 [] [(oMapK Try.prog 69 g6 (fun x : A8u8 => ag (cA8u8 x)) (fun x : Bool => bool x) l13xm10), (oRow l13v11 86 tyS_api_Entry l13x11)] []) X_ Y_) (S := over (tab [(0, (str l13s0)), (1, (int .i64 a1)), (9, (int .i64 l13i9)), (10, (Value.map (some g6))), (11, l13v11), (33, (int .u64 r2.1)), (34, (int .u64 l13i34))]) F_) ?_
 refine al_mv rfl rfl ?_
 refine al_nil ?_
 exact fr_fin hK_ ()⟩, ⟨_, rfl, [4, 7, 8], rfl, by
 intro _
 intro _
 intro _
 intro X_ Y_ F_ K_ hK_
 refine al_show (m := Mem.plus (memOf w0 Z0 [] [(oMapK Try.prog 69 g6 (fun x : A8u8 => ag (cA8u8 x)) (fun x : Bool => bool x) l13xm10), (oRow l13v11 86 tyS_api_Entry l13x11)] []) X_ Y_) (S := over (put (put (put (tab [(0, (str l13s0)), (1, (int .i64 a1)), (9, (int .i64 l13i9)), (10, (Value.map (some g6))), (11, l13v11), (33, (int .u64 r2.1)), (34, (int .u64 l13i34))]) 43 (ag (cA8u8 (ofA8u8 (cut l13s0 (1 : Int) (9 : Int)))))) 46 (int .i64 (IntKind.i64.wrap (En.bAt l13s0 (0 : Int))))) 47 (int .i64 l13i9)) F_) ?_
 refine al_val (ov_build (cells := (((cA8u8 (ofA8u8 (cut l13s0 (1 : Int) (9 : Int)))) ++ [(int .i64 (IntKind.i64.wrap (En.bAt l13s0 (0 : Int)))), (int .i64 l13i9), (int .i64 (0 : Int))])).toArray) (cs := ((cA8u8 (ofA8u8 (cut l13s0 (1 : Int) (9 : Int)))) ++ [(int .i64 (IntKind.i64.wrap (En.bAt l13s0 (0 : Int)))), (int .i64 l13i9), (int .i64 (0 : Int))])) rfl (fun w a hm hs => by simp only [List.map_toArray, List.map_cons, List.map_nil, List.toList_toArray, hs.ev (x := .tmp 43) rfl, hs.ev (x := .tmp 46) rfl, hs.ev (x := .tmp 47) rfl]; kernel_rfl)) ?_
 refine al_nil ?_
 exact fr_fin hK_ ()⟩, ⟨_, rfl, [], rfl, by
 intro X_ Y_ F_ K_ hK_
 refine al_show (m := Mem.plus (memOf w0 Z0 [] [(oMapK Try.prog 69 g6 (fun x : A8u8 => ag (cA8u8 x)) (fun x : Bool => bool x) l13xm10), (oRow l13v11 86 tyS_api_Entry l13x11)] []) X_ Y_) (S := over (tab [(0, (str l13s0)), (1, (int .i64 a1)), (9, (int .i64 l13i9)), (10, (Value.map (some g6))), (11, l13v11), (33, (int .u64 r2.1)), (34, (int .u64 l13i34))]) F_) ?_
 refine al_alloc (zs := ((cA8u8 (A8u8.mk (0 : UInt8) (0 : UInt8) (0 : UInt8) (0 : UInt8) (0 : UInt8) (0 : UInt8) (0 : UInt8) (0 : UInt8))) ++ [(int .i64 (0 : Int)), (int .i64 (0 : Int)), (int .i64 (0 : Int))])) (zeroOf_to to86) rfl rfl (fun g24 => ?_)
 refine al_nil ?_
 exact fr_fin hK_ g24⟩, trivial⟩ ?_
      intro _
      intro _
      intro s20
      intro p21
      intro _
      intro _
      intro _
      intro _
      intro _
      intro _
      intro g24
      intro X_ Y_ F_ K_ hK_
      refine al_show (m := Mem.plus (memOf w0 Z0 [] [(oBox g24 86 ((cA8u8 (A8u8.mk (0 : UInt8) (0 : UInt8) (0 : UInt8) (0 : UInt8) (0 : UInt8) (0 : UInt8) (0 : UInt8) (0 : UInt8))) ++ [(int .i64 (0 : Int)), (int .i64 (0 : Int)), (int .i64 (0 : Int))])), (oMapK Try.prog 69 g6 (fun x : A8u8 => ag (cA8u8 x)) (fun x : Bool => bool x) l13xm10), (oRow l13v11 86 tyS_api_Entry l13x11)] [(fPtr tyA8u8 p21 (ofA8u8 (cut l13s0 (1 : Int) (9 : Int)))), (fDat (tyList tyU8) [s20] (cut l13s0 (1 : Int) (9 : Int)))]) X_ Y_) (S := over (put (put (put (put (put (put (put (put (put (put (put (tab [(0, (str l13s0)), (1, (int .i64 a1)), (9, (int .i64 l13i9)), (10, (Value.map (some g6))), (11, l13v11), (33, (int .u64 r2.1)), (34, (int .u64 l13i34))]) 39 (str l13s0)) 40 (str (cut l13s0 (1 : Int) (9 : Int)))) 41 s20) 42 p21) 43 (ag (cA8u8 (ofA8u8 (cut l13s0 (1 : Int) (9 : Int)))))) 44 (str l13s0)) 45 (int .u8 (En.bAt l13s0 (0 : Int)))) 46 (int .i64 (IntKind.i64.wrap (En.bAt l13s0 (0 : Int))))) 47 (int .i64 l13i9)) 48 (ag ((cA8u8 (ofA8u8 (cut l13s0 (1 : Int) (9 : Int)))) ++ [(int .i64 (IntKind.i64.wrap (En.bAt l13s0 (0 : Int)))), (int .i64 l13i9), (int .i64 (0 : Int))]))) 12 (ptr g24 0)) F_) ?_
      refine al_store (i := 0) (vs := ((cA8u8 (ofA8u8 (cut l13s0 (1 : Int) (9 : Int)))) ++ [(int .i64 (IntKind.i64.wrap (En.bAt l13s0 (0 : Int)))), (int .i64 l13i9), (int .i64 (0 : Int))])) (cs' := ((cA8u8 (ofA8u8 (cut l13s0 (1 : Int) (9 : Int)))) ++ [(int .i64 (IntKind.i64.wrap (En.bAt l13s0 (0 : Int)))), (int .i64 l13i9), (int .i64 (0 : Int))])) rfl rfl rfl sz86 (cv_rfl rfl) rfl (co_app (oneA8u8 (ofA8u8 (cut l13s0 (1 : Int) (9 : Int)))) (co_val rfl (co_val rfl (co_val rfl co_nil)))) (Nat.le_of_ble_eq_true rfl) rfl rfl ?_
      refine al_nil ?_
      refine aq_show (m := Mem.plus (memOf w0 Z0 [] [(oBox g24 86 ((cA8u8 (ofA8u8 (cut l13s0 (1 : Int) (9 : Int)))) ++ [(int .i64 (IntKind.i64.wrap (En.bAt l13s0 (0 : Int)))), (int .i64 l13i9), (int .i64 (0 : Int))])), (oMapK Try.prog 69 g6 (fun x : A8u8 => ag (cA8u8 x)) (fun x : Bool => bool x) l13xm10), (oRow l13v11 86 tyS_api_Entry l13x11)] [(fPtr tyA8u8 p21 (ofA8u8 (cut l13s0 (1 : Int) (9 : Int)))), (fDat (tyList tyU8) [s20] (cut l13s0 (1 : Int) (9 : Int)))]) X_ Y_) ?_
      refine aq_next hK_ [0, 1, 2] [] [(0, (str l13s0)), (1, (int .i64 a1)), (9, (int .i64 l13i9)), (10, (Value.map (some g6))), (11, l13v11), (12, (ptr g24 0)), (33, (int .u64 r2.1)), (34, (int .u64 l13i34))] [] [] rfl rfl (by decide) rfl ⟨rfl, rfl, rfl, rfl, rfl, rfl, rfl, rfl, trivial⟩ trivial ?_
      clear hK_ K_ F_ X_ Y_
      refine ta_show (m := (memOf w0 Z0 [] [(oBox g24 86 ((cA8u8 (ofA8u8 (cut l13s0 (1 : Int) (9 : Int)))) ++ [(int .i64 (IntKind.i64.wrap (En.bAt l13s0 (0 : Int)))), (int .i64 l13i9), (int .i64 (0 : Int))])), (oMapK Try.prog 69 g6 (fun x : A8u8 => ag (cA8u8 x)) (fun x : Bool => bool x) l13xm10), (oRow l13v11 86 tyS_api_Entry l13x11)] [])) (S := (tab [(0, (str l13s0)), (1, (int .i64 a1)), (9, (int .i64 l13i9)), (10, (Value.map (some g6))), (11, l13v11), (12, (ptr g24 0)), (33, (int .u64 r2.1)), (34, (int .u64 l13i34))])) ?_
      refine ta_end [] [] rfl rfl (by kernel_rfl) rfl trivial ?_
      refine aq_show (m := (memOf w0 Z0 [] [(oBox g24 86 ((cA8u8 (ofA8u8 (cut l13s0 (1 : Int) (9 : Int)))) ++ [(int .i64 (IntKind.i64.wrap (En.bAt l13s0 (0 : Int)))), (int .i64 l13i9), (int .i64 (0 : Int))])), (oMapK Try.prog 69 g6 (fun x : A8u8 => ag (cA8u8 x)) (fun x : Bool => bool x) l13xm10), (oRow l13v11 86 tyS_api_Entry l13x11)] [])) (S := (tab [(0, (str l13s0)), (1, (int .i64 a1)), (9, (int .i64 l13i9)), (10, (Value.map (some g6))), (11, l13v11), (12, (ptr g24 0)), (33, (int .u64 r2.1)), (34, (int .u64 l13i34))])) ?_
      refine aq_then ?_
      refine aw_seq ?_
      refine aw_sr ?_
      refine al_val (ov_fieldA (p := 8) rfl Try.underlying86 rfl sz3 rfl rfl rfl) ?_
      refine al_val (ov_load (i := 0) (v := (int .i64 (IntKind.i64.wrap (En.bAt l13s0 (0 : Int))))) rfl rfl Try.underlying3 sz3 rfl rfl rfl rfl) ?_
      obtain ⟨r26, hc25, h⟩ := opt_some h
      refine al_call (vs := [(int .i64 (IntKind.i64.wrap (En.bAt l13s0 (0 : Int))))]) (f_pack_Known_ok fu (IntKind.i64.wrap (En.bAt l13s0 (0 : Int))) hc25) [] [] [0, 1, 2] pre_nil rfl (by simp) (by decide) (.inl rfl) rfl Try.func106 rfl rfl rfl (fun _ => ?_)
      refine al_val (ov_not rfl rfl) ?_
      refine al_nt ?_
      refine aw_cond rfl (fun hb27 => ?_) (fun hb27 => ?_)
      ·replace h := bif_t hb27 h
       refine aw_sr ?_
       refine al_as rfl rfl ?_
       refine al_as rfl rfl ?_
       refine al_nt ?_
       refine aw_ret ?_
       refine aq_then_ret ?_
       refine aq_block_ret ?_
       refine aq_then_ret ?_
       refine aq_then_ret ?_
       refine aq_block_ret ?_
       refine aq_then_ret ?_
       refine aq_nilR 86 tyS_api_Entry ?_
       obtain rfl := Option.some.inj h
       exact fn_ret (Value.slice none 0 0) [0] [] rfl rfl rfl rfl (res2 rfl rfl rfl) rfl rfl rfl (by decide)
      ·replace h := bif_f hb27 h
       refine aw_skip ?_
       refine aq_tr ?_
       refine al_mv rfl rfl ?_
       obtain ⟨hc28, h⟩ := req_some h
       refine al_val (ov_strFrom hc28.1 hc28.2 Try.underlying9 rfl rfl rfl) ?_
       refine al_as rfl rfl ?_
       refine al_nt ?_
       refine aw_sr ?_
       refine al_mv rfl rfl ?_
       obtain ⟨r30, hc29, h⟩ := opt_some h
       refine al_call (vs := [(str (l13s0.drop ((9 : Int)).toNat))]) (f_num_Get_ok fu (l13s0.drop ((9 : Int)).toNat) hc29) [] [] [0, 1, 2] pre_nil rfl (by simp) (by decide) (.inl rfl) rfl Try.func163 rfl rfl rfl (fun _ => ?_)
       refine al_mv rfl rfl ?_
       refine al_ex rfl rfl rfl ?_
       refine al_ex rfl rfl rfl ?_
       refine al_ex rfl rfl rfl ?_
       refine al_as rfl rfl ?_
       refine al_as rfl rfl ?_
       refine al_as rfl rfl ?_
       refine al_nt ?_
       refine aw_seq ?_
       refine aw_block ?_
       refine aw_sr ?_
       refine al_mv rfl rfl ?_
       refine al_in rfl rfl rfl rfl ?_
       refine al_as rfl rfl ?_
       refine al_nt ?_
       refine aw_cond rfl (fun hb31 => ?_) (fun hb31 => ?_)
       ·replace h := bif_t hb31 h
        refine aw_sr ?_
        refine al_mv rfl rfl ?_
        refine al_as rfl rfl ?_
        refine al_as rfl rfl ?_
        refine al_nt ?_
        refine aw_ret ?_
        refine aq_block_ret ?_
        refine aq_then_ret ?_
        refine aq_block_ret ?_
        refine aq_then_ret ?_
        refine aq_then_ret ?_
        refine aq_block_ret ?_
        refine aq_then_ret ?_
        refine aq_nilR 86 tyS_api_Entry ?_
        obtain rfl := Option.some.inj h
        exact fn_ret (Value.slice none 0 0) [0] [] rfl rfl rfl rfl (res2 rfl rfl rfl) rfl rfl rfl (by decide)
       ·replace h := bif_f hb31 h
        refine aw_sr ?_
        refine al_mv rfl rfl ?_
        refine al_in rfl rfl rfl rfl ?_
        refine al_as rfl rfl ?_
        refine al_nt ?_
        refine aw_cond rfl (fun hb32 => ?_) (fun hb32 => ?_)
        ·replace h := bif_t hb32 h
         refine aw_sr ?_
         refine al_as rfl rfl ?_
         refine al_as rfl rfl ?_
         refine al_nt ?_
         refine aw_ret ?_
         refine aq_block_ret ?_
         refine aq_then_ret ?_
         refine aq_block_ret ?_
         refine aq_then_ret ?_
         refine aq_then_ret ?_
         refine aq_block_ret ?_
         refine aq_then_ret ?_
         refine aq_nilR 86 tyS_api_Entry ?_
         obtain rfl := Option.some.inj h
         exact fn_ret (Value.slice none 0 0) [0] [] rfl rfl rfl rfl (res2 rfl rfl rfl) rfl rfl rfl (by decide)
        ·replace h := bif_f hb32 h
         obtain ⟨kk34, hkk34, h⟩ := lt_some h
         refine aw_seq_join (ι := Bool) (fun i => (memOf w0 Z0 [] [(oMapK Try.prog 69 g6 (fun x : A8u8 => ag (cA8u8 x)) (fun x : Bool => bool x) l13xm10), (oRow l13v11 86 tyS_api_Entry l13x11), (oBox g24 86 ((cA8u8 (ofA8u8 (cut l13s0 (1 : Int) (9 : Int)))) ++ [(int .i64 (IntKind.i64.wrap (En.bAt l13s0 (0 : Int)))), (int .i64 l13i9), (int .i64 (0 : Int))]))] [])) (fun i => (tab [(0, (str (l13s0.drop ((9 : Int)).toNat))), (1, (int .i64 a1)), (9, (int .i64 l13i9)), (10, (Value.map (some g6))), (11, l13v11), (12, (ptr g24 0)), (13, (int .u64 r30.1)), (14, (int .i64 r30.2.1)), (33, (int .u64 r2.1)), (34, (int .u64 l13i34)), (68, (bool i))])) (fun i => kk34 i = some r) ?_ ?_
         ·rintro j33b68 h
          have h : kk34 j33b68 = some r := h
          rw [hkk34] at h
          dsimp only at h
          clear hkk34
          refine aw_show (m := (memOf w0 Z0 [] [(oMapK Try.prog 69 g6 (fun x : A8u8 => ag (cA8u8 x)) (fun x : Bool => bool x) l13xm10), (oRow l13v11 86 tyS_api_Entry l13x11), (oBox g24 86 ((cA8u8 (ofA8u8 (cut l13s0 (1 : Int) (9 : Int)))) ++ [(int .i64 (IntKind.i64.wrap (En.bAt l13s0 (0 : Int)))), (int .i64 l13i9), (int .i64 (0 : Int))]))] [])) (S := (tab [(0, (str (l13s0.drop ((9 : Int)).toNat))), (1, (int .i64 a1)), (9, (int .i64 l13i9)), (10, (Value.map (some g6))), (11, l13v11), (12, (ptr g24 0)), (13, (int .u64 r30.1)), (14, (int .i64 r30.2.1)), (33, (int .u64 r2.1)), (34, (int .u64 l13i34)), (68, (bool j33b68))])) ?_
          refine aw_cond rfl (fun hb35 => ?_) (fun hb35 => ?_)
          ·replace h := bif_t hb35 h
           refine aw_sr ?_
           refine al_as rfl rfl ?_
           refine al_as rfl rfl ?_
           refine al_nt ?_
           refine aw_ret ?_
           refine aq_block_ret ?_
           refine aq_then_ret ?_
           refine aq_block_ret ?_
           refine aq_then_ret ?_
           refine aq_then_ret ?_
           refine aq_block_ret ?_
           refine aq_then_ret ?_
           refine aq_nilR 86 tyS_api_Entry ?_
           obtain rfl := Option.some.inj h
           exact fn_ret (Value.slice none 0 0) [0] [] rfl rfl rfl rfl (res2 rfl rfl rfl) rfl rfl rfl (by decide)
          ·replace h := bif_f hb35 h
           refine aw_skip ?_
           refine aq_block ?_
           refine aq_tr ?_
           refine al_mv rfl rfl ?_
           refine al_mv rfl rfl ?_
           obtain ⟨hc36, h⟩ := req_some h
           refine al_val (ov_strFrom hc36.1 hc36.2 Try.underlying9 rfl rfl rfl) ?_
           refine al_as rfl rfl ?_
           refine al_nt ?_
           refine aw_sr ?_
           refine al_mv rfl rfl ?_
           refine al_val (ov_convInt (by rw [Try.underlying55]; rfl) Try.underlying3 rfl rfl) ?_
           refine al_val (ov_fieldA (p := 10) rfl Try.underlying86 rfl sz3 rfl rfl rfl) ?_
           refine al_store (i := 2) (vs := [(int .i64 (IntKind.i64.wrap r30.1))]) (cs' := ((cA8u8 (ofA8u8 (cut l13s0 (1 : Int) (9 : Int)))) ++ [(int .i64 (IntKind.i64.wrap (En.bAt l13s0 (0 : Int)))), (int .i64 l13i9), (int .i64 (IntKind.i64.wrap r30.1))])) rfl rfl rfl sz3 (cv_rfl rfl) rfl (co_val rfl co_nil) (Nat.le_of_ble_eq_true rfl) rfl rfl ?_
           refine al_nt ?_
           refine aw_sr ?_
           refine al_mv rfl rfl ?_
           refine al_val (ov_fieldA (p := 10) rfl Try.underlying86 rfl sz3 rfl rfl rfl) ?_
           refine al_val (ov_load (i := 2) (v := (int .i64 (IntKind.i64.wrap r30.1))) rfl rfl Try.underlying3 sz3 rfl rfl rfl rfl) ?_
           refine al_in rfl rfl rfl rfl ?_
           refine al_as rfl rfl ?_
           refine al_nt ?_
           refine aw_sr ?_
           refine al_mv rfl rfl ?_
           refine al_val (ov_fieldA (p := 0) rfl Try.underlying86 rfl sz69 rfl rfl rfl) ?_
           refine al_val (ov_load (i := 2) (v := (ag (cA8u8 (ofA8u8 (cut l13s0 (1 : Int) (9 : Int)))))) rfl rfl Try.underlying69 sz69 rfl rfl rfl rfl) ?_
           refine al_mapSetK (ek := (fun x : A8u8 => ag (cA8u8 x))) (ew := (fun x : Bool => bool x)) (k := (ofA8u8 (cut l13s0 (1 : Int) (9 : Int)))) (v := true) 0 kd69 ki69 (kw69 (ofA8u8 (cut l13s0 (1 : Int) (9 : Int)))) rfl rfl rfl rfl Try.underlying267 rfl ?_
           refine al_nt ?_
           refine aw_region ?_
           refine al_mv rfl rfl ?_
           refine al_val (ov_load (i := 2) (v := (ag ((cA8u8 (ofA8u8 (cut l13s0 (1 : Int) (9 : Int)))) ++ [(int .i64 (IntKind.i64.wrap (En.bAt l13s0 (0 : Int)))), (int .i64 l13i9), (int .i64 (IntKind.i64.wrap r30.1))]))) rfl rfl Try.underlying86 sz86 rfl rfl rfl rfl) ?_
           refine al_buildSlice (τ := tyS_api_Entry) (e := 86) (k := 1) (sz := 0) (by_ := 0) (z := undef) (cs := ((cA8u8 (ofA8u8 (cut l13s0 (1 : Int) (9 : Int)))) ++ [(int .i64 (IntKind.i64.wrap (En.bAt l13s0 (0 : Int)))), (int .i64 l13i9), (int .i64 (IntKind.i64.wrap r30.1))])) (xs := [(S_api_Entry.mk (ofA8u8 (cut l13s0 (1 : Int) (9 : Int))) (IntKind.i64.wrap (En.bAt l13s0 (0 : Int))) l13i9 (IntKind.i64.wrap r30.1))]) rfl (by decide) (fun w a hm hs => ⟨(((cA8u8 (ofA8u8 (cut l13s0 (1 : Int) (9 : Int)))) ++ [(int .i64 (IntKind.i64.wrap (En.bAt l13s0 (0 : Int)))), (int .i64 l13i9), (int .i64 (IntKind.i64.wrap r30.1))])).toArray, rfl, by simp only [List.map_toArray, List.map_cons, List.map_nil, hs.ev (x := .tmp 95) rfl]; exact run_bs [(ag ((cA8u8 (ofA8u8 (cut l13s0 (1 : Int) (9 : Int)))) ++ [(int .i64 (IntKind.i64.wrap (En.bAt l13s0 (0 : Int)))), (int .i64 l13i9), (int .i64 (IntKind.i64.wrap r30.1))]))] ((cA8u8 (ofA8u8 (cut l13s0 (1 : Int) (9 : Int)))) ++ [(int .i64 (IntKind.i64.wrap (En.bAt l13s0 (0 : Int)))), (int .i64 l13i9), (int .i64 (IntKind.i64.wrap r30.1))]) Try.underlying63 to86 rfl rfl (bs_cons (l := ((cA8u8 (ofA8u8 (cut l13s0 (1 : Int) (9 : Int)))) ++ [(int .i64 (IntKind.i64.wrap (En.bAt l13s0 (0 : Int)))), (int .i64 l13i9), (int .i64 (IntKind.i64.wrap r30.1))])) (cs := []) (cv_rfl rfl) rfl bs_nil) hm⟩) (fun hm => ⟨((cA8u8 (ofA8u8 (cut l13s0 (1 : Int) (9 : Int)))) ++ [(int .i64 (IntKind.i64.wrap (En.bAt l13s0 (0 : Int)))), (int .i64 l13i9), (int .i64 (IntKind.i64.wrap r30.1))]), [], rfl, mkS_api_Entry rfl, rfl⟩) rfl (fun v37 => ?_)
           obtain ⟨hc38, h⟩ := req_some h
           refine al_append 2 hc38.1 hc38.2 rfl (src_own (i := 2) 0 rfl) rfl rfl Try.underlying63 to86 rfl rfl rfl (fun v39 => ?_)
           refine al_as rfl rfl ?_
           refine al_nil ?_
           refine aq_block ?_
           refine aq_then ?_
           refine aw_region ?_
           refine al_in rfl rfl rfl rfl ?_
           refine al_mv rfl rfl ?_
           refine al_nil ?_
           exact aq_again k14 (((l13s0.drop ((9 : Int)).toNat).drop (r30.2.1).toNat), (IntKind.i64.wrap (l13i9 + (IntKind.i64.wrap r30.1))), (gset l13xm10 (ofA8u8 (cut l13s0 (1 : Int) (9 : Int))) true), v39, (l13x11 ++ ([(S_api_Entry.mk (ofA8u8 (cut l13s0 (1 : Int) (9 : Int))) (IntKind.i64.wrap (En.bAt l13s0 (0 : Int))) l13i9 (IntKind.i64.wrap r30.1))])), (IntKind.u64.wrap (l13i34 + (1 : Int)))) (Nat.lt_succ_self _) h (fun w a hm hs => norm hm hs [1, 2] [] [(0, (str ((l13s0.drop ((9 : Int)).toNat).drop (r30.2.1).toNat))), (1, (int .i64 a1)), (9, (int .i64 (IntKind.i64.wrap (l13i9 + (IntKind.i64.wrap r30.1))))), (10, (Value.map (some g6))), (11, v39), (33, (int .u64 r2.1)), (34, (int .u64 (IntKind.u64.wrap (l13i34 + (1 : Int)))))] (by decide) ⟨rfl, rfl, rfl, rfl, rfl, rfl, rfl, trivial⟩)
         ·clear hkk34
          refine aw_region ?_
          refine al_mv rfl rfl ?_
          refine al_val (ov_fieldA (p := 0) rfl Try.underlying86 rfl sz69 rfl rfl rfl) ?_
          refine al_val (ov_load (i := 0) (v := (ag (cA8u8 (ofA8u8 (cut l13s0 (1 : Int) (9 : Int)))))) rfl rfl Try.underlying69 sz69 rfl rfl rfl rfl) ?_
          refine al_val (v := (bool ((gget l13xm10 (ofA8u8 (cut l13s0 (1 : Int) (9 : Int)))).getD false))) (ov_lookupK (k := (ofA8u8 (cut l13s0 (1 : Int) (9 : Int)))) (ek := (fun x : A8u8 => ag (cA8u8 x))) (ew := (fun x : Bool => bool x)) (z := false) 1 kd69 ki69 (kw69 (ofA8u8 (cut l13s0 (1 : Int) (9 : Int)))) rfl rfl rfl Try.underlying267 (zeroOf_to to4) rfl) ?_
          refine al_mv rfl rfl ?_
          refine al_caseB 73 rfl (fun hb40 => ?_) (fun hb40 => ?_)
          ·replace h := bif_t hb40 h
           refine al_skip ?_
           refine al_skip ?_
           refine al_skip ?_
           refine al_skip ?_
           refine al_skip ?_
           refine al_skip ?_
           refine al_val (ov_pick_t rfl rfl rfl) ?_
           refine al_as rfl rfl ?_
           refine al_nil ?_
           exact aq_join true h (fun w a hm hs => norm hm hs [1, 2, 0] [] [(0, (str (l13s0.drop ((9 : Int)).toNat))), (1, (int .i64 a1)), (9, (int .i64 l13i9)), (10, (Value.map (some g6))), (11, l13v11), (12, (ptr g24 0)), (13, (int .u64 r30.1)), (14, (int .i64 r30.2.1)), (33, (int .u64 r2.1)), (34, (int .u64 l13i34)), (68, (bool true))] (by decide) ⟨rfl, rfl, rfl, rfl, rfl, rfl, rfl, rfl, rfl, rfl, rfl, trivial⟩)
          ·replace h := bif_f hb40 h
           refine al_mv rfl rfl ?_
           refine al_mv rfl rfl ?_
           refine al_val (ov_convInt (by rw [Try.underlying55]; rfl) Try.underlying3 rfl rfl) ?_
           refine al_in rfl rfl rfl rfl ?_
           refine al_mv rfl rfl ?_
           refine al_in rfl rfl rfl rfl ?_
           refine al_val (ov_pick_f rfl rfl rfl) ?_
           refine al_as rfl rfl ?_
           refine al_nil ?_
           exact aq_join (decide ((IntKind.i64.wrap (l13i9 + (IntKind.i64.wrap r30.1))) > a1)) h (fun w a hm hs => norm hm hs [1, 2, 0] [] [(0, (str (l13s0.drop ((9 : Int)).toNat))), (1, (int .i64 a1)), (9, (int .i64 l13i9)), (10, (Value.map (some g6))), (11, l13v11), (12, (ptr g24 0)), (13, (int .u64 r30.1)), (14, (int .i64 r30.2.1)), (33, (int .u64 r2.1)), (34, (int .u64 l13i34)), (68, (bool (decide ((IntKind.i64.wrap (l13i9 + (IntKind.i64.wrap r30.1))) > a1))))] (by decide) ⟨rfl, rfl, rfl, rfl, rfl, rfl, rfl, rfl, rfl, rfl, rfl, trivial⟩)
    ·replace h := bif_f hb16 h
     refine aw_exit ?_
     refine aq_then_exit ?_
     refine aq_then_exit ?_
     refine aq_block_exit ?_
     exact aq_join (l13s0, l13i9, l13v11, l13x11) h (fun w a hm hs => norm hm hs [1] [] [(0, (str l13s0)), (1, (int .i64 a1)), (9, (int .i64 l13i9)), (11, l13v11)] (by decide) ⟨rfl, rfl, rfl, rfl, trivial⟩)
def f_pack_List (fu : Nat) (a0 : (List UInt8)) : Option ((List S_api_Entry) × Int) := (bif (decide ((a0.length : Int) < (10 : Int))) then (some (([] : List S_api_Entry), (3 : Int))) else (req (0 ≤ (IntKind.i64.wrap ((a0.length : Int) - (8 : Int))) ∧ (IntKind.i64.wrap ((a0.length : Int) - (8 : Int))) ≤ (a0.length : Int)) (req (0 ≤ (IntKind.i64.wrap ((a0.length : Int) - (8 : Int))) ∧ (IntKind.i64.wrap ((a0.length : Int) - (8 : Int))) ≤ (a0.length : Int)) (req ((a0.drop ((IntKind.i64.wrap ((a0.length : Int) - (8 : Int)))).toNat).length ≤ 9223372036854775807) (req (8 ≤ (a0.drop ((IntKind.i64.wrap ((a0.length : Int) - (8 : Int)))).toNat).length) (opt (f_mix_ID fu (a0.take ((IntKind.i64.wrap ((a0.length : Int) - (8 : Int)))).toNat)) fun (r9 : A8u8) => (bif (!(r9 == (ofA8u8 (a0.drop ((IntKind.i64.wrap ((a0.length : Int) - (8 : Int)))).toNat)))) then (some (([] : List S_api_Entry), (6 : Int))) else (req (0 ≤ (IntKind.i64.wrap ((a0.length : Int) - (10 : Int))) ∧ (IntKind.i64.wrap ((a0.length : Int) - (10 : Int))) < (a0.length : Int)) (req (0 ≤ (IntKind.i64.wrap ((IntKind.i64.wrap ((a0.length : Int) - (10 : Int))) + (1 : Int))) ∧ (IntKind.i64.wrap ((IntKind.i64.wrap ((a0.length : Int) - (10 : Int))) + (1 : Int))) < (a0.length : Int)) (bif (decide ((bits .or .i64 (IntKind.i64.wrap (En.bAt a0 (IntKind.i64.wrap ((a0.length : Int) - (10 : Int))))) (IntKind.i64.wrap ((IntKind.i64.wrap (En.bAt a0 (IntKind.i64.wrap ((IntKind.i64.wrap ((a0.length : Int) - (10 : Int))) + (1 : Int))))) * 2 ^ min ((8 : Int)).toNat (IntKind.bits .i64)))) > (IntKind.i64.wrap ((a0.length : Int) - (10 : Int))))) then (some (([] : List S_api_Entry), (4 : Int))) else (req (0 ≤ (IntKind.i64.wrap ((IntKind.i64.wrap ((a0.length : Int) - (10 : Int))) - (bits .or .i64 (IntKind.i64.wrap (En.bAt a0 (IntKind.i64.wrap ((a0.length : Int) - (10 : Int))))) (IntKind.i64.wrap ((IntKind.i64.wrap (En.bAt a0 (IntKind.i64.wrap ((IntKind.i64.wrap ((a0.length : Int) - (10 : Int))) + (1 : Int))))) * 2 ^ min ((8 : Int)).toNat (IntKind.bits .i64)))))) ∧ (IntKind.i64.wrap ((IntKind.i64.wrap ((a0.length : Int) - (10 : Int))) - (bits .or .i64 (IntKind.i64.wrap (En.bAt a0 (IntKind.i64.wrap ((a0.length : Int) - (10 : Int))))) (IntKind.i64.wrap ((IntKind.i64.wrap (En.bAt a0 (IntKind.i64.wrap ((IntKind.i64.wrap ((a0.length : Int) - (10 : Int))) + (1 : Int))))) * 2 ^ min ((8 : Int)).toNat (IntKind.bits .i64)))))) ≤ (IntKind.i64.wrap ((a0.length : Int) - (10 : Int))) ∧ (IntKind.i64.wrap ((a0.length : Int) - (10 : Int))) ≤ (a0.length : Int)) (opt (f_pack_directory fu (cut a0 (IntKind.i64.wrap ((IntKind.i64.wrap ((a0.length : Int) - (10 : Int))) - (bits .or .i64 (IntKind.i64.wrap (En.bAt a0 (IntKind.i64.wrap ((a0.length : Int) - (10 : Int))))) (IntKind.i64.wrap ((IntKind.i64.wrap (En.bAt a0 (IntKind.i64.wrap ((IntKind.i64.wrap ((a0.length : Int) - (10 : Int))) + (1 : Int))))) * 2 ^ min ((8 : Int)).toNat (IntKind.bits .i64)))))) (IntKind.i64.wrap ((a0.length : Int) - (10 : Int)))) (IntKind.i64.wrap ((IntKind.i64.wrap ((a0.length : Int) - (10 : Int))) - (bits .or .i64 (IntKind.i64.wrap (En.bAt a0 (IntKind.i64.wrap ((a0.length : Int) - (10 : Int))))) (IntKind.i64.wrap ((IntKind.i64.wrap (En.bAt a0 (IntKind.i64.wrap ((IntKind.i64.wrap ((a0.length : Int) - (10 : Int))) + (1 : Int))))) * 2 ^ min ((8 : Int)).toNat (IntKind.bits .i64))))))) fun (r16 : ((List S_api_Entry) × Int)) => (some (r16.1, r16.2))))))))))))))
set_option maxRecDepth 100000 in
theorem f_pack_List_ok (fu : Nat) (a0 : (List UInt8)) {r : ((List S_api_Entry) × Int)} (h : f_pack_List fu a0 = some r) : FnOk Try.prog 110 [(str a0)] [] [] (fun (i : Value) => { val := (Value.tuple #[i, (int .i64 r.2)]), own := [(oRow i 86 tyS_api_Entry r.1)] }) := by
 unfold f_pack_List at h
 refine fn_enter Try.func110 rfl Try.ntmps110 rfl (fun w0 Z0 => ?_)
 refine aw_sr ?_
 refine al_as rfl rfl ?_
 refine al_as rfl rfl ?_
 refine al_nt ?_
 refine aw_seq ?_
 refine aw_sr ?_
 refine al_mv rfl rfl ?_
 refine al_val (ov_strLen Try.underlying9 rfl rfl) ?_
 refine al_in rfl rfl rfl rfl ?_
 refine al_nt ?_
 refine aw_cond rfl (fun hb1 => ?_) (fun hb1 => ?_)
 ·replace h := bif_t hb1 h
  refine aw_sr ?_
  refine al_as rfl rfl ?_
  refine al_as rfl rfl ?_
  refine al_nt ?_
  refine aw_ret ?_
  refine aq_then_ret ?_
  refine aq_nilR 86 tyS_api_Entry ?_
  obtain rfl := Option.some.inj h
  exact fn_ret (Value.slice none 0 0) [0] [] rfl rfl rfl rfl (res2 rfl rfl rfl) rfl rfl rfl (by decide)
 ·replace h := bif_f hb1 h
  refine aw_skip ?_
  refine aq_tr ?_
  refine al_mv rfl rfl ?_
  refine al_val (ov_strLen Try.underlying9 rfl rfl) ?_
  refine al_in rfl rfl rfl rfl ?_
  refine al_as rfl rfl ?_
  refine al_nt ?_
  refine aw_seq ?_
  refine aw_seq ?_
  obtain ⟨hc2, h⟩ := req_some h
  obtain ⟨hc3, h⟩ := req_some h
  obtain ⟨hc4, h⟩ := req_some h
  obtain ⟨hc7, h⟩ := req_some h
  refine aw_region_open [⟨0, 13, Unit, fun _ => { val := (str a0) }⟩, ⟨1, 14, Unit, fun _ => { val := (int .i64 (IntKind.i64.wrap ((a0.length : Int) - (8 : Int)))) }⟩, ⟨2, 15, Unit, fun _ => { val := (str (a0.take ((IntKind.i64.wrap ((a0.length : Int) - (8 : Int)))).toNat)) }⟩, ⟨4, 17, Unit, fun _ => { val := (str a0) }⟩, ⟨5, 18, Unit, fun _ => { val := (int .i64 (IntKind.i64.wrap ((a0.length : Int) - (8 : Int)))) }⟩, ⟨6, 19, Unit, fun _ => { val := (str (a0.drop ((IntKind.i64.wrap ((a0.length : Int) - (8 : Int)))).toNat)) }⟩, ⟨7, 20, Value, fun (i : Value) => { val := i, fz := [(fDat (tyList tyU8) [i] (a0.drop ((IntKind.i64.wrap ((a0.length : Int) - (8 : Int)))).toNat))] }⟩, ⟨8, 21, Value, fun (i : Value) => { val := i, fz := [(fPtr tyA8u8 i (ofA8u8 (a0.drop ((IntKind.i64.wrap ((a0.length : Int) - (8 : Int)))).toNat)))] }⟩, ⟨9, 22, Unit, fun _ => { val := (ag (cA8u8 (ofA8u8 (a0.drop ((IntKind.i64.wrap ((a0.length : Int) - (8 : Int)))).toNat)))) }⟩] (tab [(0, (str a0)), (4, (int .i64 (IntKind.i64.wrap ((a0.length : Int) - (8 : Int)))))]) mixed (fun a hs => hs.tab _ (allT_mem ⟨rfl, rfl, trivial⟩)) ?_
  refine ta_show (m := (memOf w0 Z0 [] [] [])) (S := (tab [(0, (str a0)), (4, (int .i64 (IntKind.i64.wrap ((a0.length : Int) - (8 : Int)))))])) ?_
  refine ta_step 3 _ [0, 1, 2, 4, 5, 6, 7, 8, 9] [13, 14, 15, 17, 18, 19, 20, 21, 22] [0, 1, 2] [10] [⟨0, 13, Unit, fun _ => { val := (str a0) }⟩, ⟨1, 14, Unit, fun _ => { val := (int .i64 (IntKind.i64.wrap ((a0.length : Int) - (8 : Int)))) }⟩, ⟨2, 15, Unit, fun _ => { val := (str (a0.take ((IntKind.i64.wrap ((a0.length : Int) - (8 : Int)))).toNat)) }⟩] [⟨4, 17, Unit, fun _ => { val := (str a0) }⟩, ⟨5, 18, Unit, fun _ => { val := (int .i64 (IntKind.i64.wrap ((a0.length : Int) - (8 : Int)))) }⟩, ⟨6, 19, Unit, fun _ => { val := (str (a0.drop ((IntKind.i64.wrap ((a0.length : Int) - (8 : Int)))).toNat)) }⟩, ⟨7, 20, Value, fun (i : Value) => { val := i, fz := [(fDat (tyList tyU8) [i] (a0.drop ((IntKind.i64.wrap ((a0.length : Int) - (8 : Int)))).toNat))] }⟩, ⟨8, 21, Value, fun (i : Value) => { val := i, fz := [(fPtr tyA8u8 i (ofA8u8 (a0.drop ((IntKind.i64.wrap ((a0.length : Int) - (8 : Int)))).toNat)))] }⟩, ⟨9, 22, Unit, fun _ => { val := (ag (cA8u8 (ofA8u8 (a0.drop ((IntKind.i64.wrap ((a0.length : Int) - (8 : Int)))).toNat)))) }⟩] rfl rfl rfl (by kernel_rfl) rfl rfl rfl ⟨⟨_, rfl, [], rfl, by
 intro X_ Y_ F_ K_ hK_
 refine al_show (m := Mem.plus (memOf w0 Z0 [] [] []) X_ Y_) (S := over (tab [(0, (str a0)), (4, (int .i64 (IntKind.i64.wrap ((a0.length : Int) - (8 : Int)))))]) F_) ?_
 refine al_mv rfl rfl ?_
 refine al_nil ?_
 exact fr_fin hK_ ()⟩, ⟨_, rfl, [], rfl, by
 intro X_ Y_ F_ K_ hK_
 refine al_show (m := Mem.plus (memOf w0 Z0 [] [] []) X_ Y_) (S := over (tab [(0, (str a0)), (4, (int .i64 (IntKind.i64.wrap ((a0.length : Int) - (8 : Int)))))]) F_) ?_
 refine al_mv rfl rfl ?_
 refine al_nil ?_
 exact fr_fin hK_ ()⟩, ⟨_, rfl, [0, 1], rfl, by
 intro _
 intro _
 intro X_ Y_ F_ K_ hK_
 refine al_show (m := Mem.plus (memOf w0 Z0 [] [] []) X_ Y_) (S := over (put (put (tab [(0, (str a0)), (4, (int .i64 (IntKind.i64.wrap ((a0.length : Int) - (8 : Int)))))]) 13 (str a0)) 14 (int .i64 (IntKind.i64.wrap ((a0.length : Int) - (8 : Int))))) F_) ?_
 refine al_val (ov_strTo hc2.1 hc2.2 Try.underlying9 rfl rfl rfl) ?_
 refine al_nil ?_
 exact fr_fin hK_ ()⟩, ⟨_, rfl, [], rfl, by
 intro X_ Y_ F_ K_ hK_
 refine al_show (m := Mem.plus (memOf w0 Z0 [] [] []) X_ Y_) (S := over (tab [(0, (str a0)), (4, (int .i64 (IntKind.i64.wrap ((a0.length : Int) - (8 : Int)))))]) F_) ?_
 refine al_mv rfl rfl ?_
 refine al_nil ?_
 exact fr_fin hK_ ()⟩, ⟨_, rfl, [], rfl, by
 intro X_ Y_ F_ K_ hK_
 refine al_show (m := Mem.plus (memOf w0 Z0 [] [] []) X_ Y_) (S := over (tab [(0, (str a0)), (4, (int .i64 (IntKind.i64.wrap ((a0.length : Int) - (8 : Int)))))]) F_) ?_
 refine al_mv rfl rfl ?_
 refine al_nil ?_
 exact fr_fin hK_ ()⟩, ⟨_, rfl, [3, 4], rfl, by
 intro _
 intro _
 intro X_ Y_ F_ K_ hK_
 refine al_show (m := Mem.plus (memOf w0 Z0 [] [] []) X_ Y_) (S := over (put (put (tab [(0, (str a0)), (4, (int .i64 (IntKind.i64.wrap ((a0.length : Int) - (8 : Int)))))]) 17 (str a0)) 18 (int .i64 (IntKind.i64.wrap ((a0.length : Int) - (8 : Int))))) F_) ?_
 refine al_val (ov_strFrom hc3.1 hc3.2 Try.underlying9 rfl rfl rfl) ?_
 refine al_nil ?_
 exact fr_fin hK_ ()⟩, ⟨_, rfl, [5], rfl, by
 intro _
 intro X_ Y_ F_ K_ hK_
 refine al_show (m := Mem.plus (memOf w0 Z0 [] [] []) X_ Y_) (S := over (put (tab [(0, (str a0)), (4, (int .i64 (IntKind.i64.wrap ((a0.length : Int) - (8 : Int)))))]) 19 (str (a0.drop ((IntKind.i64.wrap ((a0.length : Int) - (8 : Int)))).toNat))) F_) ?_
 refine al_bytes hc4 rfl Try.underlying9 Try.underlying121 Try.underlying5 rfl (fun s5 => ?_)
 refine al_nil ?_
 exact fr_fin hK_ s5⟩, ⟨_, rfl, [6], rfl, by
 intro s5
 intro X_ Y_ F_ K_ hK_
 refine al_show (m := Mem.plus (memOf w0 Z0 [] [] [(fDat (tyList tyU8) [s5] (a0.drop ((IntKind.i64.wrap ((a0.length : Int) - (8 : Int)))).toNat))]) X_ Y_) (S := over (put (tab [(0, (str a0)), (4, (int .i64 (IntKind.i64.wrap ((a0.length : Int) - (8 : Int)))))]) 20 s5) F_) ?_
 refine al_s2ap (τA := tyA8u8) (x := (ofA8u8 (a0.drop ((IntKind.i64.wrap ((a0.length : Int) - (8 : Int)))).toNat))) 0 8 hc7 rfl (fun h9 => oflA8u8 hc7 h9) rfl rfl Try.underlying69 rfl (fun p6 => ?_)
 refine al_nil ?_
 exact fr_fin hK_ p6⟩, ⟨_, rfl, [7], rfl, by
 intro p6
 intro X_ Y_ F_ K_ hK_
 refine al_show (m := Mem.plus (memOf w0 Z0 [] [] [(fPtr tyA8u8 p6 (ofA8u8 (a0.drop ((IntKind.i64.wrap ((a0.length : Int) - (8 : Int)))).toNat)))]) X_ Y_) (S := over (put (tab [(0, (str a0)), (4, (int .i64 (IntKind.i64.wrap ((a0.length : Int) - (8 : Int)))))]) 21 p6) F_) ?_
 refine al_val (ov_loadP (ds := (cA8u8 (ofA8u8 (a0.drop ((IntKind.i64.wrap ((a0.length : Int) - (8 : Int)))).toNat)))) 0 rfl encA8u8 rfl Try.underlying69 sz69 rfl rfl rfl) ?_
 refine al_nil ?_
 exact fr_fin hK_ ()⟩, trivial⟩ ?_
  intro _
  intro _
  intro _
  intro X_ Y_ F_ K_ hK_
  refine al_show (m := Mem.plus (memOf w0 Z0 [] [] []) X_ Y_) (S := over (put (put (put (tab [(0, (str a0)), (4, (int .i64 (IntKind.i64.wrap ((a0.length : Int) - (8 : Int)))))]) 13 (str a0)) 14 (int .i64 (IntKind.i64.wrap ((a0.length : Int) - (8 : Int))))) 15 (str (a0.take ((IntKind.i64.wrap ((a0.length : Int) - (8 : Int)))).toNat))) F_) ?_
  obtain ⟨r9, hc8, h⟩ := opt_some h
  refine al_callX (vs := [(str (a0.take ((IntKind.i64.wrap ((a0.length : Int) - (8 : Int)))).toNat))]) (f_mix_ID_ok fu (a0.take ((IntKind.i64.wrap ((a0.length : Int) - (8 : Int)))).toNat) hc8) [] [] [] pre_nil rfl (by simp) (by decide) rfl (.inl rfl) rfl Try.func154 rfl rfl rfl (fun _ => ?_)
  refine al_nil ?_
  refine aq_show (m := Mem.plus (memOf w0 Z0 [] [] []) X_ Y_) ?_
  refine aq_next hK_ [] [] [(0, (str a0)), (4, (int .i64 (IntKind.i64.wrap ((a0.length : Int) - (8 : Int))))), (16, (ag (cA8u8 r9)))] [17, 18, 19, 20, 21, 22] [⟨10, 23, Unit, fun _ => { val := (bool (!(r9 == (ofA8u8 (a0.drop ((IntKind.i64.wrap ((a0.length : Int) - (8 : Int)))).toNat))))) }⟩] rfl rfl (by decide) rfl ⟨rfl, rfl, rfl, trivial⟩ ⟨rfl, rfl, rfl, rfl, rfl, rfl, trivial⟩ ?_
  clear hK_ K_ F_ X_ Y_
  refine ta_show (m := (memOf w0 Z0 [] [] [])) (S := (tab [(0, (str a0)), (4, (int .i64 (IntKind.i64.wrap ((a0.length : Int) - (8 : Int))))), (16, (ag (cA8u8 r9)))])) ?_
  refine ta_end [4, 5, 6, 7, 8, 9, 10] [17, 18, 19, 20, 21, 22, 23] rfl rfl (by kernel_rfl) rfl ⟨⟨_, rfl, [], rfl, by
 intro X_ Y_ F_ K_ hK_
 refine al_show (m := Mem.plus (memOf w0 Z0 [] [] []) X_ Y_) (S := over (tab [(0, (str a0)), (4, (int .i64 (IntKind.i64.wrap ((a0.length : Int) - (8 : Int))))), (16, (ag (cA8u8 r9)))]) F_) ?_
 refine al_mv rfl rfl ?_
 refine al_nil ?_
 exact fr_fin hK_ ()⟩, ⟨_, rfl, [], rfl, by
 intro X_ Y_ F_ K_ hK_
 refine al_show (m := Mem.plus (memOf w0 Z0 [] [] []) X_ Y_) (S := over (tab [(0, (str a0)), (4, (int .i64 (IntKind.i64.wrap ((a0.length : Int) - (8 : Int))))), (16, (ag (cA8u8 r9)))]) F_) ?_
 refine al_mv rfl rfl ?_
 refine al_nil ?_
 exact fr_fin hK_ ()⟩, ⟨_, rfl, [0, 1], rfl, by
 intro _
 intro _
 intro X_ Y_ F_ K_ hK_
 refine al_show (m := Mem.plus (memOf w0 Z0 [] [] []) X_ Y_) (S := over (put (put (tab [(0, (str a0)), (4, (int .i64 (IntKind.i64.wrap ((a0.length : Int) - (8 : Int))))), (16, (ag (cA8u8 r9)))]) 17 (str a0)) 18 (int .i64 (IntKind.i64.wrap ((a0.length : Int) - (8 : Int))))) F_) ?_
 refine al_val (ov_strFrom hc3.1 hc3.2 Try.underlying9 rfl rfl rfl) ?_
 refine al_nil ?_
 exact fr_fin hK_ ()⟩, ⟨_, rfl, [2], rfl, by
 intro _
 intro X_ Y_ F_ K_ hK_
 refine al_show (m := Mem.plus (memOf w0 Z0 [] [] []) X_ Y_) (S := over (put (tab [(0, (str a0)), (4, (int .i64 (IntKind.i64.wrap ((a0.length : Int) - (8 : Int))))), (16, (ag (cA8u8 r9)))]) 19 (str (a0.drop ((IntKind.i64.wrap ((a0.length : Int) - (8 : Int)))).toNat))) F_) ?_
 refine al_bytes hc4 rfl Try.underlying9 Try.underlying121 Try.underlying5 rfl (fun s5 => ?_)
 refine al_nil ?_
 exact fr_fin hK_ s5⟩, ⟨_, rfl, [3], rfl, by
 intro s5
 intro X_ Y_ F_ K_ hK_
 refine al_show (m := Mem.plus (memOf w0 Z0 [] [] [(fDat (tyList tyU8) [s5] (a0.drop ((IntKind.i64.wrap ((a0.length : Int) - (8 : Int)))).toNat))]) X_ Y_) (S := over (put (tab [(0, (str a0)), (4, (int .i64 (IntKind.i64.wrap ((a0.length : Int) - (8 : Int))))), (16, (ag (cA8u8 r9)))]) 20 s5) F_) ?_
 refine al_s2ap (τA := tyA8u8) (x := (ofA8u8 (a0.drop ((IntKind.i64.wrap ((a0.length : Int) - (8 : Int)))).toNat))) 0 8 hc7 rfl (fun h9 => oflA8u8 hc7 h9) rfl rfl Try.underlying69 rfl (fun p6 => ?_)
 refine al_nil ?_
 exact fr_fin hK_ p6⟩, ⟨_, rfl, [4], rfl, by
 intro p6
 intro X_ Y_ F_ K_ hK_
 refine al_show (m := Mem.plus (memOf w0 Z0 [] [] [(fPtr tyA8u8 p6 (ofA8u8 (a0.drop ((IntKind.i64.wrap ((a0.length : Int) - (8 : Int)))).toNat)))]) X_ Y_) (S := over (put (tab [(0, (str a0)), (4, (int .i64 (IntKind.i64.wrap ((a0.length : Int) - (8 : Int))))), (16, (ag (cA8u8 r9)))]) 21 p6) F_) ?_
 refine al_val (ov_loadP (ds := (cA8u8 (ofA8u8 (a0.drop ((IntKind.i64.wrap ((a0.length : Int) - (8 : Int)))).toNat)))) 0 rfl encA8u8 rfl Try.underlying69 sz69 rfl rfl rfl) ?_
 refine al_nil ?_
 exact fr_fin hK_ ()⟩, ⟨_, rfl, [5], rfl, by
 intro _
 intro X_ Y_ F_ K_ hK_
 refine al_show (m := Mem.plus (memOf w0 Z0 [] [] []) X_ Y_) (S := over (put (tab [(0, (str a0)), (4, (int .i64 (IntKind.i64.wrap ((a0.length : Int) - (8 : Int))))), (16, (ag (cA8u8 r9)))]) 22 (ag (cA8u8 (ofA8u8 (a0.drop ((IntKind.i64.wrap ((a0.length : Int) - (8 : Int)))).toNat))))) F_) ?_
 refine al_val (ov_neqA (cs := (cA8u8 r9)) (ds := (cA8u8 (ofA8u8 (a0.drop ((IntKind.i64.wrap ((a0.length : Int) - (8 : Int)))).toNat)))) (ls := [5, 5, 5, 5, 5, 5, 5, 5]) (p := (r9 == (ofA8u8 (a0.drop ((IntKind.i64.wrap ((a0.length : Int) - (8 : Int)))).toNat)))) eg69 kt69 lv69 rfl rfl (by kernel_rfl) (by kernel_rfl) (fit_cons (fit_u8 Try.underlying5) (fit_cons (fit_u8 Try.underlying5) (fit_cons (fit_u8 Try.underlying5) (fit_cons (fit_u8 Try.underlying5) (fit_cons (fit_u8 Try.underlying5) (fit_cons (fit_u8 Try.underlying5) (fit_cons (fit_u8 Try.underlying5) (fit_cons (fit_u8 Try.underlying5) fit_nil)))))))) (fit_cons (fit_u8 Try.underlying5) (fit_cons (fit_u8 Try.underlying5) (fit_cons (fit_u8 Try.underlying5) (fit_cons (fit_u8 Try.underlying5) (fit_cons (fit_u8 Try.underlying5) (fit_cons (fit_u8 Try.underlying5) (fit_cons (fit_u8 Try.underlying5) (fit_cons (fit_u8 Try.underlying5) fit_nil)))))))) (injA8u8 (x := r9) (y := (ofA8u8 (a0.drop ((IntKind.i64.wrap ((a0.length : Int) - (8 : Int)))).toNat)))) rfl) ?_
 refine al_nil ?_
 exact fr_fin hK_ ()⟩, trivial⟩ ?_
  intro _
  intro _
  intro _
  intro s5
  intro p6
  intro _
  intro _
  refine aq_show (m := (memOf w0 Z0 [] [] [(fPtr tyA8u8 p6 (ofA8u8 (a0.drop ((IntKind.i64.wrap ((a0.length : Int) - (8 : Int)))).toNat))), (fDat (tyList tyU8) [s5] (a0.drop ((IntKind.i64.wrap ((a0.length : Int) - (8 : Int)))).toNat))])) (S := (put (put (put (put (put (put (put (tab [(0, (str a0)), (4, (int .i64 (IntKind.i64.wrap ((a0.length : Int) - (8 : Int))))), (16, (ag (cA8u8 r9)))]) 17 (str a0)) 18 (int .i64 (IntKind.i64.wrap ((a0.length : Int) - (8 : Int))))) 19 (str (a0.drop ((IntKind.i64.wrap ((a0.length : Int) - (8 : Int)))).toNat))) 20 s5) 21 p6) 22 (ag (cA8u8 (ofA8u8 (a0.drop ((IntKind.i64.wrap ((a0.length : Int) - (8 : Int)))).toNat))))) 23 (bool (!(r9 == (ofA8u8 (a0.drop ((IntKind.i64.wrap ((a0.length : Int) - (8 : Int)))).toNat))))))) ?_
  refine aq_then ?_
  refine aw_cond rfl (fun hb10 => ?_) (fun hb10 => ?_)
  ·replace h := bif_t hb10 h
   refine aw_sr ?_
   refine al_as rfl rfl ?_
   refine al_as rfl rfl ?_
   refine al_nt ?_
   refine aw_ret ?_
   refine aq_then_ret ?_
   refine aq_nilR 86 tyS_api_Entry ?_
   obtain rfl := Option.some.inj h
   exact fn_ret (Value.slice none 0 0) [0] [] rfl rfl rfl rfl (res2 rfl rfl rfl) rfl rfl rfl (by decide)
  ·replace h := bif_f hb10 h
   refine aw_skip ?_
   refine aq_tr ?_
   refine al_mv rfl rfl ?_
   refine al_val (ov_strLen Try.underlying9 rfl rfl) ?_
   refine al_in rfl rfl rfl rfl ?_
   refine al_as rfl rfl ?_
   refine al_nt ?_
   refine aw_seq ?_
   obtain ⟨hc11, h⟩ := req_some h
   obtain ⟨hc12, h⟩ := req_some h
   refine aw_region_draw 11 [(27, (fun u => fEq u (str a0))), (28, (fun u => fEq u (int .i64 (IntKind.i64.wrap ((a0.length : Int) - (10 : Int)))))), (29, (fun u => fEq u (int .u8 (En.bAt a0 (IntKind.i64.wrap ((a0.length : Int) - (10 : Int))))))), (30, (fun u => fEq u (int .i64 (IntKind.i64.wrap (En.bAt a0 (IntKind.i64.wrap ((a0.length : Int) - (10 : Int)))))))), (31, (fun u => fEq u (str a0))), (32, (fun u => fEq u (int .i64 (IntKind.i64.wrap ((a0.length : Int) - (10 : Int)))))), (33, (fun u => fEq u (int .i64 (IntKind.i64.wrap ((IntKind.i64.wrap ((a0.length : Int) - (10 : Int))) + (1 : Int)))))), (34, (fun u => fEq u (int .u8 (En.bAt a0 (IntKind.i64.wrap ((IntKind.i64.wrap ((a0.length : Int) - (10 : Int))) + (1 : Int))))))), (35, (fun u => fEq u (int .i64 (IntKind.i64.wrap (En.bAt a0 (IntKind.i64.wrap ((IntKind.i64.wrap ((a0.length : Int) - (10 : Int))) + (1 : Int)))))))), (36, (fun u => fEq u (int .i64 (IntKind.i64.wrap ((IntKind.i64.wrap (En.bAt a0 (IntKind.i64.wrap ((IntKind.i64.wrap ((a0.length : Int) - (10 : Int))) + (1 : Int))))) * 2 ^ min ((8 : Int)).toNat (IntKind.bits .i64)))))), (37, (fun u => fEq u (int .i64 (bits .or .i64 (IntKind.i64.wrap (En.bAt a0 (IntKind.i64.wrap ((a0.length : Int) - (10 : Int))))) (IntKind.i64.wrap ((IntKind.i64.wrap (En.bAt a0 (IntKind.i64.wrap ((IntKind.i64.wrap ((a0.length : Int) - (10 : Int))) + (1 : Int))))) * 2 ^ min ((8 : Int)).toNat (IntKind.bits .i64)))))))] (tab [(0, (str a0)), (5, (int .i64 (IntKind.i64.wrap ((a0.length : Int) - (10 : Int)))))]) mixed (by kernel_rfl) rfl rfl rfl (fun a hs => hs.tab _ (allT_mem ⟨rfl, rfl, trivial⟩)) ⟨⟨rfl, ld_val (ov_move rfl rfl)⟩, ⟨rfl, ld_val (ov_move rfl rfl)⟩, ⟨rfl, ld_eq (j := 0) rfl rfl (ld_eq (j := 1) rfl rfl (ld_val (ov_strIdx hc11.1 hc11.2 Try.underlying9 rfl rfl rfl)))⟩, ⟨rfl, ld_eq (j := 2) rfl rfl (ld_val (ov_convInt (by rw [Try.underlying5]; rfl) Try.underlying3 rfl rfl))⟩, ⟨rfl, ld_val (ov_move rfl rfl)⟩, ⟨rfl, ld_val (ov_move rfl rfl)⟩, ⟨rfl, ld_eq (j := 5) rfl rfl (ld_val (ov_int rfl rfl rfl rfl))⟩, ⟨rfl, ld_eq (j := 4) rfl rfl (ld_eq (j := 6) rfl rfl (ld_val (ov_strIdx hc12.1 hc12.2 Try.underlying9 rfl rfl rfl)))⟩, ⟨rfl, ld_eq (j := 7) rfl rfl (ld_val (ov_convInt (by rw [Try.underlying5]; rfl) Try.underlying3 rfl rfl))⟩, ⟨rfl, ld_eq (j := 8) rfl rfl (ld_val (ov_shl (by decide) rfl rfl rfl))⟩, ⟨rfl, ld_eq (j := 3) rfl rfl (ld_eq (j := 9) rfl rfl (ld_val (ov_int rfl rfl rfl rfl)))⟩, trivial⟩ ?_
   refine tl_eq 10 rfl ?_
   refine tl_done ?_
   refine al_as rfl rfl ?_
   refine al_nt ?_
   refine aw_seq ?_
   refine aw_sr ?_
   refine al_mv rfl rfl ?_
   refine al_mv rfl rfl ?_
   refine al_in rfl rfl rfl rfl ?_
   refine al_nt ?_
   refine aw_cond rfl (fun hb13 => ?_) (fun hb13 => ?_)
   ·replace h := bif_t hb13 h
    refine aw_sr ?_
    refine al_as rfl rfl ?_
    refine al_as rfl rfl ?_
    refine al_nt ?_
    refine aw_ret ?_
    refine aq_then_ret ?_
    refine aq_nilR 86 tyS_api_Entry ?_
    obtain rfl := Option.some.inj h
    exact fn_ret (Value.slice none 0 0) [0] [] rfl rfl rfl rfl (res2 rfl rfl rfl) rfl rfl rfl (by decide)
   ·replace h := bif_f hb13 h
    refine aw_skip ?_
    refine aq_tr ?_
    refine al_mv rfl rfl ?_
    refine al_mv rfl rfl ?_
    refine al_mv rfl rfl ?_
    refine al_in rfl rfl rfl rfl ?_
    refine al_mv rfl rfl ?_
    obtain ⟨hc14, h⟩ := req_some h
    refine al_val (ov_strCut hc14.1 hc14.2.1 hc14.2.2 Try.underlying9 rfl rfl rfl rfl) ?_
    refine al_mv rfl rfl ?_
    refine al_mv rfl rfl ?_
    refine al_in rfl rfl rfl rfl ?_
    obtain ⟨r16, hc15, h⟩ := opt_some h
    refine al_call (vs := [(str (cut a0 (IntKind.i64.wrap ((IntKind.i64.wrap ((a0.length : Int) - (10 : Int))) - (bits .or .i64 (IntKind.i64.wrap (En.bAt a0 (IntKind.i64.wrap ((a0.length : Int) - (10 : Int))))) (IntKind.i64.wrap ((IntKind.i64.wrap (En.bAt a0 (IntKind.i64.wrap ((IntKind.i64.wrap ((a0.length : Int) - (10 : Int))) + (1 : Int))))) * 2 ^ min ((8 : Int)).toNat (IntKind.bits .i64)))))) (IntKind.i64.wrap ((a0.length : Int) - (10 : Int))))), (int .i64 (IntKind.i64.wrap ((IntKind.i64.wrap ((a0.length : Int) - (10 : Int))) - (bits .or .i64 (IntKind.i64.wrap (En.bAt a0 (IntKind.i64.wrap ((a0.length : Int) - (10 : Int))))) (IntKind.i64.wrap ((IntKind.i64.wrap (En.bAt a0 (IntKind.i64.wrap ((IntKind.i64.wrap ((a0.length : Int) - (10 : Int))) + (1 : Int))))) * 2 ^ min ((8 : Int)).toNat (IntKind.bits .i64)))))))]) (f_pack_directory_ok fu (cut a0 (IntKind.i64.wrap ((IntKind.i64.wrap ((a0.length : Int) - (10 : Int))) - (bits .or .i64 (IntKind.i64.wrap (En.bAt a0 (IntKind.i64.wrap ((a0.length : Int) - (10 : Int))))) (IntKind.i64.wrap ((IntKind.i64.wrap (En.bAt a0 (IntKind.i64.wrap ((IntKind.i64.wrap ((a0.length : Int) - (10 : Int))) + (1 : Int))))) * 2 ^ min ((8 : Int)).toNat (IntKind.bits .i64)))))) (IntKind.i64.wrap ((a0.length : Int) - (10 : Int)))) (IntKind.i64.wrap ((IntKind.i64.wrap ((a0.length : Int) - (10 : Int))) - (bits .or .i64 (IntKind.i64.wrap (En.bAt a0 (IntKind.i64.wrap ((a0.length : Int) - (10 : Int))))) (IntKind.i64.wrap ((IntKind.i64.wrap (En.bAt a0 (IntKind.i64.wrap ((IntKind.i64.wrap ((a0.length : Int) - (10 : Int))) + (1 : Int))))) * 2 ^ min ((8 : Int)).toNat (IntKind.bits .i64)))))) hc15) [] [] [] pre_nil rfl (by simp) (by decide) (.inl rfl) rfl Try.func156 rfl rfl rfl (fun v17 => ?_)
    refine al_ex rfl rfl rfl ?_
    refine al_ex rfl rfl rfl ?_
    refine al_as rfl rfl ?_
    refine al_as rfl rfl ?_
    refine al_nt ?_
    refine aw_ret ?_
    obtain rfl := Option.some.inj h
    exact fn_ret v17 [0] [] rfl rfl rfl rfl (res2 rfl rfl rfl) rfl rfl rfl (by decide)
def f_pack_Split_L9 (a0 : (List UInt8)) (r2 : ((List S_api_Entry) × Int)) (kk6 : ((List S_api_Blob) → Option ((List S_api_Blob) × Int))) (fu : Nat) : Nat → (List S_api_Blob) → Int → Option ((List S_api_Blob) × Int)
  | 0, _, _ => none
  | k8 + 1, l7x6, l7i21 => (bif (decide (l7i21 < (r2.1.length : Int))) then (opt (at? r2.1 l7i21) fun (u11 : S_api_Entry) => (opt (f_pack_One fu a0 u11) fun (r17 : (S_api_Blob × Int)) => (bif (r17.2 != (0 : Int)) then (some (([] : List S_api_Blob), r17.2)) else (req (((l7x6.length + ([(S_api_Blob.mk r17.1.Kind r17.1.Bytes)]).length) * 24 : Nat) ≤ 140737488355328 ∧ l7x6.length + ([(S_api_Blob.mk r17.1.Kind r17.1.Bytes)]).length ≤ 9223372036854775807) (f_pack_Split_L9 a0 r2 kk6 fu k8 (l7x6 ++ ([(S_api_Blob.mk r17.1.Kind r17.1.Bytes)])) (IntKind.i64.wrap (l7i21 + (1 : Int)))))))) else (kk6 l7x6))
def f_pack_Split (fu : Nat) (a0 : (List UInt8)) : Option ((List S_api_Blob) × Int) := (opt (f_pack_List fu a0) fun (r2 : ((List S_api_Entry) × Int)) => (bif (r2.2 != (0 : Int)) then (some (([] : List S_api_Blob), r2.2)) else (lt (fun (j5x6 : (List S_api_Blob)) => (some (j5x6, (0 : Int)))) fun (kk6 : (List S_api_Blob) → Option ((List S_api_Blob) × Int)) => (f_pack_Split_L9 a0 r2 kk6 fu fu ([] : List S_api_Blob) (0 : Int)))))
set_option maxRecDepth 100000 in
theorem f_pack_Split_ok (fu : Nat) (a0 : (List UInt8)) {r : ((List S_api_Blob) × Int)} (h : f_pack_Split fu a0 = some r) : FnOk Try.prog 45 [(str a0)] [] [] (fun (i : Value) => { val := (Value.tuple #[i, (int .i64 r.2)]), own := [(oRow i 88 tyS_api_Blob r.1)] }) := by
 unfold f_pack_Split at h
 refine fn_enter Try.func45 rfl Try.ntmps45 rfl (fun w0 Z0 => ?_)
 refine aw_sr ?_
 refine al_as rfl rfl ?_
 refine al_as rfl rfl ?_
 refine al_nt ?_
 refine aw_sr ?_
 refine al_mv rfl rfl ?_
 obtain ⟨r2, hc1, h⟩ := opt_some h
 refine al_call (vs := [(str a0)]) (f_pack_List_ok fu a0 hc1) [] [] [] pre_nil rfl (by simp) (by decide) (.inl rfl) rfl Try.func110 rfl rfl rfl (fun v3 => ?_)
 refine al_mv rfl rfl ?_
 refine al_ex rfl rfl rfl ?_
 refine al_ex rfl rfl rfl ?_
 refine al_as rfl rfl ?_
 refine al_as rfl rfl ?_
 refine al_nt ?_
 refine aw_seq ?_
 refine aw_sr ?_
 refine al_mv rfl rfl ?_
 refine al_in rfl rfl rfl rfl ?_
 refine al_nt ?_
 refine aw_cond rfl (fun hb4 => ?_) (fun hb4 => ?_)
 ·replace h := bif_t hb4 h
  refine aw_sr ?_
  refine al_mv rfl rfl ?_
  refine al_as rfl rfl ?_
  refine al_as rfl rfl ?_
  refine al_nt ?_
  refine aw_ret ?_
  refine aq_then_ret ?_
  refine aq_nilR 88 tyS_api_Blob ?_
  obtain rfl := Option.some.inj h
  exact fn_ret (Value.slice none 0 0) [0] [] rfl rfl rfl rfl (res2 rfl rfl rfl) rfl rfl rfl (by decide)
 ·replace h := bif_f hb4 h
  refine aw_skip ?_
  refine aq_tr ?_
  refine al_as rfl rfl ?_
  refine al_nt ?_
  obtain ⟨kk6, hkk6, h⟩ := lt_some h
  refine aw_seq_join (ι := Value × (List S_api_Blob)) (fun i => (memOf w0 Z0 [] [(oRow i.1 88 tyS_api_Blob i.2)] [])) (fun i => (tab [(6, i.1)])) (fun i => kk6 i.2 = some r) ?_ ?_
  ·rintro ⟨j5v6, j5x6⟩ h
   have h : kk6 j5x6 = some r := h
   rw [hkk6] at h
   dsimp only at h
   clear hkk6
   refine aw_show (m := (memOf w0 Z0 [] [(oRow j5v6 88 tyS_api_Blob j5x6)] [])) (S := (tab [(6, j5v6)])) ?_
   refine aw_sr ?_
   refine al_mv rfl rfl ?_
   refine al_as rfl rfl ?_
   refine al_as rfl rfl ?_
   refine al_nt ?_
   refine aw_ret ?_
   obtain rfl := Option.some.inj h
   exact fn_ret j5v6 [0] [] rfl rfl rfl rfl (res2 rfl rfl rfl) rfl rfl rfl (by decide)
  ·clear hkk6
   refine aw_sr ?_
   refine al_mv rfl rfl ?_
   refine al_val (ov_lenR 0 rfl rfl Try.underlying63 rfl) ?_
   refine al_mv rfl rfl ?_
   refine al_nt ?_
   refine aw_block ?_
   refine aw_nilR 88 tyS_api_Blob ?_
   refine aw_state (aw_loop (ι := Value × (List S_api_Blob) × Int) (fun i => (memOf w0 Z0 [] [(oRow i.1 88 tyS_api_Blob i.2.1), (oRow v3 86 tyS_api_Entry r2.1)] [])) (fun i => (tab [(0, (str a0)), (6, i.1), (19, v3), (20, (int .i64 (r2.1.length : Int))), (21, (int .i64 i.2.2))])) (fun q i => f_pack_Split_L9 a0 r2 kk6 fu q i.2.1 i.2.2 = some r) ?_ fu ((Value.slice none 0 0), ([] : List S_api_Blob), (0 : Int)) h) (fun w a hm hs => norm hm hs [0, 1] [] [(0, (str a0)), (6, (Value.slice none 0 0)), (19, v3), (20, (int .i64 (r2.1.length : Int))), (21, (int .i64 (0 : Int)))] (by decide) ⟨rfl, rfl, rfl, rfl, rfl, trivial⟩)
   clear h
   rintro k8 ⟨l7v6, l7x6, l7i21⟩ h
   have h : f_pack_Split_L9 a0 r2 kk6 fu k8 l7x6 l7i21 = some r := h
   obtain _ | k8 := k8
   · rw [f_pack_Split_L9] at h; cases h
   rw [f_pack_Split_L9] at h
   refine aw_show (m := (memOf w0 Z0 [] [(oRow l7v6 88 tyS_api_Blob l7x6), (oRow v3 86 tyS_api_Entry r2.1)] [])) (S := (tab [(0, (str a0)), (6, l7v6), (19, v3), (20, (int .i64 (r2.1.length : Int))), (21, (int .i64 l7i21))])) ?_
   refine aw_sr ?_
   refine al_in rfl rfl rfl rfl ?_
   refine al_nt ?_
   refine aw_seq ?_
   refine aw_cond rfl (fun hb10 => ?_) (fun hb10 => ?_)
   ·replace h := bif_t hb10 h
    refine aw_skip ?_
    refine aq_then ?_
    refine aw_seq ?_
    refine aw_block ?_
    refine aw_sr ?_
    obtain ⟨u11, hu12, h⟩ := opt_some h
    refine al_idxR 1 (at_some hu12).1 (at_some hu12).2.1 rfl rfl rfl Try.underlying63 sz86 rfl (fun p13 hp14 => ?_)
    refine al_val (ov_loadR (ds := ((cA8u8 u11.ID) ++ [(int .i64 u11.Kind), (int .i64 u11.At), (int .i64 u11.Len)])) 1 rfl hp14 (at_some hu12).2.2 encS_api_Entry rfl Try.underlying86 sz86 rfl rfl rfl) ?_
    refine al_alloc (zs := ((cA8u8 (A8u8.mk (0 : UInt8) (0 : UInt8) (0 : UInt8) (0 : UInt8) (0 : UInt8) (0 : UInt8) (0 : UInt8) (0 : UInt8))) ++ [(int .i64 (0 : Int)), (int .i64 (0 : Int)), (int .i64 (0 : Int))])) (zeroOf_to to86) rfl rfl (fun g15 => ?_)
    refine al_store (i := 0) (vs := ((cA8u8 u11.ID) ++ [(int .i64 u11.Kind), (int .i64 u11.At), (int .i64 u11.Len)])) (cs' := ((cA8u8 u11.ID) ++ [(int .i64 u11.Kind), (int .i64 u11.At), (int .i64 u11.Len)])) rfl rfl rfl sz86 (cv_rfl rfl) rfl (co_app (oneA8u8 u11.ID) (co_val rfl (co_val rfl (co_val rfl co_nil)))) (Nat.le_of_ble_eq_true rfl) rfl rfl ?_
    refine al_nt ?_
    refine aw_sr ?_
    refine al_mv rfl rfl ?_
    refine al_val (ov_load (i := 0) (v := (ag ((cA8u8 u11.ID) ++ [(int .i64 u11.Kind), (int .i64 u11.At), (int .i64 u11.Len)]))) rfl rfl Try.underlying86 sz86 rfl rfl rfl rfl) ?_
    obtain ⟨r17, hc16, h⟩ := opt_some h
    refine al_call (vs := [(str a0), (ag ((cA8u8 u11.ID) ++ [(int .i64 u11.Kind), (int .i64 u11.At), (int .i64 u11.Len)]))]) (f_pack_One_ok fu a0 u11 hc16) [] [] [0, 1, 2] pre_nil rfl (by simp) (by decide) (.inl rfl) rfl Try.func43 rfl rfl rfl (fun _ => ?_)
    refine al_mv rfl rfl ?_
    refine al_ex rfl rfl rfl ?_
    refine al_ex rfl rfl rfl ?_
    refine al_alloc (zs := [(int .i64 (0 : Int)), (str ([] : List UInt8))]) (zeroOf_to to88) rfl rfl (fun g18 => ?_)
    refine al_store (i := 0) (vs := [(int .i64 r17.1.Kind), (str r17.1.Bytes)]) (cs' := [(int .i64 r17.1.Kind), (str r17.1.Bytes)]) rfl rfl rfl sz88 (cv_rfl rfl) rfl (co_val rfl (co_val rfl co_nil)) (Nat.le_of_ble_eq_true rfl) rfl rfl ?_
    refine al_as rfl rfl ?_
    refine al_nt ?_
    refine aw_seq ?_
    refine aw_sr ?_
    refine al_mv rfl rfl ?_
    refine al_in rfl rfl rfl rfl ?_
    refine al_nt ?_
    refine aw_cond rfl (fun hb19 => ?_) (fun hb19 => ?_)
    ·replace h := bif_t hb19 h
     refine aw_sr ?_
     refine al_mv rfl rfl ?_
     refine al_as rfl rfl ?_
     refine al_as rfl rfl ?_
     refine al_nt ?_
     refine aw_ret ?_
     refine aq_then_ret ?_
     refine aq_block_ret ?_
     refine aq_then_ret ?_
     refine aq_then_ret ?_
     refine aq_block_ret ?_
     refine aq_then_ret ?_
     refine aq_nilR 88 tyS_api_Blob ?_
     obtain rfl := Option.some.inj h
     exact fn_ret (Value.slice none 0 0) [0] [] rfl rfl rfl rfl (res2 rfl rfl rfl) rfl rfl rfl (by decide)
    ·replace h := bif_f hb19 h
     refine aw_skip ?_
     refine aq_then ?_
     refine aw_region ?_
     refine al_mv rfl rfl ?_
     refine al_val (ov_load (i := 0) (v := (ag [(int .i64 r17.1.Kind), (str r17.1.Bytes)])) rfl rfl Try.underlying88 sz88 rfl rfl rfl rfl) ?_
     refine al_buildSlice (τ := tyS_api_Blob) (e := 88) (k := 1) (sz := 0) (by_ := 0) (z := undef) (cs := [(int .i64 r17.1.Kind), (str r17.1.Bytes)]) (xs := [(S_api_Blob.mk r17.1.Kind r17.1.Bytes)]) rfl (by decide) (fun w a hm hs => ⟨([(int .i64 r17.1.Kind), (str r17.1.Bytes)]).toArray, rfl, by simp only [List.map_toArray, List.map_cons, List.map_nil, hs.ev (x := .tmp 35) rfl]; exact run_bs [(ag [(int .i64 r17.1.Kind), (str r17.1.Bytes)])] [(int .i64 r17.1.Kind), (str r17.1.Bytes)] Try.underlying91 to88 rfl rfl (bs_cons (l := [(int .i64 r17.1.Kind), (str r17.1.Bytes)]) (cs := []) (cv_rfl rfl) rfl bs_nil) hm⟩) (fun hm => ⟨_, _, rfl, (fun _ => mkS_api_Blob rfl) hm, rfl⟩) rfl (fun v20 => ?_)
     obtain ⟨hc21, h⟩ := req_some h
     refine al_append 3 hc21.1 hc21.2 rfl (src_own (i := 3) 0 rfl) rfl rfl Try.underlying91 to88 rfl rfl rfl (fun v22 => ?_)
     refine al_as rfl rfl ?_
     refine al_nil ?_
     refine aq_block ?_
     refine aq_then ?_
     refine aw_region ?_
     refine al_in rfl rfl rfl rfl ?_
     refine al_mv rfl rfl ?_
     refine al_nil ?_
     exact aq_again k8 (v22, (l7x6 ++ ([(S_api_Blob.mk r17.1.Kind r17.1.Bytes)])), (IntKind.i64.wrap (l7i21 + (1 : Int)))) (Nat.lt_succ_self _) h (fun w a hm hs => norm hm hs [3, 4] [] [(0, (str a0)), (6, v22), (19, v3), (20, (int .i64 (r2.1.length : Int))), (21, (int .i64 (IntKind.i64.wrap (l7i21 + (1 : Int)))))] (by decide) ⟨rfl, rfl, rfl, rfl, rfl, trivial⟩)
   ·replace h := bif_f hb10 h
    refine aw_exit ?_
    refine aq_then_exit ?_
    refine aq_then_exit ?_
    refine aq_block_exit ?_
    exact aq_join (l7v6, l7x6) h (fun w a hm hs => norm hm hs [0] [] [(6, l7v6)] (by decide) ⟨rfl, trivial⟩)
def f_lumref_PackList_L53 (l25s8 : (List UInt8)) (l25x12 : (List S_api_Entry)) (kk45 : (Unit → Option ((List S_api_Entry) × Int))) : Nat → Int → Option ((List S_api_Entry) × Int)
  | 0, _ => none
  | k52 + 1, l51i117 => (bif (decide (l51i117 < (l25x12.length : Int))) then (opt (at? l25x12 l51i117) fun (u55 : S_api_Entry) => (bif (u55.ID == (cpA8u8 (A8u8.mk (0 : UInt8) (0 : UInt8) (0 : UInt8) (0 : UInt8) (0 : UInt8) (0 : UInt8) (0 : UInt8) (0 : UInt8)) (cut l25s8 (1 : Int) (9 : Int)))) then (some (([] : List S_api_Entry), (4 : Int))) else (f_lumref_PackList_L53 l25s8 l25x12 kk45 k52 (IntKind.i64.wrap (l51i117 + (1 : Int)))))) else (kk45 ()))
def f_lumref_PackList_L27 (a0 : (List UInt8)) (r15 : (Int × Int × Int)) (kk20 : ((List UInt8) → (List S_api_Entry) → Int → Option ((List S_api_Entry) × Int))) (fu : Nat) : Nat → (List UInt8) → (List S_api_Entry) → Int → Int → Option ((List S_api_Entry) × Int)
  | 0, _, _, _, _ => none
  | k26 + 1, l25s8, l25x12, l25i13, l25i81 => (lt (fun (l25s8 : (List UInt8)) (l25x12 : (List S_api_Entry)) (l25i13 : Int) (l25i81 : Int) => (f_lumref_PackList_L27 a0 r15 kk20 fu k26 l25s8 l25x12 l25i13 l25i81)) fun (kk28 : (List UInt8) → (List S_api_Entry) → Int → Int → Option ((List S_api_Entry) × Int)) => (bif (decide (l25i81 < r15.1)) then (lt (fun (j30s8 : (List UInt8)) (j30x12 : (List S_api_Entry)) (j30i13 : Int) => (kk28 j30s8 j30x12 j30i13 (IntKind.u64.wrap (l25i81 + (1 : Int))))) fun (kk31 : (List UInt8) → (List S_api_Entry) → Int → Option ((List S_api_Entry) × Int)) => (bif (decide ((l25s8.length : Int) < (9 : Int))) then (some (([] : List S_api_Entry), (3 : Int))) else (req (0 ≤ (0 : Int) ∧ (0 : Int) < (l25s8.length : Int)) (req (0 ≤ (1 : Int) ∧ (1 : Int) ≤ (9 : Int) ∧ (9 : Int) ≤ (l25s8.length : Int)) (opt (f_lumref_kindOK fu (IntKind.i64.wrap (En.bAt l25s8 (0 : Int)))) fun (r37 : Bool) => (bif (!r37) then (some (([] : List S_api_Entry), (5 : Int))) else (req (0 ≤ (9 : Int) ∧ (9 : Int) ≤ (l25s8.length : Int)) (opt (f_lumref_Get fu (l25s8.drop ((9 : Int)).toNat)) fun (r41 : (Int × Int × Int)) => (bif (r41.2.2 != (0 : Int)) then (some (([] : List S_api_Entry), r41.2.2)) else (bif (decide (r41.1 > (4097 : Int))) then (some (([] : List S_api_Entry), (2 : Int))) else (lt (fun (_ : Unit) => (bif (decide ((IntKind.i64.wrap (l25i13 + (IntKind.i64.wrap r41.1))) > ((a0.take ((IntKind.i64.wrap ((IntKind.i64.wrap ((IntKind.i64.wrap ((a0.length : Int) - (8 : Int))) - (2 : Int))) - (IntKind.i64.wrap ((IntKind.i64.wrap (En.bAt a0 (IntKind.i64.wrap ((IntKind.i64.wrap ((a0.length : Int) - (8 : Int))) - (2 : Int))))) + (IntKind.i64.wrap ((256 : Int) * (IntKind.i64.wrap (En.bAt a0 (IntKind.i64.wrap ((IntKind.i64.wrap ((a0.length : Int) - (8 : Int))) - (1 : Int)))))))))))).toNat).length : Int))) then (some (([] : List S_api_Entry), (4 : Int))) else (req (((l25x12.length + ([(S_api_Entry.mk (cpA8u8 (A8u8.mk (0 : UInt8) (0 : UInt8) (0 : UInt8) (0 : UInt8) (0 : UInt8) (0 : UInt8) (0 : UInt8) (0 : UInt8)) (cut l25s8 (1 : Int) (9 : Int))) (IntKind.i64.wrap (En.bAt l25s8 (0 : Int))) l25i13 (IntKind.i64.wrap r41.1))]).length) * 32 : Nat) ≤ 140737488355328 ∧ l25x12.length + ([(S_api_Entry.mk (cpA8u8 (A8u8.mk (0 : UInt8) (0 : UInt8) (0 : UInt8) (0 : UInt8) (0 : UInt8) (0 : UInt8) (0 : UInt8) (0 : UInt8)) (cut l25s8 (1 : Int) (9 : Int))) (IntKind.i64.wrap (En.bAt l25s8 (0 : Int))) l25i13 (IntKind.i64.wrap r41.1))]).length ≤ 9223372036854775807) (req (0 ≤ (IntKind.i64.wrap ((9 : Int) + r41.2.1)) ∧ (IntKind.i64.wrap ((9 : Int) + r41.2.1)) ≤ (l25s8.length : Int)) (kk31 (l25s8.drop ((IntKind.i64.wrap ((9 : Int) + r41.2.1))).toNat) (l25x12 ++ ([(S_api_Entry.mk (cpA8u8 (A8u8.mk (0 : UInt8) (0 : UInt8) (0 : UInt8) (0 : UInt8) (0 : UInt8) (0 : UInt8) (0 : UInt8) (0 : UInt8)) (cut l25s8 (1 : Int) (9 : Int))) (IntKind.i64.wrap (En.bAt l25s8 (0 : Int))) l25i13 (IntKind.i64.wrap r41.1))])) (IntKind.i64.wrap (l25i13 + (IntKind.i64.wrap r41.1)))))))) fun (kk45 : Unit → Option ((List S_api_Entry) × Int)) => (f_lumref_PackList_L53 l25s8 l25x12 kk45 fu (0 : Int))))))))))))) else (kk20 l25s8 l25x12 l25i13)))
def f_lumref_PackList (fu : Nat) (a0 : (List UInt8)) : Option ((List S_api_Entry) × Int) := (bif (decide ((a0.length : Int) < (10 : Int))) then (some (([] : List S_api_Entry), (3 : Int))) else (req (0 ≤ (IntKind.i64.wrap ((a0.length : Int) - (8 : Int))) ∧ (IntKind.i64.wrap ((a0.length : Int) - (8 : Int))) ≤ (a0.length : Int)) (opt (f_lumref_ID fu (a0.take ((IntKind.i64.wrap ((a0.length : Int) - (8 : Int)))).toNat)) fun (r4 : A8u8) => (req (0 ≤ (IntKind.i64.wrap ((a0.length : Int) - (8 : Int))) ∧ (IntKind.i64.wrap ((a0.length : Int) - (8 : Int))) ≤ (a0.length : Int)) (bif (!((lA8u8 r4) == (a0.drop ((IntKind.i64.wrap ((a0.length : Int) - (8 : Int)))).toNat))) then (some (([] : List S_api_Entry), (6 : Int))) else (req (0 ≤ (IntKind.i64.wrap ((IntKind.i64.wrap ((a0.length : Int) - (8 : Int))) - (2 : Int))) ∧ (IntKind.i64.wrap ((IntKind.i64.wrap ((a0.length : Int) - (8 : Int))) - (2 : Int))) < (a0.length : Int)) (req (0 ≤ (IntKind.i64.wrap ((IntKind.i64.wrap ((a0.length : Int) - (8 : Int))) - (1 : Int))) ∧ (IntKind.i64.wrap ((IntKind.i64.wrap ((a0.length : Int) - (8 : Int))) - (1 : Int))) < (a0.length : Int)) (bif (decide ((IntKind.i64.wrap ((IntKind.i64.wrap (En.bAt a0 (IntKind.i64.wrap ((IntKind.i64.wrap ((a0.length : Int) - (8 : Int))) - (2 : Int))))) + (IntKind.i64.wrap ((256 : Int) * (IntKind.i64.wrap (En.bAt a0 (IntKind.i64.wrap ((IntKind.i64.wrap ((a0.length : Int) - (8 : Int))) - (1 : Int))))))))) > (IntKind.i64.wrap ((IntKind.i64.wrap ((a0.length : Int) - (8 : Int))) - (2 : Int))))) then (some (([] : List S_api_Entry), (4 : Int))) else (req (0 ≤ (IntKind.i64.wrap ((IntKind.i64.wrap ((IntKind.i64.wrap ((a0.length : Int) - (8 : Int))) - (2 : Int))) - (IntKind.i64.wrap ((IntKind.i64.wrap (En.bAt a0 (IntKind.i64.wrap ((IntKind.i64.wrap ((a0.length : Int) - (8 : Int))) - (2 : Int))))) + (IntKind.i64.wrap ((256 : Int) * (IntKind.i64.wrap (En.bAt a0 (IntKind.i64.wrap ((IntKind.i64.wrap ((a0.length : Int) - (8 : Int))) - (1 : Int))))))))))) ∧ (IntKind.i64.wrap ((IntKind.i64.wrap ((IntKind.i64.wrap ((a0.length : Int) - (8 : Int))) - (2 : Int))) - (IntKind.i64.wrap ((IntKind.i64.wrap (En.bAt a0 (IntKind.i64.wrap ((IntKind.i64.wrap ((a0.length : Int) - (8 : Int))) - (2 : Int))))) + (IntKind.i64.wrap ((256 : Int) * (IntKind.i64.wrap (En.bAt a0 (IntKind.i64.wrap ((IntKind.i64.wrap ((a0.length : Int) - (8 : Int))) - (1 : Int))))))))))) ≤ (a0.length : Int)) (req (0 ≤ (IntKind.i64.wrap ((IntKind.i64.wrap ((IntKind.i64.wrap ((a0.length : Int) - (8 : Int))) - (2 : Int))) - (IntKind.i64.wrap ((IntKind.i64.wrap (En.bAt a0 (IntKind.i64.wrap ((IntKind.i64.wrap ((a0.length : Int) - (8 : Int))) - (2 : Int))))) + (IntKind.i64.wrap ((256 : Int) * (IntKind.i64.wrap (En.bAt a0 (IntKind.i64.wrap ((IntKind.i64.wrap ((a0.length : Int) - (8 : Int))) - (1 : Int))))))))))) ∧ (IntKind.i64.wrap ((IntKind.i64.wrap ((IntKind.i64.wrap ((a0.length : Int) - (8 : Int))) - (2 : Int))) - (IntKind.i64.wrap ((IntKind.i64.wrap (En.bAt a0 (IntKind.i64.wrap ((IntKind.i64.wrap ((a0.length : Int) - (8 : Int))) - (2 : Int))))) + (IntKind.i64.wrap ((256 : Int) * (IntKind.i64.wrap (En.bAt a0 (IntKind.i64.wrap ((IntKind.i64.wrap ((a0.length : Int) - (8 : Int))) - (1 : Int))))))))))) ≤ (IntKind.i64.wrap ((IntKind.i64.wrap ((a0.length : Int) - (8 : Int))) - (2 : Int))) ∧ (IntKind.i64.wrap ((IntKind.i64.wrap ((a0.length : Int) - (8 : Int))) - (2 : Int))) ≤ (a0.length : Int)) (opt (f_lumref_Get fu (cut a0 (IntKind.i64.wrap ((IntKind.i64.wrap ((IntKind.i64.wrap ((a0.length : Int) - (8 : Int))) - (2 : Int))) - (IntKind.i64.wrap ((IntKind.i64.wrap (En.bAt a0 (IntKind.i64.wrap ((IntKind.i64.wrap ((a0.length : Int) - (8 : Int))) - (2 : Int))))) + (IntKind.i64.wrap ((256 : Int) * (IntKind.i64.wrap (En.bAt a0 (IntKind.i64.wrap ((IntKind.i64.wrap ((a0.length : Int) - (8 : Int))) - (1 : Int))))))))))) (IntKind.i64.wrap ((IntKind.i64.wrap ((a0.length : Int) - (8 : Int))) - (2 : Int))))) fun (r15 : (Int × Int × Int)) => (bif (r15.2.2 != (0 : Int)) then (some (([] : List S_api_Entry), r15.2.2)) else (bif (decide (r15.1 > (40 : Int))) then (some (([] : List S_api_Entry), (2 : Int))) else (req (0 ≤ r15.2.1 ∧ r15.2.1 ≤ ((cut a0 (IntKind.i64.wrap ((IntKind.i64.wrap ((IntKind.i64.wrap ((a0.length : Int) - (8 : Int))) - (2 : Int))) - (IntKind.i64.wrap ((IntKind.i64.wrap (En.bAt a0 (IntKind.i64.wrap ((IntKind.i64.wrap ((a0.length : Int) - (8 : Int))) - (2 : Int))))) + (IntKind.i64.wrap ((256 : Int) * (IntKind.i64.wrap (En.bAt a0 (IntKind.i64.wrap ((IntKind.i64.wrap ((a0.length : Int) - (8 : Int))) - (1 : Int))))))))))) (IntKind.i64.wrap ((IntKind.i64.wrap ((a0.length : Int) - (8 : Int))) - (2 : Int)))).length : Int)) (lt (fun (j19s8 : (List UInt8)) (j19x12 : (List S_api_Entry)) (j19i13 : Int) => (lt (fun (j21b152 : Bool) => (bif j21b152 then (some (([] : List S_api_Entry), (4 : Int))) else (some (j19x12, (0 : Int))))) fun (kk22 : Bool → Option ((List S_api_Entry) × Int)) => (bif (decide ((j19s8.length : Int) > (0 : Int))) then (kk22 true) else (kk22 (decide (j19i13 < ((a0.take ((IntKind.i64.wrap ((IntKind.i64.wrap ((IntKind.i64.wrap ((a0.length : Int) - (8 : Int))) - (2 : Int))) - (IntKind.i64.wrap ((IntKind.i64.wrap (En.bAt a0 (IntKind.i64.wrap ((IntKind.i64.wrap ((a0.length : Int) - (8 : Int))) - (2 : Int))))) + (IntKind.i64.wrap ((256 : Int) * (IntKind.i64.wrap (En.bAt a0 (IntKind.i64.wrap ((IntKind.i64.wrap ((a0.length : Int) - (8 : Int))) - (1 : Int)))))))))))).toNat).length : Int))))))) fun (kk20 : (List UInt8) → (List S_api_Entry) → Int → Option ((List S_api_Entry) × Int)) => (f_lumref_PackList_L27 a0 r15 kk20 fu fu ((cut a0 (IntKind.i64.wrap ((IntKind.i64.wrap ((IntKind.i64.wrap ((a0.length : Int) - (8 : Int))) - (2 : Int))) - (IntKind.i64.wrap ((IntKind.i64.wrap (En.bAt a0 (IntKind.i64.wrap ((IntKind.i64.wrap ((a0.length : Int) - (8 : Int))) - (2 : Int))))) + (IntKind.i64.wrap ((256 : Int) * (IntKind.i64.wrap (En.bAt a0 (IntKind.i64.wrap ((IntKind.i64.wrap ((a0.length : Int) - (8 : Int))) - (1 : Int))))))))))) (IntKind.i64.wrap ((IntKind.i64.wrap ((a0.length : Int) - (8 : Int))) - (2 : Int)))).drop (r15.2.1).toNat) ([] : List S_api_Entry) (0 : Int) (0 : Int)))))))))))))))))
set_option maxRecDepth 100000 in
set_option maxHeartbeats 2000000 in
theorem f_lumref_PackList_ok (fu : Nat) (a0 : (List UInt8)) {r : ((List S_api_Entry) × Int)} (h : f_lumref_PackList fu a0 = some r) : FnOk Try.prog 111 [(str a0)] [] [] (fun (i : Value) => { val := (Value.tuple #[i, (int .i64 r.2)]), own := [(oRow i 86 tyS_api_Entry r.1)] }) := by
 unfold f_lumref_PackList at h
 refine fn_enter Try.func111 rfl Try.ntmps111 rfl (fun w0 Z0 => ?_)
 refine aw_sr ?_
 refine al_as rfl rfl ?_
 refine al_as rfl rfl ?_
 refine al_nt ?_
 refine aw_seq ?_
 refine aw_sr ?_
 refine al_mv rfl rfl ?_
 refine al_val (ov_strLen Try.underlying9 rfl rfl) ?_
 refine al_in rfl rfl rfl rfl ?_
 refine al_nt ?_
 refine aw_cond rfl (fun hb1 => ?_) (fun hb1 => ?_)
 ·replace h := bif_t hb1 h
  refine aw_sr ?_
  refine al_as rfl rfl ?_
  refine al_as rfl rfl ?_
  refine al_nt ?_
  refine aw_ret ?_
  refine aq_then_ret ?_
  refine aq_nilR 86 tyS_api_Entry ?_
  obtain rfl := Option.some.inj h
  exact fn_ret (Value.slice none 0 0) [0] [] rfl rfl rfl rfl (res2 rfl rfl rfl) rfl rfl rfl (by decide)
 ·replace h := bif_f hb1 h
  refine aw_skip ?_
  refine aq_tr ?_
  refine al_mv rfl rfl ?_
  refine al_val (ov_strLen Try.underlying9 rfl rfl) ?_
  refine al_in rfl rfl rfl rfl ?_
  refine al_as rfl rfl ?_
  refine al_nt ?_
  refine aw_seq ?_
  refine aw_sr ?_
  refine al_mv rfl rfl ?_
  refine al_mv rfl rfl ?_
  obtain ⟨hc2, h⟩ := req_some h
  refine al_val (ov_strTo hc2.1 hc2.2 Try.underlying9 rfl rfl rfl) ?_
  obtain ⟨r4, hc3, h⟩ := opt_some h
  refine al_call (vs := [(str (a0.take ((IntKind.i64.wrap ((a0.length : Int) - (8 : Int)))).toNat))]) (f_lumref_ID_ok fu (a0.take ((IntKind.i64.wrap ((a0.length : Int) - (8 : Int)))).toNat) hc3) [] [] [] pre_nil rfl (by simp) (by decide) (.inl rfl) rfl Try.func155 rfl rfl rfl (fun _ => ?_)
  refine al_alloc (zs := (cA8u8 (A8u8.mk (0 : UInt8) (0 : UInt8) (0 : UInt8) (0 : UInt8) (0 : UInt8) (0 : UInt8) (0 : UInt8) (0 : UInt8)))) (zeroOf_to to69) rfl rfl (fun g5 => ?_)
  refine al_store (i := 0) (vs := (cA8u8 r4)) (cs' := (cA8u8 r4)) rfl rfl rfl sz69 (cv_rfl rfl) rfl (co_all (oneA8u8 r4)) (Nat.le_of_ble_eq_true rfl) rfl rfl ?_
  refine al_nt ?_
  refine aw_seq ?_
  refine aw_freezeB 0 (r4) rfl rfl (fun _ _ => mkA8u8 rfl) ?_
  obtain ⟨hc7, h⟩ := req_some h
  refine aw_region_draw 5 [(30, (fun s6 => (fDat (tyList tyU8) [s6] (lA8u8 r4)))), (31, (fun u => fEq u (str (lA8u8 r4)))), (32, (fun u => fEq u (str a0))), (33, (fun u => fEq u (int .i64 (IntKind.i64.wrap ((a0.length : Int) - (8 : Int)))))), (34, (fun u => fEq u (str (a0.drop ((IntKind.i64.wrap ((a0.length : Int) - (8 : Int)))).toNat))))] (tab [(0, (str a0)), (4, (int .i64 (IntKind.i64.wrap ((a0.length : Int) - (8 : Int))))), (5, (ptr g5 0))]) mixed (by kernel_rfl) rfl rfl rfl (fun a hs => hs.tab _ (allT_mem ⟨rfl, rfl, rfl, trivial⟩)) ⟨⟨rfl, ld_of (of_sliceP 0 lrepA8u8 rfl rfl rfl rfl Try.underlying69 sz5 rfl)⟩, ⟨rfl, ld_fact (j := 0) rfl rfl (fun s6 => ld_val (ov_toStr 0 rfl rfl Try.underlying121 Try.underlying5 Try.underlying9 rfl))⟩, ⟨rfl, ld_val (ov_move rfl rfl)⟩, ⟨rfl, ld_val (ov_move rfl rfl)⟩, ⟨rfl, ld_eq (j := 2) rfl rfl (ld_eq (j := 3) rfl rfl (ld_val (ov_strFrom hc7.1 hc7.2 Try.underlying9 rfl rfl rfl)))⟩, trivial⟩ ?_
  refine tl_eq 1 rfl ?_
  refine tl_eq 4 rfl ?_
  refine tl_done ?_
  refine al_val (ov_strCmp rfl rfl rfl rfl) ?_
  refine al_nt ?_
  refine aw_cond rfl (fun hb8 => ?_) (fun hb8 => ?_)
  ·replace h := bif_t hb8 h
   refine aw_sr ?_
   refine al_as rfl rfl ?_
   refine al_as rfl rfl ?_
   refine al_nt ?_
   refine aw_ret ?_
   refine aq_then_ret ?_
   refine aq_nilR 86 tyS_api_Entry ?_
   obtain rfl := Option.some.inj h
   exact fn_ret (Value.slice none 0 0) [0] [] rfl rfl rfl rfl (res2 rfl rfl rfl) rfl rfl rfl (by decide)
  ·replace h := bif_f hb8 h
   refine aw_skip ?_
   refine aq_then ?_
   refine aw_seq ?_
   obtain ⟨hc9, h⟩ := req_some h
   obtain ⟨hc10, h⟩ := req_some h
   refine aw_region_draw 12 [(36, (fun u => fEq u (str a0))), (37, (fun u => fEq u (int .i64 (IntKind.i64.wrap ((a0.length : Int) - (8 : Int)))))), (38, (fun u => fEq u (int .i64 (IntKind.i64.wrap ((IntKind.i64.wrap ((a0.length : Int) - (8 : Int))) - (2 : Int)))))), (39, (fun u => fEq u (int .u8 (En.bAt a0 (IntKind.i64.wrap ((IntKind.i64.wrap ((a0.length : Int) - (8 : Int))) - (2 : Int))))))), (40, (fun u => fEq u (int .i64 (IntKind.i64.wrap (En.bAt a0 (IntKind.i64.wrap ((IntKind.i64.wrap ((a0.length : Int) - (8 : Int))) - (2 : Int)))))))), (41, (fun u => fEq u (str a0))), (42, (fun u => fEq u (int .i64 (IntKind.i64.wrap ((a0.length : Int) - (8 : Int)))))), (43, (fun u => fEq u (int .i64 (IntKind.i64.wrap ((IntKind.i64.wrap ((a0.length : Int) - (8 : Int))) - (1 : Int)))))), (44, (fun u => fEq u (int .u8 (En.bAt a0 (IntKind.i64.wrap ((IntKind.i64.wrap ((a0.length : Int) - (8 : Int))) - (1 : Int))))))), (45, (fun u => fEq u (int .i64 (IntKind.i64.wrap (En.bAt a0 (IntKind.i64.wrap ((IntKind.i64.wrap ((a0.length : Int) - (8 : Int))) - (1 : Int)))))))), (46, (fun u => fEq u (int .i64 (IntKind.i64.wrap ((256 : Int) * (IntKind.i64.wrap (En.bAt a0 (IntKind.i64.wrap ((IntKind.i64.wrap ((a0.length : Int) - (8 : Int))) - (1 : Int)))))))))), (47, (fun u => fEq u (int .i64 (IntKind.i64.wrap ((IntKind.i64.wrap (En.bAt a0 (IntKind.i64.wrap ((IntKind.i64.wrap ((a0.length : Int) - (8 : Int))) - (2 : Int))))) + (IntKind.i64.wrap ((256 : Int) * (IntKind.i64.wrap (En.bAt a0 (IntKind.i64.wrap ((IntKind.i64.wrap ((a0.length : Int) - (8 : Int))) - (1 : Int))))))))))))] (tab [(0, (str a0)), (4, (int .i64 (IntKind.i64.wrap ((a0.length : Int) - (8 : Int)))))]) mixed (by kernel_rfl) rfl rfl rfl (fun a hs => hs.tab _ (allT_mem ⟨rfl, rfl, trivial⟩)) ⟨⟨rfl, ld_val (ov_move rfl rfl)⟩, ⟨rfl, ld_val (ov_move rfl rfl)⟩, ⟨rfl, ld_eq (j := 1) rfl rfl (ld_val (ov_int rfl rfl rfl rfl))⟩, ⟨rfl, ld_eq (j := 0) rfl rfl (ld_eq (j := 2) rfl rfl (ld_val (ov_strIdx hc9.1 hc9.2 Try.underlying9 rfl rfl rfl)))⟩, ⟨rfl, ld_eq (j := 3) rfl rfl (ld_val (ov_convInt (by rw [Try.underlying5]; rfl) Try.underlying3 rfl rfl))⟩, ⟨rfl, ld_val (ov_move rfl rfl)⟩, ⟨rfl, ld_val (ov_move rfl rfl)⟩, ⟨rfl, ld_eq (j := 6) rfl rfl (ld_val (ov_int rfl rfl rfl rfl))⟩, ⟨rfl, ld_eq (j := 5) rfl rfl (ld_eq (j := 7) rfl rfl (ld_val (ov_strIdx hc10.1 hc10.2 Try.underlying9 rfl rfl rfl)))⟩, ⟨rfl, ld_eq (j := 8) rfl rfl (ld_val (ov_convInt (by rw [Try.underlying5]; rfl) Try.underlying3 rfl rfl))⟩, ⟨rfl, ld_eq (j := 9) rfl rfl (ld_val (ov_int rfl rfl rfl rfl))⟩, ⟨rfl, ld_eq (j := 4) rfl rfl (ld_eq (j := 10) rfl rfl (ld_val (ov_int rfl rfl rfl rfl)))⟩, trivial⟩ ?_
   refine tl_eq 11 rfl ?_
   refine tl_done ?_
   refine al_as rfl rfl ?_
   refine al_nt ?_
   refine aw_seq ?_
   refine aw_sr ?_
   refine al_mv rfl rfl ?_
   refine al_mv rfl rfl ?_
   refine al_in rfl rfl rfl rfl ?_
   refine al_in rfl rfl rfl rfl ?_
   refine al_nt ?_
   refine aw_cond rfl (fun hb11 => ?_) (fun hb11 => ?_)
   ·replace h := bif_t hb11 h
    refine aw_sr ?_
    refine al_as rfl rfl ?_
    refine al_as rfl rfl ?_
    refine al_nt ?_
    refine aw_ret ?_
    refine aq_then_ret ?_
    refine aq_nilR 86 tyS_api_Entry ?_
    obtain rfl := Option.some.inj h
    exact fn_ret (Value.slice none 0 0) [0] [] rfl rfl rfl rfl (res2 rfl rfl rfl) rfl rfl rfl (by decide)
   ·replace h := bif_f hb11 h
    refine aw_skip ?_
    refine aq_then ?_
    refine aw_seq ?_
    obtain ⟨hc12, h⟩ := req_some h
    obtain ⟨hc13, h⟩ := req_some h
    refine aw_region_draw 15 [(52, (fun u => fEq u (str a0))), (53, (fun u => fEq u (int .i64 (IntKind.i64.wrap ((a0.length : Int) - (8 : Int)))))), (54, (fun u => fEq u (int .i64 (IntKind.i64.wrap ((IntKind.i64.wrap ((a0.length : Int) - (8 : Int))) - (2 : Int)))))), (55, (fun u => fEq u (int .i64 (IntKind.i64.wrap ((IntKind.i64.wrap (En.bAt a0 (IntKind.i64.wrap ((IntKind.i64.wrap ((a0.length : Int) - (8 : Int))) - (2 : Int))))) + (IntKind.i64.wrap ((256 : Int) * (IntKind.i64.wrap (En.bAt a0 (IntKind.i64.wrap ((IntKind.i64.wrap ((a0.length : Int) - (8 : Int))) - (1 : Int)))))))))))), (56, (fun u => fEq u (int .i64 (IntKind.i64.wrap ((IntKind.i64.wrap ((IntKind.i64.wrap ((a0.length : Int) - (8 : Int))) - (2 : Int))) - (IntKind.i64.wrap ((IntKind.i64.wrap (En.bAt a0 (IntKind.i64.wrap ((IntKind.i64.wrap ((a0.length : Int) - (8 : Int))) - (2 : Int))))) + (IntKind.i64.wrap ((256 : Int) * (IntKind.i64.wrap (En.bAt a0 (IntKind.i64.wrap ((IntKind.i64.wrap ((a0.length : Int) - (8 : Int))) - (1 : Int)))))))))))))), (57, (fun u => fEq u (str (a0.take ((IntKind.i64.wrap ((IntKind.i64.wrap ((IntKind.i64.wrap ((a0.length : Int) - (8 : Int))) - (2 : Int))) - (IntKind.i64.wrap ((IntKind.i64.wrap (En.bAt a0 (IntKind.i64.wrap ((IntKind.i64.wrap ((a0.length : Int) - (8 : Int))) - (2 : Int))))) + (IntKind.i64.wrap ((256 : Int) * (IntKind.i64.wrap (En.bAt a0 (IntKind.i64.wrap ((IntKind.i64.wrap ((a0.length : Int) - (8 : Int))) - (1 : Int)))))))))))).toNat)))), (58, (fun u => fEq u (str a0))), (59, (fun u => fEq u (int .i64 (IntKind.i64.wrap ((a0.length : Int) - (8 : Int)))))), (60, (fun u => fEq u (int .i64 (IntKind.i64.wrap ((IntKind.i64.wrap ((a0.length : Int) - (8 : Int))) - (2 : Int)))))), (61, (fun u => fEq u (int .i64 (IntKind.i64.wrap ((IntKind.i64.wrap (En.bAt a0 (IntKind.i64.wrap ((IntKind.i64.wrap ((a0.length : Int) - (8 : Int))) - (2 : Int))))) + (IntKind.i64.wrap ((256 : Int) * (IntKind.i64.wrap (En.bAt a0 (IntKind.i64.wrap ((IntKind.i64.wrap ((a0.length : Int) - (8 : Int))) - (1 : Int)))))))))))), (62, (fun u => fEq u (int .i64 (IntKind.i64.wrap ((IntKind.i64.wrap ((IntKind.i64.wrap ((a0.length : Int) - (8 : Int))) - (2 : Int))) - (IntKind.i64.wrap ((IntKind.i64.wrap (En.bAt a0 (IntKind.i64.wrap ((IntKind.i64.wrap ((a0.length : Int) - (8 : Int))) - (2 : Int))))) + (IntKind.i64.wrap ((256 : Int) * (IntKind.i64.wrap (En.bAt a0 (IntKind.i64.wrap ((IntKind.i64.wrap ((a0.length : Int) - (8 : Int))) - (1 : Int)))))))))))))), (63, (fun u => fEq u (int .i64 (IntKind.i64.wrap ((a0.length : Int) - (8 : Int)))))), (64, (fun u => fEq u (int .i64 (IntKind.i64.wrap ((IntKind.i64.wrap ((a0.length : Int) - (8 : Int))) - (2 : Int)))))), (65, (fun u => fEq u (str (cut a0 (IntKind.i64.wrap ((IntKind.i64.wrap ((IntKind.i64.wrap ((a0.length : Int) - (8 : Int))) - (2 : Int))) - (IntKind.i64.wrap ((IntKind.i64.wrap (En.bAt a0 (IntKind.i64.wrap ((IntKind.i64.wrap ((a0.length : Int) - (8 : Int))) - (2 : Int))))) + (IntKind.i64.wrap ((256 : Int) * (IntKind.i64.wrap (En.bAt a0 (IntKind.i64.wrap ((IntKind.i64.wrap ((a0.length : Int) - (8 : Int))) - (1 : Int))))))))))) (IntKind.i64.wrap ((IntKind.i64.wrap ((a0.length : Int) - (8 : Int))) - (2 : Int))))))), (7, (fun u => fEq u (str (a0.take ((IntKind.i64.wrap ((IntKind.i64.wrap ((IntKind.i64.wrap ((a0.length : Int) - (8 : Int))) - (2 : Int))) - (IntKind.i64.wrap ((IntKind.i64.wrap (En.bAt a0 (IntKind.i64.wrap ((IntKind.i64.wrap ((a0.length : Int) - (8 : Int))) - (2 : Int))))) + (IntKind.i64.wrap ((256 : Int) * (IntKind.i64.wrap (En.bAt a0 (IntKind.i64.wrap ((IntKind.i64.wrap ((a0.length : Int) - (8 : Int))) - (1 : Int)))))))))))).toNat))))] (tab [(0, (str a0)), (4, (int .i64 (IntKind.i64.wrap ((a0.length : Int) - (8 : Int))))), (6, (int .i64 (IntKind.i64.wrap ((IntKind.i64.wrap (En.bAt a0 (IntKind.i64.wrap ((IntKind.i64.wrap ((a0.length : Int) - (8 : Int))) - (2 : Int))))) + (IntKind.i64.wrap ((256 : Int) * (IntKind.i64.wrap (En.bAt a0 (IntKind.i64.wrap ((IntKind.i64.wrap ((a0.length : Int) - (8 : Int))) - (1 : Int)))))))))))]) mixed (by kernel_rfl) rfl rfl rfl (fun a hs => hs.tab _ (allT_mem ⟨rfl, rfl, rfl, trivial⟩)) ⟨⟨rfl, ld_val (ov_move rfl rfl)⟩, ⟨rfl, ld_val (ov_move rfl rfl)⟩, ⟨rfl, ld_eq (j := 1) rfl rfl (ld_val (ov_int rfl rfl rfl rfl))⟩, ⟨rfl, ld_val (ov_move rfl rfl)⟩, ⟨rfl, ld_eq (j := 2) rfl rfl (ld_eq (j := 3) rfl rfl (ld_val (ov_int rfl rfl rfl rfl)))⟩, ⟨rfl, ld_eq (j := 0) rfl rfl (ld_eq (j := 4) rfl rfl (ld_val (ov_strTo hc12.1 hc12.2 Try.underlying9 rfl rfl rfl)))⟩, ⟨rfl, ld_val (ov_move rfl rfl)⟩, ⟨rfl, ld_val (ov_move rfl rfl)⟩, ⟨rfl, ld_eq (j := 7) rfl rfl (ld_val (ov_int rfl rfl rfl rfl))⟩, ⟨rfl, ld_val (ov_move rfl rfl)⟩, ⟨rfl, ld_eq (j := 8) rfl rfl (ld_eq (j := 9) rfl rfl (ld_val (ov_int rfl rfl rfl rfl)))⟩, ⟨rfl, ld_val (ov_move rfl rfl)⟩, ⟨rfl, ld_eq (j := 11) rfl rfl (ld_val (ov_int rfl rfl rfl rfl))⟩, ⟨rfl, ld_eq (j := 6) rfl rfl (ld_eq (j := 10) rfl rfl (ld_eq (j := 12) rfl rfl (ld_val (ov_strCut hc13.1 hc13.2.1 hc13.2.2 Try.underlying9 rfl rfl rfl rfl))))⟩, ⟨rfl, ld_eq (j := 5) rfl rfl (ld_val (ov_assign rfl rfl))⟩, trivial⟩ ?_
    refine tl_eq 13 rfl ?_
    refine tl_eq 14 rfl ?_
    refine tl_done ?_
    refine al_as rfl rfl ?_
    refine al_nt ?_
    refine aw_sr ?_
    refine al_mv rfl rfl ?_
    obtain ⟨r15, hc14, h⟩ := opt_some h
    refine al_call (vs := [(str (cut a0 (IntKind.i64.wrap ((IntKind.i64.wrap ((IntKind.i64.wrap ((a0.length : Int) - (8 : Int))) - (2 : Int))) - (IntKind.i64.wrap ((IntKind.i64.wrap (En.bAt a0 (IntKind.i64.wrap ((IntKind.i64.wrap ((a0.length : Int) - (8 : Int))) - (2 : Int))))) + (IntKind.i64.wrap ((256 : Int) * (IntKind.i64.wrap (En.bAt a0 (IntKind.i64.wrap ((IntKind.i64.wrap ((a0.length : Int) - (8 : Int))) - (1 : Int))))))))))) (IntKind.i64.wrap ((IntKind.i64.wrap ((a0.length : Int) - (8 : Int))) - (2 : Int)))))]) (f_lumref_Get_ok fu (cut a0 (IntKind.i64.wrap ((IntKind.i64.wrap ((IntKind.i64.wrap ((a0.length : Int) - (8 : Int))) - (2 : Int))) - (IntKind.i64.wrap ((IntKind.i64.wrap (En.bAt a0 (IntKind.i64.wrap ((IntKind.i64.wrap ((a0.length : Int) - (8 : Int))) - (2 : Int))))) + (IntKind.i64.wrap ((256 : Int) * (IntKind.i64.wrap (En.bAt a0 (IntKind.i64.wrap ((IntKind.i64.wrap ((a0.length : Int) - (8 : Int))) - (1 : Int))))))))))) (IntKind.i64.wrap ((IntKind.i64.wrap ((a0.length : Int) - (8 : Int))) - (2 : Int)))) hc14) [] [] [] pre_nil rfl (by simp) (by decide) (.inl rfl) rfl Try.func127 rfl rfl rfl (fun _ => ?_)
    refine al_mv rfl rfl ?_
    refine al_ex rfl rfl rfl ?_
    refine al_ex rfl rfl rfl ?_
    refine al_ex rfl rfl rfl ?_
    refine al_as rfl rfl ?_
    refine al_as rfl rfl ?_
    refine al_as rfl rfl ?_
    refine al_nt ?_
    refine aw_seq ?_
    refine aw_sr ?_
    refine al_mv rfl rfl ?_
    refine al_in rfl rfl rfl rfl ?_
    refine al_nt ?_
    refine aw_cond rfl (fun hb16 => ?_) (fun hb16 => ?_)
    ·replace h := bif_t hb16 h
     refine aw_sr ?_
     refine al_mv rfl rfl ?_
     refine al_as rfl rfl ?_
     refine al_as rfl rfl ?_
     refine al_nt ?_
     refine aw_ret ?_
     refine aq_then_ret ?_
     refine aq_nilR 86 tyS_api_Entry ?_
     obtain rfl := Option.some.inj h
     exact fn_ret (Value.slice none 0 0) [0] [] rfl rfl rfl rfl (res2 rfl rfl rfl) rfl rfl rfl (by decide)
    ·replace h := bif_f hb16 h
     refine aw_skip ?_
     refine aq_then ?_
     refine aw_seq ?_
     refine aw_sr ?_
     refine al_mv rfl rfl ?_
     refine al_in rfl rfl rfl rfl ?_
     refine al_nt ?_
     refine aw_cond rfl (fun hb17 => ?_) (fun hb17 => ?_)
     ·replace h := bif_t hb17 h
      refine aw_sr ?_
      refine al_as rfl rfl ?_
      refine al_as rfl rfl ?_
      refine al_nt ?_
      refine aw_ret ?_
      refine aq_then_ret ?_
      refine aq_nilR 86 tyS_api_Entry ?_
      obtain rfl := Option.some.inj h
      exact fn_ret (Value.slice none 0 0) [0] [] rfl rfl rfl rfl (res2 rfl rfl rfl) rfl rfl rfl (by decide)
     ·replace h := bif_f hb17 h
      refine aw_skip ?_
      refine aq_tr ?_
      refine al_mv rfl rfl ?_
      refine al_mv rfl rfl ?_
      obtain ⟨hc18, h⟩ := req_some h
      refine al_val (ov_strFrom hc18.1 hc18.2 Try.underlying9 rfl rfl rfl) ?_
      refine al_as rfl rfl ?_
      refine al_nt ?_
      refine aw_sr ?_
      refine al_as rfl rfl ?_
      refine al_nt ?_
      refine aw_sr ?_
      refine al_as rfl rfl ?_
      refine al_nt ?_
      obtain ⟨kk20, hkk20, h⟩ := lt_some h
      refine aw_seq_join (ι := (List UInt8) × Value × (List S_api_Entry) × Int) (fun i => (memOf w0 Z0 [] [(oRow i.2.1 86 tyS_api_Entry i.2.2.1)] [(fPtr tyA8u8 (ptr g5 0) r4)])) (fun i => (tab [(7, (str (a0.take ((IntKind.i64.wrap ((IntKind.i64.wrap ((IntKind.i64.wrap ((a0.length : Int) - (8 : Int))) - (2 : Int))) - (IntKind.i64.wrap ((IntKind.i64.wrap (En.bAt a0 (IntKind.i64.wrap ((IntKind.i64.wrap ((a0.length : Int) - (8 : Int))) - (2 : Int))))) + (IntKind.i64.wrap ((256 : Int) * (IntKind.i64.wrap (En.bAt a0 (IntKind.i64.wrap ((IntKind.i64.wrap ((a0.length : Int) - (8 : Int))) - (1 : Int)))))))))))).toNat))), (8, (str i.1)), (12, i.2.1), (13, (int .i64 i.2.2.2))])) (fun i => kk20 i.1 i.2.2.1 i.2.2.2 = some r) ?_ ?_
      ·rintro ⟨j19s8, j19v12, j19x12, j19i13⟩ h
       have h : kk20 j19s8 j19x12 j19i13 = some r := h
       rw [hkk20] at h
       dsimp only at h
       clear hkk20
       refine aw_show (m := (memOf w0 Z0 [] [(oRow j19v12 86 tyS_api_Entry j19x12)] [(fPtr tyA8u8 (ptr g5 0) r4)])) (S := (tab [(7, (str (a0.take ((IntKind.i64.wrap ((IntKind.i64.wrap ((IntKind.i64.wrap ((a0.length : Int) - (8 : Int))) - (2 : Int))) - (IntKind.i64.wrap ((IntKind.i64.wrap (En.bAt a0 (IntKind.i64.wrap ((IntKind.i64.wrap ((a0.length : Int) - (8 : Int))) - (2 : Int))))) + (IntKind.i64.wrap ((256 : Int) * (IntKind.i64.wrap (En.bAt a0 (IntKind.i64.wrap ((IntKind.i64.wrap ((a0.length : Int) - (8 : Int))) - (1 : Int)))))))))))).toNat))), (8, (str j19s8)), (12, j19v12), (13, (int .i64 j19i13))])) ?_
       refine aw_seq ?_
       obtain ⟨kk22, hkk22, h⟩ := lt_some h
       refine aw_seq_join (ι := Bool) (fun i => (memOf w0 Z0 [] [(oRow j19v12 86 tyS_api_Entry j19x12)] [(fPtr tyA8u8 (ptr g5 0) r4)])) (fun i => (tab [(12, j19v12), (152, (bool i))])) (fun i => kk22 i = some r) ?_ ?_
       ·rintro j21b152 h
        have h : kk22 j21b152 = some r := h
        rw [hkk22] at h
        dsimp only at h
        clear hkk22
        refine aw_show (m := (memOf w0 Z0 [] [(oRow j19v12 86 tyS_api_Entry j19x12)] [(fPtr tyA8u8 (ptr g5 0) r4)])) (S := (tab [(12, j19v12), (152, (bool j21b152))])) ?_
        refine aw_cond rfl (fun hb23 => ?_) (fun hb23 => ?_)
        ·replace h := bif_t hb23 h
         refine aw_sr ?_
         refine al_as rfl rfl ?_
         refine al_as rfl rfl ?_
         refine al_nt ?_
         refine aw_ret ?_
         refine aq_then_ret ?_
         refine aq_nilR 86 tyS_api_Entry ?_
         obtain rfl := Option.some.inj h
         exact fn_ret (Value.slice none 0 0) [0] [] rfl rfl rfl rfl (res2 rfl rfl rfl) rfl rfl rfl (by decide)
        ·replace h := bif_f hb23 h
         refine aw_skip ?_
         refine aq_tr ?_
         refine al_mv rfl rfl ?_
         refine al_as rfl rfl ?_
         refine al_as rfl rfl ?_
         refine al_nt ?_
         refine aw_ret ?_
         obtain rfl := Option.some.inj h
         exact fn_ret j19v12 [0] [] rfl rfl rfl rfl (res2 rfl rfl rfl) rfl rfl rfl (by decide)
       ·clear hkk22
        refine aw_region ?_
        refine al_mv rfl rfl ?_
        refine al_val (ov_strLen Try.underlying9 rfl rfl) ?_
        refine al_in rfl rfl rfl rfl ?_
        refine al_mv rfl rfl ?_
        refine al_caseB 147 rfl (fun hb24 => ?_) (fun hb24 => ?_)
        ·replace h := bif_t hb24 h
         refine al_skip ?_
         refine al_skip ?_
         refine al_skip ?_
         refine al_skip ?_
         refine al_val (ov_pick_t rfl rfl rfl) ?_
         refine al_nil ?_
         exact aq_join true h (fun w a hm hs => norm hm hs [0] [0] [(12, j19v12), (152, (bool true))] (by decide) ⟨rfl, rfl, trivial⟩)
        ·replace h := bif_f hb24 h
         refine al_mv rfl rfl ?_
         refine al_mv rfl rfl ?_
         refine al_val (ov_strLen Try.underlying9 rfl rfl) ?_
         refine al_in rfl rfl rfl rfl ?_
         refine al_val (ov_pick_f rfl rfl rfl) ?_
         refine al_nil ?_
         exact aq_join (decide (j19i13 < ((a0.take ((IntKind.i64.wrap ((IntKind.i64.wrap ((IntKind.i64.wrap ((a0.length : Int) - (8 : Int))) - (2 : Int))) - (IntKind.i64.wrap ((IntKind.i64.wrap (En.bAt a0 (IntKind.i64.wrap ((IntKind.i64.wrap ((a0.length : Int) - (8 : Int))) - (2 : Int))))) + (IntKind.i64.wrap ((256 : Int) * (IntKind.i64.wrap (En.bAt a0 (IntKind.i64.wrap ((IntKind.i64.wrap ((a0.length : Int) - (8 : Int))) - (1 : Int)))))))))))).toNat).length : Int))) h (fun w a hm hs => norm hm hs [0] [0] [(12, j19v12), (152, (bool (decide (j19i13 < ((a0.take ((IntKind.i64.wrap ((IntKind.i64.wrap ((IntKind.i64.wrap ((a0.length : Int) - (8 : Int))) - (2 : Int))) - (IntKind.i64.wrap ((IntKind.i64.wrap (En.bAt a0 (IntKind.i64.wrap ((IntKind.i64.wrap ((a0.length : Int) - (8 : Int))) - (2 : Int))))) + (IntKind.i64.wrap ((256 : Int) * (IntKind.i64.wrap (En.bAt a0 (IntKind.i64.wrap ((IntKind.i64.wrap ((a0.length : Int) - (8 : Int))) - (1 : Int)))))))))))).toNat).length : Int)))))] (by decide) ⟨rfl, rfl, trivial⟩)
      ·clear hkk20
       refine aw_sr ?_
       refine al_mv rfl rfl ?_
       refine al_mv rfl rfl ?_
       refine al_nt ?_
       refine aw_block ?_
       refine aw_nilR 86 tyS_api_Entry ?_
       refine aw_state (aw_loop (ι := (List UInt8) × Value × (List S_api_Entry) × Int × Int) (fun i => (memOf w0 Z0 [] [(oRow i.2.1 86 tyS_api_Entry i.2.2.1)] [(fPtr tyA8u8 (ptr g5 0) r4)])) (fun i => (tab [(7, (str (a0.take ((IntKind.i64.wrap ((IntKind.i64.wrap ((IntKind.i64.wrap ((a0.length : Int) - (8 : Int))) - (2 : Int))) - (IntKind.i64.wrap ((IntKind.i64.wrap (En.bAt a0 (IntKind.i64.wrap ((IntKind.i64.wrap ((a0.length : Int) - (8 : Int))) - (2 : Int))))) + (IntKind.i64.wrap ((256 : Int) * (IntKind.i64.wrap (En.bAt a0 (IntKind.i64.wrap ((IntKind.i64.wrap ((a0.length : Int) - (8 : Int))) - (1 : Int)))))))))))).toNat))), (8, (str i.1)), (12, i.2.1), (13, (int .i64 i.2.2.2.1)), (80, (int .u64 r15.1)), (81, (int .u64 i.2.2.2.2))])) (fun q i => f_lumref_PackList_L27 a0 r15 kk20 fu q i.1 i.2.2.1 i.2.2.2.1 i.2.2.2.2 = some r) ?_ fu (((cut a0 (IntKind.i64.wrap ((IntKind.i64.wrap ((IntKind.i64.wrap ((a0.length : Int) - (8 : Int))) - (2 : Int))) - (IntKind.i64.wrap ((IntKind.i64.wrap (En.bAt a0 (IntKind.i64.wrap ((IntKind.i64.wrap ((a0.length : Int) - (8 : Int))) - (2 : Int))))) + (IntKind.i64.wrap ((256 : Int) * (IntKind.i64.wrap (En.bAt a0 (IntKind.i64.wrap ((IntKind.i64.wrap ((a0.length : Int) - (8 : Int))) - (1 : Int))))))))))) (IntKind.i64.wrap ((IntKind.i64.wrap ((a0.length : Int) - (8 : Int))) - (2 : Int)))).drop (r15.2.1).toNat), (Value.slice none 0 0), ([] : List S_api_Entry), (0 : Int), (0 : Int)) h) (fun w a hm hs => norm hm hs [0] [0] [(7, (str (a0.take ((IntKind.i64.wrap ((IntKind.i64.wrap ((IntKind.i64.wrap ((a0.length : Int) - (8 : Int))) - (2 : Int))) - (IntKind.i64.wrap ((IntKind.i64.wrap (En.bAt a0 (IntKind.i64.wrap ((IntKind.i64.wrap ((a0.length : Int) - (8 : Int))) - (2 : Int))))) + (IntKind.i64.wrap ((256 : Int) * (IntKind.i64.wrap (En.bAt a0 (IntKind.i64.wrap ((IntKind.i64.wrap ((a0.length : Int) - (8 : Int))) - (1 : Int)))))))))))).toNat))), (8, (str ((cut a0 (IntKind.i64.wrap ((IntKind.i64.wrap ((IntKind.i64.wrap ((a0.length : Int) - (8 : Int))) - (2 : Int))) - (IntKind.i64.wrap ((IntKind.i64.wrap (En.bAt a0 (IntKind.i64.wrap ((IntKind.i64.wrap ((a0.length : Int) - (8 : Int))) - (2 : Int))))) + (IntKind.i64.wrap ((256 : Int) * (IntKind.i64.wrap (En.bAt a0 (IntKind.i64.wrap ((IntKind.i64.wrap ((a0.length : Int) - (8 : Int))) - (1 : Int))))))))))) (IntKind.i64.wrap ((IntKind.i64.wrap ((a0.length : Int) - (8 : Int))) - (2 : Int)))).drop (r15.2.1).toNat))), (12, (Value.slice none 0 0)), (13, (int .i64 (0 : Int))), (80, (int .u64 r15.1)), (81, (int .u64 (0 : Int)))] (by decide) ⟨rfl, rfl, rfl, rfl, rfl, rfl, trivial⟩)
       clear h
       rintro k26 ⟨l25s8, l25v12, l25x12, l25i13, l25i81⟩ h
       have h : f_lumref_PackList_L27 a0 r15 kk20 fu k26 l25s8 l25x12 l25i13 l25i81 = some r := h
       obtain _ | k26 := k26
       · rw [f_lumref_PackList_L27] at h; cases h
       rw [f_lumref_PackList_L27] at h
       refine aw_show (m := (memOf w0 Z0 [] [(oRow l25v12 86 tyS_api_Entry l25x12)] [(fPtr tyA8u8 (ptr g5 0) r4)])) (S := (tab [(7, (str (a0.take ((IntKind.i64.wrap ((IntKind.i64.wrap ((IntKind.i64.wrap ((a0.length : Int) - (8 : Int))) - (2 : Int))) - (IntKind.i64.wrap ((IntKind.i64.wrap (En.bAt a0 (IntKind.i64.wrap ((IntKind.i64.wrap ((a0.length : Int) - (8 : Int))) - (2 : Int))))) + (IntKind.i64.wrap ((256 : Int) * (IntKind.i64.wrap (En.bAt a0 (IntKind.i64.wrap ((IntKind.i64.wrap ((a0.length : Int) - (8 : Int))) - (1 : Int)))))))))))).toNat))), (8, (str l25s8)), (12, l25v12), (13, (int .i64 l25i13)), (80, (int .u64 r15.1)), (81, (int .u64 l25i81))])) ?_
       obtain ⟨kk28, hkk28, h⟩ := lt_some h
       refine aw_body_join (ι := (List UInt8) × Value × (List S_api_Entry) × Int × Int) (fun i => (memOf w0 Z0 [] [(oRow i.2.1 86 tyS_api_Entry i.2.2.1)] [(fPtr tyA8u8 (ptr g5 0) r4)])) (fun i => (tab [(7, (str (a0.take ((IntKind.i64.wrap ((IntKind.i64.wrap ((IntKind.i64.wrap ((a0.length : Int) - (8 : Int))) - (2 : Int))) - (IntKind.i64.wrap ((IntKind.i64.wrap (En.bAt a0 (IntKind.i64.wrap ((IntKind.i64.wrap ((a0.length : Int) - (8 : Int))) - (2 : Int))))) + (IntKind.i64.wrap ((256 : Int) * (IntKind.i64.wrap (En.bAt a0 (IntKind.i64.wrap ((IntKind.i64.wrap ((a0.length : Int) - (8 : Int))) - (1 : Int)))))))))))).toNat))), (8, (str i.1)), (12, i.2.1), (13, (int .i64 i.2.2.2.1)), (80, (int .u64 r15.1)), (81, (int .u64 i.2.2.2.2))])) (fun i => kk28 i.1 i.2.2.1 i.2.2.2.1 i.2.2.2.2 = some r) (fun i h => aq_again k26 i (Nat.lt_succ_self _) (by rw [hkk28] at h; exact h) (fun w a hm hs => ⟨hm, hs⟩)) ?_
       clear hkk28
       refine aw_sr ?_
       refine al_in rfl rfl rfl rfl ?_
       refine al_nt ?_
       refine aw_seq ?_
       refine aw_cond rfl (fun hb29 => ?_) (fun hb29 => ?_)
       ·replace h := bif_t hb29 h
        refine aw_skip ?_
        refine aq_then ?_
        obtain ⟨kk31, hkk31, h⟩ := lt_some h
        refine aw_seq_join (ι := (List UInt8) × Value × (List S_api_Entry) × Int) (fun i => (memOf w0 Z0 [] [(oRow i.2.1 86 tyS_api_Entry i.2.2.1)] [(fPtr tyA8u8 (ptr g5 0) r4)])) (fun i => (tab [(7, (str (a0.take ((IntKind.i64.wrap ((IntKind.i64.wrap ((IntKind.i64.wrap ((a0.length : Int) - (8 : Int))) - (2 : Int))) - (IntKind.i64.wrap ((IntKind.i64.wrap (En.bAt a0 (IntKind.i64.wrap ((IntKind.i64.wrap ((a0.length : Int) - (8 : Int))) - (2 : Int))))) + (IntKind.i64.wrap ((256 : Int) * (IntKind.i64.wrap (En.bAt a0 (IntKind.i64.wrap ((IntKind.i64.wrap ((a0.length : Int) - (8 : Int))) - (1 : Int)))))))))))).toNat))), (8, (str i.1)), (12, i.2.1), (13, (int .i64 i.2.2.2)), (80, (int .u64 r15.1)), (81, (int .u64 l25i81))])) (fun i => kk31 i.1 i.2.2.1 i.2.2.2 = some r) ?_ ?_
        ·rintro ⟨j30s8, j30v12, j30x12, j30i13⟩ h
         have h : kk31 j30s8 j30x12 j30i13 = some r := h
         rw [hkk31] at h
         dsimp only at h
         clear hkk31
         refine aw_show (m := (memOf w0 Z0 [] [(oRow j30v12 86 tyS_api_Entry j30x12)] [(fPtr tyA8u8 (ptr g5 0) r4)])) (S := (tab [(7, (str (a0.take ((IntKind.i64.wrap ((IntKind.i64.wrap ((IntKind.i64.wrap ((a0.length : Int) - (8 : Int))) - (2 : Int))) - (IntKind.i64.wrap ((IntKind.i64.wrap (En.bAt a0 (IntKind.i64.wrap ((IntKind.i64.wrap ((a0.length : Int) - (8 : Int))) - (2 : Int))))) + (IntKind.i64.wrap ((256 : Int) * (IntKind.i64.wrap (En.bAt a0 (IntKind.i64.wrap ((IntKind.i64.wrap ((a0.length : Int) - (8 : Int))) - (1 : Int)))))))))))).toNat))), (8, (str j30s8)), (12, j30v12), (13, (int .i64 j30i13)), (80, (int .u64 r15.1)), (81, (int .u64 l25i81))])) ?_
         refine aw_region ?_
         refine al_in rfl rfl rfl rfl ?_
         refine al_mv rfl rfl ?_
         refine al_nil ?_
         exact aq_join (j30s8, j30v12, j30x12, j30i13, (IntKind.u64.wrap (l25i81 + (1 : Int)))) h (fun w a hm hs => norm hm hs [0] [0] [(7, (str (a0.take ((IntKind.i64.wrap ((IntKind.i64.wrap ((IntKind.i64.wrap ((a0.length : Int) - (8 : Int))) - (2 : Int))) - (IntKind.i64.wrap ((IntKind.i64.wrap (En.bAt a0 (IntKind.i64.wrap ((IntKind.i64.wrap ((a0.length : Int) - (8 : Int))) - (2 : Int))))) + (IntKind.i64.wrap ((256 : Int) * (IntKind.i64.wrap (En.bAt a0 (IntKind.i64.wrap ((IntKind.i64.wrap ((a0.length : Int) - (8 : Int))) - (1 : Int)))))))))))).toNat))), (8, (str j30s8)), (12, j30v12), (13, (int .i64 j30i13)), (80, (int .u64 r15.1)), (81, (int .u64 (IntKind.u64.wrap (l25i81 + (1 : Int)))))] (by decide) ⟨rfl, rfl, rfl, rfl, rfl, rfl, trivial⟩)
        ·clear hkk31
         refine aw_block ?_
         refine aw_seq ?_
         refine aw_sr ?_
         refine al_mv rfl rfl ?_
         refine al_val (ov_strLen Try.underlying9 rfl rfl) ?_
         refine al_in rfl rfl rfl rfl ?_
         refine al_nt ?_
         refine aw_cond rfl (fun hb32 => ?_) (fun hb32 => ?_)
         ·replace h := bif_t hb32 h
          refine aw_sr ?_
          refine al_as rfl rfl ?_
          refine al_as rfl rfl ?_
          refine al_nt ?_
          refine aw_ret ?_
          refine aq_then_ret ?_
          refine aq_block_ret ?_
          refine aq_then_ret ?_
          refine aq_then_ret ?_
          refine aq_block_ret ?_
          refine aq_then_ret ?_
          refine aq_nilR 86 tyS_api_Entry ?_
          obtain rfl := Option.some.inj h
          exact fn_ret (Value.slice none 0 0) [0] [] rfl rfl rfl rfl (res2 rfl rfl rfl) rfl rfl rfl (by decide)
         ·replace h := bif_f hb32 h
          refine aw_skip ?_
          refine aq_tr ?_
          refine al_mv rfl rfl ?_
          obtain ⟨hc33, h⟩ := req_some h
          refine al_val (ov_strIdx hc33.1 hc33.2 Try.underlying9 rfl rfl rfl) ?_
          refine al_val (ov_convInt (by rw [Try.underlying5]; rfl) Try.underlying3 rfl rfl) ?_
          refine al_mv rfl rfl ?_
          refine al_val (ov_build (cells := (((cA8u8 (A8u8.mk (0 : UInt8) (0 : UInt8) (0 : UInt8) (0 : UInt8) (0 : UInt8) (0 : UInt8) (0 : UInt8) (0 : UInt8))) ++ [(int .i64 (IntKind.i64.wrap (En.bAt l25s8 (0 : Int)))), (int .i64 l25i13), (int .i64 (0 : Int))])).toArray) (cs := ((cA8u8 (A8u8.mk (0 : UInt8) (0 : UInt8) (0 : UInt8) (0 : UInt8) (0 : UInt8) (0 : UInt8) (0 : UInt8) (0 : UInt8))) ++ [(int .i64 (IntKind.i64.wrap (En.bAt l25s8 (0 : Int)))), (int .i64 l25i13), (int .i64 (0 : Int))])) rfl (fun w a hm hs => by simp only [List.map_toArray, List.map_cons, List.map_nil, List.toList_toArray, hs.ev (x := .tmp 88) rfl, hs.ev (x := .tmp 89) rfl]; kernel_rfl)) ?_
          refine al_alloc (zs := ((cA8u8 (A8u8.mk (0 : UInt8) (0 : UInt8) (0 : UInt8) (0 : UInt8) (0 : UInt8) (0 : UInt8) (0 : UInt8) (0 : UInt8))) ++ [(int .i64 (0 : Int)), (int .i64 (0 : Int)), (int .i64 (0 : Int))])) (zeroOf_to to86) rfl rfl (fun g34 => ?_)
          refine al_store (i := 0) (vs := ((cA8u8 (A8u8.mk (0 : UInt8) (0 : UInt8) (0 : UInt8) (0 : UInt8) (0 : UInt8) (0 : UInt8) (0 : UInt8) (0 : UInt8))) ++ [(int .i64 (IntKind.i64.wrap (En.bAt l25s8 (0 : Int)))), (int .i64 l25i13), (int .i64 (0 : Int))])) (cs' := ((cA8u8 (A8u8.mk (0 : UInt8) (0 : UInt8) (0 : UInt8) (0 : UInt8) (0 : UInt8) (0 : UInt8) (0 : UInt8) (0 : UInt8))) ++ [(int .i64 (IntKind.i64.wrap (En.bAt l25s8 (0 : Int)))), (int .i64 l25i13), (int .i64 (0 : Int))])) rfl rfl rfl sz86 (cv_rfl rfl) rfl (co_app (oneA8u8 (A8u8.mk (0 : UInt8) (0 : UInt8) (0 : UInt8) (0 : UInt8) (0 : UInt8) (0 : UInt8) (0 : UInt8) (0 : UInt8))) (co_val rfl (co_val rfl (co_val rfl co_nil)))) (Nat.le_of_ble_eq_true rfl) rfl rfl ?_
          refine al_nt ?_
          refine aw_seq ?_
          obtain ⟨hc35, h⟩ := req_some h
          refine aw_region_draw 4 [(91, (fun u => fEq u (ptr g34 0))), (92, (fun u => fEq u (sbx g34 0 8))), (93, (fun u => fEq u (str l25s8))), (94, (fun u => fEq u (str (cut l25s8 (1 : Int) (9 : Int)))))] (tab [(7, (str (a0.take ((IntKind.i64.wrap ((IntKind.i64.wrap ((IntKind.i64.wrap ((a0.length : Int) - (8 : Int))) - (2 : Int))) - (IntKind.i64.wrap ((IntKind.i64.wrap (En.bAt a0 (IntKind.i64.wrap ((IntKind.i64.wrap ((a0.length : Int) - (8 : Int))) - (2 : Int))))) + (IntKind.i64.wrap ((256 : Int) * (IntKind.i64.wrap (En.bAt a0 (IntKind.i64.wrap ((IntKind.i64.wrap ((a0.length : Int) - (8 : Int))) - (1 : Int)))))))))))).toNat))), (8, (str l25s8)), (12, l25v12), (13, (int .i64 l25i13)), (14, (ptr g34 0)), (80, (int .u64 r15.1)), (81, (int .u64 l25i81))]) mixed (by kernel_rfl) rfl rfl rfl (fun a hs => hs.tab _ (allT_mem ⟨rfl, rfl, rfl, rfl, rfl, rfl, rfl, trivial⟩)) ⟨⟨rfl, ld_val (ov_fieldA (p := 0) rfl Try.underlying86 rfl sz69 rfl rfl rfl)⟩, ⟨rfl, ld_eq (j := 0) rfl rfl (ld_val (ov_sliceBox (i := 0) rfl rfl Try.underlying69 sz5 rfl))⟩, ⟨rfl, ld_val (ov_move rfl rfl)⟩, ⟨rfl, ld_eq (j := 2) rfl rfl (ld_val (ov_strCut hc35.1 hc35.2.1 hc35.2.2 Try.underlying9 rfl rfl rfl rfl))⟩, trivial⟩ ?_
          refine tl_eq 1 rfl ?_
          refine tl_eq 3 rfl ?_
          refine tl_done ?_
          refine al_copyS (i := 0) (cs := ((cA8u8 (A8u8.mk (0 : UInt8) (0 : UInt8) (0 : UInt8) (0 : UInt8) (0 : UInt8) (0 : UInt8) (0 : UInt8) (0 : UInt8))) ++ [(int .i64 (IntKind.i64.wrap (En.bAt l25s8 (0 : Int)))), (int .i64 l25i13), (int .i64 (0 : Int))])) (cs' := ((cA8u8 (cpA8u8 (A8u8.mk (0 : UInt8) (0 : UInt8) (0 : UInt8) (0 : UInt8) (0 : UInt8) (0 : UInt8) (0 : UInt8) (0 : UInt8)) (cut l25s8 (1 : Int) (9 : Int)))) ++ [(int .i64 (IntKind.i64.wrap (En.bAt l25s8 (0 : Int)))), (int .i64 l25i13), (int .i64 (0 : Int))])) rfl rfl rfl Try.underlying121 sz5 rfl (cpcA8u8 (A8u8.mk (0 : UInt8) (0 : UInt8) (0 : UInt8) (0 : UInt8) (0 : UInt8) (0 : UInt8) (0 : UInt8) (0 : UInt8)) (cut l25s8 (1 : Int) (9 : Int)) [] [(int .i64 (IntKind.i64.wrap (En.bAt l25s8 (0 : Int)))), (int .i64 l25i13), (int .i64 (0 : Int))]) rfl ?_
          refine al_nt ?_
          refine aw_seq ?_
          refine aw_sr ?_
          refine al_val (ov_fieldA (p := 8) rfl Try.underlying86 rfl sz3 rfl rfl rfl) ?_
          refine al_val (ov_load (i := 0) (v := (int .i64 (IntKind.i64.wrap (En.bAt l25s8 (0 : Int))))) rfl rfl Try.underlying3 sz3 rfl rfl rfl rfl) ?_
          obtain ⟨r37, hc36, h⟩ := opt_some h
          refine al_call (vs := [(int .i64 (IntKind.i64.wrap (En.bAt l25s8 (0 : Int))))]) (f_lumref_kindOK_ok fu (IntKind.i64.wrap (En.bAt l25s8 (0 : Int))) hc36) [] [] [0, 1] pre_nil rfl (by simp) (by decide) (.inl rfl) rfl Try.func108 rfl rfl rfl (fun _ => ?_)
          refine al_val (ov_not rfl rfl) ?_
          refine al_nt ?_
          refine aw_cond rfl (fun hb38 => ?_) (fun hb38 => ?_)
          ·replace h := bif_t hb38 h
           refine aw_sr ?_
           refine al_as rfl rfl ?_
           refine al_as rfl rfl ?_
           refine al_nt ?_
           refine aw_ret ?_
           refine aq_then_ret ?_
           refine aq_block_ret ?_
           refine aq_then_ret ?_
           refine aq_then_ret ?_
           refine aq_block_ret ?_
           refine aq_then_ret ?_
           refine aq_nilR 86 tyS_api_Entry ?_
           obtain rfl := Option.some.inj h
           exact fn_ret (Value.slice none 0 0) [0] [] rfl rfl rfl rfl (res2 rfl rfl rfl) rfl rfl rfl (by decide)
          ·replace h := bif_f hb38 h
           refine aw_skip ?_
           refine aq_tr ?_
           refine al_mv rfl rfl ?_
           obtain ⟨hc39, h⟩ := req_some h
           refine al_val (ov_strFrom hc39.1 hc39.2 Try.underlying9 rfl rfl rfl) ?_
           obtain ⟨r41, hc40, h⟩ := opt_some h
           refine al_call (vs := [(str (l25s8.drop ((9 : Int)).toNat))]) (f_lumref_Get_ok fu (l25s8.drop ((9 : Int)).toNat) hc40) [] [] [0, 1] pre_nil rfl (by simp) (by decide) (.inl rfl) rfl Try.func127 rfl rfl rfl (fun _ => ?_)
           refine al_mv rfl rfl ?_
           refine al_ex rfl rfl rfl ?_
           refine al_ex rfl rfl rfl ?_
           refine al_ex rfl rfl rfl ?_
           refine al_as rfl rfl ?_
           refine al_as rfl rfl ?_
           refine al_as rfl rfl ?_
           refine al_nt ?_
           refine aw_seq ?_
           refine aw_sr ?_
           refine al_mv rfl rfl ?_
           refine al_in rfl rfl rfl rfl ?_
           refine al_nt ?_
           refine aw_cond rfl (fun hb42 => ?_) (fun hb42 => ?_)
           ·replace h := bif_t hb42 h
            refine aw_sr ?_
            refine al_mv rfl rfl ?_
            refine al_as rfl rfl ?_
            refine al_as rfl rfl ?_
            refine al_nt ?_
            refine aw_ret ?_
            refine aq_then_ret ?_
            refine aq_block_ret ?_
            refine aq_then_ret ?_
            refine aq_then_ret ?_
            refine aq_block_ret ?_
            refine aq_then_ret ?_
            refine aq_nilR 86 tyS_api_Entry ?_
            obtain rfl := Option.some.inj h
            exact fn_ret (Value.slice none 0 0) [0] [] rfl rfl rfl rfl (res2 rfl rfl rfl) rfl rfl rfl (by decide)
           ·replace h := bif_f hb42 h
            refine aw_skip ?_
            refine aq_then ?_
            refine aw_seq ?_
            refine aw_sr ?_
            refine al_mv rfl rfl ?_
            refine al_in rfl rfl rfl rfl ?_
            refine al_nt ?_
            refine aw_cond rfl (fun hb43 => ?_) (fun hb43 => ?_)
            ·replace h := bif_t hb43 h
             refine aw_sr ?_
             refine al_as rfl rfl ?_
             refine al_as rfl rfl ?_
             refine al_nt ?_
             refine aw_ret ?_
             refine aq_then_ret ?_
             refine aq_block_ret ?_
             refine aq_then_ret ?_
             refine aq_then_ret ?_
             refine aq_block_ret ?_
             refine aq_then_ret ?_
             refine aq_nilR 86 tyS_api_Entry ?_
             obtain rfl := Option.some.inj h
             exact fn_ret (Value.slice none 0 0) [0] [] rfl rfl rfl rfl (res2 rfl rfl rfl) rfl rfl rfl (by decide)
            ·replace h := bif_f hb43 h
             refine aw_skip ?_
             refine aq_tr ?_
             refine al_mv rfl rfl ?_
             refine al_val (ov_convInt (by rw [Try.underlying55]; rfl) Try.underlying3 rfl rfl) ?_
             refine al_val (ov_fieldA (p := 10) rfl Try.underlying86 rfl sz3 rfl rfl rfl) ?_
             refine al_store (i := 0) (vs := [(int .i64 (IntKind.i64.wrap r41.1))]) (cs' := ((cA8u8 (cpA8u8 (A8u8.mk (0 : UInt8) (0 : UInt8) (0 : UInt8) (0 : UInt8) (0 : UInt8) (0 : UInt8) (0 : UInt8) (0 : UInt8)) (cut l25s8 (1 : Int) (9 : Int)))) ++ [(int .i64 (IntKind.i64.wrap (En.bAt l25s8 (0 : Int)))), (int .i64 l25i13), (int .i64 (IntKind.i64.wrap r41.1))])) rfl rfl rfl sz3 (cv_rfl rfl) rfl (co_val rfl co_nil) (Nat.le_of_ble_eq_true rfl) rfl rfl ?_
             refine al_nt ?_
             obtain ⟨kk45, hkk45, h⟩ := lt_some h
             refine aw_seq_join (ι := Unit) (fun i => (memOf w0 Z0 [] [(oRow l25v12 86 tyS_api_Entry l25x12), (oBox g34 86 ((cA8u8 (cpA8u8 (A8u8.mk (0 : UInt8) (0 : UInt8) (0 : UInt8) (0 : UInt8) (0 : UInt8) (0 : UInt8) (0 : UInt8) (0 : UInt8)) (cut l25s8 (1 : Int) (9 : Int)))) ++ [(int .i64 (IntKind.i64.wrap (En.bAt l25s8 (0 : Int)))), (int .i64 l25i13), (int .i64 (IntKind.i64.wrap r41.1))]))] [(fPtr tyA8u8 (ptr g5 0) r4)])) (fun i => (tab [(7, (str (a0.take ((IntKind.i64.wrap ((IntKind.i64.wrap ((IntKind.i64.wrap ((a0.length : Int) - (8 : Int))) - (2 : Int))) - (IntKind.i64.wrap ((IntKind.i64.wrap (En.bAt a0 (IntKind.i64.wrap ((IntKind.i64.wrap ((a0.length : Int) - (8 : Int))) - (2 : Int))))) + (IntKind.i64.wrap ((256 : Int) * (IntKind.i64.wrap (En.bAt a0 (IntKind.i64.wrap ((IntKind.i64.wrap ((a0.length : Int) - (8 : Int))) - (1 : Int)))))))))))).toNat))), (8, (str l25s8)), (12, l25v12), (13, (int .i64 l25i13)), (14, (ptr g34 0)), (16, (int .i64 r41.2.1)), (80, (int .u64 r15.1)), (81, (int .u64 l25i81))])) (fun i => kk45 () = some r) ?_ ?_
             ·rintro _ h
              have h : kk45 () = some r := h
              rw [hkk45] at h
              dsimp only at h
              clear hkk45
              refine aw_show (m := (memOf w0 Z0 [] [(oRow l25v12 86 tyS_api_Entry l25x12), (oBox g34 86 ((cA8u8 (cpA8u8 (A8u8.mk (0 : UInt8) (0 : UInt8) (0 : UInt8) (0 : UInt8) (0 : UInt8) (0 : UInt8) (0 : UInt8) (0 : UInt8)) (cut l25s8 (1 : Int) (9 : Int)))) ++ [(int .i64 (IntKind.i64.wrap (En.bAt l25s8 (0 : Int)))), (int .i64 l25i13), (int .i64 (IntKind.i64.wrap r41.1))]))] [(fPtr tyA8u8 (ptr g5 0) r4)])) (S := (tab [(7, (str (a0.take ((IntKind.i64.wrap ((IntKind.i64.wrap ((IntKind.i64.wrap ((a0.length : Int) - (8 : Int))) - (2 : Int))) - (IntKind.i64.wrap ((IntKind.i64.wrap (En.bAt a0 (IntKind.i64.wrap ((IntKind.i64.wrap ((a0.length : Int) - (8 : Int))) - (2 : Int))))) + (IntKind.i64.wrap ((256 : Int) * (IntKind.i64.wrap (En.bAt a0 (IntKind.i64.wrap ((IntKind.i64.wrap ((a0.length : Int) - (8 : Int))) - (1 : Int)))))))))))).toNat))), (8, (str l25s8)), (12, l25v12), (13, (int .i64 l25i13)), (14, (ptr g34 0)), (16, (int .i64 r41.2.1)), (80, (int .u64 r15.1)), (81, (int .u64 l25i81))])) ?_
              refine aw_sr ?_
              refine al_mv rfl rfl ?_
              refine al_val (ov_fieldA (p := 10) rfl Try.underlying86 rfl sz3 rfl rfl rfl) ?_
              refine al_val (ov_load (i := 1) (v := (int .i64 (IntKind.i64.wrap r41.1))) rfl rfl Try.underlying3 sz3 rfl rfl rfl rfl) ?_
              refine al_in rfl rfl rfl rfl ?_
              refine al_as rfl rfl ?_
              refine al_nt ?_
              refine aw_seq ?_
              refine aw_sr ?_
              refine al_mv rfl rfl ?_
              refine al_mv rfl rfl ?_
              refine al_val (ov_strLen Try.underlying9 rfl rfl) ?_
              refine al_in rfl rfl rfl rfl ?_
              refine al_nt ?_
              refine aw_cond rfl (fun hb46 => ?_) (fun hb46 => ?_)
              ·replace h := bif_t hb46 h
               refine aw_sr ?_
               refine al_as rfl rfl ?_
               refine al_as rfl rfl ?_
               refine al_nt ?_
               refine aw_ret ?_
               refine aq_then_ret ?_
               refine aq_block_ret ?_
               refine aq_then_ret ?_
               refine aq_then_ret ?_
               refine aq_block_ret ?_
               refine aq_then_ret ?_
               refine aq_nilR 86 tyS_api_Entry ?_
               obtain rfl := Option.some.inj h
               exact fn_ret (Value.slice none 0 0) [0] [] rfl rfl rfl rfl (res2 rfl rfl rfl) rfl rfl rfl (by decide)
              ·replace h := bif_f hb46 h
               refine aw_skip ?_
               refine aq_tr ?_
               refine al_mv rfl rfl ?_
               refine al_val (ov_load (i := 1) (v := (ag ((cA8u8 (cpA8u8 (A8u8.mk (0 : UInt8) (0 : UInt8) (0 : UInt8) (0 : UInt8) (0 : UInt8) (0 : UInt8) (0 : UInt8) (0 : UInt8)) (cut l25s8 (1 : Int) (9 : Int)))) ++ [(int .i64 (IntKind.i64.wrap (En.bAt l25s8 (0 : Int)))), (int .i64 l25i13), (int .i64 (IntKind.i64.wrap r41.1))]))) rfl rfl Try.underlying86 sz86 rfl rfl rfl rfl) ?_
               refine al_buildSlice (τ := tyS_api_Entry) (e := 86) (k := 1) (sz := 0) (by_ := 0) (z := undef) (cs := ((cA8u8 (cpA8u8 (A8u8.mk (0 : UInt8) (0 : UInt8) (0 : UInt8) (0 : UInt8) (0 : UInt8) (0 : UInt8) (0 : UInt8) (0 : UInt8)) (cut l25s8 (1 : Int) (9 : Int)))) ++ [(int .i64 (IntKind.i64.wrap (En.bAt l25s8 (0 : Int)))), (int .i64 l25i13), (int .i64 (IntKind.i64.wrap r41.1))])) (xs := [(S_api_Entry.mk (cpA8u8 (A8u8.mk (0 : UInt8) (0 : UInt8) (0 : UInt8) (0 : UInt8) (0 : UInt8) (0 : UInt8) (0 : UInt8) (0 : UInt8)) (cut l25s8 (1 : Int) (9 : Int))) (IntKind.i64.wrap (En.bAt l25s8 (0 : Int))) l25i13 (IntKind.i64.wrap r41.1))]) rfl (by decide) (fun w a hm hs => ⟨(((cA8u8 (cpA8u8 (A8u8.mk (0 : UInt8) (0 : UInt8) (0 : UInt8) (0 : UInt8) (0 : UInt8) (0 : UInt8) (0 : UInt8) (0 : UInt8)) (cut l25s8 (1 : Int) (9 : Int)))) ++ [(int .i64 (IntKind.i64.wrap (En.bAt l25s8 (0 : Int)))), (int .i64 l25i13), (int .i64 (IntKind.i64.wrap r41.1))])).toArray, rfl, by simp only [List.map_toArray, List.map_cons, List.map_nil, hs.ev (x := .tmp 136) rfl]; exact run_bs [(ag ((cA8u8 (cpA8u8 (A8u8.mk (0 : UInt8) (0 : UInt8) (0 : UInt8) (0 : UInt8) (0 : UInt8) (0 : UInt8) (0 : UInt8) (0 : UInt8)) (cut l25s8 (1 : Int) (9 : Int)))) ++ [(int .i64 (IntKind.i64.wrap (En.bAt l25s8 (0 : Int)))), (int .i64 l25i13), (int .i64 (IntKind.i64.wrap r41.1))]))] ((cA8u8 (cpA8u8 (A8u8.mk (0 : UInt8) (0 : UInt8) (0 : UInt8) (0 : UInt8) (0 : UInt8) (0 : UInt8) (0 : UInt8) (0 : UInt8)) (cut l25s8 (1 : Int) (9 : Int)))) ++ [(int .i64 (IntKind.i64.wrap (En.bAt l25s8 (0 : Int)))), (int .i64 l25i13), (int .i64 (IntKind.i64.wrap r41.1))]) Try.underlying63 to86 rfl rfl (bs_cons (l := ((cA8u8 (cpA8u8 (A8u8.mk (0 : UInt8) (0 : UInt8) (0 : UInt8) (0 : UInt8) (0 : UInt8) (0 : UInt8) (0 : UInt8) (0 : UInt8)) (cut l25s8 (1 : Int) (9 : Int)))) ++ [(int .i64 (IntKind.i64.wrap (En.bAt l25s8 (0 : Int)))), (int .i64 l25i13), (int .i64 (IntKind.i64.wrap r41.1))])) (cs := []) (cv_rfl rfl) rfl bs_nil) hm⟩) (fun hm => ⟨((cA8u8 (cpA8u8 (A8u8.mk (0 : UInt8) (0 : UInt8) (0 : UInt8) (0 : UInt8) (0 : UInt8) (0 : UInt8) (0 : UInt8) (0 : UInt8)) (cut l25s8 (1 : Int) (9 : Int)))) ++ [(int .i64 (IntKind.i64.wrap (En.bAt l25s8 (0 : Int)))), (int .i64 l25i13), (int .i64 (IntKind.i64.wrap r41.1))]), [], rfl, mkS_api_Entry rfl, rfl⟩) rfl (fun v47 => ?_)
               obtain ⟨hc48, h⟩ := req_some h
               refine al_append 1 hc48.1 hc48.2 rfl (src_own (i := 1) 0 rfl) rfl rfl Try.underlying63 to86 rfl rfl rfl (fun v49 => ?_)
               refine al_as rfl rfl ?_
               refine al_nt ?_
               refine aw_region ?_
               refine al_mv rfl rfl ?_
               refine al_mv rfl rfl ?_
               refine al_in rfl rfl rfl rfl ?_
               obtain ⟨hc50, h⟩ := req_some h
               refine al_val (ov_strFrom hc50.1 hc50.2 Try.underlying9 rfl rfl rfl) ?_
               refine al_as rfl rfl ?_
               refine al_nil ?_
               refine aq_block ?_
               exact aq_join ((l25s8.drop ((IntKind.i64.wrap ((9 : Int) + r41.2.1))).toNat), v49, (l25x12 ++ ([(S_api_Entry.mk (cpA8u8 (A8u8.mk (0 : UInt8) (0 : UInt8) (0 : UInt8) (0 : UInt8) (0 : UInt8) (0 : UInt8) (0 : UInt8) (0 : UInt8)) (cut l25s8 (1 : Int) (9 : Int))) (IntKind.i64.wrap (En.bAt l25s8 (0 : Int))) l25i13 (IntKind.i64.wrap r41.1))])), (IntKind.i64.wrap (l25i13 + (IntKind.i64.wrap r41.1)))) h (fun w a hm hs => norm hm hs [1] [0] [(7, (str (a0.take ((IntKind.i64.wrap ((IntKind.i64.wrap ((IntKind.i64.wrap ((a0.length : Int) - (8 : Int))) - (2 : Int))) - (IntKind.i64.wrap ((IntKind.i64.wrap (En.bAt a0 (IntKind.i64.wrap ((IntKind.i64.wrap ((a0.length : Int) - (8 : Int))) - (2 : Int))))) + (IntKind.i64.wrap ((256 : Int) * (IntKind.i64.wrap (En.bAt a0 (IntKind.i64.wrap ((IntKind.i64.wrap ((a0.length : Int) - (8 : Int))) - (1 : Int)))))))))))).toNat))), (8, (str (l25s8.drop ((IntKind.i64.wrap ((9 : Int) + r41.2.1))).toNat))), (12, v49), (13, (int .i64 (IntKind.i64.wrap (l25i13 + (IntKind.i64.wrap r41.1))))), (80, (int .u64 r15.1)), (81, (int .u64 l25i81))] (by decide) ⟨rfl, rfl, rfl, rfl, rfl, rfl, trivial⟩)
             ·clear hkk45
              refine aw_sr ?_
              refine al_mv rfl rfl ?_
              refine al_val (ov_lenR 1 rfl rfl Try.underlying63 rfl) ?_
              refine al_mv rfl rfl ?_
              refine al_nt ?_
              refine aw_block ?_
              refine aw_state (aw_loop (ι := Int) (fun i => (memOf w0 Z0 [] [(oRow l25v12 86 tyS_api_Entry l25x12), (oBox g34 86 ((cA8u8 (cpA8u8 (A8u8.mk (0 : UInt8) (0 : UInt8) (0 : UInt8) (0 : UInt8) (0 : UInt8) (0 : UInt8) (0 : UInt8) (0 : UInt8)) (cut l25s8 (1 : Int) (9 : Int)))) ++ [(int .i64 (IntKind.i64.wrap (En.bAt l25s8 (0 : Int)))), (int .i64 l25i13), (int .i64 (IntKind.i64.wrap r41.1))]))] [(fPtr tyA8u8 (ptr g5 0) r4)])) (fun i => (tab [(7, (str (a0.take ((IntKind.i64.wrap ((IntKind.i64.wrap ((IntKind.i64.wrap ((a0.length : Int) - (8 : Int))) - (2 : Int))) - (IntKind.i64.wrap ((IntKind.i64.wrap (En.bAt a0 (IntKind.i64.wrap ((IntKind.i64.wrap ((a0.length : Int) - (8 : Int))) - (2 : Int))))) + (IntKind.i64.wrap ((256 : Int) * (IntKind.i64.wrap (En.bAt a0 (IntKind.i64.wrap ((IntKind.i64.wrap ((a0.length : Int) - (8 : Int))) - (1 : Int)))))))))))).toNat))), (8, (str l25s8)), (12, l25v12), (13, (int .i64 l25i13)), (14, (ptr g34 0)), (16, (int .i64 r41.2.1)), (80, (int .u64 r15.1)), (81, (int .u64 l25i81)), (115, l25v12), (116, (int .i64 (l25x12.length : Int))), (117, (int .i64 i))])) (fun q i => f_lumref_PackList_L53 l25s8 l25x12 kk45 q i = some r) ?_ fu (0 : Int) h) (fun w a hm hs => norm hm hs [1, 0] [0] [(7, (str (a0.take ((IntKind.i64.wrap ((IntKind.i64.wrap ((IntKind.i64.wrap ((a0.length : Int) - (8 : Int))) - (2 : Int))) - (IntKind.i64.wrap ((IntKind.i64.wrap (En.bAt a0 (IntKind.i64.wrap ((IntKind.i64.wrap ((a0.length : Int) - (8 : Int))) - (2 : Int))))) + (IntKind.i64.wrap ((256 : Int) * (IntKind.i64.wrap (En.bAt a0 (IntKind.i64.wrap ((IntKind.i64.wrap ((a0.length : Int) - (8 : Int))) - (1 : Int)))))))))))).toNat))), (8, (str l25s8)), (12, l25v12), (13, (int .i64 l25i13)), (14, (ptr g34 0)), (16, (int .i64 r41.2.1)), (80, (int .u64 r15.1)), (81, (int .u64 l25i81)), (115, l25v12), (116, (int .i64 (l25x12.length : Int))), (117, (int .i64 (0 : Int)))] (by decide) ⟨rfl, rfl, rfl, rfl, rfl, rfl, rfl, rfl, rfl, rfl, rfl, trivial⟩)
              clear h
              rintro k52 l51i117 h
              have h : f_lumref_PackList_L53 l25s8 l25x12 kk45 k52 l51i117 = some r := h
              obtain _ | k52 := k52
              · rw [f_lumref_PackList_L53] at h; cases h
              rw [f_lumref_PackList_L53] at h
              refine aw_show (m := (memOf w0 Z0 [] [(oRow l25v12 86 tyS_api_Entry l25x12), (oBox g34 86 ((cA8u8 (cpA8u8 (A8u8.mk (0 : UInt8) (0 : UInt8) (0 : UInt8) (0 : UInt8) (0 : UInt8) (0 : UInt8) (0 : UInt8) (0 : UInt8)) (cut l25s8 (1 : Int) (9 : Int)))) ++ [(int .i64 (IntKind.i64.wrap (En.bAt l25s8 (0 : Int)))), (int .i64 l25i13), (int .i64 (IntKind.i64.wrap r41.1))]))] [(fPtr tyA8u8 (ptr g5 0) r4)])) (S := (tab [(7, (str (a0.take ((IntKind.i64.wrap ((IntKind.i64.wrap ((IntKind.i64.wrap ((a0.length : Int) - (8 : Int))) - (2 : Int))) - (IntKind.i64.wrap ((IntKind.i64.wrap (En.bAt a0 (IntKind.i64.wrap ((IntKind.i64.wrap ((a0.length : Int) - (8 : Int))) - (2 : Int))))) + (IntKind.i64.wrap ((256 : Int) * (IntKind.i64.wrap (En.bAt a0 (IntKind.i64.wrap ((IntKind.i64.wrap ((a0.length : Int) - (8 : Int))) - (1 : Int)))))))))))).toNat))), (8, (str l25s8)), (12, l25v12), (13, (int .i64 l25i13)), (14, (ptr g34 0)), (16, (int .i64 r41.2.1)), (80, (int .u64 r15.1)), (81, (int .u64 l25i81)), (115, l25v12), (116, (int .i64 (l25x12.length : Int))), (117, (int .i64 l51i117))])) ?_
              refine aw_sr ?_
              refine al_in rfl rfl rfl rfl ?_
              refine al_nt ?_
              refine aw_seq ?_
              refine aw_cond rfl (fun hb54 => ?_) (fun hb54 => ?_)
              ·replace h := bif_t hb54 h
               refine aw_skip ?_
               refine aq_then ?_
               refine aw_seq ?_
               refine aw_block ?_
               refine aw_sr ?_
               obtain ⟨u55, hu56, h⟩ := opt_some h
               refine al_idxR 0 (at_some hu56).1 (at_some hu56).2.1 rfl rfl rfl Try.underlying63 sz86 rfl (fun p57 hp58 => ?_)
               refine al_val (ov_loadR (ds := ((cA8u8 u55.ID) ++ [(int .i64 u55.Kind), (int .i64 u55.At), (int .i64 u55.Len)])) 0 rfl hp58 (at_some hu56).2.2 encS_api_Entry rfl Try.underlying86 sz86 rfl rfl rfl) ?_
               refine al_alloc (zs := ((cA8u8 (A8u8.mk (0 : UInt8) (0 : UInt8) (0 : UInt8) (0 : UInt8) (0 : UInt8) (0 : UInt8) (0 : UInt8) (0 : UInt8))) ++ [(int .i64 (0 : Int)), (int .i64 (0 : Int)), (int .i64 (0 : Int))])) (zeroOf_to to86) rfl rfl (fun g59 => ?_)
               refine al_store (i := 0) (vs := ((cA8u8 u55.ID) ++ [(int .i64 u55.Kind), (int .i64 u55.At), (int .i64 u55.Len)])) (cs' := ((cA8u8 u55.ID) ++ [(int .i64 u55.Kind), (int .i64 u55.At), (int .i64 u55.Len)])) rfl rfl rfl sz86 (cv_rfl rfl) rfl (co_app (oneA8u8 u55.ID) (co_val rfl (co_val rfl (co_val rfl co_nil)))) (Nat.le_of_ble_eq_true rfl) rfl rfl ?_
               refine al_nt ?_
               refine aw_sr ?_
               refine al_val (ov_fieldA (p := 0) rfl Try.underlying86 rfl sz69 rfl rfl rfl) ?_
               refine al_val (ov_load (i := 0) (v := (ag (cA8u8 u55.ID))) rfl rfl Try.underlying69 sz69 rfl rfl rfl rfl) ?_
               refine al_val (ov_fieldA (p := 0) rfl Try.underlying86 rfl sz69 rfl rfl rfl) ?_
               refine al_val (ov_load (i := 2) (v := (ag (cA8u8 (cpA8u8 (A8u8.mk (0 : UInt8) (0 : UInt8) (0 : UInt8) (0 : UInt8) (0 : UInt8) (0 : UInt8) (0 : UInt8) (0 : UInt8)) (cut l25s8 (1 : Int) (9 : Int)))))) rfl rfl Try.underlying69 sz69 rfl rfl rfl rfl) ?_
               refine al_val (ov_eqlA (cs := (cA8u8 u55.ID)) (ds := (cA8u8 (cpA8u8 (A8u8.mk (0 : UInt8) (0 : UInt8) (0 : UInt8) (0 : UInt8) (0 : UInt8) (0 : UInt8) (0 : UInt8) (0 : UInt8)) (cut l25s8 (1 : Int) (9 : Int))))) (ls := [5, 5, 5, 5, 5, 5, 5, 5]) (p := (u55.ID == (cpA8u8 (A8u8.mk (0 : UInt8) (0 : UInt8) (0 : UInt8) (0 : UInt8) (0 : UInt8) (0 : UInt8) (0 : UInt8) (0 : UInt8)) (cut l25s8 (1 : Int) (9 : Int))))) eg69 kt69 lv69 rfl rfl (by kernel_rfl) (by kernel_rfl) (fit_cons (fit_u8 Try.underlying5) (fit_cons (fit_u8 Try.underlying5) (fit_cons (fit_u8 Try.underlying5) (fit_cons (fit_u8 Try.underlying5) (fit_cons (fit_u8 Try.underlying5) (fit_cons (fit_u8 Try.underlying5) (fit_cons (fit_u8 Try.underlying5) (fit_cons (fit_u8 Try.underlying5) fit_nil)))))))) (fit_cons (fit_u8 Try.underlying5) (fit_cons (fit_u8 Try.underlying5) (fit_cons (fit_u8 Try.underlying5) (fit_cons (fit_u8 Try.underlying5) (fit_cons (fit_u8 Try.underlying5) (fit_cons (fit_u8 Try.underlying5) (fit_cons (fit_u8 Try.underlying5) (fit_cons (fit_u8 Try.underlying5) fit_nil)))))))) (injA8u8 (x := u55.ID) (y := (cpA8u8 (A8u8.mk (0 : UInt8) (0 : UInt8) (0 : UInt8) (0 : UInt8) (0 : UInt8) (0 : UInt8) (0 : UInt8) (0 : UInt8)) (cut l25s8 (1 : Int) (9 : Int))))) rfl) ?_
               refine al_nt ?_
               refine aw_cond rfl (fun hb60 => ?_) (fun hb60 => ?_)
               ·replace h := bif_t hb60 h
                refine aw_sr ?_
                refine al_as rfl rfl ?_
                refine al_as rfl rfl ?_
                refine al_nt ?_
                refine aw_ret ?_
                refine aq_block_ret ?_
                refine aq_then_ret ?_
                refine aq_then_ret ?_
                refine aq_block_ret ?_
                refine aq_then_ret ?_
                refine aq_block_ret ?_
                refine aq_then_ret ?_
                refine aq_then_ret ?_
                refine aq_block_ret ?_
                refine aq_then_ret ?_
                refine aq_nilR 86 tyS_api_Entry ?_
                obtain rfl := Option.some.inj h
                exact fn_ret (Value.slice none 0 0) [0] [] rfl rfl rfl rfl (res2 rfl rfl rfl) rfl rfl rfl (by decide)
               ·replace h := bif_f hb60 h
                refine aw_skip ?_
                refine aq_block ?_
                refine aq_then ?_
                refine aw_region ?_
                refine al_in rfl rfl rfl rfl ?_
                refine al_mv rfl rfl ?_
                refine al_nil ?_
                exact aq_again k52 (IntKind.i64.wrap (l51i117 + (1 : Int))) (Nat.lt_succ_self _) h (fun w a hm hs => norm hm hs [1, 2] [0] [(7, (str (a0.take ((IntKind.i64.wrap ((IntKind.i64.wrap ((IntKind.i64.wrap ((a0.length : Int) - (8 : Int))) - (2 : Int))) - (IntKind.i64.wrap ((IntKind.i64.wrap (En.bAt a0 (IntKind.i64.wrap ((IntKind.i64.wrap ((a0.length : Int) - (8 : Int))) - (2 : Int))))) + (IntKind.i64.wrap ((256 : Int) * (IntKind.i64.wrap (En.bAt a0 (IntKind.i64.wrap ((IntKind.i64.wrap ((a0.length : Int) - (8 : Int))) - (1 : Int)))))))))))).toNat))), (8, (str l25s8)), (12, l25v12), (13, (int .i64 l25i13)), (14, (ptr g34 0)), (16, (int .i64 r41.2.1)), (80, (int .u64 r15.1)), (81, (int .u64 l25i81)), (115, l25v12), (116, (int .i64 (l25x12.length : Int))), (117, (int .i64 (IntKind.i64.wrap (l51i117 + (1 : Int)))))] (by decide) ⟨rfl, rfl, rfl, rfl, rfl, rfl, rfl, rfl, rfl, rfl, rfl, trivial⟩)
              ·replace h := bif_f hb54 h
               refine aw_exit ?_
               refine aq_then_exit ?_
               refine aq_then_exit ?_
               refine aq_block_exit ?_
               exact aq_join () h (fun w a hm hs => norm hm hs [0, 1] [0] [(7, (str (a0.take ((IntKind.i64.wrap ((IntKind.i64.wrap ((IntKind.i64.wrap ((a0.length : Int) - (8 : Int))) - (2 : Int))) - (IntKind.i64.wrap ((IntKind.i64.wrap (En.bAt a0 (IntKind.i64.wrap ((IntKind.i64.wrap ((a0.length : Int) - (8 : Int))) - (2 : Int))))) + (IntKind.i64.wrap ((256 : Int) * (IntKind.i64.wrap (En.bAt a0 (IntKind.i64.wrap ((IntKind.i64.wrap ((a0.length : Int) - (8 : Int))) - (1 : Int)))))))))))).toNat))), (8, (str l25s8)), (12, l25v12), (13, (int .i64 l25i13)), (14, (ptr g34 0)), (16, (int .i64 r41.2.1)), (80, (int .u64 r15.1)), (81, (int .u64 l25i81))] (by decide) ⟨rfl, rfl, rfl, rfl, rfl, rfl, rfl, rfl, trivial⟩)
       ·replace h := bif_f hb29 h
        refine aw_exit ?_
        refine aq_then_exit ?_
        refine aq_then_exit ?_
        refine aq_block_exit ?_
        exact aq_join (l25s8, l25v12, l25x12, l25i13) h (fun w a hm hs => norm hm hs [0] [0] [(7, (str (a0.take ((IntKind.i64.wrap ((IntKind.i64.wrap ((IntKind.i64.wrap ((a0.length : Int) - (8 : Int))) - (2 : Int))) - (IntKind.i64.wrap ((IntKind.i64.wrap (En.bAt a0 (IntKind.i64.wrap ((IntKind.i64.wrap ((a0.length : Int) - (8 : Int))) - (2 : Int))))) + (IntKind.i64.wrap ((256 : Int) * (IntKind.i64.wrap (En.bAt a0 (IntKind.i64.wrap ((IntKind.i64.wrap ((a0.length : Int) - (8 : Int))) - (1 : Int)))))))))))).toNat))), (8, (str l25s8)), (12, l25v12), (13, (int .i64 l25i13))] (by decide) ⟨rfl, rfl, rfl, rfl, trivial⟩)
def f_lumref_PackSplit_L9 (a0 : (List UInt8)) (r2 : ((List S_api_Entry) × Int)) (kk6 : ((List S_api_Blob) → Option ((List S_api_Blob) × Int))) (fu : Nat) : Nat → (List S_api_Blob) → Int → Option ((List S_api_Blob) × Int)
  | 0, _, _ => none
  | k8 + 1, l7x6, l7i21 => (bif (decide (l7i21 < (r2.1.length : Int))) then (opt (at? r2.1 l7i21) fun (u11 : S_api_Entry) => (opt (f_lumref_PackOne fu a0 u11) fun (r17 : (S_api_Blob × Int)) => (bif (r17.2 != (0 : Int)) then (some (([] : List S_api_Blob), r17.2)) else (req (((l7x6.length + ([(S_api_Blob.mk r17.1.Kind r17.1.Bytes)]).length) * 24 : Nat) ≤ 140737488355328 ∧ l7x6.length + ([(S_api_Blob.mk r17.1.Kind r17.1.Bytes)]).length ≤ 9223372036854775807) (f_lumref_PackSplit_L9 a0 r2 kk6 fu k8 (l7x6 ++ ([(S_api_Blob.mk r17.1.Kind r17.1.Bytes)])) (IntKind.i64.wrap (l7i21 + (1 : Int)))))))) else (kk6 l7x6))
def f_lumref_PackSplit (fu : Nat) (a0 : (List UInt8)) : Option ((List S_api_Blob) × Int) := (opt (f_lumref_PackList fu a0) fun (r2 : ((List S_api_Entry) × Int)) => (bif (r2.2 != (0 : Int)) then (some (([] : List S_api_Blob), r2.2)) else (lt (fun (j5x6 : (List S_api_Blob)) => (some (j5x6, (0 : Int)))) fun (kk6 : (List S_api_Blob) → Option ((List S_api_Blob) × Int)) => (f_lumref_PackSplit_L9 a0 r2 kk6 fu fu ([] : List S_api_Blob) (0 : Int)))))
set_option maxRecDepth 100000 in
theorem f_lumref_PackSplit_ok (fu : Nat) (a0 : (List UInt8)) {r : ((List S_api_Blob) × Int)} (h : f_lumref_PackSplit fu a0 = some r) : FnOk Try.prog 46 [(str a0)] [] [] (fun (i : Value) => { val := (Value.tuple #[i, (int .i64 r.2)]), own := [(oRow i 88 tyS_api_Blob r.1)] }) := by
 unfold f_lumref_PackSplit at h
 refine fn_enter Try.func46 rfl Try.ntmps46 rfl (fun w0 Z0 => ?_)
 refine aw_sr ?_
 refine al_as rfl rfl ?_
 refine al_as rfl rfl ?_
 refine al_nt ?_
 refine aw_sr ?_
 refine al_mv rfl rfl ?_
 obtain ⟨r2, hc1, h⟩ := opt_some h
 refine al_call (vs := [(str a0)]) (f_lumref_PackList_ok fu a0 hc1) [] [] [] pre_nil rfl (by simp) (by decide) (.inl rfl) rfl Try.func111 rfl rfl rfl (fun v3 => ?_)
 refine al_mv rfl rfl ?_
 refine al_ex rfl rfl rfl ?_
 refine al_ex rfl rfl rfl ?_
 refine al_as rfl rfl ?_
 refine al_as rfl rfl ?_
 refine al_nt ?_
 refine aw_seq ?_
 refine aw_sr ?_
 refine al_mv rfl rfl ?_
 refine al_in rfl rfl rfl rfl ?_
 refine al_nt ?_
 refine aw_cond rfl (fun hb4 => ?_) (fun hb4 => ?_)
 ·replace h := bif_t hb4 h
  refine aw_sr ?_
  refine al_mv rfl rfl ?_
  refine al_as rfl rfl ?_
  refine al_as rfl rfl ?_
  refine al_nt ?_
  refine aw_ret ?_
  refine aq_then_ret ?_
  refine aq_nilR 88 tyS_api_Blob ?_
  obtain rfl := Option.some.inj h
  exact fn_ret (Value.slice none 0 0) [0] [] rfl rfl rfl rfl (res2 rfl rfl rfl) rfl rfl rfl (by decide)
 ·replace h := bif_f hb4 h
  refine aw_skip ?_
  refine aq_tr ?_
  refine al_as rfl rfl ?_
  refine al_nt ?_
  obtain ⟨kk6, hkk6, h⟩ := lt_some h
  refine aw_seq_join (ι := Value × (List S_api_Blob)) (fun i => (memOf w0 Z0 [] [(oRow i.1 88 tyS_api_Blob i.2)] [])) (fun i => (tab [(6, i.1)])) (fun i => kk6 i.2 = some r) ?_ ?_
  ·rintro ⟨j5v6, j5x6⟩ h
   have h : kk6 j5x6 = some r := h
   rw [hkk6] at h
   dsimp only at h
   clear hkk6
   refine aw_show (m := (memOf w0 Z0 [] [(oRow j5v6 88 tyS_api_Blob j5x6)] [])) (S := (tab [(6, j5v6)])) ?_
   refine aw_sr ?_
   refine al_mv rfl rfl ?_
   refine al_as rfl rfl ?_
   refine al_as rfl rfl ?_
   refine al_nt ?_
   refine aw_ret ?_
   obtain rfl := Option.some.inj h
   exact fn_ret j5v6 [0] [] rfl rfl rfl rfl (res2 rfl rfl rfl) rfl rfl rfl (by decide)
  ·clear hkk6
   refine aw_sr ?_
   refine al_mv rfl rfl ?_
   refine al_val (ov_lenR 0 rfl rfl Try.underlying63 rfl) ?_
   refine al_mv rfl rfl ?_
   refine al_nt ?_
   refine aw_block ?_
   refine aw_nilR 88 tyS_api_Blob ?_
   refine aw_state (aw_loop (ι := Value × (List S_api_Blob) × Int) (fun i => (memOf w0 Z0 [] [(oRow i.1 88 tyS_api_Blob i.2.1), (oRow v3 86 tyS_api_Entry r2.1)] [])) (fun i => (tab [(0, (str a0)), (6, i.1), (19, v3), (20, (int .i64 (r2.1.length : Int))), (21, (int .i64 i.2.2))])) (fun q i => f_lumref_PackSplit_L9 a0 r2 kk6 fu q i.2.1 i.2.2 = some r) ?_ fu ((Value.slice none 0 0), ([] : List S_api_Blob), (0 : Int)) h) (fun w a hm hs => norm hm hs [0, 1] [] [(0, (str a0)), (6, (Value.slice none 0 0)), (19, v3), (20, (int .i64 (r2.1.length : Int))), (21, (int .i64 (0 : Int)))] (by decide) ⟨rfl, rfl, rfl, rfl, rfl, trivial⟩)
   clear h
   rintro k8 ⟨l7v6, l7x6, l7i21⟩ h
   have h : f_lumref_PackSplit_L9 a0 r2 kk6 fu k8 l7x6 l7i21 = some r := h
   obtain _ | k8 := k8
   · rw [f_lumref_PackSplit_L9] at h; cases h
   rw [f_lumref_PackSplit_L9] at h
   refine aw_show (m := (memOf w0 Z0 [] [(oRow l7v6 88 tyS_api_Blob l7x6), (oRow v3 86 tyS_api_Entry r2.1)] [])) (S := (tab [(0, (str a0)), (6, l7v6), (19, v3), (20, (int .i64 (r2.1.length : Int))), (21, (int .i64 l7i21))])) ?_
   refine aw_sr ?_
   refine al_in rfl rfl rfl rfl ?_
   refine al_nt ?_
   refine aw_seq ?_
   refine aw_cond rfl (fun hb10 => ?_) (fun hb10 => ?_)
   ·replace h := bif_t hb10 h
    refine aw_skip ?_
    refine aq_then ?_
    refine aw_seq ?_
    refine aw_block ?_
    refine aw_sr ?_
    obtain ⟨u11, hu12, h⟩ := opt_some h
    refine al_idxR 1 (at_some hu12).1 (at_some hu12).2.1 rfl rfl rfl Try.underlying63 sz86 rfl (fun p13 hp14 => ?_)
    refine al_val (ov_loadR (ds := ((cA8u8 u11.ID) ++ [(int .i64 u11.Kind), (int .i64 u11.At), (int .i64 u11.Len)])) 1 rfl hp14 (at_some hu12).2.2 encS_api_Entry rfl Try.underlying86 sz86 rfl rfl rfl) ?_
    refine al_alloc (zs := ((cA8u8 (A8u8.mk (0 : UInt8) (0 : UInt8) (0 : UInt8) (0 : UInt8) (0 : UInt8) (0 : UInt8) (0 : UInt8) (0 : UInt8))) ++ [(int .i64 (0 : Int)), (int .i64 (0 : Int)), (int .i64 (0 : Int))])) (zeroOf_to to86) rfl rfl (fun g15 => ?_)
    refine al_store (i := 0) (vs := ((cA8u8 u11.ID) ++ [(int .i64 u11.Kind), (int .i64 u11.At), (int .i64 u11.Len)])) (cs' := ((cA8u8 u11.ID) ++ [(int .i64 u11.Kind), (int .i64 u11.At), (int .i64 u11.Len)])) rfl rfl rfl sz86 (cv_rfl rfl) rfl (co_app (oneA8u8 u11.ID) (co_val rfl (co_val rfl (co_val rfl co_nil)))) (Nat.le_of_ble_eq_true rfl) rfl rfl ?_
    refine al_nt ?_
    refine aw_sr ?_
    refine al_mv rfl rfl ?_
    refine al_val (ov_load (i := 0) (v := (ag ((cA8u8 u11.ID) ++ [(int .i64 u11.Kind), (int .i64 u11.At), (int .i64 u11.Len)]))) rfl rfl Try.underlying86 sz86 rfl rfl rfl rfl) ?_
    obtain ⟨r17, hc16, h⟩ := opt_some h
    refine al_call (vs := [(str a0), (ag ((cA8u8 u11.ID) ++ [(int .i64 u11.Kind), (int .i64 u11.At), (int .i64 u11.Len)]))]) (f_lumref_PackOne_ok fu a0 u11 hc16) [] [] [0, 1, 2] pre_nil rfl (by simp) (by decide) (.inl rfl) rfl Try.func44 rfl rfl rfl (fun _ => ?_)
    refine al_mv rfl rfl ?_
    refine al_ex rfl rfl rfl ?_
    refine al_ex rfl rfl rfl ?_
    refine al_alloc (zs := [(int .i64 (0 : Int)), (str ([] : List UInt8))]) (zeroOf_to to88) rfl rfl (fun g18 => ?_)
    refine al_store (i := 0) (vs := [(int .i64 r17.1.Kind), (str r17.1.Bytes)]) (cs' := [(int .i64 r17.1.Kind), (str r17.1.Bytes)]) rfl rfl rfl sz88 (cv_rfl rfl) rfl (co_val rfl (co_val rfl co_nil)) (Nat.le_of_ble_eq_true rfl) rfl rfl ?_
    refine al_as rfl rfl ?_
    refine al_nt ?_
    refine aw_seq ?_
    refine aw_sr ?_
    refine al_mv rfl rfl ?_
    refine al_in rfl rfl rfl rfl ?_
    refine al_nt ?_
    refine aw_cond rfl (fun hb19 => ?_) (fun hb19 => ?_)
    ·replace h := bif_t hb19 h
     refine aw_sr ?_
     refine al_mv rfl rfl ?_
     refine al_as rfl rfl ?_
     refine al_as rfl rfl ?_
     refine al_nt ?_
     refine aw_ret ?_
     refine aq_then_ret ?_
     refine aq_block_ret ?_
     refine aq_then_ret ?_
     refine aq_then_ret ?_
     refine aq_block_ret ?_
     refine aq_then_ret ?_
     refine aq_nilR 88 tyS_api_Blob ?_
     obtain rfl := Option.some.inj h
     exact fn_ret (Value.slice none 0 0) [0] [] rfl rfl rfl rfl (res2 rfl rfl rfl) rfl rfl rfl (by decide)
    ·replace h := bif_f hb19 h
     refine aw_skip ?_
     refine aq_then ?_
     refine aw_region ?_
     refine al_mv rfl rfl ?_
     refine al_val (ov_load (i := 0) (v := (ag [(int .i64 r17.1.Kind), (str r17.1.Bytes)])) rfl rfl Try.underlying88 sz88 rfl rfl rfl rfl) ?_
     refine al_buildSlice (τ := tyS_api_Blob) (e := 88) (k := 1) (sz := 0) (by_ := 0) (z := undef) (cs := [(int .i64 r17.1.Kind), (str r17.1.Bytes)]) (xs := [(S_api_Blob.mk r17.1.Kind r17.1.Bytes)]) rfl (by decide) (fun w a hm hs => ⟨([(int .i64 r17.1.Kind), (str r17.1.Bytes)]).toArray, rfl, by simp only [List.map_toArray, List.map_cons, List.map_nil, hs.ev (x := .tmp 35) rfl]; exact run_bs [(ag [(int .i64 r17.1.Kind), (str r17.1.Bytes)])] [(int .i64 r17.1.Kind), (str r17.1.Bytes)] Try.underlying91 to88 rfl rfl (bs_cons (l := [(int .i64 r17.1.Kind), (str r17.1.Bytes)]) (cs := []) (cv_rfl rfl) rfl bs_nil) hm⟩) (fun hm => ⟨_, _, rfl, (fun _ => mkS_api_Blob rfl) hm, rfl⟩) rfl (fun v20 => ?_)
     obtain ⟨hc21, h⟩ := req_some h
     refine al_append 3 hc21.1 hc21.2 rfl (src_own (i := 3) 0 rfl) rfl rfl Try.underlying91 to88 rfl rfl rfl (fun v22 => ?_)
     refine al_as rfl rfl ?_
     refine al_nil ?_
     refine aq_block ?_
     refine aq_then ?_
     refine aw_region ?_
     refine al_in rfl rfl rfl rfl ?_
     refine al_mv rfl rfl ?_
     refine al_nil ?_
     exact aq_again k8 (v22, (l7x6 ++ ([(S_api_Blob.mk r17.1.Kind r17.1.Bytes)])), (IntKind.i64.wrap (l7i21 + (1 : Int)))) (Nat.lt_succ_self _) h (fun w a hm hs => norm hm hs [3, 4] [] [(0, (str a0)), (6, v22), (19, v3), (20, (int .i64 (r2.1.length : Int))), (21, (int .i64 (IntKind.i64.wrap (l7i21 + (1 : Int)))))] (by decide) ⟨rfl, rfl, rfl, rfl, rfl, trivial⟩)
   ·replace h := bif_f hb10 h
    refine aw_exit ?_
    refine aq_then_exit ?_
    refine aq_then_exit ?_
    refine aq_block_exit ?_
    exact aq_join (l7v6, l7x6) h (fun w a hm hs => norm hm hs [0] [] [(6, l7v6)] (by decide) ⟨rfl, trivial⟩)
def f_slices_Equal___api_Blob_api_Blob__L6 (a0 : (List S_api_Blob)) (a1 : (List S_api_Blob)) (kk3 : (Unit → Option Bool)) : Nat → Int → Option Bool
  | 0, _ => none
  | k5 + 1, l4i13 => (bif (decide (l4i13 < (a0.length : Int))) then (opt (at? a0 l4i13) fun (u8 : S_api_Blob) => (opt (at? a1 l4i13) fun (u11 : S_api_Blob) => (req ((Lit.int .i64 u8.Kind).wf = true) (req (u8.Bytes.length ≤ 9223372036854775807) (req ((Lit.int .i64 u11.Kind).wf = true) (req (u11.Bytes.length ≤ 9223372036854775807) (bif (!(u8 == u11)) then (some false) else (f_slices_Equal___api_Blob_api_Blob__L6 a0 a1 kk3 k5 (IntKind.i64.wrap (l4i13 + (1 : Int))))))))))) else (kk3 ()))
def f_slices_Equal___api_Blob_api_Blob_ (fu : Nat) (a0 : (List S_api_Blob)) (a1 : (List S_api_Blob)) : Option Bool := (bif ((a0.length : Int) != (a1.length : Int)) then (some false) else (lt (fun (_ : Unit) => (some true)) fun (kk3 : Unit → Option Bool) => (f_slices_Equal___api_Blob_api_Blob__L6 a0 a1 kk3 fu (0 : Int))))
set_option maxRecDepth 100000 in
theorem f_slices_Equal___api_Blob_api_Blob__ok (fu : Nat) (v0_0 : Value) (a0 : (List S_api_Blob)) (v1_0 : Value) (a1 : (List S_api_Blob)) {r : Bool} (h : f_slices_Equal___api_Blob_api_Blob_ fu a0 a1 = some r) : FnOk Try.prog 47 [v0_0, v1_0] [(fDat (tyList tyS_api_Blob) [v0_0] a0), (fDat (tyList tyS_api_Blob) [v1_0] a1)] [] (fun (i : Unit) => { val := (bool r) }) := by
 unfold f_slices_Equal___api_Blob_api_Blob_ at h
 refine fn_enter Try.func47 rfl Try.ntmps47 rfl (fun w0 Z0 => ?_)
 refine aw_sr ?_
 refine al_as rfl rfl ?_
 refine al_nt ?_
 refine aw_seq ?_
 refine aw_sr ?_
 refine al_mv rfl rfl ?_
 refine al_val (ov_lenD 0 rfl rfl Try.underlying91 rfl) ?_
 refine al_mv rfl rfl ?_
 refine al_val (ov_lenD 1 rfl rfl Try.underlying91 rfl) ?_
 refine al_in rfl rfl rfl rfl ?_
 refine al_nt ?_
 refine aw_cond rfl (fun hb1 => ?_) (fun hb1 => ?_)
 ·replace h := bif_t hb1 h
  refine aw_sr ?_
  refine al_as rfl rfl ?_
  refine al_nt ?_
  refine aw_ret ?_
  refine aq_then_ret ?_
  obtain rfl := Option.some.inj h
  exact fn_ret () [] [] rfl rfl rfl rfl (res1 rfl rfl) rfl rfl rfl (by decide)
 ·replace h := bif_f hb1 h
  refine aw_skip ?_
  refine aq_then ?_
  obtain ⟨kk3, hkk3, h⟩ := lt_some h
  refine aw_seq_join (ι := Unit) (fun i => (memOf w0 Z0 [] [] [(fDat (tyList tyS_api_Blob) [v0_0] a0), (fDat (tyList tyS_api_Blob) [v1_0] a1)])) (fun i => (tab [])) (fun i => kk3 () = some r) ?_ ?_
  ·rintro _ h
   have h : kk3 () = some r := h
   rw [hkk3] at h
   dsimp only at h
   clear hkk3
   refine aw_show (m := (memOf w0 Z0 [] [] [(fDat (tyList tyS_api_Blob) [v0_0] a0), (fDat (tyList tyS_api_Blob) [v1_0] a1)])) (S := (tab [])) ?_
   refine aw_sr ?_
   refine al_as rfl rfl ?_
   refine al_nt ?_
   refine aw_ret ?_
   obtain rfl := Option.some.inj h
   exact fn_ret () [] [] rfl rfl rfl rfl (res1 rfl rfl) rfl rfl rfl (by decide)
  ·clear hkk3
   refine aw_sr ?_
   refine al_mv rfl rfl ?_
   refine al_val (ov_lenD 0 rfl rfl Try.underlying91 rfl) ?_
   refine al_mv rfl rfl ?_
   refine al_nt ?_
   refine aw_block ?_
   refine aw_state (aw_loop (ι := Int) (fun i => (memOf w0 Z0 [] [] [(fDat (tyList tyS_api_Blob) [v0_0] a0), (fDat (tyList tyS_api_Blob) [v1_0] a1)])) (fun i => (tab [(0, v0_0), (1, v1_0), (12, (int .i64 (a0.length : Int))), (13, (int .i64 i))])) (fun q i => f_slices_Equal___api_Blob_api_Blob__L6 a0 a1 kk3 q i = some r) ?_ fu (0 : Int) h) (fun w a hm hs => norm hm hs [] [0, 1] [(0, v0_0), (1, v1_0), (12, (int .i64 (a0.length : Int))), (13, (int .i64 (0 : Int)))] (by decide) ⟨rfl, rfl, rfl, rfl, trivial⟩)
   clear h
   rintro k5 l4i13 h
   have h : f_slices_Equal___api_Blob_api_Blob__L6 a0 a1 kk3 k5 l4i13 = some r := h
   obtain _ | k5 := k5
   · rw [f_slices_Equal___api_Blob_api_Blob__L6] at h; cases h
   rw [f_slices_Equal___api_Blob_api_Blob__L6] at h
   refine aw_show (m := (memOf w0 Z0 [] [] [(fDat (tyList tyS_api_Blob) [v0_0] a0), (fDat (tyList tyS_api_Blob) [v1_0] a1)])) (S := (tab [(0, v0_0), (1, v1_0), (12, (int .i64 (a0.length : Int))), (13, (int .i64 l4i13))])) ?_
   refine aw_sr ?_
   refine al_in rfl rfl rfl rfl ?_
   refine al_nt ?_
   refine aw_seq ?_
   refine aw_cond rfl (fun hb7 => ?_) (fun hb7 => ?_)
   ·replace h := bif_t hb7 h
    refine aw_skip ?_
    refine aq_then ?_
    refine aw_seq ?_
    refine aw_block ?_
    refine aw_sr ?_
    refine al_mv rfl rfl ?_
    refine al_as rfl rfl ?_
    refine al_nt ?_
    refine aw_seq ?_
    obtain ⟨u8, hu9, h⟩ := opt_some h
    obtain ⟨u11, hu12, h⟩ := opt_some h
    refine aw_region_draw 8 [(16, (fun u => fEq u v0_0)), (17, (fun u => fEq u (int .i64 l4i13))), (18, (fun p10 => (fPtr tyS_api_Blob p10 u8))), (19, (fun u => fEq u (ag [(int .i64 u8.Kind), (str u8.Bytes)]))), (20, (fun u => fEq u v1_0)), (21, (fun u => fEq u (int .i64 l4i13))), (22, (fun p13 => (fPtr tyS_api_Blob p13 u11))), (23, (fun u => fEq u (ag [(int .i64 u11.Kind), (str u11.Bytes)])))] (tab [(0, v0_0), (1, v1_0), (5, (int .i64 l4i13)), (12, (int .i64 (a0.length : Int))), (13, (int .i64 l4i13))]) mixed (by kernel_rfl) rfl rfl rfl (fun a hs => hs.tab _ (allT_mem ⟨rfl, rfl, rfl, rfl, rfl, trivial⟩)) ⟨⟨rfl, ld_val (ov_move rfl rfl)⟩, ⟨rfl, ld_val (ov_move rfl rfl)⟩, ⟨rfl, ld_eq (j := 0) rfl rfl (ld_eq (j := 1) rfl rfl (ld_of (of_idxD 0 hu9 rfl rfl rfl Try.underlying91 sz88 rfl)))⟩, ⟨rfl, ld_fact (j := 2) rfl rfl (fun p10 => ld_val (ov_loadP (ds := [(int .i64 u8.Kind), (str u8.Bytes)]) 0 rfl encS_api_Blob rfl Try.underlying88 sz88 rfl rfl rfl))⟩, ⟨rfl, ld_val (ov_move rfl rfl)⟩, ⟨rfl, ld_val (ov_move rfl rfl)⟩, ⟨rfl, ld_eq (j := 4) rfl rfl (ld_eq (j := 5) rfl rfl (ld_of (of_idxD 1 hu12 rfl rfl rfl Try.underlying91 sz88 rfl)))⟩, ⟨rfl, ld_fact (j := 6) rfl rfl (fun p13 => ld_val (ov_loadP (ds := [(int .i64 u11.Kind), (str u11.Bytes)]) 0 rfl encS_api_Blob rfl Try.underlying88 sz88 rfl rfl rfl))⟩, trivial⟩ ?_
    refine tl_eq 3 rfl ?_
    refine tl_eq 7 rfl ?_
    refine tl_done ?_
    obtain ⟨hc14, h⟩ := req_some h
    obtain ⟨hc15, h⟩ := req_some h
    obtain ⟨hc16, h⟩ := req_some h
    obtain ⟨hc17, h⟩ := req_some h
    refine al_val (ov_neqA (cs := [(int .i64 u8.Kind), (str u8.Bytes)]) (ds := [(int .i64 u11.Kind), (str u11.Bytes)]) (ls := [3, 9]) (p := (u8 == u11)) eg88 kt88 lv88 rfl rfl (by kernel_rfl) (by kernel_rfl) (fit_cons (fit_int Try.underlying3 hc14) (fit_cons (fit_str Try.underlying9 hc15) fit_nil)) (fit_cons (fit_int Try.underlying3 hc16) (fit_cons (fit_str Try.underlying9 hc17) fit_nil)) (injS_api_Blob (x := u8) (y := u11)) rfl) ?_
    refine al_nt ?_
    refine aw_cond rfl (fun hb18 => ?_) (fun hb18 => ?_)
    ·replace h := bif_t hb18 h
     refine aw_sr ?_
     refine al_as rfl rfl ?_
     refine al_nt ?_
     refine aw_ret ?_
     refine aq_block_ret ?_
     refine aq_then_ret ?_
     refine aq_then_ret ?_
     refine aq_block_ret ?_
     refine aq_then_ret ?_
     obtain rfl := Option.some.inj h
     exact fn_ret () [] [] rfl rfl rfl rfl (res1 rfl rfl) rfl rfl rfl (by decide)
    ·replace h := bif_f hb18 h
     refine aw_skip ?_
     refine aq_block ?_
     refine aq_then ?_
     refine aw_region ?_
     refine al_in rfl rfl rfl rfl ?_
     refine al_mv rfl rfl ?_
     refine al_nil ?_
     exact aq_again k5 (IntKind.i64.wrap (l4i13 + (1 : Int))) (Nat.lt_succ_self _) h (fun w a hm hs => norm hm hs [] [0, 1] [(0, v0_0), (1, v1_0), (12, (int .i64 (a0.length : Int))), (13, (int .i64 (IntKind.i64.wrap (l4i13 + (1 : Int)))))] (by decide) ⟨rfl, rfl, rfl, rfl, trivial⟩)
   ·replace h := bif_f hb7 h
    refine aw_exit ?_
    refine aq_then_exit ?_
    refine aq_then_exit ?_
    refine aq_block_exit ?_
    exact aq_join () h (fun w a hm hs => norm hm hs [] [0, 1] [] (by decide) trivial)
def f_lumlaw_PackOnes (fu : Nat) (a0 : (List UInt8)) (a1 : S_api_Entry) : Option Bool := (opt (f_pack_One fu a0 a1) fun (r3 : (S_api_Blob × Int)) => (opt (f_lumref_PackOne fu a0 a1) fun (r6 : (S_api_Blob × Int)) => (opt (f_pack_Split fu a0) fun (r9 : ((List S_api_Blob) × Int)) => (opt (f_lumref_PackSplit fu a0) fun (r12 : ((List S_api_Blob) × Int)) => (lt (fun (j14b4 : Bool) => (some j14b4)) fun (kk15 : Bool → Option Bool) => (req ((Lit.int .i64 r3.1.Kind).wf = true) (req (r3.1.Bytes.length ≤ 9223372036854775807) (req ((Lit.int .i64 r6.1.Kind).wf = true) (req (r6.1.Bytes.length ≤ 9223372036854775807) (bif ((S_api_Blob.mk r3.1.Kind r3.1.Bytes) == (S_api_Blob.mk r6.1.Kind r6.1.Bytes)) then (bif (r3.2 == r6.2) then (opt (f_slices_Equal___api_Blob_api_Blob_ fu r9.1 r12.1) fun (r23 : Bool) => (bif r23 then (kk15 (r9.2 == r12.2)) else (kk15 false))) else (kk15 false)) else (kk15 false)))))))))))
set_option maxRecDepth 100000 in
theorem f_lumlaw_PackOnes_ok (fu : Nat) (a0 : (List UInt8)) (a1 : S_api_Entry) {r : Bool} (h : f_lumlaw_PackOnes fu a0 a1 = some r) : FnOk Try.prog 10 [(str a0), (ag ((cA8u8 a1.ID) ++ [(int .i64 a1.Kind), (int .i64 a1.At), (int .i64 a1.Len)]))] [] [] (fun (i : Unit) => { val := (bool r) }) := by
 unfold f_lumlaw_PackOnes at h
 refine fn_enter Try.func10 rfl Try.ntmps10 rfl (fun w0 Z0 => ?_)
 refine aw_sr ?_
 refine al_box (vs := ((cA8u8 a1.ID) ++ [(int .i64 a1.Kind), (int .i64 a1.At), (int .i64 a1.Len)])) rfl (cv_rfl rfl) rfl (fun g1 => ?_)
 refine al_as rfl rfl ?_
 refine al_nt ?_
 refine aw_sr ?_
 refine al_mv rfl rfl ?_
 refine al_val (ov_load (i := 0) (v := (ag ((cA8u8 a1.ID) ++ [(int .i64 a1.Kind), (int .i64 a1.At), (int .i64 a1.Len)]))) rfl rfl Try.underlying86 sz86 rfl rfl rfl rfl) ?_
 obtain ⟨r3, hc2, h⟩ := opt_some h
 refine al_call (vs := [(str a0), (ag ((cA8u8 a1.ID) ++ [(int .i64 a1.Kind), (int .i64 a1.At), (int .i64 a1.Len)]))]) (f_pack_One_ok fu a0 a1 hc2) [] [] [0] pre_nil rfl (by simp) (by decide) (.inl rfl) rfl Try.func43 rfl rfl rfl (fun _ => ?_)
 refine al_mv rfl rfl ?_
 refine al_ex rfl rfl rfl ?_
 refine al_ex rfl rfl rfl ?_
 refine al_alloc (zs := [(int .i64 (0 : Int)), (str ([] : List UInt8))]) (zeroOf_to to88) rfl rfl (fun g4 => ?_)
 refine al_store (i := 0) (vs := [(int .i64 r3.1.Kind), (str r3.1.Bytes)]) (cs' := [(int .i64 r3.1.Kind), (str r3.1.Bytes)]) rfl rfl rfl sz88 (cv_rfl rfl) rfl (co_val rfl (co_val rfl co_nil)) (Nat.le_of_ble_eq_true rfl) rfl rfl ?_
 refine al_as rfl rfl ?_
 refine al_nt ?_
 refine aw_sr ?_
 refine al_mv rfl rfl ?_
 refine al_val (ov_load (i := 1) (v := (ag ((cA8u8 a1.ID) ++ [(int .i64 a1.Kind), (int .i64 a1.At), (int .i64 a1.Len)]))) rfl rfl Try.underlying86 sz86 rfl rfl rfl rfl) ?_
 obtain ⟨r6, hc5, h⟩ := opt_some h
 refine al_call (vs := [(str a0), (ag ((cA8u8 a1.ID) ++ [(int .i64 a1.Kind), (int .i64 a1.At), (int .i64 a1.Len)]))]) (f_lumref_PackOne_ok fu a0 a1 hc5) [] [] [0, 1] pre_nil rfl (by simp) (by decide) (.inl rfl) rfl Try.func44 rfl rfl rfl (fun _ => ?_)
 refine al_mv rfl rfl ?_
 refine al_ex rfl rfl rfl ?_
 refine al_ex rfl rfl rfl ?_
 refine al_alloc (zs := [(int .i64 (0 : Int)), (str ([] : List UInt8))]) (zeroOf_to to88) rfl rfl (fun g7 => ?_)
 refine al_store (i := 0) (vs := [(int .i64 r6.1.Kind), (str r6.1.Bytes)]) (cs' := [(int .i64 r6.1.Kind), (str r6.1.Bytes)]) rfl rfl rfl sz88 (cv_rfl rfl) rfl (co_val rfl (co_val rfl co_nil)) (Nat.le_of_ble_eq_true rfl) rfl rfl ?_
 refine al_as rfl rfl ?_
 refine al_nt ?_
 refine aw_sr ?_
 refine al_mv rfl rfl ?_
 obtain ⟨r9, hc8, h⟩ := opt_some h
 refine al_call (vs := [(str a0)]) (f_pack_Split_ok fu a0 hc8) [] [] [0, 1, 2] pre_nil rfl (by simp) (by decide) (.inl rfl) rfl Try.func45 rfl rfl rfl (fun v10 => ?_)
 refine al_mv rfl rfl ?_
 refine al_ex rfl rfl rfl ?_
 refine al_ex rfl rfl rfl ?_
 refine al_as rfl rfl ?_
 refine al_as rfl rfl ?_
 refine al_nt ?_
 refine aw_sr ?_
 refine al_mv rfl rfl ?_
 obtain ⟨r12, hc11, h⟩ := opt_some h
 refine al_call (vs := [(str a0)]) (f_lumref_PackSplit_ok fu a0 hc11) [] [] [0, 1, 2, 3] pre_nil rfl (by simp) (by decide) (.inl rfl) rfl Try.func46 rfl rfl rfl (fun v13 => ?_)
 refine al_mv rfl rfl ?_
 refine al_ex rfl rfl rfl ?_
 refine al_ex rfl rfl rfl ?_
 refine al_as rfl rfl ?_
 refine al_as rfl rfl ?_
 refine al_nt ?_
 obtain ⟨kk15, hkk15, h⟩ := lt_some h
 refine aw_seq_join (ι := Bool) (fun i => (memOf w0 Z0 [] [] [])) (fun i => (tab [(4, (bool i))])) (fun i => kk15 i = some r) ?_ ?_
 ·rintro j14b4 h
  have h : kk15 j14b4 = some r := h
  rw [hkk15] at h
  dsimp only at h
  clear hkk15
  refine aw_show (m := (memOf w0 Z0 [] [] [])) (S := (tab [(4, (bool j14b4))])) ?_
  refine aw_ret ?_
  obtain rfl := Option.some.inj h
  exact fn_ret () [] [] rfl rfl rfl rfl (res1 rfl rfl) rfl rfl rfl (by decide)
 ·clear hkk15
  refine aw_region ?_
  refine al_val (ov_load (i := 3) (v := (ag [(int .i64 r3.1.Kind), (str r3.1.Bytes)])) rfl rfl Try.underlying88 sz88 rfl rfl rfl rfl) ?_
  refine al_val (ov_load (i := 2) (v := (ag [(int .i64 r6.1.Kind), (str r6.1.Bytes)])) rfl rfl Try.underlying88 sz88 rfl rfl rfl rfl) ?_
  obtain ⟨hc16, h⟩ := req_some h
  obtain ⟨hc17, h⟩ := req_some h
  obtain ⟨hc18, h⟩ := req_some h
  obtain ⟨hc19, h⟩ := req_some h
  refine al_val (ov_eqlA (cs := [(int .i64 r3.1.Kind), (str r3.1.Bytes)]) (ds := [(int .i64 r6.1.Kind), (str r6.1.Bytes)]) (ls := [3, 9]) (p := ((S_api_Blob.mk r3.1.Kind r3.1.Bytes) == (S_api_Blob.mk r6.1.Kind r6.1.Bytes))) eg88 kt88 lv88 rfl rfl (by kernel_rfl) (by kernel_rfl) (fit_cons (fit_int Try.underlying3 hc16) (fit_cons (fit_str Try.underlying9 hc17) fit_nil)) (fit_cons (fit_int Try.underlying3 hc18) (fit_cons (fit_str Try.underlying9 hc19) fit_nil)) (injS_api_Blob (x := (S_api_Blob.mk r3.1.Kind r3.1.Bytes)) (y := (S_api_Blob.mk r6.1.Kind r6.1.Bytes))) rfl) ?_
  refine al_mv rfl rfl ?_
  refine al_caseB 38 rfl (fun hb20 => ?_) (fun hb20 => ?_)
  ·replace h := bif_t hb20 h
   refine al_mv rfl rfl ?_
   refine al_mv rfl rfl ?_
   refine al_in rfl rfl rfl rfl ?_
   refine al_val (ov_pick_t rfl rfl rfl) ?_
   refine al_mv rfl rfl ?_
   refine al_caseB 43 rfl (fun hb21 => ?_) (fun hb21 => ?_)
   ·replace h := bif_t hb21 h
    refine al_mv rfl rfl ?_
    refine al_mv rfl rfl ?_
    obtain ⟨r23, hc22, h⟩ := opt_some h
    refine al_call (vs := [v10, v13]) (f_slices_Equal___api_Blob_api_Blob__ok fu v10 r9.1 v13 r12.1 hc22) [0, 1] [] [0, 1, 2, 3, 4] (pre_own 1 rfl rfl (pre_own 0 rfl rfl pre_nil)) rfl (by simp) (by decide) (.inr flat_res0) rfl Try.func47 rfl rfl rfl (fun _ => ?_)
    refine al_val (ov_pick_t rfl rfl rfl) ?_
    refine al_mv rfl rfl ?_
    refine al_caseB 48 rfl (fun hb24 => ?_) (fun hb24 => ?_)
    ·replace h := bif_t hb24 h
     refine al_mv rfl rfl ?_
     refine al_mv rfl rfl ?_
     refine al_in rfl rfl rfl rfl ?_
     refine al_val (ov_pick_t rfl rfl rfl) ?_
     refine al_as rfl rfl ?_
     refine al_nil ?_
     exact aq_join (r9.2 == r12.2) h (fun w a hm hs => norm hm hs [] [] [(4, (bool (r9.2 == r12.2)))] (by decide) ⟨rfl, trivial⟩)
    ·replace h := bif_f hb24 h
     refine al_skip ?_
     refine al_skip ?_
     refine al_skip ?_
     refine al_val (ov_pick_f rfl rfl rfl) ?_
     refine al_as rfl rfl ?_
     refine al_nil ?_
     exact aq_join false h (fun w a hm hs => norm hm hs [] [] [(4, (bool false))] (by decide) ⟨rfl, trivial⟩)
   ·replace h := bif_f hb21 h
    refine al_skip ?_
    refine al_skip ?_
    refine al_skip ?_
    refine al_val (ov_pick_f rfl rfl rfl) ?_
    refine al_mv rfl rfl ?_
    refine al_skip ?_
    refine al_skip ?_
    refine al_skip ?_
    refine al_val (ov_pick_f rfl rfl rfl) ?_
    refine al_as rfl rfl ?_
    refine al_nil ?_
    exact aq_join false h (fun w a hm hs => norm hm hs [] [] [(4, (bool false))] (by decide) ⟨rfl, trivial⟩)
  ·replace h := bif_f hb20 h
   refine al_skip ?_
   refine al_skip ?_
   refine al_skip ?_
   refine al_val (ov_pick_f rfl rfl rfl) ?_
   refine al_mv rfl rfl ?_
   refine al_skip ?_
   refine al_skip ?_
   refine al_skip ?_
   refine al_val (ov_pick_f rfl rfl rfl) ?_
   refine al_mv rfl rfl ?_
   refine al_skip ?_
   refine al_skip ?_
   refine al_skip ?_
   refine al_val (ov_pick_f rfl rfl rfl) ?_
   refine al_as rfl rfl ?_
   refine al_nil ?_
   exact aq_join false h (fun w a hm hs => norm hm hs [] [] [(4, (bool false))] (by decide) ⟨rfl, trivial⟩)
end Go.Proofs.Ytgmggcpceemnnaa
