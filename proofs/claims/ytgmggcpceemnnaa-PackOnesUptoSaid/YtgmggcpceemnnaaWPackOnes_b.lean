/- Walks by program. No condition. -/
import Derived.Test.YtgmggcpceemnnaaEn25
import Derived.Test.YtgmggcpceemnnaaChecked
import Derived.Test.YtgmggcpceemnnaaEn25
import Derived.Test.YtgmggcpceemnnaaShBEPut
import Derived.Test.YtgmggcpceemnnaaShCont
import Derived.Test.YtgmggcpceemnnaaShRepeat
import Derived.Test.YtgmggcpceemnnaaEnS
import Derived.Test.YtgmggcpceemnnaaWPackOnes_a
namespace Go.Proofs.Ytgmggcpceemnnaa
open Go.RowKit Ytgmggcpceemnnaa.En
set_option linter.unusedVariables false
set_option linter.unusedSimpArgs false
open Go.Value (int bool)
set_option maxRecDepth 100000 in
theorem f_mix_sum_ok (fu : Nat) (a0 : (List UInt8)) (a1 : Int) {r : Int} (h : f_mix_sum fu a0 a1 = some r) : FnOk Try.prog 217 [(str a0), (int .u64 a1)] [] [] (fun (i : Unit) => { val := (int .u64 r) }) := by
 unfold f_mix_sum at h
 refine fn_enter Try.func217 rfl Try.ntmps217 rfl (fun w0 Z0 => ?_)
 refine aw_sr ?_
 refine al_as rfl rfl ?_
 refine al_nt ?_
 refine aw_sr ?_
 refine al_mv rfl rfl ?_
 refine al_val (ov_strLen Try.underlying9 rfl rfl) ?_
 refine al_val (ov_convInt (by rw [Try.underlying3]; rfl) Try.underlying55 rfl rfl) ?_
 refine al_as rfl rfl ?_
 refine al_as rfl rfl ?_
 refine al_nt ?_
 obtain ⟨kk2, hkk2, h⟩ := lt_some h
 refine aw_seq_join (ι := Int) (fun i => (memOf w0 Z0 [] [] [])) (fun i => (tab [(1, (int .u64 a1)), (5, (int .u64 i)), (6, (int .u64 (IntKind.u64.wrap (a0.length : Int))))])) (fun i => kk2 i = some r) ?_ ?_
 ·rintro j1i5 h
  have h : kk2 j1i5 = some r := h
  rw [hkk2] at h
  dsimp only at h
  clear hkk2
  refine aw_show (m := (memOf w0 Z0 [] [] [])) (S := (tab [(1, (int .u64 a1)), (5, (int .u64 j1i5)), (6, (int .u64 (IntKind.u64.wrap (a0.length : Int))))])) ?_
  refine aw_sr ?_
  refine al_mv rfl rfl ?_
  refine al_mv rfl rfl ?_
  obtain ⟨r4, hc3, h⟩ := opt_some h
  refine al_call (vs := [(int .u64 j1i5), (int .u64 (IntKind.u64.wrap (a0.length : Int)))]) (f_mix_Step_ok fu j1i5 (IntKind.u64.wrap (a0.length : Int)) hc3) [] [] [] pre_nil rfl (by simp) (by decide) (.inl rfl) rfl Try.func242 rfl rfl rfl (fun _ => ?_)
  refine al_mv rfl rfl ?_
  refine al_in rfl rfl rfl rfl ?_
  refine al_as rfl rfl ?_
  refine al_nt ?_
  refine aw_ret ?_
  obtain rfl := Option.some.inj h
  exact fn_ret () [] [] rfl rfl rfl rfl (res1 rfl rfl) rfl rfl rfl (by decide)
 ·clear hkk2
  refine aw_block ?_
  refine aw_state (aw_loop (ι := (List UInt8) × Int) (fun i => (memOf w0 Z0 [] [] [])) (fun i => (tab [(0, (str i.1)), (1, (int .u64 a1)), (5, (int .u64 i.2)), (6, (int .u64 (IntKind.u64.wrap (a0.length : Int))))])) (fun q i => f_mix_sum_L7 a1 kk2 fu q i.1 i.2 = some r) ?_ fu (a0, (0 : Int)) h) (fun w a hm hs => norm hm hs [] [] [(0, (str a0)), (1, (int .u64 a1)), (5, (int .u64 (0 : Int))), (6, (int .u64 (IntKind.u64.wrap (a0.length : Int))))] (by decide) ⟨rfl, rfl, rfl, rfl, trivial⟩)
  clear h
  rintro k6 ⟨l5s0, l5i5⟩ h
  have h : f_mix_sum_L7 a1 kk2 fu k6 l5s0 l5i5 = some r := h
  obtain _ | k6 := k6
  · rw [f_mix_sum_L7] at h; cases h
  rw [f_mix_sum_L7] at h
  refine aw_show (m := (memOf w0 Z0 [] [] [])) (S := (tab [(0, (str l5s0)), (1, (int .u64 a1)), (5, (int .u64 l5i5)), (6, (int .u64 (IntKind.u64.wrap (a0.length : Int))))])) ?_
  refine aw_seq ?_
  refine aw_sr ?_
  refine al_mv rfl rfl ?_
  refine al_val (ov_strCmp rfl rfl rfl rfl) ?_
  refine al_nt ?_
  refine aw_cond rfl (fun hb8 => ?_) (fun hb8 => ?_)
  ·replace h := bif_t hb8 h
   refine aw_skip ?_
   refine aq_then ?_
   refine aw_block ?_
   refine aw_sr ?_
   refine al_alloc (zs := (cA8u8 (A8u8.mk (0 : UInt8) (0 : UInt8) (0 : UInt8) (0 : UInt8) (0 : UInt8) (0 : UInt8) (0 : UInt8) (0 : UInt8)))) (zeroOf_to to68) rfl rfl (fun g9 => ?_)
   refine al_nt ?_
   refine aw_sr ?_
   refine al_mv rfl rfl ?_
   refine al_val (ov_sliceBox (i := 0) rfl rfl Try.underlying68 sz5 rfl) ?_
   refine al_mv rfl rfl ?_
   refine al_copyS (i := 0) (cs := (cA8u8 (A8u8.mk (0 : UInt8) (0 : UInt8) (0 : UInt8) (0 : UInt8) (0 : UInt8) (0 : UInt8) (0 : UInt8) (0 : UInt8)))) (cs' := (cA8u8 (cpA8u8 (A8u8.mk (0 : UInt8) (0 : UInt8) (0 : UInt8) (0 : UInt8) (0 : UInt8) (0 : UInt8) (0 : UInt8) (0 : UInt8)) l5s0))) rfl rfl rfl Try.underlying121 sz5 rfl (cpcA8u8 (A8u8.mk (0 : UInt8) (0 : UInt8) (0 : UInt8) (0 : UInt8) (0 : UInt8) (0 : UInt8) (0 : UInt8) (0 : UInt8)) l5s0 [] []) rfl ?_
   obtain ⟨hc10, h⟩ := req_some h
   refine al_val (ov_strFrom hc10.1 hc10.2 Try.underlying9 rfl rfl rfl) ?_
   refine al_as rfl rfl ?_
   refine al_nt ?_
   refine aw_freezeB 0 ((cpA8u8 (A8u8.mk (0 : UInt8) (0 : UInt8) (0 : UInt8) (0 : UInt8) (0 : UInt8) (0 : UInt8) (0 : UInt8) (0 : UInt8)) l5s0)) rfl rfl (fun _ _ => mkA8u8 rfl) ?_
   obtain ⟨r13, hc12, h⟩ := opt_some h
   obtain ⟨r15, hc14, h⟩ := opt_some h
   refine aw_region_draw 7 [(18, (fun u => fEq u (int .u64 l5i5))), (19, (fun u => fEq u (ag []))), (20, (fun s11 => (fDat (tyList tyU8) [s11] (lA8u8 (cpA8u8 (A8u8.mk (0 : UInt8) (0 : UInt8) (0 : UInt8) (0 : UInt8) (0 : UInt8) (0 : UInt8) (0 : UInt8) (0 : UInt8)) l5s0))))), (21, (fun u => fEq u (int .u64 r13))), (22, (fun u => fEq u (int .u64 r15))), (23, (fun u => fEq u (int .u64 a1))), (24, (fun u => fEq u (int .u64 (bits .and .u64 r15 a1))))] (tab [(0, (str (l5s0.drop (((Nat.min l5s0.length 8 : Nat) : Int)).toNat))), (1, (int .u64 a1)), (5, (int .u64 l5i5)), (6, (int .u64 (IntKind.u64.wrap (a0.length : Int)))), (7, (ptr g9 0))]) mixed (by kernel_rfl) rfl rfl rfl (fun a hs => hs.tab _ (allT_mem ⟨rfl, rfl, rfl, rfl, rfl, trivial⟩)) ⟨⟨rfl, ld_val (ov_move rfl rfl)⟩, ⟨rfl, ld_val (ov_load0 Try.underlying311 sz311 rfl rfl rfl)⟩, ⟨rfl, ld_of (of_sliceP 0 lrepA8u8 rfl rfl rfl rfl Try.underlying68 sz5 rfl)⟩, ⟨rfl, ld_eq (j := 1) rfl rfl (ld_fact (j := 2) rfl rfl (fun s11 => ld_callV (vs := [(ag []), s11]) (f__binary_littleEndian__Uint64_ok fu () s11 (lA8u8 (cpA8u8 (A8u8.mk (0 : UInt8) (0 : UInt8) (0 : UInt8) (0 : UInt8) (0 : UInt8) (0 : UInt8) (0 : UInt8) (0 : UInt8)) l5s0)) hc12) [] (pre_fz 0 rfl pre_nil) rfl Try.func243 rfl rfl rfl))⟩, ⟨rfl, ld_eq (j := 0) rfl rfl (ld_eq (j := 3) rfl rfl (ld_callV (vs := [(int .u64 l5i5), (int .u64 r13)]) (f_mix_Step_ok fu l5i5 r13 hc14) [] pre_nil rfl Try.func242 rfl rfl rfl))⟩, ⟨rfl, ld_val (ov_move rfl rfl)⟩, ⟨rfl, ld_eq (j := 4) rfl rfl (ld_eq (j := 5) rfl rfl (ld_val (ov_int rfl rfl rfl rfl)))⟩, trivial⟩ ?_
   refine tl_eq 6 rfl ?_
   refine tl_done ?_
   refine al_as rfl rfl ?_
   refine al_nil ?_
   refine aq_block ?_
   exact aq_again k6 ((l5s0.drop (((Nat.min l5s0.length 8 : Nat) : Int)).toNat), (bits .and .u64 r15 a1)) (Nat.lt_succ_self _) h (fun w a hm hs => norm hm hs [] [] [(0, (str (l5s0.drop (((Nat.min l5s0.length 8 : Nat) : Int)).toNat))), (1, (int .u64 a1)), (5, (int .u64 (bits .and .u64 r15 a1))), (6, (int .u64 (IntKind.u64.wrap (a0.length : Int))))] (by decide) ⟨rfl, rfl, rfl, rfl, trivial⟩)
  ·replace h := bif_f hb8 h
   refine aw_exit ?_
   refine aq_then_exit ?_
   refine aq_then_exit ?_
   refine aq_block_exit ?_
   exact aq_join l5i5 h (fun w a hm hs => norm hm hs [] [] [(1, (int .u64 a1)), (5, (int .u64 l5i5)), (6, (int .u64 (IntKind.u64.wrap (a0.length : Int))))] (by decide) ⟨rfl, rfl, rfl, trivial⟩)
def f_mix_Sum (fu : Nat) (a0 : (List UInt8)) : Option Int := (opt (f_mix_sum fu a0 (18446744073709551615 : Int)) fun (r2 : Int) => (some r2))
set_option maxRecDepth 100000 in
theorem f_mix_Sum_ok (fu : Nat) (a0 : (List UInt8)) {r : Int} (h : f_mix_Sum fu a0 = some r) : FnOk Try.prog 187 [(str a0)] [] [] (fun (i : Unit) => { val := (int .u64 r) }) := by
 unfold f_mix_Sum at h
 refine fn_enter Try.func187 rfl Try.ntmps187 rfl (fun w0 Z0 => ?_)
 refine aw_sr ?_
 refine al_as rfl rfl ?_
 refine al_nt ?_
 refine aw_sr ?_
 refine al_mv rfl rfl ?_
 obtain ⟨r2, hc1, h⟩ := opt_some h
 refine al_call (vs := [(str a0), (int .u64 (18446744073709551615 : Int))]) (f_mix_sum_ok fu a0 (18446744073709551615 : Int) hc1) [] [] [] pre_nil rfl (by simp) (by decide) (.inl rfl) rfl Try.func217 rfl rfl rfl (fun _ => ?_)
 refine al_as rfl rfl ?_
 refine al_nt ?_
 refine aw_ret ?_
 obtain rfl := Option.some.inj h
 exact fn_ret () [] [] rfl rfl rfl rfl (res1 rfl rfl) rfl rfl rfl (by decide)
-- STUCK (encoding/binary.bigEndian).PutUint64: IndexError string index out of range at par:691
def f_mix_ID (fu : Nat) (a0 : (List UInt8)) : Option A8u8 := (opt (f_mix_Sum fu a0) fun (r4 : Int) => (req (0 ≤ r4 ∧ r4 < 18446744073709551616) (some (cpA8u8 (A8u8.mk (0 : UInt8) (0 : UInt8) (0 : UInt8) (0 : UInt8) (0 : UInt8) (0 : UInt8) (0 : UInt8) (0 : UInt8)) (Lib.beBytes 8 (r4).toNat)))))
set_option maxRecDepth 100000 in
theorem f_mix_ID_ok (fu : Nat) (a0 : (List UInt8)) {r : A8u8} (h : f_mix_ID fu a0 = some r) : FnOk Try.prog 154 [(str a0)] [] [] (fun (i : Unit) => { val := (ag (cA8u8 r)) }) := by
 unfold f_mix_ID at h
 refine fn_enter Try.func154 rfl Try.ntmps154 rfl (fun w0 Z0 => ?_)
 refine aw_sr ?_
 refine al_alloc (zs := (cA8u8 (A8u8.mk (0 : UInt8) (0 : UInt8) (0 : UInt8) (0 : UInt8) (0 : UInt8) (0 : UInt8) (0 : UInt8) (0 : UInt8)))) (zeroOf_to to69) rfl rfl (fun g1 => ?_)
 refine al_nt ?_
 refine aw_sr ?_
 refine al_alloc (zs := (cA8u8 (A8u8.mk (0 : UInt8) (0 : UInt8) (0 : UInt8) (0 : UInt8) (0 : UInt8) (0 : UInt8) (0 : UInt8) (0 : UInt8)))) (zeroOf_to to69) rfl rfl (fun g2 => ?_)
 refine al_nt ?_
 refine aw_seq ?_
 obtain ⟨r4, hc3, h⟩ := opt_some h
 refine aw_region_draw 4 [(4, (fun u => fEq u (ag []))), (5, (fun u => fEq u (sbx g2 0 8))), (6, (fun u => fEq u (str a0))), (7, (fun u => fEq u (int .u64 r4)))] (tab [(0, (str a0)), (2, (ptr g1 0)), (3, (ptr g2 0))]) mixed (by kernel_rfl) rfl rfl rfl (fun a hs => hs.tab _ (allT_mem ⟨rfl, rfl, rfl, trivial⟩)) ⟨⟨rfl, ld_val (ov_load0 Try.underlying263 sz263 rfl rfl rfl)⟩, ⟨rfl, ld_val (ov_sliceBox (i := 0) rfl rfl Try.underlying69 sz5 rfl)⟩, ⟨rfl, ld_val (ov_move rfl rfl)⟩, ⟨rfl, ld_eq (j := 2) rfl rfl (ld_callV (vs := [(str a0)]) (f_mix_Sum_ok fu a0 hc3) [] pre_nil rfl Try.func187 rfl rfl rfl)⟩, trivial⟩ ?_
 refine tl_eq 0 rfl ?_
 refine tl_eq 1 rfl ?_
 refine tl_eq 3 rfl ?_
 refine tl_done ?_
 obtain ⟨hc5, h⟩ := req_some h
 refine al_call (vs := [(ag []), (sbx g2 0 8), (int .u64 r4)]) (f_put8_ok (g := g2) (off := 0) (t := 69) (a2 := r4) (cs := (cA8u8 (A8u8.mk (0 : UInt8) (0 : UInt8) (0 : UInt8) (0 : UInt8) (0 : UInt8) (0 : UInt8) (0 : UInt8) (0 : UInt8)))) (cs' := (cA8u8 (cpA8u8 (A8u8.mk (0 : UInt8) (0 : UInt8) (0 : UInt8) (0 : UInt8) (0 : UInt8) (0 : UInt8) (0 : UInt8) (0 : UInt8)) (Lib.beBytes 8 (r4).toNat)))) hc5 (Nat.le_of_ble_eq_true rfl) (cpcA8u8 (A8u8.mk (0 : UInt8) (0 : UInt8) (0 : UInt8) (0 : UInt8) (0 : UInt8) (0 : UInt8) (0 : UInt8) (0 : UInt8)) (Lib.beBytes 8 (r4).toNat) [] [])) [] [0] [1] pre_nil rfl (by simp) (by decide) (.inl rfl) rfl Try.func186 rfl rfl rfl (fun _ => ?_)
 refine al_nt ?_
 refine aw_sr ?_
 refine al_val (ov_load (i := 0) (v := (ag (cA8u8 (cpA8u8 (A8u8.mk (0 : UInt8) (0 : UInt8) (0 : UInt8) (0 : UInt8) (0 : UInt8) (0 : UInt8) (0 : UInt8) (0 : UInt8)) (Lib.beBytes 8 (r4).toNat))))) rfl rfl Try.underlying69 sz69 rfl rfl rfl rfl) ?_
 refine al_store (i := 1) (vs := (cA8u8 (cpA8u8 (A8u8.mk (0 : UInt8) (0 : UInt8) (0 : UInt8) (0 : UInt8) (0 : UInt8) (0 : UInt8) (0 : UInt8) (0 : UInt8)) (Lib.beBytes 8 (r4).toNat)))) (cs' := (cA8u8 (cpA8u8 (A8u8.mk (0 : UInt8) (0 : UInt8) (0 : UInt8) (0 : UInt8) (0 : UInt8) (0 : UInt8) (0 : UInt8) (0 : UInt8)) (Lib.beBytes 8 (r4).toNat)))) rfl rfl rfl sz69 (cv_rfl rfl) rfl (co_all (oneA8u8 (cpA8u8 (A8u8.mk (0 : UInt8) (0 : UInt8) (0 : UInt8) (0 : UInt8) (0 : UInt8) (0 : UInt8) (0 : UInt8) (0 : UInt8)) (Lib.beBytes 8 (r4).toNat)))) (Nat.le_of_ble_eq_true rfl) rfl rfl ?_
 refine al_nt ?_
 refine aw_ret ?_
 obtain rfl := Option.some.inj h
 exact fn_ret () [] [] rfl rfl rfl rfl (resC rfl (resB (i := 1) rfl rfl Try.underlying69 sz69 rfl rfl rfl (resN)) rfl) rfl rfl rfl (by decide)
def f_pack_ID (fu : Nat) (a0 : S_api_Blob) : Option (A8u8 × Int) := (opt (f_pack_Known fu a0.Kind) fun (r4 : Bool) => (bif (!r4) then (some ((A8u8.mk (0 : UInt8) (0 : UInt8) (0 : UInt8) (0 : UInt8) (0 : UInt8) (0 : UInt8) (0 : UInt8) (0 : UInt8)), (5 : Int))) else (bif (decide ((a0.Bytes.length : Int) > (4096 : Int))) then (some ((A8u8.mk (0 : UInt8) (0 : UInt8) (0 : UInt8) (0 : UInt8) (0 : UInt8) (0 : UInt8) (0 : UInt8) (0 : UInt8)), (2 : Int))) else (req (0 ≤ (IntKind.u8.wrap a0.Kind) ∧ (IntKind.u8.wrap a0.Kind) ≤ 255) (req (([(UInt8.ofNat ((IntKind.u8.wrap a0.Kind)).toNat)]).length + a0.Bytes.length ≤ 9223372036854775807) (opt (f_mix_ID fu (([(UInt8.ofNat ((IntKind.u8.wrap a0.Kind)).toNat)]) ++ a0.Bytes)) fun (r11 : A8u8) => (some (r11, (0 : Int)))))))))
set_option maxRecDepth 100000 in
theorem f_pack_ID_ok (fu : Nat) (a0 : S_api_Blob) {r : (A8u8 × Int)} (h : f_pack_ID fu a0 = some r) : FnOk Try.prog 107 [(ag [(int .i64 a0.Kind), (str a0.Bytes)])] [] [] (fun (i : Unit) => { val := (Value.tuple #[(ag (cA8u8 r.1)), (int .i64 r.2)]) }) := by
 unfold f_pack_ID at h
 refine fn_enter Try.func107 rfl Try.ntmps107 rfl (fun w0 Z0 => ?_)
 refine aw_sr ?_
 refine al_box (vs := [(int .i64 a0.Kind), (str a0.Bytes)]) rfl (cv_rfl rfl) rfl (fun g1 => ?_)
 refine al_alloc (zs := (cA8u8 (A8u8.mk (0 : UInt8) (0 : UInt8) (0 : UInt8) (0 : UInt8) (0 : UInt8) (0 : UInt8) (0 : UInt8) (0 : UInt8)))) (zeroOf_to to69) rfl rfl (fun g2 => ?_)
 refine al_as rfl rfl ?_
 refine al_nt ?_
 refine aw_seq ?_
 refine aw_block ?_
 refine aw_sr ?_
 refine al_val (ov_fieldA (p := 0) rfl Try.underlying88 rfl sz3 rfl rfl rfl) ?_
 refine al_val (ov_load (i := 1) (v := (int .i64 a0.Kind)) rfl rfl Try.underlying3 sz3 rfl rfl rfl rfl) ?_
 obtain ⟨r4, hc3, h⟩ := opt_some h
 refine al_call (vs := [(int .i64 a0.Kind)]) (f_pack_Known_ok fu a0.Kind hc3) [] [] [0, 1] pre_nil rfl (by simp) (by decide) (.inl rfl) rfl Try.func106 rfl rfl rfl (fun _ => ?_)
 refine al_val (ov_not rfl rfl) ?_
 refine al_as rfl rfl ?_
 refine al_nt ?_
 refine aw_cond rfl (fun hb5 => ?_) (fun hb5 => ?_)
 ·replace h := bif_t hb5 h
  refine aw_sr ?_
  refine al_val (ov_build (cells := ((cA8u8 (A8u8.mk (0 : UInt8) (0 : UInt8) (0 : UInt8) (0 : UInt8) (0 : UInt8) (0 : UInt8) (0 : UInt8) (0 : UInt8)))).toArray) (cs := (cA8u8 (A8u8.mk (0 : UInt8) (0 : UInt8) (0 : UInt8) (0 : UInt8) (0 : UInt8) (0 : UInt8) (0 : UInt8) (0 : UInt8)))) rfl (fun w a hm hs => by simp only [List.map_toArray, List.map_cons, List.map_nil, List.toList_toArray]; kernel_rfl)) ?_
  refine al_store (i := 0) (vs := (cA8u8 (A8u8.mk (0 : UInt8) (0 : UInt8) (0 : UInt8) (0 : UInt8) (0 : UInt8) (0 : UInt8) (0 : UInt8) (0 : UInt8)))) (cs' := (cA8u8 (A8u8.mk (0 : UInt8) (0 : UInt8) (0 : UInt8) (0 : UInt8) (0 : UInt8) (0 : UInt8) (0 : UInt8) (0 : UInt8)))) rfl rfl rfl sz69 (cv_rfl rfl) rfl (co_all (oneA8u8 (A8u8.mk (0 : UInt8) (0 : UInt8) (0 : UInt8) (0 : UInt8) (0 : UInt8) (0 : UInt8) (0 : UInt8) (0 : UInt8)))) (Nat.le_of_ble_eq_true rfl) rfl rfl ?_
  refine al_as rfl rfl ?_
  refine al_nt ?_
  refine aw_ret ?_
  refine aq_block_ret ?_
  refine aq_then_ret ?_
  obtain rfl := Option.some.inj h
  exact fn_ret () [] [] rfl rfl rfl rfl (resC rfl (resB (i := 0) rfl rfl Try.underlying69 sz69 rfl rfl rfl (resT rfl (resN))) rfl) rfl rfl rfl (by decide)
 ·replace h := bif_f hb5 h
  refine aw_sr ?_
  refine al_val (ov_fieldA (p := 1) rfl Try.underlying88 rfl sz9 rfl rfl rfl) ?_
  refine al_val (ov_load (i := 1) (v := (str a0.Bytes)) rfl rfl Try.underlying9 sz9 rfl rfl rfl rfl) ?_
  refine al_val (ov_strLen Try.underlying9 rfl rfl) ?_
  refine al_in rfl rfl rfl rfl ?_
  refine al_as rfl rfl ?_
  refine al_nt ?_
  refine aw_cond rfl (fun hb6 => ?_) (fun hb6 => ?_)
  ·replace h := bif_t hb6 h
   refine aw_sr ?_
   refine al_val (ov_build (cells := ((cA8u8 (A8u8.mk (0 : UInt8) (0 : UInt8) (0 : UInt8) (0 : UInt8) (0 : UInt8) (0 : UInt8) (0 : UInt8) (0 : UInt8)))).toArray) (cs := (cA8u8 (A8u8.mk (0 : UInt8) (0 : UInt8) (0 : UInt8) (0 : UInt8) (0 : UInt8) (0 : UInt8) (0 : UInt8) (0 : UInt8)))) rfl (fun w a hm hs => by simp only [List.map_toArray, List.map_cons, List.map_nil, List.toList_toArray]; kernel_rfl)) ?_
   refine al_store (i := 0) (vs := (cA8u8 (A8u8.mk (0 : UInt8) (0 : UInt8) (0 : UInt8) (0 : UInt8) (0 : UInt8) (0 : UInt8) (0 : UInt8) (0 : UInt8)))) (cs' := (cA8u8 (A8u8.mk (0 : UInt8) (0 : UInt8) (0 : UInt8) (0 : UInt8) (0 : UInt8) (0 : UInt8) (0 : UInt8) (0 : UInt8)))) rfl rfl rfl sz69 (cv_rfl rfl) rfl (co_all (oneA8u8 (A8u8.mk (0 : UInt8) (0 : UInt8) (0 : UInt8) (0 : UInt8) (0 : UInt8) (0 : UInt8) (0 : UInt8) (0 : UInt8)))) (Nat.le_of_ble_eq_true rfl) rfl rfl ?_
   refine al_as rfl rfl ?_
   refine al_nt ?_
   refine aw_ret ?_
   refine aq_block_ret ?_
   refine aq_then_ret ?_
   obtain rfl := Option.some.inj h
   exact fn_ret () [] [] rfl rfl rfl rfl (resC rfl (resB (i := 0) rfl rfl Try.underlying69 sz69 rfl rfl rfl (resT rfl (resN))) rfl) rfl rfl rfl (by decide)
  ·replace h := bif_f hb6 h
   refine aw_skip ?_
   refine aq_block ?_
   refine aq_tr ?_
   refine al_val (ov_fieldA (p := 0) rfl Try.underlying88 rfl sz3 rfl rfl rfl) ?_
   refine al_val (ov_load (i := 1) (v := (int .i64 a0.Kind)) rfl rfl Try.underlying3 sz3 rfl rfl rfl rfl) ?_
   refine al_val (ov_convInt (by rw [Try.underlying3]; rfl) Try.underlying5 rfl rfl) ?_
   obtain ⟨hc8, h⟩ := req_some h
   refine al_buildSlice (τ := tyU8) (e := 5) (k := 1) (sz := 0) (by_ := 0) (z := undef) (cs := [(int .u8 (IntKind.u8.wrap a0.Kind))]) (xs := [(UInt8.ofNat ((IntKind.u8.wrap a0.Kind)).toNat)]) rfl (by decide) (fun w a hm hs => ⟨([(int .u8 (IntKind.u8.wrap a0.Kind))]).toArray, rfl, by simp only [List.map_toArray, List.map_cons, List.map_nil, hs.ev (x := .tmp 18) rfl]; exact run_bs [(int .u8 (IntKind.u8.wrap a0.Kind))] [(int .u8 (IntKind.u8.wrap a0.Kind))] Try.underlying121 to5 rfl rfl (bs_cons (l := [(int .u8 (IntKind.u8.wrap a0.Kind))]) (cs := []) (cv_rfl rfl) rfl bs_nil) hm⟩) (fun hm => ⟨_, _, rfl, (fun _ => u8_rep hc8) hm, rfl⟩) rfl (fun v7 => ?_)
   refine al_val (ov_toStrR 0 rfl rfl Try.underlying121 Try.underlying5 Try.underlying9 rfl) ?_
   refine al_val (ov_fieldA (p := 1) rfl Try.underlying88 rfl sz9 rfl rfl rfl) ?_
   refine al_val (ov_load (i := 2) (v := (str a0.Bytes)) rfl rfl Try.underlying9 sz9 rfl rfl rfl rfl) ?_
   obtain ⟨hc9, h⟩ := req_some h
   refine al_val (ov_strAdd hc9 rfl rfl rfl) ?_
   obtain ⟨r11, hc10, h⟩ := opt_some h
   refine al_call (vs := [(str (([(UInt8.ofNat ((IntKind.u8.wrap a0.Kind)).toNat)]) ++ a0.Bytes))]) (f_mix_ID_ok fu (([(UInt8.ofNat ((IntKind.u8.wrap a0.Kind)).toNat)]) ++ a0.Bytes) hc10) [] [] [0, 1, 2] pre_nil rfl (by simp) (by decide) (.inl rfl) rfl Try.func154 rfl rfl rfl (fun _ => ?_)
   refine al_store (i := 1) (vs := (cA8u8 r11)) (cs' := (cA8u8 r11)) rfl rfl rfl sz69 (cv_rfl rfl) rfl (co_all (oneA8u8 r11)) (Nat.le_of_ble_eq_true rfl) rfl rfl ?_
   refine al_as rfl rfl ?_
   refine al_nt ?_
   refine aw_ret ?_
   obtain rfl := Option.some.inj h
   exact fn_ret () [] [] rfl rfl rfl rfl (resC rfl (resB (i := 1) rfl rfl Try.underlying69 sz69 rfl rfl rfl (resT rfl (resN))) rfl) rfl rfl rfl (by decide)
def f_pack_One (fu : Nat) (a0 : (List UInt8)) (a1 : S_api_Entry) : Option (S_api_Blob × Int) := (lt (fun (j3b11 : Bool) => (bif j3b11 then (some ((S_api_Blob.mk (0 : Int) ([] : List UInt8)), (1 : Int))) else (opt (f_pack_Known fu a1.Kind) fun (r7 : Bool) => (bif (!r7) then (some ((S_api_Blob.mk (0 : Int) ([] : List UInt8)), (5 : Int))) else (req (0 ≤ a1.At ∧ a1.At ≤ (IntKind.i64.wrap (a1.At + a1.Len)) ∧ (IntKind.i64.wrap (a1.At + a1.Len)) ≤ (a0.length : Int)) (opt (f_press_Open fu (cut a0 a1.At (IntKind.i64.wrap (a1.At + a1.Len)))) fun (r11 : ((List UInt8) × Int)) => (bif (r11.2 != (0 : Int)) then (some ((S_api_Blob.mk (0 : Int) ([] : List UInt8)), r11.2)) else (opt (f_pack_ID fu (S_api_Blob.mk a1.Kind r11.1)) fun (r15 : (A8u8 × Int)) => (bif (!(r15.1 == a1.ID)) then (some ((S_api_Blob.mk (0 : Int) ([] : List UInt8)), (6 : Int))) else (some ((S_api_Blob.mk a1.Kind r11.1), (0 : Int)))))))))))) fun (kk4 : Bool → Option (S_api_Blob × Int)) => (bif (decide (a1.At < (0 : Int))) then (kk4 true) else (bif (decide (a1.Len < (0 : Int))) then (kk4 true) else (bif (decide (a1.At > (a0.length : Int))) then (kk4 true) else (kk4 (decide (a1.Len > (IntKind.i64.wrap ((a0.length : Int) - a1.At)))))))))
set_option maxRecDepth 100000 in
set_option maxHeartbeats 2000000 in
theorem f_pack_One_ok (fu : Nat) (a0 : (List UInt8)) (a1 : S_api_Entry) {r : (S_api_Blob × Int)} (h : f_pack_One fu a0 a1 = some r) : FnOk Try.prog 43 [(str a0), (ag ((cA8u8 a1.ID) ++ [(int .i64 a1.Kind), (int .i64 a1.At), (int .i64 a1.Len)]))] [] [] (fun (i : Unit) => { val := (Value.tuple #[(ag [(int .i64 r.1.Kind), (str r.1.Bytes)]), (int .i64 r.2)]) }) := by
 unfold f_pack_One at h
 refine fn_enter Try.func43 rfl Try.ntmps43 rfl (fun w0 Z0 => ?_)
 refine aw_sr ?_
 refine al_box (vs := ((cA8u8 a1.ID) ++ [(int .i64 a1.Kind), (int .i64 a1.At), (int .i64 a1.Len)])) rfl (cv_rfl rfl) rfl (fun g1 => ?_)
 refine al_alloc (zs := [(int .i64 (0 : Int)), (str ([] : List UInt8))]) (zeroOf_to to88) rfl rfl (fun g2 => ?_)
 refine al_as rfl rfl ?_
 refine al_nt ?_
 refine aw_seq ?_
 refine aw_block ?_
 obtain ⟨kk4, hkk4, h⟩ := lt_some h
 refine aw_seq_join (ι := Bool) (fun i => (memOf w0 Z0 [] [(oBox g1 86 ((cA8u8 a1.ID) ++ [(int .i64 a1.Kind), (int .i64 a1.At), (int .i64 a1.Len)])), (oBox g2 88 [(int .i64 (0 : Int)), (str ([] : List UInt8))])] [])) (fun i => (tab [(0, (str a0)), (3, (ptr g1 0)), (4, (ptr g2 0)), (11, (bool i))])) (fun i => kk4 i = some r) ?_ ?_
 ·rintro j3b11 h
  have h : kk4 j3b11 = some r := h
  rw [hkk4] at h
  dsimp only at h
  clear hkk4
  refine aw_show (m := (memOf w0 Z0 [] [(oBox g1 86 ((cA8u8 a1.ID) ++ [(int .i64 a1.Kind), (int .i64 a1.At), (int .i64 a1.Len)])), (oBox g2 88 [(int .i64 (0 : Int)), (str ([] : List UInt8))])] [])) (S := (tab [(0, (str a0)), (3, (ptr g1 0)), (4, (ptr g2 0)), (11, (bool j3b11))])) ?_
  refine aw_cond rfl (fun hb5 => ?_) (fun hb5 => ?_)
  ·replace h := bif_t hb5 h
   refine aw_sr ?_
   refine al_val (ov_build (cells := ([(int .i64 (0 : Int)), (str ([] : List UInt8))]).toArray) (cs := [(int .i64 (0 : Int)), (str ([] : List UInt8))]) rfl (fun w a hm hs => by simp only [List.map_toArray, List.map_cons, List.map_nil, List.toList_toArray]; kernel_rfl)) ?_
   refine al_store (i := 1) (vs := [(int .i64 (0 : Int)), (str ([] : List UInt8))]) (cs' := [(int .i64 (0 : Int)), (str ([] : List UInt8))]) rfl rfl rfl sz88 (cv_rfl rfl) rfl (co_val rfl (co_val rfl co_nil)) (Nat.le_of_ble_eq_true rfl) rfl rfl ?_
   refine al_as rfl rfl ?_
   refine al_nt ?_
   refine aw_ret ?_
   refine aq_block_ret ?_
   refine aq_then_ret ?_
   obtain rfl := Option.some.inj h
   exact fn_ret () [] [] rfl rfl rfl rfl (resC rfl (resB (i := 1) rfl rfl Try.underlying88 sz88 rfl rfl rfl (resT rfl (resN))) rfl) rfl rfl rfl (by decide)
  ·replace h := bif_f hb5 h
   refine aw_sr ?_
   refine al_val (ov_fieldA (p := 8) rfl Try.underlying86 rfl sz3 rfl rfl rfl) ?_
   refine al_val (ov_load (i := 0) (v := (int .i64 a1.Kind)) rfl rfl Try.underlying3 sz3 rfl rfl rfl rfl) ?_
   obtain ⟨r7, hc6, h⟩ := opt_some h
   refine al_call (vs := [(int .i64 a1.Kind)]) (f_pack_Known_ok fu a1.Kind hc6) [] [] [0, 1] pre_nil rfl (by simp) (by decide) (.inl rfl) rfl Try.func106 rfl rfl rfl (fun _ => ?_)
   refine al_val (ov_not rfl rfl) ?_
   refine al_as rfl rfl ?_
   refine al_nt ?_
   refine aw_cond rfl (fun hb8 => ?_) (fun hb8 => ?_)
   ·replace h := bif_t hb8 h
    refine aw_sr ?_
    refine al_val (ov_build (cells := ([(int .i64 (0 : Int)), (str ([] : List UInt8))]).toArray) (cs := [(int .i64 (0 : Int)), (str ([] : List UInt8))]) rfl (fun w a hm hs => by simp only [List.map_toArray, List.map_cons, List.map_nil, List.toList_toArray]; kernel_rfl)) ?_
    refine al_store (i := 1) (vs := [(int .i64 (0 : Int)), (str ([] : List UInt8))]) (cs' := [(int .i64 (0 : Int)), (str ([] : List UInt8))]) rfl rfl rfl sz88 (cv_rfl rfl) rfl (co_val rfl (co_val rfl co_nil)) (Nat.le_of_ble_eq_true rfl) rfl rfl ?_
    refine al_as rfl rfl ?_
    refine al_nt ?_
    refine aw_ret ?_
    refine aq_block_ret ?_
    refine aq_then_ret ?_
    obtain rfl := Option.some.inj h
    exact fn_ret () [] [] rfl rfl rfl rfl (resC rfl (resB (i := 1) rfl rfl Try.underlying88 sz88 rfl rfl rfl (resT rfl (resN))) rfl) rfl rfl rfl (by decide)
   ·replace h := bif_f hb8 h
    refine aw_skip ?_
    refine aq_block ?_
    refine aq_tr ?_
    refine al_mv rfl rfl ?_
    refine al_val (ov_fieldA (p := 9) rfl Try.underlying86 rfl sz3 rfl rfl rfl) ?_
    refine al_val (ov_load (i := 0) (v := (int .i64 a1.At)) rfl rfl Try.underlying3 sz3 rfl rfl rfl rfl) ?_
    refine al_val (ov_fieldA (p := 9) rfl Try.underlying86 rfl sz3 rfl rfl rfl) ?_
    refine al_val (ov_load (i := 0) (v := (int .i64 a1.At)) rfl rfl Try.underlying3 sz3 rfl rfl rfl rfl) ?_
    refine al_val (ov_fieldA (p := 10) rfl Try.underlying86 rfl sz3 rfl rfl rfl) ?_
    refine al_val (ov_load (i := 0) (v := (int .i64 a1.Len)) rfl rfl Try.underlying3 sz3 rfl rfl rfl rfl) ?_
    refine al_in rfl rfl rfl rfl ?_
    obtain ⟨hc9, h⟩ := req_some h
    refine al_val (ov_strCut hc9.1 hc9.2.1 hc9.2.2 Try.underlying9 rfl rfl rfl rfl) ?_
    obtain ⟨r11, hc10, h⟩ := opt_some h
    refine al_call (vs := [(str (cut a0 a1.At (IntKind.i64.wrap (a1.At + a1.Len))))]) (f_press_Open_ok fu (cut a0 a1.At (IntKind.i64.wrap (a1.At + a1.Len))) hc10) [] [] [0, 1] pre_nil rfl (by simp) (by decide) (.inl rfl) rfl Try.func32 rfl rfl rfl (fun _ => ?_)
    refine al_mv rfl rfl ?_
    refine al_ex rfl rfl rfl ?_
    refine al_ex rfl rfl rfl ?_
    refine al_as rfl rfl ?_
    refine al_as rfl rfl ?_
    refine al_nt ?_
    refine aw_seq ?_
    refine aw_sr ?_
    refine al_mv rfl rfl ?_
    refine al_in rfl rfl rfl rfl ?_
    refine al_nt ?_
    refine aw_cond rfl (fun hb12 => ?_) (fun hb12 => ?_)
    ·replace h := bif_t hb12 h
     refine aw_sr ?_
     refine al_val (ov_build (cells := ([(int .i64 (0 : Int)), (str ([] : List UInt8))]).toArray) (cs := [(int .i64 (0 : Int)), (str ([] : List UInt8))]) rfl (fun w a hm hs => by simp only [List.map_toArray, List.map_cons, List.map_nil, List.toList_toArray]; kernel_rfl)) ?_
     refine al_mv rfl rfl ?_
     refine al_store (i := 1) (vs := [(int .i64 (0 : Int)), (str ([] : List UInt8))]) (cs' := [(int .i64 (0 : Int)), (str ([] : List UInt8))]) rfl rfl rfl sz88 (cv_rfl rfl) rfl (co_val rfl (co_val rfl co_nil)) (Nat.le_of_ble_eq_true rfl) rfl rfl ?_
     refine al_as rfl rfl ?_
     refine al_nt ?_
     refine aw_ret ?_
     refine aq_then_ret ?_
     obtain rfl := Option.some.inj h
     exact fn_ret () [] [] rfl rfl rfl rfl (resC rfl (resB (i := 1) rfl rfl Try.underlying88 sz88 rfl rfl rfl (resT rfl (resN))) rfl) rfl rfl rfl (by decide)
    ·replace h := bif_f hb12 h
     refine aw_skip ?_
     refine aq_tr ?_
     refine al_val (ov_fieldA (p := 8) rfl Try.underlying86 rfl sz3 rfl rfl rfl) ?_
     refine al_val (ov_load (i := 0) (v := (int .i64 a1.Kind)) rfl rfl Try.underlying3 sz3 rfl rfl rfl rfl) ?_
     refine al_mv rfl rfl ?_
     refine al_val (ov_build (cells := ([(int .i64 a1.Kind), (str r11.1)]).toArray) (cs := [(int .i64 a1.Kind), (str r11.1)]) rfl (fun w a hm hs => by simp only [List.map_toArray, List.map_cons, List.map_nil, List.toList_toArray, hs.ev (x := .tmp 62) rfl, hs.ev (x := .tmp 63) rfl]; kernel_rfl)) ?_
     refine al_alloc (zs := [(int .i64 (0 : Int)), (str ([] : List UInt8))]) (zeroOf_to to88) rfl rfl (fun g13 => ?_)
     refine al_store (i := 0) (vs := [(int .i64 a1.Kind), (str r11.1)]) (cs' := [(int .i64 a1.Kind), (str r11.1)]) rfl rfl rfl sz88 (cv_rfl rfl) rfl (co_val rfl (co_val rfl co_nil)) (Nat.le_of_ble_eq_true rfl) rfl rfl ?_
     refine al_nt ?_
     refine aw_seq ?_
     refine aw_sr ?_
     refine al_val (ov_load (i := 0) (v := (ag [(int .i64 a1.Kind), (str r11.1)])) rfl rfl Try.underlying88 sz88 rfl rfl rfl rfl) ?_
     obtain ⟨r15, hc14, h⟩ := opt_some h
     refine al_call (vs := [(ag [(int .i64 a1.Kind), (str r11.1)])]) (f_pack_ID_ok fu (S_api_Blob.mk a1.Kind r11.1) hc14) [] [] [0, 1, 2] pre_nil rfl (by simp) (by decide) (.inl rfl) rfl Try.func107 rfl rfl rfl (fun _ => ?_)
     refine al_mv rfl rfl ?_
     refine al_ex rfl rfl rfl ?_
     refine al_ex rfl rfl rfl ?_
     refine al_alloc (zs := (cA8u8 (A8u8.mk (0 : UInt8) (0 : UInt8) (0 : UInt8) (0 : UInt8) (0 : UInt8) (0 : UInt8) (0 : UInt8) (0 : UInt8)))) (zeroOf_to to69) rfl rfl (fun g16 => ?_)
     refine al_store (i := 0) (vs := (cA8u8 r15.1)) (cs' := (cA8u8 r15.1)) rfl rfl rfl sz69 (cv_rfl rfl) rfl (co_all (oneA8u8 r15.1)) (Nat.le_of_ble_eq_true rfl) rfl rfl ?_
     refine al_as rfl rfl ?_
     refine al_nt ?_
     refine aw_sr ?_
     refine al_val (ov_load (i := 0) (v := (ag (cA8u8 r15.1))) rfl rfl Try.underlying69 sz69 rfl rfl rfl rfl) ?_
     refine al_val (ov_fieldA (p := 0) rfl Try.underlying86 rfl sz69 rfl rfl rfl) ?_
     refine al_val (ov_load (i := 2) (v := (ag (cA8u8 a1.ID))) rfl rfl Try.underlying69 sz69 rfl rfl rfl rfl) ?_
     refine al_val (ov_neqA (cs := (cA8u8 r15.1)) (ds := (cA8u8 a1.ID)) (ls := [5, 5, 5, 5, 5, 5, 5, 5]) (p := (r15.1 == a1.ID)) eg69 kt69 lv69 rfl rfl (by kernel_rfl) (by kernel_rfl) (fit_cons (fit_u8 Try.underlying5) (fit_cons (fit_u8 Try.underlying5) (fit_cons (fit_u8 Try.underlying5) (fit_cons (fit_u8 Try.underlying5) (fit_cons (fit_u8 Try.underlying5) (fit_cons (fit_u8 Try.underlying5) (fit_cons (fit_u8 Try.underlying5) (fit_cons (fit_u8 Try.underlying5) fit_nil)))))))) (fit_cons (fit_u8 Try.underlying5) (fit_cons (fit_u8 Try.underlying5) (fit_cons (fit_u8 Try.underlying5) (fit_cons (fit_u8 Try.underlying5) (fit_cons (fit_u8 Try.underlying5) (fit_cons (fit_u8 Try.underlying5) (fit_cons (fit_u8 Try.underlying5) (fit_cons (fit_u8 Try.underlying5) fit_nil)))))))) (injA8u8 (x := r15.1) (y := a1.ID)) rfl) ?_
     refine al_nt ?_
     refine aw_cond rfl (fun hb17 => ?_) (fun hb17 => ?_)
     ·replace h := bif_t hb17 h
      refine aw_seq ?_
      refine aw_state (m' := (memOf w0 Z0 [] [(oBox g16 69 (cA8u8 r15.1)), (oBox g13 88 [(int .i64 a1.Kind), (str r11.1)]), (oBox g1 86 ((cA8u8 a1.ID) ++ [(int .i64 a1.Kind), (int .i64 a1.At), (int .i64 a1.Len)])), (oBox g2 88 [(int .i64 (0 : Int)), (str ([] : List UInt8))])] [])) (S' := (tab [(4, (ptr g2 0))])) ?_ (fun w a hm hs => norm hm hs [0, 1, 2, 3] [] [(4, (ptr g2 0))] (by decide) ⟨rfl, trivial⟩)
      refine aw_region ?_
      refine al_val (ov_build (cells := ([(int .i64 (0 : Int)), (str ([] : List UInt8))]).toArray) (cs := [(int .i64 (0 : Int)), (str ([] : List UInt8))]) rfl (fun w a hm hs => by simp only [List.map_toArray, List.map_cons, List.map_nil, List.toList_toArray]; kernel_rfl)) ?_
      refine al_store (i := 3) (vs := [(int .i64 (0 : Int)), (str ([] : List UInt8))]) (cs' := [(int .i64 (0 : Int)), (str ([] : List UInt8))]) rfl rfl rfl sz88 (cv_rfl rfl) rfl (co_val rfl (co_val rfl co_nil)) (Nat.le_of_ble_eq_true rfl) rfl rfl ?_
      refine al_as rfl rfl ?_
      refine al_nt ?_
      refine aw_ret ?_
      refine aq_then_ret ?_
      obtain rfl := Option.some.inj h
      exact fn_ret () [] [] rfl rfl rfl rfl (resC rfl (resB (i := 3) rfl rfl Try.underlying88 sz88 rfl rfl rfl (resT rfl (resN))) rfl) rfl rfl rfl (by decide)
     ·replace h := bif_f hb17 h
      refine aw_skip ?_
      refine aq_then ?_
      refine aw_seq ?_
      refine aw_state (m' := (memOf w0 Z0 [] [(oBox g16 69 (cA8u8 r15.1)), (oBox g13 88 [(int .i64 a1.Kind), (str r11.1)]), (oBox g1 86 ((cA8u8 a1.ID) ++ [(int .i64 a1.Kind), (int .i64 a1.At), (int .i64 a1.Len)])), (oBox g2 88 [(int .i64 (0 : Int)), (str ([] : List UInt8))])] [])) (S' := (tab [(4, (ptr g2 0)), (8, (ptr g13 0))])) ?_ (fun w a hm hs => norm hm hs [0, 1, 2, 3] [] [(4, (ptr g2 0)), (8, (ptr g13 0))] (by decide) ⟨rfl, rfl, trivial⟩)
      refine aw_region ?_
      refine al_val (ov_load (i := 1) (v := (ag [(int .i64 a1.Kind), (str r11.1)])) rfl rfl Try.underlying88 sz88 rfl rfl rfl rfl) ?_
      refine al_store (i := 3) (vs := [(int .i64 a1.Kind), (str r11.1)]) (cs' := [(int .i64 a1.Kind), (str r11.1)]) rfl rfl rfl sz88 (cv_rfl rfl) rfl (co_val rfl (co_val rfl co_nil)) (Nat.le_of_ble_eq_true rfl) rfl rfl ?_
      refine al_as rfl rfl ?_
      refine al_nt ?_
      refine aw_ret ?_
      obtain rfl := Option.some.inj h
      exact fn_ret () [] [] rfl rfl rfl rfl (resC rfl (resB (i := 3) rfl rfl Try.underlying88 sz88 rfl rfl rfl (resT rfl (resN))) rfl) rfl rfl rfl (by decide)
 ·clear hkk4
  refine aw_region ?_
  refine al_val (ov_fieldA (p := 9) rfl Try.underlying86 rfl sz3 rfl rfl rfl) ?_
  refine al_val (ov_load (i := 1) (v := (int .i64 a1.At)) rfl rfl Try.underlying3 sz3 rfl rfl rfl rfl) ?_
  refine al_in rfl rfl rfl rfl ?_
  refine al_mv rfl rfl ?_
  refine al_caseB 15 rfl (fun hb18 => ?_) (fun hb18 => ?_)
  ·replace h := bif_t hb18 h
   refine al_skip ?_
   refine al_skip ?_
   refine al_skip ?_
   refine al_val (ov_pick_t rfl rfl rfl) ?_
   refine al_mv rfl rfl ?_
   refine al_skip ?_
   refine al_skip ?_
   refine al_skip ?_
   refine al_skip ?_
   refine al_skip ?_
   refine al_val (ov_pick_t rfl rfl rfl) ?_
   refine al_mv rfl rfl ?_
   refine al_skip ?_
   refine al_skip ?_
   refine al_skip ?_
   refine al_skip ?_
   refine al_skip ?_
   refine al_skip ?_
   refine al_skip ?_
   refine al_skip ?_
   refine al_val (ov_pick_t rfl rfl rfl) ?_
   refine al_as rfl rfl ?_
   refine al_nil ?_
   exact aq_join true h (fun w a hm hs => norm hm hs [1, 0] [] [(0, (str a0)), (3, (ptr g1 0)), (4, (ptr g2 0)), (11, (bool true))] (by decide) ⟨rfl, rfl, rfl, rfl, trivial⟩)
  ·replace h := bif_f hb18 h
   refine al_val (ov_fieldA (p := 10) rfl Try.underlying86 rfl sz3 rfl rfl rfl) ?_
   refine al_val (ov_load (i := 1) (v := (int .i64 a1.Len)) rfl rfl Try.underlying3 sz3 rfl rfl rfl rfl) ?_
   refine al_in rfl rfl rfl rfl ?_
   refine al_val (ov_pick_f rfl rfl rfl) ?_
   refine al_mv rfl rfl ?_
   refine al_caseB 20 rfl (fun hb19 => ?_) (fun hb19 => ?_)
   ·replace h := bif_t hb19 h
    refine al_skip ?_
    refine al_skip ?_
    refine al_skip ?_
    refine al_skip ?_
    refine al_skip ?_
    refine al_val (ov_pick_t rfl rfl rfl) ?_
    refine al_mv rfl rfl ?_
    refine al_skip ?_
    refine al_skip ?_
    refine al_skip ?_
    refine al_skip ?_
    refine al_skip ?_
    refine al_skip ?_
    refine al_skip ?_
    refine al_skip ?_
    refine al_val (ov_pick_t rfl rfl rfl) ?_
    refine al_as rfl rfl ?_
    refine al_nil ?_
    exact aq_join true h (fun w a hm hs => norm hm hs [1, 0] [] [(0, (str a0)), (3, (ptr g1 0)), (4, (ptr g2 0)), (11, (bool true))] (by decide) ⟨rfl, rfl, rfl, rfl, trivial⟩)
   ·replace h := bif_f hb19 h
    refine al_val (ov_fieldA (p := 9) rfl Try.underlying86 rfl sz3 rfl rfl rfl) ?_
    refine al_val (ov_load (i := 1) (v := (int .i64 a1.At)) rfl rfl Try.underlying3 sz3 rfl rfl rfl rfl) ?_
    refine al_mv rfl rfl ?_
    refine al_val (ov_strLen Try.underlying9 rfl rfl) ?_
    refine al_in rfl rfl rfl rfl ?_
    refine al_val (ov_pick_f rfl rfl rfl) ?_
    refine al_mv rfl rfl ?_
    refine al_caseB 27 rfl (fun hb20 => ?_) (fun hb20 => ?_)
    ·replace h := bif_t hb20 h
     refine al_skip ?_
     refine al_skip ?_
     refine al_skip ?_
     refine al_skip ?_
     refine al_skip ?_
     refine al_skip ?_
     refine al_skip ?_
     refine al_skip ?_
     refine al_val (ov_pick_t rfl rfl rfl) ?_
     refine al_as rfl rfl ?_
     refine al_nil ?_
     exact aq_join true h (fun w a hm hs => norm hm hs [1, 0] [] [(0, (str a0)), (3, (ptr g1 0)), (4, (ptr g2 0)), (11, (bool true))] (by decide) ⟨rfl, rfl, rfl, rfl, trivial⟩)
    ·replace h := bif_f hb20 h
     refine al_val (ov_fieldA (p := 10) rfl Try.underlying86 rfl sz3 rfl rfl rfl) ?_
     refine al_val (ov_load (i := 1) (v := (int .i64 a1.Len)) rfl rfl Try.underlying3 sz3 rfl rfl rfl rfl) ?_
     refine al_mv rfl rfl ?_
     refine al_val (ov_strLen Try.underlying9 rfl rfl) ?_
     refine al_val (ov_fieldA (p := 9) rfl Try.underlying86 rfl sz3 rfl rfl rfl) ?_
     refine al_val (ov_load (i := 1) (v := (int .i64 a1.At)) rfl rfl Try.underlying3 sz3 rfl rfl rfl rfl) ?_
     refine al_in rfl rfl rfl rfl ?_
     refine al_in rfl rfl rfl rfl ?_
     refine al_val (ov_pick_f rfl rfl rfl) ?_
     refine al_as rfl rfl ?_
     refine al_nil ?_
     exact aq_join (decide (a1.Len > (IntKind.i64.wrap ((a0.length : Int) - a1.At)))) h (fun w a hm hs => norm hm hs [1, 0] [] [(0, (str a0)), (3, (ptr g1 0)), (4, (ptr g2 0)), (11, (bool (decide (a1.Len > (IntKind.i64.wrap ((a0.length : Int) - a1.At))))))] (by decide) ⟨rfl, rfl, rfl, rfl, trivial⟩)
def f_lumref_kindOK (fu : Nat) (a0 : Int) : Option Bool := (lt (fun (j1b2 : Bool) => (some j1b2)) fun (kk2 : Bool → Option Bool) => (bif (a0 == (1 : Int)) then (kk2 true) else (bif (a0 == (2 : Int)) then (kk2 true) else (kk2 (a0 == (3 : Int))))))
set_option maxRecDepth 100000 in
theorem f_lumref_kindOK_ok (fu : Nat) (a0 : Int) {r : Bool} (h : f_lumref_kindOK fu a0 = some r) : FnOk Try.prog 108 [(int .i64 a0)] [] [] (fun (i : Unit) => { val := (bool r) }) := by
 unfold f_lumref_kindOK at h
 refine fn_enter Try.func108 rfl Try.ntmps108 rfl (fun w0 Z0 => ?_)
 refine aw_sr ?_
 refine al_as rfl rfl ?_
 refine al_nt ?_
 obtain ⟨kk2, hkk2, h⟩ := lt_some h
 refine aw_seq_join (ι := Bool) (fun i => (memOf w0 Z0 [] [] [])) (fun i => (tab [(2, (bool i))])) (fun i => kk2 i = some r) ?_ ?_
 ·rintro j1b2 h
  have h : kk2 j1b2 = some r := h
  rw [hkk2] at h
  dsimp only at h
  clear hkk2
  refine aw_show (m := (memOf w0 Z0 [] [] [])) (S := (tab [(2, (bool j1b2))])) ?_
  refine aw_ret ?_
  obtain rfl := Option.some.inj h
  exact fn_ret () [] [] rfl rfl rfl rfl (res1 rfl rfl) rfl rfl rfl (by decide)
 ·clear hkk2
  refine aw_region ?_
  refine al_mv rfl rfl ?_
  refine al_in rfl rfl rfl rfl ?_
  refine al_mv rfl rfl ?_
  refine al_caseB 5 rfl (fun hb3 => ?_) (fun hb3 => ?_)
  ·replace h := bif_t hb3 h
   refine al_skip ?_
   refine al_skip ?_
   refine al_val (ov_pick_t rfl rfl rfl) ?_
   refine al_mv rfl rfl ?_
   refine al_skip ?_
   refine al_skip ?_
   refine al_val (ov_pick_t rfl rfl rfl) ?_
   refine al_as rfl rfl ?_
   refine al_nil ?_
   exact aq_join true h (fun w a hm hs => norm hm hs [] [] [(2, (bool true))] (by decide) ⟨rfl, trivial⟩)
  ·replace h := bif_f hb3 h
   refine al_mv rfl rfl ?_
   refine al_in rfl rfl rfl rfl ?_
   refine al_val (ov_pick_f rfl rfl rfl) ?_
   refine al_mv rfl rfl ?_
   refine al_caseB 9 rfl (fun hb4 => ?_) (fun hb4 => ?_)
   ·replace h := bif_t hb4 h
    refine al_skip ?_
    refine al_skip ?_
    refine al_val (ov_pick_t rfl rfl rfl) ?_
    refine al_as rfl rfl ?_
    refine al_nil ?_
    exact aq_join true h (fun w a hm hs => norm hm hs [] [] [(2, (bool true))] (by decide) ⟨rfl, trivial⟩)
   ·replace h := bif_f hb4 h
    refine al_mv rfl rfl ?_
    refine al_in rfl rfl rfl rfl ?_
    refine al_val (ov_pick_f rfl rfl rfl) ?_
    refine al_as rfl rfl ?_
    refine al_nil ?_
    exact aq_join (a0 == (3 : Int)) h (fun w a hm hs => norm hm hs [] [] [(2, (bool (a0 == (3 : Int))))] (by decide) ⟨rfl, trivial⟩)
def f_stringslite_HasPrefix (fu : Nat) (a0 : (List UInt8)) (a1 : (List UInt8)) : Option Bool := (lt (fun (j1b4 : Bool) => (some j1b4)) fun (kk2 : Bool → Option Bool) => (bif (decide ((a0.length : Int) ≥ (a1.length : Int))) then (req (0 ≤ (a1.length : Int) ∧ (a1.length : Int) ≤ (a0.length : Int)) (kk2 ((a0.take ((a1.length : Int)).toNat) == a1))) else (kk2 false)))
set_option maxRecDepth 100000 in
theorem f_stringslite_HasPrefix_ok (fu : Nat) (a0 : (List UInt8)) (a1 : (List UInt8)) {r : Bool} (h : f_stringslite_HasPrefix fu a0 a1 = some r) : FnOk Try.prog 170 [(str a0), (str a1)] [] [] (fun (i : Unit) => { val := (bool r) }) := by
 unfold f_stringslite_HasPrefix at h
 refine fn_enter Try.func170 rfl Try.ntmps170 rfl (fun w0 Z0 => ?_)
 refine aw_sr ?_
 refine al_as rfl rfl ?_
 refine al_nt ?_
 obtain ⟨kk2, hkk2, h⟩ := lt_some h
 refine aw_seq_join (ι := Bool) (fun i => (memOf w0 Z0 [] [] [])) (fun i => (tab [(4, (bool i))])) (fun i => kk2 i = some r) ?_ ?_
 ·rintro j1b4 h
  have h : kk2 j1b4 = some r := h
  rw [hkk2] at h
  dsimp only at h
  clear hkk2
  refine aw_show (m := (memOf w0 Z0 [] [] [])) (S := (tab [(4, (bool j1b4))])) ?_
  refine aw_ret ?_
  obtain rfl := Option.some.inj h
  exact fn_ret () [] [] rfl rfl rfl rfl (res1 rfl rfl) rfl rfl rfl (by decide)
 ·clear hkk2
  refine aw_region ?_
  refine al_mv rfl rfl ?_
  refine al_val (ov_strLen Try.underlying9 rfl rfl) ?_
  refine al_mv rfl rfl ?_
  refine al_val (ov_strLen Try.underlying9 rfl rfl) ?_
  refine al_in rfl rfl rfl rfl ?_
  refine al_mv rfl rfl ?_
  refine al_caseB 10 rfl (fun hb3 => ?_) (fun hb3 => ?_)
  ·replace h := bif_t hb3 h
   refine al_mv rfl rfl ?_
   refine al_mv rfl rfl ?_
   refine al_val (ov_strLen Try.underlying9 rfl rfl) ?_
   obtain ⟨hc4, h⟩ := req_some h
   refine al_val (ov_strTo hc4.1 hc4.2 Try.underlying9 rfl rfl rfl) ?_
   refine al_mv rfl rfl ?_
   refine al_val (ov_strCmp rfl rfl rfl rfl) ?_
   refine al_val (ov_pick_t rfl rfl rfl) ?_
   refine al_as rfl rfl ?_
   refine al_nil ?_
   exact aq_join ((a0.take ((a1.length : Int)).toNat) == a1) h (fun w a hm hs => norm hm hs [] [] [(4, (bool ((a0.take ((a1.length : Int)).toNat) == a1)))] (by decide) ⟨rfl, trivial⟩)
  ·replace h := bif_f hb3 h
   refine al_skip ?_
   refine al_skip ?_
   refine al_skip ?_
   refine al_skip ?_
   refine al_skip ?_
   refine al_skip ?_
   refine al_val (ov_pick_f rfl rfl rfl) ?_
   refine al_as rfl rfl ?_
   refine al_nil ?_
   exact aq_join false h (fun w a hm hs => norm hm hs [] [] [(4, (bool false))] (by decide) ⟨rfl, trivial⟩)
def f_strings_HasPrefix (fu : Nat) (a0 : (List UInt8)) (a1 : (List UInt8)) : Option Bool := (opt (f_stringslite_HasPrefix fu a0 a1) fun (r2 : Bool) => (some r2))
set_option maxRecDepth 100000 in
theorem f_strings_HasPrefix_ok (fu : Nat) (a0 : (List UInt8)) (a1 : (List UInt8)) {r : Bool} (h : f_strings_HasPrefix fu a0 a1 = some r) : FnOk Try.prog 130 [(str a0), (str a1)] [] [] (fun (i : Unit) => { val := (bool r) }) := by
 unfold f_strings_HasPrefix at h
 refine fn_enter Try.func130 rfl Try.ntmps130 rfl (fun w0 Z0 => ?_)
 refine aw_sr ?_
 refine al_as rfl rfl ?_
 refine al_nt ?_
 refine aw_sr ?_
 refine al_mv rfl rfl ?_
 refine al_mv rfl rfl ?_
 obtain ⟨r2, hc1, h⟩ := opt_some h
 refine al_call (vs := [(str a0), (str a1)]) (f_stringslite_HasPrefix_ok fu a0 a1 hc1) [] [] [] pre_nil rfl (by simp) (by decide) (.inl rfl) rfl Try.func170 rfl rfl rfl (fun _ => ?_)
 refine al_as rfl rfl ?_
 refine al_nt ?_
 refine aw_ret ?_
 obtain rfl := Option.some.inj h
 exact fn_ret () [] [] rfl rfl rfl rfl (res1 rfl rfl) rfl rfl rfl (by decide)
def f_lumref_number : Nat → (List UInt8) → Option Int
  | 0, _ => none
  | fu + 1, a0 => (bif (a0 == ([] : List UInt8)) then (some (0 : Int)) else (req (0 ≤ (IntKind.i64.wrap ((a0.length : Int) - (1 : Int))) ∧ (IntKind.i64.wrap ((a0.length : Int) - (1 : Int))) ≤ (a0.length : Int)) (opt (f_lumref_number fu (a0.take ((IntKind.i64.wrap ((a0.length : Int) - (1 : Int)))).toNat)) fun (r4 : Int) => (req (0 ≤ (IntKind.i64.wrap ((a0.length : Int) - (1 : Int))) ∧ (IntKind.i64.wrap ((a0.length : Int) - (1 : Int))) < (a0.length : Int)) (some (IntKind.u64.wrap ((IntKind.u64.wrap ((256 : Int) * r4)) + (IntKind.u64.wrap (En.bAt a0 (IntKind.i64.wrap ((a0.length : Int) - (1 : Int))))))))))))
set_option maxRecDepth 100000 in
theorem f_lumref_number_ok (fu : Nat) (a0 : (List UInt8)) {r : Int} (h : f_lumref_number fu a0 = some r) : FnOk Try.prog 168 [(str a0)] [] [] (fun (i : Unit) => { val := (int .u64 r) }) := by
 cases fu with
 | zero => rw [f_lumref_number] at h; cases h
 | succ fu =>
  rw [f_lumref_number] at h
  refine fn_enter Try.func168 rfl Try.ntmps168 rfl (fun w0 Z0 => ?_)
  refine aw_sr ?_
  refine al_as rfl rfl ?_
  refine al_nt ?_
  refine aw_seq ?_
  refine aw_sr ?_
  refine al_mv rfl rfl ?_
  refine al_val (ov_strCmp rfl rfl rfl rfl) ?_
  refine al_nt ?_
  refine aw_cond rfl (fun hb1 => ?_) (fun hb1 => ?_)
  ·replace h := bif_t hb1 h
   refine aw_sr ?_
   refine al_as rfl rfl ?_
   refine al_nt ?_
   refine aw_ret ?_
   refine aq_then_ret ?_
   obtain rfl := Option.some.inj h
   exact fn_ret () [] [] rfl rfl rfl rfl (res1 rfl rfl) rfl rfl rfl (by decide)
  ·replace h := bif_f hb1 h
   refine aw_skip ?_
   refine aq_then ?_
   refine aw_seq ?_
   obtain ⟨hc2, h⟩ := req_some h
   obtain ⟨r4, hc3, h⟩ := opt_some h
   obtain ⟨hc5, h⟩ := req_some h
   refine aw_region_draw 14 [(5, (fun u => fEq u (str a0))), (6, (fun u => fEq u (str a0))), (7, (fun u => fEq u (int .i64 (a0.length : Int)))), (8, (fun u => fEq u (int .i64 (IntKind.i64.wrap ((a0.length : Int) - (1 : Int)))))), (9, (fun u => fEq u (str (a0.take ((IntKind.i64.wrap ((a0.length : Int) - (1 : Int)))).toNat)))), (10, (fun u => fEq u (int .u64 r4))), (11, (fun u => fEq u (int .u64 (IntKind.u64.wrap ((256 : Int) * r4))))), (12, (fun u => fEq u (str a0))), (13, (fun u => fEq u (str a0))), (14, (fun u => fEq u (int .i64 (a0.length : Int)))), (15, (fun u => fEq u (int .i64 (IntKind.i64.wrap ((a0.length : Int) - (1 : Int)))))), (16, (fun u => fEq u (int .u8 (En.bAt a0 (IntKind.i64.wrap ((a0.length : Int) - (1 : Int))))))), (17, (fun u => fEq u (int .u64 (IntKind.u64.wrap (En.bAt a0 (IntKind.i64.wrap ((a0.length : Int) - (1 : Int)))))))), (18, (fun u => fEq u (int .u64 (IntKind.u64.wrap ((IntKind.u64.wrap ((256 : Int) * r4)) + (IntKind.u64.wrap (En.bAt a0 (IntKind.i64.wrap ((a0.length : Int) - (1 : Int))))))))))] (tab [(0, (str a0)), (2, (int .u64 (0 : Int)))]) mixed (by kernel_rfl) rfl rfl rfl (fun a hs => hs.tab _ (allT_mem ⟨rfl, rfl, trivial⟩)) ⟨⟨rfl, ld_val (ov_move rfl rfl)⟩, ⟨rfl, ld_val (ov_move rfl rfl)⟩, ⟨rfl, ld_eq (j := 1) rfl rfl (ld_val (ov_strLen Try.underlying9 rfl rfl))⟩, ⟨rfl, ld_eq (j := 2) rfl rfl (ld_val (ov_int rfl rfl rfl rfl))⟩, ⟨rfl, ld_eq (j := 0) rfl rfl (ld_eq (j := 3) rfl rfl (ld_val (ov_strTo hc2.1 hc2.2 Try.underlying9 rfl rfl rfl)))⟩, ⟨rfl, ld_eq (j := 4) rfl rfl (ld_callV (vs := [(str (a0.take ((IntKind.i64.wrap ((a0.length : Int) - (1 : Int)))).toNat))]) (f_lumref_number_ok fu (a0.take ((IntKind.i64.wrap ((a0.length : Int) - (1 : Int)))).toNat) hc3) [] pre_nil rfl Try.func168 rfl rfl rfl)⟩, ⟨rfl, ld_eq (j := 5) rfl rfl (ld_val (ov_int rfl rfl rfl rfl))⟩, ⟨rfl, ld_val (ov_move rfl rfl)⟩, ⟨rfl, ld_val (ov_move rfl rfl)⟩, ⟨rfl, ld_eq (j := 8) rfl rfl (ld_val (ov_strLen Try.underlying9 rfl rfl))⟩, ⟨rfl, ld_eq (j := 9) rfl rfl (ld_val (ov_int rfl rfl rfl rfl))⟩, ⟨rfl, ld_eq (j := 7) rfl rfl (ld_eq (j := 10) rfl rfl (ld_val (ov_strIdx hc5.1 hc5.2 Try.underlying9 rfl rfl rfl)))⟩, ⟨rfl, ld_eq (j := 11) rfl rfl (ld_val (ov_convInt (by rw [Try.underlying5]; rfl) Try.underlying55 rfl rfl))⟩, ⟨rfl, ld_eq (j := 6) rfl rfl (ld_eq (j := 12) rfl rfl (ld_val (ov_int rfl rfl rfl rfl)))⟩, trivial⟩ ?_
   refine tl_eq 13 rfl ?_
   refine tl_done ?_
   refine al_as rfl rfl ?_
   refine al_nt ?_
   refine aw_ret ?_
   obtain rfl := Option.some.inj h
   exact fn_ret () [] [] rfl rfl rfl rfl (res1 rfl rfl) rfl rfl rfl (by decide)
def f_lumref_Get (fu : Nat) (a0 : (List UInt8)) : Option (Int × Int × Int) := (bif ((a0.length : Int) == (0 : Int)) then (some ((0 : Int), (0 : Int), (3 : Int))) else (req (0 ≤ (0 : Int) ∧ (0 : Int) < (a0.length : Int)) (bif (decide ((En.bAt a0 (0 : Int)) > (8 : Int))) then (some ((0 : Int), (0 : Int), (4 : Int))) else (req (0 ≤ (0 : Int) ∧ (0 : Int) < (a0.length : Int)) (bif (decide ((a0.length : Int) < (IntKind.i64.wrap ((1 : Int) + (IntKind.i64.wrap (En.bAt a0 (0 : Int))))))) then (some ((0 : Int), (0 : Int), (3 : Int))) else (req (0 ≤ (1 : Int) ∧ (1 : Int) ≤ (IntKind.i64.wrap ((1 : Int) + (IntKind.i64.wrap (En.bAt a0 (0 : Int))))) ∧ (IntKind.i64.wrap ((1 : Int) + (IntKind.i64.wrap (En.bAt a0 (0 : Int))))) ≤ (a0.length : Int)) (opt (f_strings_HasPrefix fu (cut a0 (1 : Int) (IntKind.i64.wrap ((1 : Int) + (IntKind.i64.wrap (En.bAt a0 (0 : Int)))))) ([0] : List UInt8)) fun (r8 : Bool) => (bif r8 then (some ((0 : Int), (0 : Int), (4 : Int))) else (req (0 ≤ (1 : Int) ∧ (1 : Int) ≤ (IntKind.i64.wrap ((1 : Int) + (IntKind.i64.wrap (En.bAt a0 (0 : Int))))) ∧ (IntKind.i64.wrap ((1 : Int) + (IntKind.i64.wrap (En.bAt a0 (0 : Int))))) ≤ (a0.length : Int)) (opt (f_lumref_number fu (cut a0 (1 : Int) (IntKind.i64.wrap ((1 : Int) + (IntKind.i64.wrap (En.bAt a0 (0 : Int))))))) fun (r12 : Int) => (some (r12, (IntKind.i64.wrap ((1 : Int) + (IntKind.i64.wrap (En.bAt a0 (0 : Int))))), (0 : Int)))))))))))))
set_option maxRecDepth 100000 in
theorem f_lumref_Get_ok (fu : Nat) (a0 : (List UInt8)) {r : (Int × Int × Int)} (h : f_lumref_Get fu a0 = some r) : FnOk Try.prog 127 [(str a0)] [] [] (fun (i : Unit) => { val := (Value.tuple #[(int .u64 r.1), (int .i64 r.2.1), (int .i64 r.2.2)]) }) := by
 unfold f_lumref_Get at h
 refine fn_enter Try.func127 rfl Try.ntmps127 rfl (fun w0 Z0 => ?_)
 refine aw_sr ?_
 refine al_as rfl rfl ?_
 refine al_as rfl rfl ?_
 refine al_as rfl rfl ?_
 refine al_nt ?_
 refine aw_seq ?_
 refine aw_sr ?_
 refine al_mv rfl rfl ?_
 refine al_val (ov_strLen Try.underlying9 rfl rfl) ?_
 refine al_in rfl rfl rfl rfl ?_
 refine al_nt ?_
 refine aw_cond rfl (fun hb1 => ?_) (fun hb1 => ?_)
 ·replace h := bif_t hb1 h
  refine aw_sr ?_
  refine al_as rfl rfl ?_
  refine al_as rfl rfl ?_
  refine al_as rfl rfl ?_
  refine al_nt ?_
  refine aw_ret ?_
  refine aq_then_ret ?_
  obtain rfl := Option.some.inj h
  exact fn_ret () [] [] rfl rfl rfl rfl (res3 rfl rfl rfl rfl) rfl rfl rfl (by decide)
 ·replace h := bif_f hb1 h
  refine aw_skip ?_
  refine aq_then ?_
  refine aw_seq ?_
  refine aw_sr ?_
  refine al_mv rfl rfl ?_
  obtain ⟨hc2, h⟩ := req_some h
  refine al_val (ov_strIdx hc2.1 hc2.2 Try.underlying9 rfl rfl rfl) ?_
  refine al_in rfl rfl rfl rfl ?_
  refine al_nt ?_
  refine aw_cond rfl (fun hb3 => ?_) (fun hb3 => ?_)
  ·replace h := bif_t hb3 h
   refine aw_sr ?_
   refine al_as rfl rfl ?_
   refine al_as rfl rfl ?_
   refine al_as rfl rfl ?_
   refine al_nt ?_
   refine aw_ret ?_
   refine aq_then_ret ?_
   obtain rfl := Option.some.inj h
   exact fn_ret () [] [] rfl rfl rfl rfl (res3 rfl rfl rfl rfl) rfl rfl rfl (by decide)
  ·replace h := bif_f hb3 h
   refine aw_skip ?_
   refine aq_tr ?_
   refine al_mv rfl rfl ?_
   obtain ⟨hc4, h⟩ := req_some h
   refine al_val (ov_strIdx hc4.1 hc4.2 Try.underlying9 rfl rfl rfl) ?_
   refine al_val (ov_convInt (by rw [Try.underlying5]; rfl) Try.underlying3 rfl rfl) ?_
   refine al_in rfl rfl rfl rfl ?_
   refine al_as rfl rfl ?_
   refine al_nt ?_
   refine aw_seq ?_
   refine aw_sr ?_
   refine al_mv rfl rfl ?_
   refine al_val (ov_strLen Try.underlying9 rfl rfl) ?_
   refine al_mv rfl rfl ?_
   refine al_in rfl rfl rfl rfl ?_
   refine al_nt ?_
   refine aw_cond rfl (fun hb5 => ?_) (fun hb5 => ?_)
   ·replace h := bif_t hb5 h
    refine aw_sr ?_
    refine al_as rfl rfl ?_
    refine al_as rfl rfl ?_
    refine al_as rfl rfl ?_
    refine al_nt ?_
    refine aw_ret ?_
    refine aq_then_ret ?_
    obtain rfl := Option.some.inj h
    exact fn_ret () [] [] rfl rfl rfl rfl (res3 rfl rfl rfl rfl) rfl rfl rfl (by decide)
   ·replace h := bif_f hb5 h
    refine aw_skip ?_
    refine aq_then ?_
    refine aw_seq ?_
    refine aw_sr ?_
    refine al_mv rfl rfl ?_
    refine al_mv rfl rfl ?_
    obtain ⟨hc6, h⟩ := req_some h
    refine al_val (ov_strCut hc6.1 hc6.2.1 hc6.2.2 Try.underlying9 rfl rfl rfl rfl) ?_
    obtain ⟨r8, hc7, h⟩ := opt_some h
    refine al_call (vs := [(str (cut a0 (1 : Int) (IntKind.i64.wrap ((1 : Int) + (IntKind.i64.wrap (En.bAt a0 (0 : Int))))))), (str ([0] : List UInt8))]) (f_strings_HasPrefix_ok fu (cut a0 (1 : Int) (IntKind.i64.wrap ((1 : Int) + (IntKind.i64.wrap (En.bAt a0 (0 : Int)))))) ([0] : List UInt8) hc7) [] [] [] pre_nil rfl (by simp) (by decide) (.inl rfl) rfl Try.func130 rfl rfl rfl (fun _ => ?_)
    refine al_nt ?_
    refine aw_cond rfl (fun hb9 => ?_) (fun hb9 => ?_)
    ·replace h := bif_t hb9 h
     refine aw_sr ?_
     refine al_as rfl rfl ?_
     refine al_as rfl rfl ?_
     refine al_as rfl rfl ?_
     refine al_nt ?_
     refine aw_ret ?_
     refine aq_then_ret ?_
     obtain rfl := Option.some.inj h
     exact fn_ret () [] [] rfl rfl rfl rfl (res3 rfl rfl rfl rfl) rfl rfl rfl (by decide)
    ·replace h := bif_f hb9 h
     refine aw_skip ?_
     refine aq_tr ?_
     refine al_mv rfl rfl ?_
     refine al_mv rfl rfl ?_
     obtain ⟨hc10, h⟩ := req_some h
     refine al_val (ov_strCut hc10.1 hc10.2.1 hc10.2.2 Try.underlying9 rfl rfl rfl rfl) ?_
     obtain ⟨r12, hc11, h⟩ := opt_some h
     refine al_call (vs := [(str (cut a0 (1 : Int) (IntKind.i64.wrap ((1 : Int) + (IntKind.i64.wrap (En.bAt a0 (0 : Int)))))))]) (f_lumref_number_ok fu (cut a0 (1 : Int) (IntKind.i64.wrap ((1 : Int) + (IntKind.i64.wrap (En.bAt a0 (0 : Int)))))) hc11) [] [] [] pre_nil rfl (by simp) (by decide) (.inl rfl) rfl Try.func168 rfl rfl rfl (fun _ => ?_)
     refine al_mv rfl rfl ?_
     refine al_as rfl rfl ?_
     refine al_as rfl rfl ?_
     refine al_as rfl rfl ?_
     refine al_nt ?_
     refine aw_ret ?_
     obtain rfl := Option.some.inj h
     exact fn_ret () [] [] rfl rfl rfl rfl (res3 rfl rfl rfl rfl) rfl rfl rfl (by decide)
def f_lumref_three_L8 (kk4 : ((List UInt8) → A3i64 → Option (A3i64 × (List UInt8) × Int))) (fu : Nat) : Nat → (List UInt8) → A3i64 → Int → Option (A3i64 × (List UInt8) × Int)
  | 0, _, _, _ => none
  | k7 + 1, l6s0, l6A5_0, l6i13 => (bif (decide (l6i13 < (([(4096 : Int), (12288 : Int), (256 : Int)]).length : Int))) then (opt (at? ([(4096 : Int), (12288 : Int), (256 : Int)]) l6i13) fun (u10 : Int) => (opt (f_lumref_Get fu l6s0) fun (r15 : (Int × Int × Int)) => (bif (r15.2.2 != (0 : Int)) then (some (l6A5_0, ([] : List UInt8), r15.2.2)) else (bif (decide (r15.1 > u10)) then (some (l6A5_0, ([] : List UInt8), (2 : Int))) else (opt (at? (lA3i64 l6A5_0) l6i13) fun (u18 : Int) => (req (0 ≤ r15.2.1 ∧ r15.2.1 ≤ (l6s0.length : Int)) (f_lumref_three_L8 kk4 fu k7 (l6s0.drop (r15.2.1).toNat) (setA3i64 l6A5_0 l6i13 (IntKind.i64.wrap r15.1)) (IntKind.i64.wrap (l6i13 + (1 : Int)))))))))) else (kk4 l6s0 l6A5_0))
def f_lumref_three (fu : Nat) (a0 : (List UInt8)) : Option (A3i64 × (List UInt8) × Int) := (lt (fun (j3s0 : (List UInt8)) (j3A5_0 : A3i64) => (some (j3A5_0, j3s0, (0 : Int)))) fun (kk4 : (List UInt8) → A3i64 → Option (A3i64 × (List UInt8) × Int)) => (f_lumref_three_L8 kk4 fu fu a0 (A3i64.mk (0 : Int) (0 : Int) (0 : Int)) (0 : Int)))
set_option maxRecDepth 100000 in
theorem f_lumref_three_ok (fu : Nat) (a0 : (List UInt8)) {r : (A3i64 × (List UInt8) × Int)} (h : f_lumref_three fu a0 = some r) : FnOk Try.prog 72 [(str a0)] [] [] (fun (i : Unit) => { val := (Value.tuple #[(ag (cA3i64 r.1)), (str r.2.1), (int .i64 r.2.2)]) }) := by
 unfold f_lumref_three at h
 refine fn_enter Try.func72 rfl Try.ntmps72 rfl (fun w0 Z0 => ?_)
 refine aw_sr ?_
 refine al_alloc (zs := (cA3i64 (A3i64.mk (0 : Int) (0 : Int) (0 : Int)))) (zeroOf_to to132) rfl rfl (fun g1 => ?_)
 refine al_as rfl rfl ?_
 refine al_as rfl rfl ?_
 refine al_nt ?_
 refine aw_sr ?_
 refine al_alloc (zs := (cA3i64 (A3i64.mk (0 : Int) (0 : Int) (0 : Int)))) (zeroOf_to to132) rfl rfl (fun g2 => ?_)
 refine al_nt ?_
 obtain ⟨kk4, hkk4, h⟩ := lt_some h
 refine aw_seq_join (ι := (List UInt8) × A3i64) (fun i => (memOf w0 Z0 [] [(oBox g1 132 (cA3i64 (A3i64.mk (0 : Int) (0 : Int) (0 : Int)))), (oBox g2 132 (cA3i64 i.2))] [])) (fun i => (tab [(0, (str i.1)), (2, (ptr g1 0)), (5, (ptr g2 0))])) (fun i => kk4 i.1 i.2 = some r) ?_ ?_
 ·rintro ⟨j3s0, j3A5_0⟩ h
  have h : kk4 j3s0 j3A5_0 = some r := h
  rw [hkk4] at h
  dsimp only at h
  clear hkk4
  refine aw_show (m := (memOf w0 Z0 [] [(oBox g1 132 (cA3i64 (A3i64.mk (0 : Int) (0 : Int) (0 : Int)))), (oBox g2 132 (cA3i64 j3A5_0))] [])) (S := (tab [(0, (str j3s0)), (2, (ptr g1 0)), (5, (ptr g2 0))])) ?_
  refine aw_sr ?_
  refine al_val (ov_load (i := 1) (v := (ag (cA3i64 j3A5_0))) rfl rfl Try.underlying132 sz132 rfl rfl rfl rfl) ?_
  refine al_mv rfl rfl ?_
  refine al_store (i := 0) (vs := (cA3i64 j3A5_0)) (cs' := (cA3i64 j3A5_0)) rfl rfl rfl sz132 (cv_rfl rfl) rfl (co_all (oneA3i64 j3A5_0)) (Nat.le_of_ble_eq_true rfl) rfl rfl ?_
  refine al_as rfl rfl ?_
  refine al_as rfl rfl ?_
  refine al_nt ?_
  refine aw_ret ?_
  obtain rfl := Option.some.inj h
  exact fn_ret () [] [] rfl rfl rfl rfl (resC rfl (resB (i := 0) rfl rfl Try.underlying132 sz132 rfl rfl rfl (resT rfl (resT rfl (resN)))) rfl) rfl rfl rfl (by decide)
 ·clear hkk4
  refine aw_sr ?_
  refine al_buildSlice (τ := (tyInt .u64)) (e := 55) (k := 3) (sz := 0) (by_ := 0) (z := undef) (cs := [(int .u64 (4096 : Int)), (int .u64 (12288 : Int)), (int .u64 (256 : Int))]) (xs := [(4096 : Int), (12288 : Int), (256 : Int)]) rfl (by decide) (fun w a hm hs => ⟨([(int .u64 (4096 : Int)), (int .u64 (12288 : Int)), (int .u64 (256 : Int))]).toArray, rfl, by simp only [List.map_toArray, List.map_cons, List.map_nil, hs.ev (x := .const (int .u64 (4096 : Int))) rfl, hs.ev (x := .const (int .u64 (12288 : Int))) rfl, hs.ev (x := .const (int .u64 (256 : Int))) rfl]; exact run_bs [(int .u64 (4096 : Int)), (int .u64 (12288 : Int)), (int .u64 (256 : Int))] [(int .u64 (4096 : Int)), (int .u64 (12288 : Int)), (int .u64 (256 : Int))] Try.underlying197 to55 rfl rfl (bs_cons (l := [(int .u64 (4096 : Int))]) (cs := [(int .u64 (12288 : Int)), (int .u64 (256 : Int))]) (cv_rfl rfl) rfl (bs_cons (l := [(int .u64 (12288 : Int))]) (cs := [(int .u64 (256 : Int))]) (cv_rfl rfl) rfl (bs_cons (l := [(int .u64 (256 : Int))]) (cs := []) (cv_rfl rfl) rfl bs_nil))) hm⟩) (fun hm => ⟨_, _, rfl, (fun _ => rfl) hm, ⟨_, _, rfl, (fun _ => rfl) hm, ⟨_, _, rfl, (fun _ => rfl) hm, rfl⟩⟩⟩) rfl (fun v5 => ?_)
  refine al_val (ov_lenR 0 rfl rfl Try.underlying197 rfl) ?_
  refine al_mv rfl rfl ?_
  refine al_nt ?_
  refine aw_block ?_
  refine aw_state (aw_loop (ι := (List UInt8) × A3i64 × Int) (fun i => (memOf w0 Z0 [] [(oBox g1 132 (cA3i64 (A3i64.mk (0 : Int) (0 : Int) (0 : Int)))), (oBox g2 132 (cA3i64 i.2.1)), (oRow v5 55 (tyInt .u64) [(4096 : Int), (12288 : Int), (256 : Int)])] [])) (fun i => (tab [(0, (str i.1)), (2, (ptr g1 0)), (5, (ptr g2 0)), (11, v5), (12, (int .i64 (([(4096 : Int), (12288 : Int), (256 : Int)]).length : Int))), (13, (int .i64 i.2.2))])) (fun q i => f_lumref_three_L8 kk4 fu q i.1 i.2.1 i.2.2 = some r) ?_ fu (a0, (A3i64.mk (0 : Int) (0 : Int) (0 : Int)), (0 : Int)) h) (fun w a hm hs => norm hm hs [2, 1, 0] [] [(0, (str a0)), (2, (ptr g1 0)), (5, (ptr g2 0)), (11, v5), (12, (int .i64 (([(4096 : Int), (12288 : Int), (256 : Int)]).length : Int))), (13, (int .i64 (0 : Int)))] (by decide) ⟨rfl, rfl, rfl, rfl, rfl, rfl, trivial⟩)
  clear h
  rintro k7 ⟨l6s0, l6A5_0, l6i13⟩ h
  have h : f_lumref_three_L8 kk4 fu k7 l6s0 l6A5_0 l6i13 = some r := h
  obtain _ | k7 := k7
  · rw [f_lumref_three_L8] at h; cases h
  rw [f_lumref_three_L8] at h
  refine aw_show (m := (memOf w0 Z0 [] [(oBox g1 132 (cA3i64 (A3i64.mk (0 : Int) (0 : Int) (0 : Int)))), (oBox g2 132 (cA3i64 l6A5_0)), (oRow v5 55 (tyInt .u64) [(4096 : Int), (12288 : Int), (256 : Int)])] [])) (S := (tab [(0, (str l6s0)), (2, (ptr g1 0)), (5, (ptr g2 0)), (11, v5), (12, (int .i64 (([(4096 : Int), (12288 : Int), (256 : Int)]).length : Int))), (13, (int .i64 l6i13))])) ?_
  refine aw_sr ?_
  refine al_in rfl rfl rfl rfl ?_
  refine al_nt ?_
  refine aw_seq ?_
  refine aw_cond rfl (fun hb9 => ?_) (fun hb9 => ?_)
  ·replace h := bif_t hb9 h
   refine aw_skip ?_
   refine aq_then ?_
   refine aw_seq ?_
   refine aw_block ?_
   refine aw_sr ?_
   refine al_mv rfl rfl ?_
   obtain ⟨u10, hu11, h⟩ := opt_some h
   refine al_idxR 2 (at_some hu11).1 (at_some hu11).2.1 rfl rfl rfl Try.underlying197 sz55 rfl (fun p12 hp13 => ?_)
   refine al_val (ov_loadR (ds := [(int .u64 u10)]) 2 rfl hp13 (at_some hu11).2.2 (fun h => h) rfl Try.underlying55 sz55 rfl rfl rfl) ?_
   refine al_as rfl rfl ?_
   refine al_as rfl rfl ?_
   refine al_nt ?_
   refine aw_sr ?_
   refine al_mv rfl rfl ?_
   obtain ⟨r15, hc14, h⟩ := opt_some h
   refine al_call (vs := [(str l6s0)]) (f_lumref_Get_ok fu l6s0 hc14) [] [] [0, 1, 2] pre_nil rfl (by simp) (by decide) (.inl rfl) rfl Try.func127 rfl rfl rfl (fun _ => ?_)
   refine al_mv rfl rfl ?_
   refine al_ex rfl rfl rfl ?_
   refine al_ex rfl rfl rfl ?_
   refine al_ex rfl rfl rfl ?_
   refine al_as rfl rfl ?_
   refine al_as rfl rfl ?_
   refine al_as rfl rfl ?_
   refine al_nt ?_
   refine aw_seq ?_
   refine aw_sr ?_
   refine al_mv rfl rfl ?_
   refine al_in rfl rfl rfl rfl ?_
   refine al_nt ?_
   refine aw_cond rfl (fun hb16 => ?_) (fun hb16 => ?_)
   ·replace h := bif_t hb16 h
    refine aw_sr ?_
    refine al_val (ov_load (i := 1) (v := (ag (cA3i64 l6A5_0))) rfl rfl Try.underlying132 sz132 rfl rfl rfl rfl) ?_
    refine al_mv rfl rfl ?_
    refine al_store (i := 0) (vs := (cA3i64 l6A5_0)) (cs' := (cA3i64 l6A5_0)) rfl rfl rfl sz132 (cv_rfl rfl) rfl (co_all (oneA3i64 l6A5_0)) (Nat.le_of_ble_eq_true rfl) rfl rfl ?_
    refine al_as rfl rfl ?_
    refine al_as rfl rfl ?_
    refine al_nt ?_
    refine aw_ret ?_
    refine aq_then_ret ?_
    refine aq_block_ret ?_
    refine aq_then_ret ?_
    refine aq_then_ret ?_
    refine aq_block_ret ?_
    refine aq_then_ret ?_
    obtain rfl := Option.some.inj h
    exact fn_ret () [] [] rfl rfl rfl rfl (resC rfl (resB (i := 0) rfl rfl Try.underlying132 sz132 rfl rfl rfl (resT rfl (resT rfl (resN)))) rfl) rfl rfl rfl (by decide)
   ·replace h := bif_f hb16 h
    refine aw_skip ?_
    refine aq_then ?_
    refine aw_seq ?_
    refine aw_sr ?_
    refine al_mv rfl rfl ?_
    refine al_mv rfl rfl ?_
    refine al_in rfl rfl rfl rfl ?_
    refine al_nt ?_
    refine aw_cond rfl (fun hb17 => ?_) (fun hb17 => ?_)
    ·replace h := bif_t hb17 h
     refine aw_sr ?_
     refine al_val (ov_load (i := 1) (v := (ag (cA3i64 l6A5_0))) rfl rfl Try.underlying132 sz132 rfl rfl rfl rfl) ?_
     refine al_store (i := 0) (vs := (cA3i64 l6A5_0)) (cs' := (cA3i64 l6A5_0)) rfl rfl rfl sz132 (cv_rfl rfl) rfl (co_all (oneA3i64 l6A5_0)) (Nat.le_of_ble_eq_true rfl) rfl rfl ?_
     refine al_as rfl rfl ?_
     refine al_as rfl rfl ?_
     refine al_nt ?_
     refine aw_ret ?_
     refine aq_then_ret ?_
     refine aq_block_ret ?_
     refine aq_then_ret ?_
     refine aq_then_ret ?_
     refine aq_block_ret ?_
     refine aq_then_ret ?_
     obtain rfl := Option.some.inj h
     exact fn_ret () [] [] rfl rfl rfl rfl (resC rfl (resB (i := 0) rfl rfl Try.underlying132 sz132 rfl rfl rfl (resT rfl (resT rfl (resN)))) rfl) rfl rfl rfl (by decide)
    ·replace h := bif_f hb17 h
     refine aw_skip ?_
     refine aq_tr ?_
     refine al_mv rfl rfl ?_
     refine al_mv rfl rfl ?_
     refine al_val (ov_convInt (by rw [Try.underlying55]; rfl) Try.underlying3 rfl rfl) ?_
     obtain ⟨u18, hu19, h⟩ := opt_some h
     refine al_val (ov_idxArrV hu19 rfl rfl rfl Try.underlying132 sz3 rfl) ?_
     refine al_storeV (cs := (cA3i64 l6A5_0)) (cs' := (cA3i64 (setA3i64 l6A5_0 l6i13 (IntKind.i64.wrap r15.1)))) 1 rfl rfl rfl sz3 rfl (by have h1 := (at_some hu19).2.1; have h0 := (at_some hu19).1; have h2 : ((lA3i64 l6A5_0).length : Int) = 3 := rfl; show 0 + (l6i13).toNat < 3; omega) (csetA3i64 (at_some hu19).1 (at_some hu19).2.1 [] []) rfl ?_
     refine al_nt ?_
     refine aw_region ?_
     refine al_mv rfl rfl ?_
     refine al_mv rfl rfl ?_
     obtain ⟨hc20, h⟩ := req_some h
     refine al_val (ov_strFrom hc20.1 hc20.2 Try.underlying9 rfl rfl rfl) ?_
     refine al_as rfl rfl ?_
     refine al_nil ?_
     refine aq_block ?_
     refine aq_then ?_
     refine aw_region ?_
     refine al_in rfl rfl rfl rfl ?_
     refine al_mv rfl rfl ?_
     refine al_nil ?_
     exact aq_again k7 ((l6s0.drop (r15.2.1).toNat), (setA3i64 l6A5_0 l6i13 (IntKind.i64.wrap r15.1)), (IntKind.i64.wrap (l6i13 + (1 : Int)))) (Nat.lt_succ_self _) h (fun w a hm hs => norm hm hs [0, 1, 2] [] [(0, (str (l6s0.drop (r15.2.1).toNat))), (2, (ptr g1 0)), (5, (ptr g2 0)), (11, v5), (12, (int .i64 (([(4096 : Int), (12288 : Int), (256 : Int)]).length : Int))), (13, (int .i64 (IntKind.i64.wrap (l6i13 + (1 : Int)))))] (by decide) ⟨rfl, rfl, rfl, rfl, rfl, rfl, trivial⟩)
  ·replace h := bif_f hb9 h
   refine aw_exit ?_
   refine aq_then_exit ?_
   refine aq_then_exit ?_
   refine aq_block_exit ?_
   exact aq_join (l6s0, l6A5_0) h (fun w a hm hs => norm hm hs [0, 1] [] [(0, (str l6s0)), (2, (ptr g1 0)), (5, (ptr g2 0))] (by decide) ⟨rfl, rfl, rfl, trivial⟩)
def f_lumref_Kraft_L24 (u13 : Int) (kk20 : (Int → Option (Int × Int))) : Nat → Int → Int → Option (Int × Int)
  | 0, _, _ => none
  | k23 + 1, l22i7, l22i30 => (bif (decide (l22i30 < (IntKind.i64.wrap ((48 : Int) - u13)))) then (f_lumref_Kraft_L24 u13 kk20 k23 (IntKind.i64.wrap (l22i7 * (2 : Int))) (IntKind.i64.wrap (l22i30 + (1 : Int)))) else (kk20 l22i7))
def f_lumref_Kraft_L8 (a0 : (List Int)) (kk5 : (Int → Option (Int × Int))) (fu : Nat) : Nat → Int → Int → Option (Int × Int)
  | 0, _, _ => none
  | k7 + 1, l6i4, l6i18 => (lt (fun (l6i4 : Int) (l6i18 : Int) => (f_lumref_Kraft_L8 a0 kk5 fu k7 l6i4 l6i18)) fun (kk9 : Int → Int → Option (Int × Int)) => (bif (decide (l6i18 < (a0.length : Int))) then (lt (fun (j11i4 : Int) => (kk9 j11i4 (IntKind.i64.wrap (l6i18 + (1 : Int))))) fun (kk12 : Int → Option (Int × Int)) => (opt (at? a0 l6i18) fun (u13 : Int) => (lt (fun (j16b27 : Bool) => (bif j16b27 then (some ((0 : Int), (1 : Int))) else (lt (fun (j19i7 : Int) => (bif (decide (u13 > (0 : Int))) then (kk12 (IntKind.i64.wrap (l6i4 + j19i7))) else (kk12 l6i4))) fun (kk20 : Int → Option (Int × Int)) => (f_lumref_Kraft_L24 u13 kk20 fu (1 : Int) (0 : Int))))) fun (kk17 : Bool → Option (Int × Int)) => (bif (decide (u13 < (0 : Int))) then (kk17 true) else (kk17 (decide (u13 > (48 : Int)))))))) else (kk5 l6i4)))
def f_lumref_Kraft (fu : Nat) (a0 : (List Int)) : Option (Int × Int) := (lt (fun (j1b15 : Bool) => (bif j1b15 then (some ((0 : Int), (1 : Int))) else (lt (fun (j4i4 : Int) => (some (j4i4, (0 : Int)))) fun (kk5 : Int → Option (Int × Int)) => (f_lumref_Kraft_L8 a0 kk5 fu fu (0 : Int) (0 : Int))))) fun (kk2 : Bool → Option (Int × Int)) => (bif ((a0.length : Int) == (0 : Int)) then (kk2 true) else (kk2 (decide ((a0.length : Int) > (256 : Int))))))
set_option maxRecDepth 100000 in
set_option maxHeartbeats 2000000 in
theorem f_lumref_Kraft_ok (fu : Nat) (v0_0 : Value) (a0 : (List Int)) {r : (Int × Int)} (h : f_lumref_Kraft fu a0 = some r) : FnOk Try.prog 128 [v0_0] [(fDat (tyList (tyInt .i64)) [v0_0] a0)] [] (fun (i : Unit) => { val := (Value.tuple #[(int .i64 r.1), (int .i64 r.2)]) }) := by
 unfold f_lumref_Kraft at h
 refine fn_enter Try.func128 rfl Try.ntmps128 rfl (fun w0 Z0 => ?_)
 refine aw_sr ?_
 refine al_as rfl rfl ?_
 refine al_as rfl rfl ?_
 refine al_nt ?_
 refine aw_seq ?_
 obtain ⟨kk2, hkk2, h⟩ := lt_some h
 refine aw_seq_join (ι := Bool) (fun i => (memOf w0 Z0 [] [] [(fDat (tyList (tyInt .i64)) [v0_0] a0)])) (fun i => (tab [(0, v0_0), (15, (bool i))])) (fun i => kk2 i = some r) ?_ ?_
 ·rintro j1b15 h
  have h : kk2 j1b15 = some r := h
  rw [hkk2] at h
  dsimp only at h
  clear hkk2
  refine aw_show (m := (memOf w0 Z0 [] [] [(fDat (tyList (tyInt .i64)) [v0_0] a0)])) (S := (tab [(0, v0_0), (15, (bool j1b15))])) ?_
  refine aw_cond rfl (fun hb3 => ?_) (fun hb3 => ?_)
  ·replace h := bif_t hb3 h
   refine aw_sr ?_
   refine al_as rfl rfl ?_
   refine al_as rfl rfl ?_
   refine al_nt ?_
   refine aw_ret ?_
   refine aq_then_ret ?_
   obtain rfl := Option.some.inj h
   exact fn_ret () [] [] rfl rfl rfl rfl (res2 rfl rfl rfl) rfl rfl rfl (by decide)
  ·replace h := bif_f hb3 h
   refine aw_skip ?_
   refine aq_tr ?_
   refine al_as rfl rfl ?_
   refine al_nt ?_
   obtain ⟨kk5, hkk5, h⟩ := lt_some h
   refine aw_seq_join (ι := Int) (fun i => (memOf w0 Z0 [] [] [(fDat (tyList (tyInt .i64)) [v0_0] a0)])) (fun i => (tab [(4, (int .i64 i))])) (fun i => kk5 i = some r) ?_ ?_
   ·rintro j4i4 h
    have h : kk5 j4i4 = some r := h
    rw [hkk5] at h
    dsimp only at h
    clear hkk5
    refine aw_show (m := (memOf w0 Z0 [] [] [(fDat (tyList (tyInt .i64)) [v0_0] a0)])) (S := (tab [(4, (int .i64 j4i4))])) ?_
    refine aw_sr ?_
    refine al_mv rfl rfl ?_
    refine al_as rfl rfl ?_
    refine al_as rfl rfl ?_
    refine al_nt ?_
    refine aw_ret ?_
    obtain rfl := Option.some.inj h
    exact fn_ret () [] [] rfl rfl rfl rfl (res2 rfl rfl rfl) rfl rfl rfl (by decide)
   ·clear hkk5
    refine aw_sr ?_
    refine al_mv rfl rfl ?_
    refine al_val (ov_lenD 0 rfl rfl Try.underlying34 rfl) ?_
    refine al_mv rfl rfl ?_
    refine al_nt ?_
    refine aw_block ?_
    refine aw_state (aw_loop (ι := Int × Int) (fun i => (memOf w0 Z0 [] [] [(fDat (tyList (tyInt .i64)) [v0_0] a0)])) (fun i => (tab [(4, (int .i64 i.1)), (16, v0_0), (17, (int .i64 (a0.length : Int))), (18, (int .i64 i.2))])) (fun q i => f_lumref_Kraft_L8 a0 kk5 fu q i.1 i.2 = some r) ?_ fu ((0 : Int), (0 : Int)) h) (fun w a hm hs => norm hm hs [] [0] [(4, (int .i64 (0 : Int))), (16, v0_0), (17, (int .i64 (a0.length : Int))), (18, (int .i64 (0 : Int)))] (by decide) ⟨rfl, rfl, rfl, rfl, trivial⟩)
    clear h
    rintro k7 ⟨l6i4, l6i18⟩ h
    have h : f_lumref_Kraft_L8 a0 kk5 fu k7 l6i4 l6i18 = some r := h
    obtain _ | k7 := k7
    · rw [f_lumref_Kraft_L8] at h; cases h
    rw [f_lumref_Kraft_L8] at h
    refine aw_show (m := (memOf w0 Z0 [] [] [(fDat (tyList (tyInt .i64)) [v0_0] a0)])) (S := (tab [(4, (int .i64 l6i4)), (16, v0_0), (17, (int .i64 (a0.length : Int))), (18, (int .i64 l6i18))])) ?_
    obtain ⟨kk9, hkk9, h⟩ := lt_some h
    refine aw_body_join (ι := Int × Int) (fun i => (memOf w0 Z0 [] [] [(fDat (tyList (tyInt .i64)) [v0_0] a0)])) (fun i => (tab [(4, (int .i64 i.1)), (16, v0_0), (17, (int .i64 (a0.length : Int))), (18, (int .i64 i.2))])) (fun i => kk9 i.1 i.2 = some r) (fun i h => aq_again k7 i (Nat.lt_succ_self _) (by rw [hkk9] at h; exact h) (fun w a hm hs => ⟨hm, hs⟩)) ?_
    clear hkk9
    refine aw_sr ?_
    refine al_in rfl rfl rfl rfl ?_
    refine al_nt ?_
    refine aw_seq ?_
    refine aw_cond rfl (fun hb10 => ?_) (fun hb10 => ?_)
    ·replace h := bif_t hb10 h
     refine aw_skip ?_
     refine aq_then ?_
     obtain ⟨kk12, hkk12, h⟩ := lt_some h
     refine aw_seq_join (ι := Int) (fun i => (memOf w0 Z0 [] [] [(fDat (tyList (tyInt .i64)) [v0_0] a0)])) (fun i => (tab [(4, (int .i64 i)), (16, v0_0), (17, (int .i64 (a0.length : Int))), (18, (int .i64 l6i18))])) (fun i => kk12 i = some r) ?_ ?_
     ·rintro j11i4 h
      have h : kk12 j11i4 = some r := h
      rw [hkk12] at h
      dsimp only at h
      clear hkk12
      refine aw_show (m := (memOf w0 Z0 [] [] [(fDat (tyList (tyInt .i64)) [v0_0] a0)])) (S := (tab [(4, (int .i64 j11i4)), (16, v0_0), (17, (int .i64 (a0.length : Int))), (18, (int .i64 l6i18))])) ?_
      refine aw_region ?_
      refine al_in rfl rfl rfl rfl ?_
      refine al_mv rfl rfl ?_
      refine al_nil ?_
      exact aq_join (j11i4, (IntKind.i64.wrap (l6i18 + (1 : Int)))) h (fun w a hm hs => norm hm hs [] [0] [(4, (int .i64 j11i4)), (16, v0_0), (17, (int .i64 (a0.length : Int))), (18, (int .i64 (IntKind.i64.wrap (l6i18 + (1 : Int)))))] (by decide) ⟨rfl, rfl, rfl, rfl, trivial⟩)
     ·clear hkk12
      refine aw_block ?_
      refine aw_sr ?_
      obtain ⟨u13, hu14, h⟩ := opt_some h
      refine al_idxD 0 hu14 rfl rfl rfl Try.underlying34 sz3 rfl (fun p15 => ?_)
      refine al_val (ov_loadP (ds := [(int .i64 u13)]) 0 rfl (fun h => h) rfl Try.underlying3 sz3 rfl rfl rfl) ?_
      refine al_as rfl rfl ?_
      refine al_nt ?_
      refine aw_seq ?_
      obtain ⟨kk17, hkk17, h⟩ := lt_some h
      refine aw_seq_join (ι := Bool) (fun i => (memOf w0 Z0 [] [] [(fDat (tyList (tyInt .i64)) [v0_0] a0), (fPtr (tyInt .i64) p15 u13)])) (fun i => (tab [(4, (int .i64 l6i4)), (6, (int .i64 u13)), (16, v0_0), (17, (int .i64 (a0.length : Int))), (18, (int .i64 l6i18)), (27, (bool i))])) (fun i => kk17 i = some r) ?_ ?_
      ·rintro j16b27 h
       have h : kk17 j16b27 = some r := h
       rw [hkk17] at h
       dsimp only at h
       clear hkk17
       refine aw_show (m := (memOf w0 Z0 [] [] [(fDat (tyList (tyInt .i64)) [v0_0] a0), (fPtr (tyInt .i64) p15 u13)])) (S := (tab [(4, (int .i64 l6i4)), (6, (int .i64 u13)), (16, v0_0), (17, (int .i64 (a0.length : Int))), (18, (int .i64 l6i18)), (27, (bool j16b27))])) ?_
       refine aw_cond rfl (fun hb18 => ?_) (fun hb18 => ?_)
       ·replace h := bif_t hb18 h
        refine aw_sr ?_
        refine al_as rfl rfl ?_
        refine al_as rfl rfl ?_
        refine al_nt ?_
        refine aw_ret ?_
        refine aq_then_ret ?_
        refine aq_block_ret ?_
        refine aq_then_ret ?_
        refine aq_then_ret ?_
        refine aq_block_ret ?_
        refine aq_then_ret ?_
        obtain rfl := Option.some.inj h
        exact fn_ret () [] [] rfl rfl rfl rfl (res2 rfl rfl rfl) rfl rfl rfl (by decide)
       ·replace h := bif_f hb18 h
        refine aw_skip ?_
        refine aq_tr ?_
        refine al_as rfl rfl ?_
        refine al_nt ?_
        obtain ⟨kk20, hkk20, h⟩ := lt_some h
        refine aw_seq_join (ι := Int) (fun i => (memOf w0 Z0 [] [] [(fDat (tyList (tyInt .i64)) [v0_0] a0), (fPtr (tyInt .i64) p15 u13)])) (fun i => (tab [(4, (int .i64 l6i4)), (6, (int .i64 u13)), (7, (int .i64 i)), (16, v0_0), (17, (int .i64 (a0.length : Int))), (18, (int .i64 l6i18))])) (fun i => kk20 i = some r) ?_ ?_
        ·rintro j19i7 h
         have h : kk20 j19i7 = some r := h
         rw [hkk20] at h
         dsimp only at h
         clear hkk20
         refine aw_show (m := (memOf w0 Z0 [] [] [(fDat (tyList (tyInt .i64)) [v0_0] a0), (fPtr (tyInt .i64) p15 u13)])) (S := (tab [(4, (int .i64 l6i4)), (6, (int .i64 u13)), (7, (int .i64 j19i7)), (16, v0_0), (17, (int .i64 (a0.length : Int))), (18, (int .i64 l6i18))])) ?_
         refine aw_sr ?_
         refine al_mv rfl rfl ?_
         refine al_in rfl rfl rfl rfl ?_
         refine al_nt ?_
         refine aw_cond rfl (fun hb21 => ?_) (fun hb21 => ?_)
         ·replace h := bif_t hb21 h
          refine aw_region ?_
          refine al_mv rfl rfl ?_
          refine al_mv rfl rfl ?_
          refine al_in rfl rfl rfl rfl ?_
          refine al_as rfl rfl ?_
          refine al_nil ?_
          refine aq_block ?_
          exact aq_join (IntKind.i64.wrap (l6i4 + j19i7)) h (fun w a hm hs => norm hm hs [] [0] [(4, (int .i64 (IntKind.i64.wrap (l6i4 + j19i7)))), (16, v0_0), (17, (int .i64 (a0.length : Int))), (18, (int .i64 l6i18))] (by decide) ⟨rfl, rfl, rfl, rfl, trivial⟩)
         ·replace h := bif_f hb21 h
          refine aw_skip ?_
          refine aq_block ?_
          exact aq_join l6i4 h (fun w a hm hs => norm hm hs [] [0] [(4, (int .i64 l6i4)), (16, v0_0), (17, (int .i64 (a0.length : Int))), (18, (int .i64 l6i18))] (by decide) ⟨rfl, rfl, rfl, rfl, trivial⟩)
        ·clear hkk20
         refine aw_sr ?_
         refine al_mv rfl rfl ?_
         refine al_in rfl rfl rfl rfl ?_
         refine al_mv rfl rfl ?_
         refine al_nt ?_
         refine aw_block ?_
         refine aw_state (aw_loop (ι := Int × Int) (fun i => (memOf w0 Z0 [] [] [(fDat (tyList (tyInt .i64)) [v0_0] a0), (fPtr (tyInt .i64) p15 u13)])) (fun i => (tab [(4, (int .i64 l6i4)), (6, (int .i64 u13)), (7, (int .i64 i.1)), (16, v0_0), (17, (int .i64 (a0.length : Int))), (18, (int .i64 l6i18)), (29, (int .i64 (IntKind.i64.wrap ((48 : Int) - u13)))), (30, (int .i64 i.2))])) (fun q i => f_lumref_Kraft_L24 u13 kk20 q i.1 i.2 = some r) ?_ fu ((1 : Int), (0 : Int)) h) (fun w a hm hs => norm hm hs [] [0, 1] [(4, (int .i64 l6i4)), (6, (int .i64 u13)), (7, (int .i64 (1 : Int))), (16, v0_0), (17, (int .i64 (a0.length : Int))), (18, (int .i64 l6i18)), (29, (int .i64 (IntKind.i64.wrap ((48 : Int) - u13)))), (30, (int .i64 (0 : Int)))] (by decide) ⟨rfl, rfl, rfl, rfl, rfl, rfl, rfl, rfl, trivial⟩)
         clear h
         rintro k23 ⟨l22i7, l22i30⟩ h
         have h : f_lumref_Kraft_L24 u13 kk20 k23 l22i7 l22i30 = some r := h
         obtain _ | k23 := k23
         · rw [f_lumref_Kraft_L24] at h; cases h
         rw [f_lumref_Kraft_L24] at h
         refine aw_show (m := (memOf w0 Z0 [] [] [(fDat (tyList (tyInt .i64)) [v0_0] a0), (fPtr (tyInt .i64) p15 u13)])) (S := (tab [(4, (int .i64 l6i4)), (6, (int .i64 u13)), (7, (int .i64 l22i7)), (16, v0_0), (17, (int .i64 (a0.length : Int))), (18, (int .i64 l6i18)), (29, (int .i64 (IntKind.i64.wrap ((48 : Int) - u13)))), (30, (int .i64 l22i30))])) ?_
         refine aw_sr ?_
         refine al_in rfl rfl rfl rfl ?_
         refine al_nt ?_
         refine aw_seq ?_
         refine aw_cond rfl (fun hb25 => ?_) (fun hb25 => ?_)
         ·replace h := bif_t hb25 h
          refine aw_skip ?_
          refine aq_then ?_
          refine aw_seq ?_
          refine aw_block ?_
          refine aw_region ?_
          refine al_mv rfl rfl ?_
          refine al_in rfl rfl rfl rfl ?_
          refine al_as rfl rfl ?_
          refine al_nil ?_
          refine aq_block ?_
          refine aq_then ?_
          refine aw_region ?_
          refine al_in rfl rfl rfl rfl ?_
          refine al_mv rfl rfl ?_
          refine al_nil ?_
          exact aq_again k23 ((IntKind.i64.wrap (l22i7 * (2 : Int))), (IntKind.i64.wrap (l22i30 + (1 : Int)))) (Nat.lt_succ_self _) h (fun w a hm hs => norm hm hs [] [0, 1] [(4, (int .i64 l6i4)), (6, (int .i64 u13)), (7, (int .i64 (IntKind.i64.wrap (l22i7 * (2 : Int))))), (16, v0_0), (17, (int .i64 (a0.length : Int))), (18, (int .i64 l6i18)), (29, (int .i64 (IntKind.i64.wrap ((48 : Int) - u13)))), (30, (int .i64 (IntKind.i64.wrap (l22i30 + (1 : Int)))))] (by decide) ⟨rfl, rfl, rfl, rfl, rfl, rfl, rfl, rfl, trivial⟩)
         ·replace h := bif_f hb25 h
          refine aw_exit ?_
          refine aq_then_exit ?_
          refine aq_then_exit ?_
          refine aq_block_exit ?_
          exact aq_join l22i7 h (fun w a hm hs => norm hm hs [] [0, 1] [(4, (int .i64 l6i4)), (6, (int .i64 u13)), (7, (int .i64 l22i7)), (16, v0_0), (17, (int .i64 (a0.length : Int))), (18, (int .i64 l6i18))] (by decide) ⟨rfl, rfl, rfl, rfl, rfl, rfl, trivial⟩)
      ·clear hkk17
       refine aw_region ?_
       refine al_mv rfl rfl ?_
       refine al_in rfl rfl rfl rfl ?_
       refine al_mv rfl rfl ?_
       refine al_caseB 24 rfl (fun hb26 => ?_) (fun hb26 => ?_)
       ·replace h := bif_t hb26 h
        refine al_skip ?_
        refine al_skip ?_
        refine al_val (ov_pick_t rfl rfl rfl) ?_
        refine al_nil ?_
        exact aq_join true h (fun w a hm hs => norm hm hs [] [1, 0] [(4, (int .i64 l6i4)), (6, (int .i64 u13)), (16, v0_0), (17, (int .i64 (a0.length : Int))), (18, (int .i64 l6i18)), (27, (bool true))] (by decide) ⟨rfl, rfl, rfl, rfl, rfl, rfl, trivial⟩)
       ·replace h := bif_f hb26 h
        refine al_mv rfl rfl ?_
        refine al_in rfl rfl rfl rfl ?_
        refine al_val (ov_pick_f rfl rfl rfl) ?_
        refine al_nil ?_
        exact aq_join (decide (u13 > (48 : Int))) h (fun w a hm hs => norm hm hs [] [1, 0] [(4, (int .i64 l6i4)), (6, (int .i64 u13)), (16, v0_0), (17, (int .i64 (a0.length : Int))), (18, (int .i64 l6i18)), (27, (bool (decide (u13 > (48 : Int)))))] (by decide) ⟨rfl, rfl, rfl, rfl, rfl, rfl, trivial⟩)
    ·replace h := bif_f hb10 h
     refine aw_exit ?_
     refine aq_then_exit ?_
     refine aq_then_exit ?_
     refine aq_block_exit ?_
     exact aq_join l6i4 h (fun w a hm hs => norm hm hs [] [0] [(4, (int .i64 l6i4))] (by decide) ⟨rfl, trivial⟩)
 ·clear hkk2
  refine aw_region ?_
  refine al_mv rfl rfl ?_
  refine al_val (ov_lenD 0 rfl rfl Try.underlying34 rfl) ?_
  refine al_in rfl rfl rfl rfl ?_
  refine al_mv rfl rfl ?_
  refine al_caseB 11 rfl (fun hb27 => ?_) (fun hb27 => ?_)
  ·replace h := bif_t hb27 h
   refine al_skip ?_
   refine al_skip ?_
   refine al_skip ?_
   refine al_val (ov_pick_t rfl rfl rfl) ?_
   refine al_nil ?_
   exact aq_join true h (fun w a hm hs => norm hm hs [] [0] [(0, v0_0), (15, (bool true))] (by decide) ⟨rfl, rfl, trivial⟩)
  ·replace h := bif_f hb27 h
   refine al_mv rfl rfl ?_
   refine al_val (ov_lenD 0 rfl rfl Try.underlying34 rfl) ?_
   refine al_in rfl rfl rfl rfl ?_
   refine al_val (ov_pick_f rfl rfl rfl) ?_
   refine al_nil ?_
   exact aq_join (decide ((a0.length : Int) > (256 : Int))) h (fun w a hm hs => norm hm hs [] [0] [(0, v0_0), (15, (bool (decide ((a0.length : Int) > (256 : Int)))))] (by decide) ⟨rfl, rfl, trivial⟩)
def f_lumref_Codes_L21 (a0 : (List Int)) (l9i26 : Int) (kk15 : ((List Int) → Option ((List Int) × Int))) (u16 : Int) : Nat → (List Int) → Int → Option ((List Int) × Int)
  | 0, _, _ => none
  | k20 + 1, l19x6, l19i33 => (bif (decide (l19i33 < (a0.length : Int))) then (lt (fun (j23x6 : (List Int)) => (f_lumref_Codes_L21 a0 l9i26 kk15 u16 k20 j23x6 (IntKind.i64.wrap (l19i33 + (1 : Int))))) fun (kk24 : (List Int) → Option ((List Int) × Int)) => (opt (at? a0 l19i33) fun (u25 : Int) => (lt (fun (j28b58 : Bool) => (bif j28b58 then (opt (at? l19x6 l9i26) fun (u31 : Int) => (req (0 ≤ (IntKind.i64.wrap (u16 - u25))) (opt (at? l19x6 l9i26) fun (u36 : Int) => (kk24 (l19x6.set (l9i26).toNat (IntKind.i64.wrap (u31 + (IntKind.i64.wrap ((1 : Int) * 2 ^ min ((IntKind.i64.wrap (u16 - u25))).toNat (IntKind.bits .i64)))))))))) else (kk24 l19x6))) fun (kk29 : Bool → Option ((List Int) × Int)) => (bif (decide (u16 > (0 : Int))) then (bif (decide (u25 > (0 : Int))) then (bif (decide (u25 < u16)) then (kk29 true) else (bif (u25 == u16) then (kk29 (decide (l19i33 < l9i26))) else (kk29 false))) else (kk29 false)) else (kk29 false))))) else (kk15 l19x6))
def f_lumref_Codes_L11 (a0 : (List Int)) (kk8 : ((List Int) → Option ((List Int) × Int))) (fu : Nat) : Nat → (List Int) → Int → Option ((List Int) × Int)
  | 0, _, _ => none
  | k10 + 1, l9x6, l9i26 => (lt (fun (l9x6 : (List Int)) (l9i26 : Int) => (f_lumref_Codes_L11 a0 kk8 fu k10 l9x6 l9i26)) fun (kk12 : (List Int) → Int → Option ((List Int) × Int)) => (bif (decide (l9i26 < (a0.length : Int))) then (lt (fun (j14x6 : (List Int)) => (kk12 j14x6 (IntKind.i64.wrap (l9i26 + (1 : Int))))) fun (kk15 : (List Int) → Option ((List Int) × Int)) => (opt (at? a0 l9i26) fun (u16 : Int) => (f_lumref_Codes_L21 a0 l9i26 kk15 u16 fu l9x6 (0 : Int)))) else (kk8 l9x6)))
def f_lumref_Codes (fu : Nat) (a0 : (List Int)) : Option ((List Int) × Int) := (opt (f_lumref_Kraft fu a0) fun (r2 : (Int × Int)) => (bif (r2.2 != (0 : Int)) then (some (([] : List Int), r2.2)) else (bif (decide (r2.1 > (281474976710656 : Int))) then (some (([] : List Int), (4 : Int))) else (req (0 ≤ (a0.length : Int) ∧ 8 * (a0.length : Int) ≤ 281474976710656 ∧ (a0.length : Int) ≤ 9223372036854775807) (lt (fun (j7x6 : (List Int)) => (some (j7x6, (0 : Int)))) fun (kk8 : (List Int) → Option ((List Int) × Int)) => (f_lumref_Codes_L11 a0 kk8 fu fu (List.replicate ((a0.length : Int)).toNat 0) (0 : Int)))))))
set_option maxRecDepth 100000 in
set_option maxHeartbeats 2000000 in
theorem f_lumref_Codes_ok (fu : Nat) (v0_0 : Value) (a0 : (List Int)) {r : ((List Int) × Int)} (h : f_lumref_Codes fu a0 = some r) : FnOk Try.prog 73 [v0_0] [(fDat (tyList (tyInt .i64)) [v0_0] a0)] [] (fun (i : Value) => { val := (Value.tuple #[i, (int .i64 r.2)]), own := [(oRow i 3 (tyInt .i64) r.1)] }) := by
 unfold f_lumref_Codes at h
 refine fn_enter Try.func73 rfl Try.ntmps73 rfl (fun w0 Z0 => ?_)
 refine aw_sr ?_
 refine al_as rfl rfl ?_
 refine al_as rfl rfl ?_
 refine al_nt ?_
 refine aw_sr ?_
 refine al_mv rfl rfl ?_
 obtain ⟨r2, hc1, h⟩ := opt_some h
 refine al_call (vs := [v0_0]) (f_lumref_Kraft_ok fu v0_0 a0 hc1) [] [] [] (pre_fz 0 rfl pre_nil) rfl (by simp) (by decide) (.inl rfl) rfl Try.func128 rfl rfl rfl (fun _ => ?_)
 refine al_mv rfl rfl ?_
 refine al_ex rfl rfl rfl ?_
 refine al_ex rfl rfl rfl ?_
 refine al_as rfl rfl ?_
 refine al_as rfl rfl ?_
 refine al_nt ?_
 refine aw_seq ?_
 refine aw_sr ?_
 refine al_mv rfl rfl ?_
 refine al_in rfl rfl rfl rfl ?_
 refine al_nt ?_
 refine aw_cond rfl (fun hb3 => ?_) (fun hb3 => ?_)
 ·replace h := bif_t hb3 h
  refine aw_sr ?_
  refine al_mv rfl rfl ?_
  refine al_as rfl rfl ?_
  refine al_as rfl rfl ?_
  refine al_nt ?_
  refine aw_ret ?_
  refine aq_then_ret ?_
  refine aq_nilR 3 (tyInt .i64) ?_
  obtain rfl := Option.some.inj h
  exact fn_ret (Value.slice none 0 0) [0] [] rfl rfl rfl rfl (res2 rfl rfl rfl) rfl rfl rfl (by decide)
 ·replace h := bif_f hb3 h
  refine aw_skip ?_
  refine aq_then ?_
  refine aw_seq ?_
  refine aw_sr ?_
  refine al_mv rfl rfl ?_
  refine al_in rfl rfl rfl rfl ?_
  refine al_nt ?_
  refine aw_cond rfl (fun hb4 => ?_) (fun hb4 => ?_)
  ·replace h := bif_t hb4 h
   refine aw_sr ?_
   refine al_as rfl rfl ?_
   refine al_as rfl rfl ?_
   refine al_nt ?_
   refine aw_ret ?_
   refine aq_then_ret ?_
   refine aq_nilR 3 (tyInt .i64) ?_
   obtain rfl := Option.some.inj h
   exact fn_ret (Value.slice none 0 0) [0] [] rfl rfl rfl rfl (res2 rfl rfl rfl) rfl rfl rfl (by decide)
  ·replace h := bif_f hb4 h
   refine aw_skip ?_
   refine aq_tr ?_
   refine al_mv rfl rfl ?_
   refine al_val (ov_lenD 0 rfl rfl Try.underlying34 rfl) ?_
   obtain ⟨hc5, h⟩ := req_some h
   refine al_make (τ := (tyInt .i64)) (x0 := 0) hc5.1 hc5.2.1 hc5.2.2 rfl rfl Try.underlying34 to3 (fun _ _ => rfl) rfl rfl (fun v6 => ?_)
   refine al_as rfl rfl ?_
   refine al_nt ?_
   obtain ⟨kk8, hkk8, h⟩ := lt_some h
   refine aw_seq_join (ι := (List Int)) (fun i => (memOf w0 Z0 [] [(oRow v6 3 (tyInt .i64) i)] [(fDat (tyList (tyInt .i64)) [v0_0] a0)])) (fun i => (tab [(6, v6)])) (fun i => kk8 i = some r) ?_ ?_
   ·rintro j7x6 h
    have h : kk8 j7x6 = some r := h
    rw [hkk8] at h
    dsimp only at h
    clear hkk8
    refine aw_show (m := (memOf w0 Z0 [] [(oRow v6 3 (tyInt .i64) j7x6)] [(fDat (tyList (tyInt .i64)) [v0_0] a0)])) (S := (tab [(6, v6)])) ?_
    refine aw_sr ?_
    refine al_mv rfl rfl ?_
    refine al_as rfl rfl ?_
    refine al_as rfl rfl ?_
    refine al_nt ?_
    refine aw_ret ?_
    obtain rfl := Option.some.inj h
    exact fn_ret v6 [0] [] rfl rfl rfl rfl (res2 rfl rfl rfl) rfl rfl rfl (by decide)
   ·clear hkk8
    refine aw_sr ?_
    refine al_mv rfl rfl ?_
    refine al_val (ov_lenD 0 rfl rfl Try.underlying34 rfl) ?_
    refine al_mv rfl rfl ?_
    refine al_nt ?_
    refine aw_block ?_
    refine aw_state (aw_loop (ι := (List Int) × Int) (fun i => (memOf w0 Z0 [] [(oRow v6 3 (tyInt .i64) i.1)] [(fDat (tyList (tyInt .i64)) [v0_0] a0)])) (fun i => (tab [(0, v0_0), (6, v6), (24, v0_0), (25, (int .i64 (a0.length : Int))), (26, (int .i64 i.2))])) (fun q i => f_lumref_Codes_L11 a0 kk8 fu q i.1 i.2 = some r) ?_ fu ((List.replicate ((a0.length : Int)).toNat 0), (0 : Int)) h) (fun w a hm hs => norm hm hs [0] [0] [(0, v0_0), (6, v6), (24, v0_0), (25, (int .i64 (a0.length : Int))), (26, (int .i64 (0 : Int)))] (by decide) ⟨rfl, rfl, rfl, rfl, rfl, trivial⟩)
    clear h
    rintro k10 ⟨l9x6, l9i26⟩ h
    have h : f_lumref_Codes_L11 a0 kk8 fu k10 l9x6 l9i26 = some r := h
    obtain _ | k10 := k10
    · rw [f_lumref_Codes_L11] at h; cases h
    rw [f_lumref_Codes_L11] at h
    refine aw_show (m := (memOf w0 Z0 [] [(oRow v6 3 (tyInt .i64) l9x6)] [(fDat (tyList (tyInt .i64)) [v0_0] a0)])) (S := (tab [(0, v0_0), (6, v6), (24, v0_0), (25, (int .i64 (a0.length : Int))), (26, (int .i64 l9i26))])) ?_
    obtain ⟨kk12, hkk12, h⟩ := lt_some h
    refine aw_body_join (ι := (List Int) × Int) (fun i => (memOf w0 Z0 [] [(oRow v6 3 (tyInt .i64) i.1)] [(fDat (tyList (tyInt .i64)) [v0_0] a0)])) (fun i => (tab [(0, v0_0), (6, v6), (24, v0_0), (25, (int .i64 (a0.length : Int))), (26, (int .i64 i.2))])) (fun i => kk12 i.1 i.2 = some r) (fun i h => aq_again k10 i (Nat.lt_succ_self _) (by rw [hkk12] at h; exact h) (fun w a hm hs => ⟨hm, hs⟩)) ?_
    clear hkk12
    refine aw_sr ?_
    refine al_in rfl rfl rfl rfl ?_
    refine al_nt ?_
    refine aw_seq ?_
    refine aw_cond rfl (fun hb13 => ?_) (fun hb13 => ?_)
    ·replace h := bif_t hb13 h
     refine aw_skip ?_
     refine aq_then ?_
     obtain ⟨kk15, hkk15, h⟩ := lt_some h
     refine aw_seq_join (ι := (List Int)) (fun i => (memOf w0 Z0 [] [(oRow v6 3 (tyInt .i64) i)] [(fDat (tyList (tyInt .i64)) [v0_0] a0)])) (fun i => (tab [(0, v0_0), (6, v6), (24, v0_0), (25, (int .i64 (a0.length : Int))), (26, (int .i64 l9i26))])) (fun i => kk15 i = some r) ?_ ?_
     ·rintro j14x6 h
      have h : kk15 j14x6 = some r := h
      rw [hkk15] at h
      dsimp only at h
      clear hkk15
      refine aw_show (m := (memOf w0 Z0 [] [(oRow v6 3 (tyInt .i64) j14x6)] [(fDat (tyList (tyInt .i64)) [v0_0] a0)])) (S := (tab [(0, v0_0), (6, v6), (24, v0_0), (25, (int .i64 (a0.length : Int))), (26, (int .i64 l9i26))])) ?_
      refine aw_region ?_
      refine al_in rfl rfl rfl rfl ?_
      refine al_mv rfl rfl ?_
      refine al_nil ?_
      exact aq_join (j14x6, (IntKind.i64.wrap (l9i26 + (1 : Int)))) h (fun w a hm hs => norm hm hs [0] [0] [(0, v0_0), (6, v6), (24, v0_0), (25, (int .i64 (a0.length : Int))), (26, (int .i64 (IntKind.i64.wrap (l9i26 + (1 : Int)))))] (by decide) ⟨rfl, rfl, rfl, rfl, rfl, trivial⟩)
     ·clear hkk15
      refine aw_block ?_
      refine aw_sr ?_
      refine al_mv rfl rfl ?_
      obtain ⟨u16, hu17, h⟩ := opt_some h
      refine al_idxD 0 hu17 rfl rfl rfl Try.underlying34 sz3 rfl (fun p18 => ?_)
      refine al_val (ov_loadP (ds := [(int .i64 u16)]) 0 rfl (fun h => h) rfl Try.underlying3 sz3 rfl rfl rfl) ?_
      refine al_as rfl rfl ?_
      refine al_as rfl rfl ?_
      refine al_nt ?_
      refine aw_sr ?_
      refine al_mv rfl rfl ?_
      refine al_val (ov_lenD 1 rfl rfl Try.underlying34 rfl) ?_
      refine al_mv rfl rfl ?_
      refine al_nt ?_
      refine aw_block ?_
      refine aw_state (aw_loop (ι := (List Int) × Int) (fun i => (memOf w0 Z0 [] [(oRow v6 3 (tyInt .i64) i.1)] [(fDat (tyList (tyInt .i64)) [v0_0] a0), (fPtr (tyInt .i64) p18 u16)])) (fun i => (tab [(0, v0_0), (6, v6), (7, (int .i64 l9i26)), (8, (int .i64 u16)), (24, v0_0), (25, (int .i64 (a0.length : Int))), (26, (int .i64 l9i26)), (31, v0_0), (32, (int .i64 (a0.length : Int))), (33, (int .i64 i.2))])) (fun q i => f_lumref_Codes_L21 a0 l9i26 kk15 u16 q i.1 i.2 = some r) ?_ fu (l9x6, (0 : Int)) h) (fun w a hm hs => norm hm hs [0] [1, 0] [(0, v0_0), (6, v6), (7, (int .i64 l9i26)), (8, (int .i64 u16)), (24, v0_0), (25, (int .i64 (a0.length : Int))), (26, (int .i64 l9i26)), (31, v0_0), (32, (int .i64 (a0.length : Int))), (33, (int .i64 (0 : Int)))] (by decide) ⟨rfl, rfl, rfl, rfl, rfl, rfl, rfl, rfl, rfl, rfl, trivial⟩)
      clear h
      rintro k20 ⟨l19x6, l19i33⟩ h
      have h : f_lumref_Codes_L21 a0 l9i26 kk15 u16 k20 l19x6 l19i33 = some r := h
      obtain _ | k20 := k20
      · rw [f_lumref_Codes_L21] at h; cases h
      rw [f_lumref_Codes_L21] at h
      refine aw_show (m := (memOf w0 Z0 [] [(oRow v6 3 (tyInt .i64) l19x6)] [(fDat (tyList (tyInt .i64)) [v0_0] a0), (fPtr (tyInt .i64) p18 u16)])) (S := (tab [(0, v0_0), (6, v6), (7, (int .i64 l9i26)), (8, (int .i64 u16)), (24, v0_0), (25, (int .i64 (a0.length : Int))), (26, (int .i64 l9i26)), (31, v0_0), (32, (int .i64 (a0.length : Int))), (33, (int .i64 l19i33))])) ?_
      refine aw_sr ?_
      refine al_in rfl rfl rfl rfl ?_
      refine al_nt ?_
      refine aw_seq ?_
      refine aw_cond rfl (fun hb22 => ?_) (fun hb22 => ?_)
      ·replace h := bif_t hb22 h
       refine aw_skip ?_
       refine aq_then ?_
       obtain ⟨kk24, hkk24, h⟩ := lt_some h
       refine aw_seq_join (ι := (List Int)) (fun i => (memOf w0 Z0 [] [(oRow v6 3 (tyInt .i64) i)] [(fDat (tyList (tyInt .i64)) [v0_0] a0), (fPtr (tyInt .i64) p18 u16)])) (fun i => (tab [(0, v0_0), (6, v6), (7, (int .i64 l9i26)), (8, (int .i64 u16)), (24, v0_0), (25, (int .i64 (a0.length : Int))), (26, (int .i64 l9i26)), (31, v0_0), (32, (int .i64 (a0.length : Int))), (33, (int .i64 l19i33))])) (fun i => kk24 i = some r) ?_ ?_
       ·rintro j23x6 h
        have h : kk24 j23x6 = some r := h
        rw [hkk24] at h
        dsimp only at h
        clear hkk24
        refine aw_show (m := (memOf w0 Z0 [] [(oRow v6 3 (tyInt .i64) j23x6)] [(fDat (tyList (tyInt .i64)) [v0_0] a0), (fPtr (tyInt .i64) p18 u16)])) (S := (tab [(0, v0_0), (6, v6), (7, (int .i64 l9i26)), (8, (int .i64 u16)), (24, v0_0), (25, (int .i64 (a0.length : Int))), (26, (int .i64 l9i26)), (31, v0_0), (32, (int .i64 (a0.length : Int))), (33, (int .i64 l19i33))])) ?_
        refine aw_region ?_
        refine al_in rfl rfl rfl rfl ?_
        refine al_mv rfl rfl ?_
        refine al_nil ?_
        exact aq_again k20 (j23x6, (IntKind.i64.wrap (l19i33 + (1 : Int)))) (Nat.lt_succ_self _) h (fun w a hm hs => norm hm hs [0] [0, 1] [(0, v0_0), (6, v6), (7, (int .i64 l9i26)), (8, (int .i64 u16)), (24, v0_0), (25, (int .i64 (a0.length : Int))), (26, (int .i64 l9i26)), (31, v0_0), (32, (int .i64 (a0.length : Int))), (33, (int .i64 (IntKind.i64.wrap (l19i33 + (1 : Int)))))] (by decide) ⟨rfl, rfl, rfl, rfl, rfl, rfl, rfl, rfl, rfl, rfl, trivial⟩)
       ·clear hkk24
        refine aw_block ?_
        refine aw_sr ?_
        refine al_mv rfl rfl ?_
        obtain ⟨u25, hu26, h⟩ := opt_some h
        refine al_idxD 0 hu26 rfl rfl rfl Try.underlying34 sz3 rfl (fun p27 => ?_)
        refine al_val (ov_loadP (ds := [(int .i64 u25)]) 0 rfl (fun h => h) rfl Try.underlying3 sz3 rfl rfl rfl) ?_
        refine al_as rfl rfl ?_
        refine al_as rfl rfl ?_
        refine al_nt ?_
        obtain ⟨kk29, hkk29, h⟩ := lt_some h
        refine aw_seq_join (ι := Bool) (fun i => (memOf w0 Z0 [] [(oRow v6 3 (tyInt .i64) l19x6)] [(fDat (tyList (tyInt .i64)) [v0_0] a0), (fPtr (tyInt .i64) p27 u25), (fPtr (tyInt .i64) p18 u16)])) (fun i => (tab [(0, v0_0), (6, v6), (7, (int .i64 l9i26)), (8, (int .i64 u16)), (10, (int .i64 u25)), (24, v0_0), (25, (int .i64 (a0.length : Int))), (26, (int .i64 l9i26)), (31, v0_0), (32, (int .i64 (a0.length : Int))), (33, (int .i64 l19i33)), (58, (bool i))])) (fun i => kk29 i = some r) ?_ ?_
        ·rintro j28b58 h
         have h : kk29 j28b58 = some r := h
         rw [hkk29] at h
         dsimp only at h
         clear hkk29
         refine aw_show (m := (memOf w0 Z0 [] [(oRow v6 3 (tyInt .i64) l19x6)] [(fDat (tyList (tyInt .i64)) [v0_0] a0), (fPtr (tyInt .i64) p27 u25), (fPtr (tyInt .i64) p18 u16)])) (S := (tab [(0, v0_0), (6, v6), (7, (int .i64 l9i26)), (8, (int .i64 u16)), (10, (int .i64 u25)), (24, v0_0), (25, (int .i64 (a0.length : Int))), (26, (int .i64 l9i26)), (31, v0_0), (32, (int .i64 (a0.length : Int))), (33, (int .i64 l19i33)), (58, (bool j28b58))])) ?_
         refine aw_cond rfl (fun hb30 => ?_) (fun hb30 => ?_)
         ·replace h := bif_t hb30 h
          obtain ⟨u31, hu32, h⟩ := opt_some h
          obtain ⟨hc35, h⟩ := req_some h
          obtain ⟨u36, hu37, h⟩ := opt_some h
          refine aw_region_draw 10 [(59, (fun u => fEq u v6)), (60, (fun u => fEq u (int .i64 l9i26))), (61, (fun p => fElt v6 p ((l9i26).toNat * Ty.size (tyInt .i64)))), (62, (fun u => fEq u (int .i64 u31))), (63, (fun u => fEq u (int .i64 u16))), (64, (fun u => fEq u (int .i64 u25))), (65, (fun u => fEq u (int .i64 (IntKind.i64.wrap (u16 - u25))))), (66, (fun u => fEq u (int .i64 (IntKind.i64.wrap ((1 : Int) * 2 ^ min ((IntKind.i64.wrap (u16 - u25))).toNat (IntKind.bits .i64)))))), (67, (fun u => fEq u (int .i64 (IntKind.i64.wrap (u31 + (IntKind.i64.wrap ((1 : Int) * 2 ^ min ((IntKind.i64.wrap (u16 - u25))).toNat (IntKind.bits .i64)))))))), (68, (fun p => fElt v6 p ((l9i26).toNat * Ty.size (tyInt .i64))))] (tab [(0, v0_0), (6, v6), (7, (int .i64 l9i26)), (8, (int .i64 u16)), (10, (int .i64 u25)), (24, v0_0), (25, (int .i64 (a0.length : Int))), (26, (int .i64 l9i26)), (31, v0_0), (32, (int .i64 (a0.length : Int))), (33, (int .i64 l19i33))]) mixed (by kernel_rfl) rfl rfl rfl (fun a hs => hs.tab _ (allT_mem ⟨rfl, rfl, rfl, rfl, rfl, rfl, rfl, rfl, rfl, rfl, rfl, trivial⟩)) ⟨⟨rfl, ld_val (ov_move rfl rfl)⟩, ⟨rfl, ld_val (ov_move rfl rfl)⟩, ⟨rfl, ld_eq (j := 0) rfl rfl (ld_eq (j := 1) rfl rfl (ld_of (of_idxR 0 (at_some hu32).1 (at_some hu32).2.1 rfl rfl rfl Try.underlying34 sz3 rfl)))⟩, ⟨rfl, ld_elt (j := 2) rfl rfl (fun p33 hp34 => ld_val (ov_loadR (ds := [(int .i64 u31)]) 0 rfl hp34 (at_some hu32).2.2 (fun h => h) rfl Try.underlying3 sz3 rfl rfl rfl))⟩, ⟨rfl, ld_val (ov_move rfl rfl)⟩, ⟨rfl, ld_val (ov_move rfl rfl)⟩, ⟨rfl, ld_eq (j := 4) rfl rfl (ld_eq (j := 5) rfl rfl (ld_val (ov_int rfl rfl rfl rfl)))⟩, ⟨rfl, ld_eq (j := 6) rfl rfl (ld_val (ov_shl hc35 rfl rfl rfl))⟩, ⟨rfl, ld_eq (j := 3) rfl rfl (ld_eq (j := 7) rfl rfl (ld_val (ov_int rfl rfl rfl rfl)))⟩, ⟨rfl, ld_eq (j := 0) rfl rfl (ld_eq (j := 1) rfl rfl (ld_of (of_idxR 0 (at_some hu37).1 (at_some hu37).2.1 rfl rfl rfl Try.underlying34 sz3 rfl)))⟩, trivial⟩ ?_
          refine tl_eq 8 rfl ?_
          refine tl_elt 9 rfl (fun p38 hp39 => ?_)
          refine tl_done ?_
          refine al_storeR (k := (l9i26).toNat) (x := (IntKind.i64.wrap (u31 + (IntKind.i64.wrap ((1 : Int) * 2 ^ min ((IntKind.i64.wrap (u16 - u25))).toNat (IntKind.bits .i64)))))) (vs := [(int .i64 (IntKind.i64.wrap (u31 + (IntKind.i64.wrap ((1 : Int) * 2 ^ min ((IntKind.i64.wrap (u16 - u25))).toNat (IntKind.bits .i64))))))]) 0 rfl hp39 (idx_lt hu37) rfl rfl (cv_rfl rfl) (fun _ => rfl) sz3 rfl ?_
          refine al_nil ?_
          refine aq_block ?_
          exact aq_join (l19x6.set (l9i26).toNat (IntKind.i64.wrap (u31 + (IntKind.i64.wrap ((1 : Int) * 2 ^ min ((IntKind.i64.wrap (u16 - u25))).toNat (IntKind.bits .i64)))))) h (fun w a hm hs => norm hm hs [0] [0, 2] [(0, v0_0), (6, v6), (7, (int .i64 l9i26)), (8, (int .i64 u16)), (24, v0_0), (25, (int .i64 (a0.length : Int))), (26, (int .i64 l9i26)), (31, v0_0), (32, (int .i64 (a0.length : Int))), (33, (int .i64 l19i33))] (by decide) ⟨rfl, rfl, rfl, rfl, rfl, rfl, rfl, rfl, rfl, rfl, trivial⟩)
         ·replace h := bif_f hb30 h
          refine aw_skip ?_
          refine aq_block ?_
          exact aq_join l19x6 h (fun w a hm hs => norm hm hs [0] [0, 2] [(0, v0_0), (6, v6), (7, (int .i64 l9i26)), (8, (int .i64 u16)), (24, v0_0), (25, (int .i64 (a0.length : Int))), (26, (int .i64 l9i26)), (31, v0_0), (32, (int .i64 (a0.length : Int))), (33, (int .i64 l19i33))] (by decide) ⟨rfl, rfl, rfl, rfl, rfl, rfl, rfl, rfl, rfl, rfl, trivial⟩)
        ·clear hkk29
         refine aw_region ?_
         refine al_mv rfl rfl ?_
         refine al_in rfl rfl rfl rfl ?_
         refine al_mv rfl rfl ?_
         refine al_caseB 40 rfl (fun hb40 => ?_) (fun hb40 => ?_)
         ·replace h := bif_t hb40 h
          refine al_mv rfl rfl ?_
          refine al_in rfl rfl rfl rfl ?_
          refine al_val (ov_pick_t rfl rfl rfl) ?_
          refine al_mv rfl rfl ?_
          refine al_caseB 44 rfl (fun hb41 => ?_) (fun hb41 => ?_)
          ·replace h := bif_t hb41 h
           refine al_mv rfl rfl ?_
           refine al_mv rfl rfl ?_
           refine al_in rfl rfl rfl rfl ?_
           refine al_mv rfl rfl ?_
           refine al_caseB 48 rfl (fun hb42 => ?_) (fun hb42 => ?_)
           ·replace h := bif_t hb42 h
            refine al_skip ?_
            refine al_skip ?_
            refine al_skip ?_
            refine al_skip ?_
            refine al_skip ?_
            refine al_skip ?_
            refine al_skip ?_
            refine al_skip ?_
            refine al_val (ov_pick_t rfl rfl rfl) ?_
            refine al_val (ov_pick_t rfl rfl rfl) ?_
            refine al_nil ?_
            exact aq_join true h (fun w a hm hs => norm hm hs [0] [1, 0, 2] [(0, v0_0), (6, v6), (7, (int .i64 l9i26)), (8, (int .i64 u16)), (10, (int .i64 u25)), (24, v0_0), (25, (int .i64 (a0.length : Int))), (26, (int .i64 l9i26)), (31, v0_0), (32, (int .i64 (a0.length : Int))), (33, (int .i64 l19i33)), (58, (bool true))] (by decide) ⟨rfl, rfl, rfl, rfl, rfl, rfl, rfl, rfl, rfl, rfl, rfl, rfl, trivial⟩)
           ·replace h := bif_f hb42 h
            refine al_mv rfl rfl ?_
            refine al_mv rfl rfl ?_
            refine al_in rfl rfl rfl rfl ?_
            refine al_mv rfl rfl ?_
            refine al_caseB 52 rfl (fun hb43 => ?_) (fun hb43 => ?_)
            ·replace h := bif_t hb43 h
             refine al_mv rfl rfl ?_
             refine al_mv rfl rfl ?_
             refine al_in rfl rfl rfl rfl ?_
             refine al_val (ov_pick_t rfl rfl rfl) ?_
             refine al_val (ov_pick_f rfl rfl rfl) ?_
             refine al_val (ov_pick_t rfl rfl rfl) ?_
             refine al_nil ?_
             exact aq_join (decide (l19i33 < l9i26)) h (fun w a hm hs => norm hm hs [0] [1, 0, 2] [(0, v0_0), (6, v6), (7, (int .i64 l9i26)), (8, (int .i64 u16)), (10, (int .i64 u25)), (24, v0_0), (25, (int .i64 (a0.length : Int))), (26, (int .i64 l9i26)), (31, v0_0), (32, (int .i64 (a0.length : Int))), (33, (int .i64 l19i33)), (58, (bool (decide (l19i33 < l9i26))))] (by decide) ⟨rfl, rfl, rfl, rfl, rfl, rfl, rfl, rfl, rfl, rfl, rfl, rfl, trivial⟩)
            ·replace h := bif_f hb43 h
             refine al_skip ?_
             refine al_skip ?_
             refine al_skip ?_
             refine al_val (ov_pick_f rfl rfl rfl) ?_
             refine al_val (ov_pick_f rfl rfl rfl) ?_
             refine al_val (ov_pick_t rfl rfl rfl) ?_
             refine al_nil ?_
             exact aq_join false h (fun w a hm hs => norm hm hs [0] [1, 0, 2] [(0, v0_0), (6, v6), (7, (int .i64 l9i26)), (8, (int .i64 u16)), (10, (int .i64 u25)), (24, v0_0), (25, (int .i64 (a0.length : Int))), (26, (int .i64 l9i26)), (31, v0_0), (32, (int .i64 (a0.length : Int))), (33, (int .i64 l19i33)), (58, (bool false))] (by decide) ⟨rfl, rfl, rfl, rfl, rfl, rfl, rfl, rfl, rfl, rfl, rfl, rfl, trivial⟩)
          ·replace h := bif_f hb41 h
           refine al_skip ?_
           refine al_skip ?_
           refine al_skip ?_
           refine al_skip ?_
           refine al_skip ?_
           refine al_skip ?_
           refine al_skip ?_
           refine al_skip ?_
           refine al_skip ?_
           refine al_skip ?_
           refine al_skip ?_
           refine al_skip ?_
           refine al_skip ?_
           refine al_val (ov_pick_f rfl rfl rfl) ?_
           refine al_nil ?_
           exact aq_join false h (fun w a hm hs => norm hm hs [0] [1, 0, 2] [(0, v0_0), (6, v6), (7, (int .i64 l9i26)), (8, (int .i64 u16)), (10, (int .i64 u25)), (24, v0_0), (25, (int .i64 (a0.length : Int))), (26, (int .i64 l9i26)), (31, v0_0), (32, (int .i64 (a0.length : Int))), (33, (int .i64 l19i33)), (58, (bool false))] (by decide) ⟨rfl, rfl, rfl, rfl, rfl, rfl, rfl, rfl, rfl, rfl, rfl, rfl, trivial⟩)
         ·replace h := bif_f hb40 h
          refine al_skip ?_
          refine al_skip ?_
          refine al_val (ov_pick_f rfl rfl rfl) ?_
          refine al_mv rfl rfl ?_
          refine al_skip ?_
          refine al_skip ?_
          refine al_skip ?_
          refine al_skip ?_
          refine al_skip ?_
          refine al_skip ?_
          refine al_skip ?_
          refine al_skip ?_
          refine al_skip ?_
          refine al_skip ?_
          refine al_skip ?_
          refine al_skip ?_
          refine al_skip ?_
          refine al_val (ov_pick_f rfl rfl rfl) ?_
          refine al_nil ?_
          exact aq_join false h (fun w a hm hs => norm hm hs [0] [1, 0, 2] [(0, v0_0), (6, v6), (7, (int .i64 l9i26)), (8, (int .i64 u16)), (10, (int .i64 u25)), (24, v0_0), (25, (int .i64 (a0.length : Int))), (26, (int .i64 l9i26)), (31, v0_0), (32, (int .i64 (a0.length : Int))), (33, (int .i64 l19i33)), (58, (bool false))] (by decide) ⟨rfl, rfl, rfl, rfl, rfl, rfl, rfl, rfl, rfl, rfl, rfl, rfl, trivial⟩)
      ·replace h := bif_f hb22 h
       refine aw_exit ?_
       refine aq_then_exit ?_
       refine aq_then_exit ?_
       refine aq_block_exit ?_
       refine aq_block ?_
       exact aq_join l19x6 h (fun w a hm hs => norm hm hs [0] [0] [(0, v0_0), (6, v6), (24, v0_0), (25, (int .i64 (a0.length : Int))), (26, (int .i64 l9i26))] (by decide) ⟨rfl, rfl, rfl, rfl, rfl, trivial⟩)
    ·replace h := bif_f hb13 h
     refine aw_exit ?_
     refine aq_then_exit ?_
     refine aq_then_exit ?_
     refine aq_block_exit ?_
     exact aq_join l9x6 h (fun w a hm hs => norm hm hs [0] [0] [(6, v6)] (by decide) ⟨rfl, trivial⟩)
def f_lumref_bitsOf : Nat → Int → Int → Option (List UInt8)
  | 0, _, _ => none
  | fu + 1, a0, a1 => (bif (a1 == (0 : Int)) then (some ([] : List UInt8)) else (opt (f_lumref_bitsOf fu (IntKind.i64.wrap ((a0).tdiv (2 : Int))) (IntKind.i64.wrap (a1 - (1 : Int)))) fun (r3 : (List UInt8)) => (req (0 ≤ (IntKind.u8.wrap ((48 : Int) + (IntKind.u8.wrap ((a0).tmod (2 : Int))))) ∧ (IntKind.u8.wrap ((48 : Int) + (IntKind.u8.wrap ((a0).tmod (2 : Int))))) ≤ 255) (req (r3.length + ([(UInt8.ofNat ((IntKind.u8.wrap ((48 : Int) + (IntKind.u8.wrap ((a0).tmod (2 : Int)))))).toNat)]).length ≤ 9223372036854775807) (some (r3 ++ ([(UInt8.ofNat ((IntKind.u8.wrap ((48 : Int) + (IntKind.u8.wrap ((a0).tmod (2 : Int)))))).toNat)])))))))
set_option maxRecDepth 100000 in
theorem f_lumref_bitsOf_ok (fu : Nat) (a0 : Int) (a1 : Int) {r : (List UInt8)} (h : f_lumref_bitsOf fu a0 a1 = some r) : FnOk Try.prog 74 [(int .i64 a0), (int .i64 a1)] [] [] (fun (i : Unit) => { val := (str r) }) := by
 cases fu with
 | zero => rw [f_lumref_bitsOf] at h; cases h
 | succ fu =>
  rw [f_lumref_bitsOf] at h
  refine fn_enter Try.func74 rfl Try.ntmps74 rfl (fun w0 Z0 => ?_)
  refine aw_sr ?_
  refine al_as rfl rfl ?_
  refine al_nt ?_
  refine aw_seq ?_
  refine aw_sr ?_
  refine al_mv rfl rfl ?_
  refine al_in rfl rfl rfl rfl ?_
  refine al_nt ?_
  refine aw_cond rfl (fun hb1 => ?_) (fun hb1 => ?_)
  ·replace h := bif_t hb1 h
   refine aw_sr ?_
   refine al_as rfl rfl ?_
   refine al_nt ?_
   refine aw_ret ?_
   refine aq_then_ret ?_
   obtain rfl := Option.some.inj h
   exact fn_ret () [] [] rfl rfl rfl rfl (res1 rfl rfl) rfl rfl rfl (by decide)
  ·replace h := bif_f hb1 h
   refine aw_skip ?_
   refine aq_then ?_
   refine aw_seq ?_
   obtain ⟨r3, hc2, h⟩ := opt_some h
   obtain ⟨hc5, h⟩ := req_some h
   obtain ⟨hc6, h⟩ := req_some h
   refine aw_region_draw 12 [(7, (fun u => fEq u (int .i64 a0))), (8, (fun u => fEq u (int .i64 (IntKind.i64.wrap ((a0).tdiv (2 : Int)))))), (9, (fun u => fEq u (int .i64 a1))), (10, (fun u => fEq u (int .i64 (IntKind.i64.wrap (a1 - (1 : Int)))))), (11, (fun u => fEq u (str r3))), (12, (fun u => fEq u (int .i64 a0))), (13, (fun u => fEq u (int .i64 ((a0).tmod (2 : Int))))), (14, (fun u => fEq u (int .u8 (IntKind.u8.wrap ((a0).tmod (2 : Int)))))), (15, (fun u => fEq u (int .u8 (IntKind.u8.wrap ((48 : Int) + (IntKind.u8.wrap ((a0).tmod (2 : Int)))))))), (16, (fun v4 => (fDat (tyList tyU8) [v4] [(UInt8.ofNat ((IntKind.u8.wrap ((48 : Int) + (IntKind.u8.wrap ((a0).tmod (2 : Int)))))).toNat)]))), (17, (fun u => fEq u (str [(UInt8.ofNat ((IntKind.u8.wrap ((48 : Int) + (IntKind.u8.wrap ((a0).tmod (2 : Int)))))).toNat)]))), (18, (fun u => fEq u (str (r3 ++ ([(UInt8.ofNat ((IntKind.u8.wrap ((48 : Int) + (IntKind.u8.wrap ((a0).tmod (2 : Int)))))).toNat)])))))] (tab [(0, (int .i64 a0)), (1, (int .i64 a1)), (4, (str ([] : List UInt8)))]) mixed (by kernel_rfl) rfl rfl rfl (fun a hs => hs.tab _ (allT_mem ⟨rfl, rfl, rfl, trivial⟩)) ⟨⟨rfl, ld_val (ov_move rfl rfl)⟩, ⟨rfl, ld_eq (j := 0) rfl rfl (ld_val (ov_quo (by decide) rfl rfl rfl))⟩, ⟨rfl, ld_val (ov_move rfl rfl)⟩, ⟨rfl, ld_eq (j := 2) rfl rfl (ld_val (ov_int rfl rfl rfl rfl))⟩, ⟨rfl, ld_eq (j := 1) rfl rfl (ld_eq (j := 3) rfl rfl (ld_callV (vs := [(int .i64 (IntKind.i64.wrap ((a0).tdiv (2 : Int)))), (int .i64 (IntKind.i64.wrap (a1 - (1 : Int))))]) (f_lumref_bitsOf_ok fu (IntKind.i64.wrap ((a0).tdiv (2 : Int))) (IntKind.i64.wrap (a1 - (1 : Int))) hc2) [] pre_nil rfl Try.func74 rfl rfl rfl))⟩, ⟨rfl, ld_val (ov_move rfl rfl)⟩, ⟨rfl, ld_eq (j := 5) rfl rfl (ld_val (ov_rem (by decide) rfl rfl rfl))⟩, ⟨rfl, ld_eq (j := 6) rfl rfl (ld_val (ov_convInt (by rw [Try.underlying3]; rfl) Try.underlying5 rfl rfl))⟩, ⟨rfl, ld_eq (j := 7) rfl rfl (ld_val (ov_int rfl rfl rfl rfl))⟩, ⟨rfl, ld_eq (j := 8) rfl rfl (ld_buildSlice (τ := tyU8) (e := 5) (k := 1) (cs := [(int .u8 (IntKind.u8.wrap ((48 : Int) + (IntKind.u8.wrap ((a0).tmod (2 : Int))))))]) (xs := [(UInt8.ofNat ((IntKind.u8.wrap ((48 : Int) + (IntKind.u8.wrap ((a0).tmod (2 : Int)))))).toNat)]) rfl (by decide) rfl (fun w a hm hs => ⟨([(int .u8 (IntKind.u8.wrap ((48 : Int) + (IntKind.u8.wrap ((a0).tmod (2 : Int))))))]).toArray, rfl, by simp only [List.map_toArray, List.map_cons, List.map_nil, hs.ev (x := .tmp 15) rfl]; exact run_bs [(int .u8 (IntKind.u8.wrap ((48 : Int) + (IntKind.u8.wrap ((a0).tmod (2 : Int))))))] [(int .u8 (IntKind.u8.wrap ((48 : Int) + (IntKind.u8.wrap ((a0).tmod (2 : Int))))))] Try.underlying121 to5 rfl rfl (bs_cons (l := [(int .u8 (IntKind.u8.wrap ((48 : Int) + (IntKind.u8.wrap ((a0).tmod (2 : Int))))))]) (cs := []) (cv_rfl rfl) rfl bs_nil) hm⟩) (fun hm => ⟨_, _, rfl, (fun _ => u8_rep hc5) hm, rfl⟩) rfl)⟩, ⟨rfl, ld_fact (j := 9) rfl rfl (fun v4 => ld_val (ov_toStr 0 rfl rfl Try.underlying121 Try.underlying5 Try.underlying9 rfl))⟩, ⟨rfl, ld_eq (j := 4) rfl rfl (ld_eq (j := 10) rfl rfl (ld_val (ov_strAdd hc6 rfl rfl rfl)))⟩, trivial⟩ ?_
   refine tl_eq 11 rfl ?_
   refine tl_done ?_
   refine al_as rfl rfl ?_
   refine al_nt ?_
   refine aw_ret ?_
   obtain rfl := Option.some.inj h
   exact fn_ret () [] [] rfl rfl rfl rfl (res1 rfl rfl) rfl rfl rfl (by decide)
-- STUCK (*strings.Builder).copyCheck: lty ['pointer', 138]
-- STUCK (*strings.Builder).WriteString: lty ['pointer', 138]
-- STUCK (*strings.Builder).String: lty ['pointer', 138]
def f_lumref_signsOf_L21 (a0 : (List UInt8)) (a1 : (List (List UInt8))) (l3i10 : Int) (kk9 : (Int → Option ((List UInt8) × Int × Int))) (fu : Nat) : Nat → Int → Int → Option ((List UInt8) × Int × Int)
  | 0, _, _ => none
  | k20 + 1, l19i11, l19i20 => (bif (decide (l19i20 < (a1.length : Int))) then (lt (fun (j23i11 : Int) => (f_lumref_signsOf_L21 a0 a1 l3i10 kk9 fu k20 j23i11 (IntKind.i64.wrap (l19i20 + (1 : Int))))) fun (kk24 : Int → Option ((List UInt8) × Int × Int)) => (opt (at? a1 l19i20) fun (u25 : (List UInt8)) => (lt (fun (j28b33 : Bool) => (bif j28b33 then (kk24 l19i20) else (kk24 l19i11))) fun (kk29 : Bool → Option ((List UInt8) × Int × Int)) => (bif (!(u25 == ([] : List UInt8))) then (req (0 ≤ l3i10 ∧ l3i10 ≤ (a0.length : Int)) (opt (f_strings_HasPrefix fu (a0.drop (l3i10).toNat) u25) fun (r34 : Bool) => (kk29 r34))) else (kk29 false))))) else (kk9 l19i11))
def f_lumref_signsOf_L5 (a0 : (List UInt8)) (a1 : (List (List UInt8))) (a2 : Int) (kk2 : ((List UInt8) → Int → Option ((List UInt8) × Int × Int))) (fu : Nat) : Nat → (List UInt8) → Int → Option ((List UInt8) × Int × Int)
  | 0, _, _ => none
  | k4 + 1, l3x9, l3i10 => (lt (fun (l3x9 : (List UInt8)) (l3i10 : Int) => (f_lumref_signsOf_L5 a0 a1 a2 kk2 fu k4 l3x9 l3i10)) fun (kk6 : (List UInt8) → Int → Option ((List UInt8) × Int × Int)) => (bif (decide ((l3x9.length : Int) < a2)) then (lt (fun (j8i11 : Int) => (bif (decide (j8i11 < (0 : Int))) then (bif (decide ((IntKind.i64.wrap ((a0.length : Int) - l3i10)) ≥ (48 : Int))) then (some (([] : List UInt8), (0 : Int), (4 : Int))) else (some (([] : List UInt8), (0 : Int), (3 : Int)))) else (req (0 ≤ (IntKind.u8.wrap j8i11) ∧ (IntKind.u8.wrap j8i11) ≤ 255) (req (((l3x9.length + ([(UInt8.ofNat ((IntKind.u8.wrap j8i11)).toNat)]).length) * 1 : Nat) ≤ 140737488355328 ∧ l3x9.length + ([(UInt8.ofNat ((IntKind.u8.wrap j8i11)).toNat)]).length ≤ 9223372036854775807) (opt (at? a1 j8i11) fun (u16 : (List UInt8)) => (kk6 (l3x9 ++ ([(UInt8.ofNat ((IntKind.u8.wrap j8i11)).toNat)])) (IntKind.i64.wrap (l3i10 + (u16.length : Int))))))))) fun (kk9 : Int → Option ((List UInt8) × Int × Int)) => (f_lumref_signsOf_L21 a0 a1 l3i10 kk9 fu fu (-1 : Int) (0 : Int))) else (kk2 l3x9 l3i10)))
def f_lumref_signsOf (fu : Nat) (a0 : (List UInt8)) (a1 : (List (List UInt8))) (a2 : Int) : Option ((List UInt8) × Int × Int) := (lt (fun (j1x9 : (List UInt8)) (j1i10 : Int) => (some (j1x9, j1i10, (0 : Int)))) fun (kk2 : (List UInt8) → Int → Option ((List UInt8) × Int × Int)) => (f_lumref_signsOf_L5 a0 a1 a2 kk2 fu fu ([] : List UInt8) (0 : Int)))
set_option maxRecDepth 100000 in
set_option maxHeartbeats 2000000 in
theorem f_lumref_signsOf_ok (fu : Nat) (a0 : (List UInt8)) (v1_0 : Value) (a1 : (List (List UInt8))) (a2 : Int) {r : ((List UInt8) × Int × Int)} (h : f_lumref_signsOf fu a0 a1 a2 = some r) : FnOk Try.prog 77 [(str a0), v1_0, (int .i64 a2)] [(fDat (tyList tyStr) [v1_0] a1)] [] (fun (i : Unit) => { val := (Value.tuple #[(str r.1), (int .i64 r.2.1), (int .i64 r.2.2)]) }) := by
 unfold f_lumref_signsOf at h
 refine fn_enter Try.func77 rfl Try.ntmps77 rfl (fun w0 Z0 => ?_)
 refine aw_sr ?_
 refine al_as rfl rfl ?_
 refine al_as rfl rfl ?_
 refine al_as rfl rfl ?_
 refine al_nt ?_
 refine aw_sr ?_
 refine al_as rfl rfl ?_
 refine al_nt ?_
 refine aw_sr ?_
 refine al_as rfl rfl ?_
 refine al_nt ?_
 obtain ⟨kk2, hkk2, h⟩ := lt_some h
 refine aw_seq_join (ι := Value × (List UInt8) × Int) (fun i => (memOf w0 Z0 [] [(oRow i.1 5 tyU8 i.2.1)] [(fDat (tyList tyStr) [v1_0] a1)])) (fun i => (tab [(9, i.1), (10, (int .i64 i.2.2))])) (fun i => kk2 i.2.1 i.2.2 = some r) ?_ ?_
 ·rintro ⟨j1v9, j1x9, j1i10⟩ h
  have h : kk2 j1x9 j1i10 = some r := h
  rw [hkk2] at h
  dsimp only at h
  clear hkk2
  refine aw_show (m := (memOf w0 Z0 [] [(oRow j1v9 5 tyU8 j1x9)] [(fDat (tyList tyStr) [v1_0] a1)])) (S := (tab [(9, j1v9), (10, (int .i64 j1i10))])) ?_
  refine aw_sr ?_
  refine al_mv rfl rfl ?_
  refine al_val (ov_toStrR 0 rfl rfl Try.underlying121 Try.underlying5 Try.underlying9 rfl) ?_
  refine al_mv rfl rfl ?_
  refine al_as rfl rfl ?_
  refine al_as rfl rfl ?_
  refine al_as rfl rfl ?_
  refine al_nt ?_
  refine aw_ret ?_
  obtain rfl := Option.some.inj h
  exact fn_ret () [] [] rfl rfl rfl rfl (res3 rfl rfl rfl rfl) rfl rfl rfl (by decide)
 ·clear hkk2
  refine aw_block ?_
  refine aw_nilR 5 tyU8 ?_
  refine aw_state (aw_loop (ι := Value × (List UInt8) × Int) (fun i => (memOf w0 Z0 [] [(oRow i.1 5 tyU8 i.2.1)] [(fDat (tyList tyStr) [v1_0] a1)])) (fun i => (tab [(0, (str a0)), (1, v1_0), (2, (int .i64 a2)), (9, i.1), (10, (int .i64 i.2.2))])) (fun q i => f_lumref_signsOf_L5 a0 a1 a2 kk2 fu q i.2.1 i.2.2 = some r) ?_ fu ((Value.slice none 0 0), ([] : List UInt8), (0 : Int)) h) (fun w a hm hs => norm hm hs [0] [0] [(0, (str a0)), (1, v1_0), (2, (int .i64 a2)), (9, (Value.slice none 0 0)), (10, (int .i64 (0 : Int)))] (by decide) ⟨rfl, rfl, rfl, rfl, rfl, trivial⟩)
  clear h
  rintro k4 ⟨l3v9, l3x9, l3i10⟩ h
  have h : f_lumref_signsOf_L5 a0 a1 a2 kk2 fu k4 l3x9 l3i10 = some r := h
  obtain _ | k4 := k4
  · rw [f_lumref_signsOf_L5] at h; cases h
  rw [f_lumref_signsOf_L5] at h
  refine aw_show (m := (memOf w0 Z0 [] [(oRow l3v9 5 tyU8 l3x9)] [(fDat (tyList tyStr) [v1_0] a1)])) (S := (tab [(0, (str a0)), (1, v1_0), (2, (int .i64 a2)), (9, l3v9), (10, (int .i64 l3i10))])) ?_
  obtain ⟨kk6, hkk6, h⟩ := lt_some h
  refine aw_body_join (ι := Value × (List UInt8) × Int) (fun i => (memOf w0 Z0 [] [(oRow i.1 5 tyU8 i.2.1)] [(fDat (tyList tyStr) [v1_0] a1)])) (fun i => (tab [(0, (str a0)), (1, v1_0), (2, (int .i64 a2)), (9, i.1), (10, (int .i64 i.2.2))])) (fun i => kk6 i.2.1 i.2.2 = some r) (fun i h => aq_again k4 i (Nat.lt_succ_self _) (by rw [hkk6] at h; exact h) (fun w a hm hs => ⟨hm, hs⟩)) ?_
  clear hkk6
  refine aw_seq ?_
  refine aw_sr ?_
  refine al_mv rfl rfl ?_
  refine al_val (ov_lenR 0 rfl rfl Try.underlying121 rfl) ?_
  refine al_mv rfl rfl ?_
  refine al_in rfl rfl rfl rfl ?_
  refine al_nt ?_
  refine aw_cond rfl (fun hb7 => ?_) (fun hb7 => ?_)
  ·replace h := bif_t hb7 h
   refine aw_skip ?_
   refine aq_then ?_
   refine aw_block ?_
   refine aw_sr ?_
   refine al_as rfl rfl ?_
   refine al_nt ?_
   obtain ⟨kk9, hkk9, h⟩ := lt_some h
   refine aw_seq_join (ι := Int) (fun i => (memOf w0 Z0 [] [(oRow l3v9 5 tyU8 l3x9)] [(fDat (tyList tyStr) [v1_0] a1)])) (fun i => (tab [(0, (str a0)), (1, v1_0), (2, (int .i64 a2)), (9, l3v9), (10, (int .i64 l3i10)), (11, (int .i64 i))])) (fun i => kk9 i = some r) ?_ ?_
   ·rintro j8i11 h
    have h : kk9 j8i11 = some r := h
    rw [hkk9] at h
    dsimp only at h
    clear hkk9
    refine aw_show (m := (memOf w0 Z0 [] [(oRow l3v9 5 tyU8 l3x9)] [(fDat (tyList tyStr) [v1_0] a1)])) (S := (tab [(0, (str a0)), (1, v1_0), (2, (int .i64 a2)), (9, l3v9), (10, (int .i64 l3i10)), (11, (int .i64 j8i11))])) ?_
    refine aw_seq ?_
    refine aw_sr ?_
    refine al_mv rfl rfl ?_
    refine al_in rfl rfl rfl rfl ?_
    refine al_nt ?_
    refine aw_cond rfl (fun hb10 => ?_) (fun hb10 => ?_)
    ·replace h := bif_t hb10 h
     refine aw_seq ?_
     refine aw_sr ?_
     refine al_mv rfl rfl ?_
     refine al_val (ov_strLen Try.underlying9 rfl rfl) ?_
     refine al_mv rfl rfl ?_
     refine al_in rfl rfl rfl rfl ?_
     refine al_in rfl rfl rfl rfl ?_
     refine al_nt ?_
     refine aw_cond rfl (fun hb11 => ?_) (fun hb11 => ?_)
     ·replace h := bif_t hb11 h
      refine aw_sr ?_
      refine al_as rfl rfl ?_
      refine al_as rfl rfl ?_
      refine al_as rfl rfl ?_
      refine al_nt ?_
      refine aw_ret ?_
      refine aq_then_ret ?_
      refine aq_then_ret ?_
      refine aq_block_ret ?_
      refine aq_then_ret ?_
      refine aq_block_ret ?_
      refine aq_then_ret ?_
      obtain rfl := Option.some.inj h
      exact fn_ret () [] [] rfl rfl rfl rfl (res3 rfl rfl rfl rfl) rfl rfl rfl (by decide)
     ·replace h := bif_f hb11 h
      refine aw_skip ?_
      refine aq_tr ?_
      refine al_as rfl rfl ?_
      refine al_as rfl rfl ?_
      refine al_as rfl rfl ?_
      refine al_nt ?_
      refine aw_ret ?_
      refine aq_then_ret ?_
      refine aq_block_ret ?_
      refine aq_then_ret ?_
      refine aq_block_ret ?_
      refine aq_then_ret ?_
      obtain rfl := Option.some.inj h
      exact fn_ret () [] [] rfl rfl rfl rfl (res3 rfl rfl rfl rfl) rfl rfl rfl (by decide)
    ·replace h := bif_f hb10 h
     refine aw_skip ?_
     refine aq_tr ?_
     refine al_mv rfl rfl ?_
     refine al_mv rfl rfl ?_
     refine al_val (ov_convInt (by rw [Try.underlying3]; rfl) Try.underlying5 rfl rfl) ?_
     obtain ⟨hc13, h⟩ := req_some h
     refine al_buildSlice (τ := tyU8) (e := 5) (k := 1) (sz := 0) (by_ := 0) (z := undef) (cs := [(int .u8 (IntKind.u8.wrap j8i11))]) (xs := [(UInt8.ofNat ((IntKind.u8.wrap j8i11)).toNat)]) rfl (by decide) (fun w a hm hs => ⟨([(int .u8 (IntKind.u8.wrap j8i11))]).toArray, rfl, by simp only [List.map_toArray, List.map_cons, List.map_nil, hs.ev (x := .tmp 45) rfl]; exact run_bs [(int .u8 (IntKind.u8.wrap j8i11))] [(int .u8 (IntKind.u8.wrap j8i11))] Try.underlying121 to5 rfl rfl (bs_cons (l := [(int .u8 (IntKind.u8.wrap j8i11))]) (cs := []) (cv_rfl rfl) rfl bs_nil) hm⟩) (fun hm => ⟨_, _, rfl, (fun _ => u8_rep hc13) hm, rfl⟩) rfl (fun v12 => ?_)
     obtain ⟨hc14, h⟩ := req_some h
     refine al_append 1 hc14.1 hc14.2 rfl (src_own (i := 1) 0 rfl) rfl rfl Try.underlying121 to5 rfl rfl rfl (fun v15 => ?_)
     refine al_as rfl rfl ?_
     refine al_nt ?_
     refine aw_region ?_
     refine al_mv rfl rfl ?_
     refine al_mv rfl rfl ?_
     refine al_mv rfl rfl ?_
     obtain ⟨u16, hu17, h⟩ := opt_some h
     refine al_idxD 0 hu17 rfl rfl rfl Try.underlying24 sz9 rfl (fun p18 => ?_)
     refine al_val (ov_loadP (ds := [(str u16)]) 0 rfl (fun h => h) rfl Try.underlying9 sz9 rfl rfl rfl) ?_
     refine al_val (ov_strLen Try.underlying9 rfl rfl) ?_
     refine al_in rfl rfl rfl rfl ?_
     refine al_as rfl rfl ?_
     refine al_nil ?_
     refine aq_block ?_
     exact aq_join (v15, (l3x9 ++ ([(UInt8.ofNat ((IntKind.u8.wrap j8i11)).toNat)])), (IntKind.i64.wrap (l3i10 + (u16.length : Int)))) h (fun w a hm hs => norm hm hs [1] [1] [(0, (str a0)), (1, v1_0), (2, (int .i64 a2)), (9, v15), (10, (int .i64 (IntKind.i64.wrap (l3i10 + (u16.length : Int)))))] (by decide) ⟨rfl, rfl, rfl, rfl, rfl, trivial⟩)
   ·clear hkk9
    refine aw_sr ?_
    refine al_mv rfl rfl ?_
    refine al_val (ov_lenD 0 rfl rfl Try.underlying24 rfl) ?_
    refine al_mv rfl rfl ?_
    refine al_nt ?_
    refine aw_block ?_
    refine aw_state (aw_loop (ι := Int × Int) (fun i => (memOf w0 Z0 [] [(oRow l3v9 5 tyU8 l3x9)] [(fDat (tyList tyStr) [v1_0] a1)])) (fun i => (tab [(0, (str a0)), (1, v1_0), (2, (int .i64 a2)), (9, l3v9), (10, (int .i64 l3i10)), (11, (int .i64 i.1)), (18, v1_0), (19, (int .i64 (a1.length : Int))), (20, (int .i64 i.2))])) (fun q i => f_lumref_signsOf_L21 a0 a1 l3i10 kk9 fu q i.1 i.2 = some r) ?_ fu ((-1 : Int), (0 : Int)) h) (fun w a hm hs => norm hm hs [0] [0] [(0, (str a0)), (1, v1_0), (2, (int .i64 a2)), (9, l3v9), (10, (int .i64 l3i10)), (11, (int .i64 (-1 : Int))), (18, v1_0), (19, (int .i64 (a1.length : Int))), (20, (int .i64 (0 : Int)))] (by decide) ⟨rfl, rfl, rfl, rfl, rfl, rfl, rfl, rfl, rfl, trivial⟩)
    clear h
    rintro k20 ⟨l19i11, l19i20⟩ h
    have h : f_lumref_signsOf_L21 a0 a1 l3i10 kk9 fu k20 l19i11 l19i20 = some r := h
    obtain _ | k20 := k20
    · rw [f_lumref_signsOf_L21] at h; cases h
    rw [f_lumref_signsOf_L21] at h
    refine aw_show (m := (memOf w0 Z0 [] [(oRow l3v9 5 tyU8 l3x9)] [(fDat (tyList tyStr) [v1_0] a1)])) (S := (tab [(0, (str a0)), (1, v1_0), (2, (int .i64 a2)), (9, l3v9), (10, (int .i64 l3i10)), (11, (int .i64 l19i11)), (18, v1_0), (19, (int .i64 (a1.length : Int))), (20, (int .i64 l19i20))])) ?_
    refine aw_sr ?_
    refine al_in rfl rfl rfl rfl ?_
    refine al_nt ?_
    refine aw_seq ?_
    refine aw_cond rfl (fun hb22 => ?_) (fun hb22 => ?_)
    ·replace h := bif_t hb22 h
     refine aw_skip ?_
     refine aq_then ?_
     obtain ⟨kk24, hkk24, h⟩ := lt_some h
     refine aw_seq_join (ι := Int) (fun i => (memOf w0 Z0 [] [(oRow l3v9 5 tyU8 l3x9)] [(fDat (tyList tyStr) [v1_0] a1)])) (fun i => (tab [(0, (str a0)), (1, v1_0), (2, (int .i64 a2)), (9, l3v9), (10, (int .i64 l3i10)), (11, (int .i64 i)), (18, v1_0), (19, (int .i64 (a1.length : Int))), (20, (int .i64 l19i20))])) (fun i => kk24 i = some r) ?_ ?_
     ·rintro j23i11 h
      have h : kk24 j23i11 = some r := h
      rw [hkk24] at h
      dsimp only at h
      clear hkk24
      refine aw_show (m := (memOf w0 Z0 [] [(oRow l3v9 5 tyU8 l3x9)] [(fDat (tyList tyStr) [v1_0] a1)])) (S := (tab [(0, (str a0)), (1, v1_0), (2, (int .i64 a2)), (9, l3v9), (10, (int .i64 l3i10)), (11, (int .i64 j23i11)), (18, v1_0), (19, (int .i64 (a1.length : Int))), (20, (int .i64 l19i20))])) ?_
      refine aw_region ?_
      refine al_in rfl rfl rfl rfl ?_
      refine al_mv rfl rfl ?_
      refine al_nil ?_
      exact aq_again k20 (j23i11, (IntKind.i64.wrap (l19i20 + (1 : Int)))) (Nat.lt_succ_self _) h (fun w a hm hs => norm hm hs [0] [0] [(0, (str a0)), (1, v1_0), (2, (int .i64 a2)), (9, l3v9), (10, (int .i64 l3i10)), (11, (int .i64 j23i11)), (18, v1_0), (19, (int .i64 (a1.length : Int))), (20, (int .i64 (IntKind.i64.wrap (l19i20 + (1 : Int)))))] (by decide) ⟨rfl, rfl, rfl, rfl, rfl, rfl, rfl, rfl, rfl, trivial⟩)
     ·clear hkk24
      refine aw_block ?_
      refine aw_sr ?_
      refine al_mv rfl rfl ?_
      obtain ⟨u25, hu26, h⟩ := opt_some h
      refine al_idxD 0 hu26 rfl rfl rfl Try.underlying24 sz9 rfl (fun p27 => ?_)
      refine al_val (ov_loadP (ds := [(str u25)]) 0 rfl (fun h => h) rfl Try.underlying9 sz9 rfl rfl rfl) ?_
      refine al_as rfl rfl ?_
      refine al_as rfl rfl ?_
      refine al_nt ?_
      obtain ⟨kk29, hkk29, h⟩ := lt_some h
      refine aw_seq_join (ι := Bool) (fun i => (memOf w0 Z0 [] [(oRow l3v9 5 tyU8 l3x9)] [(fDat (tyList tyStr) [v1_0] a1), (fPtr tyStr p27 u25)])) (fun i => (tab [(0, (str a0)), (1, v1_0), (2, (int .i64 a2)), (9, l3v9), (10, (int .i64 l3i10)), (11, (int .i64 l19i11)), (12, (int .i64 l19i20)), (18, v1_0), (19, (int .i64 (a1.length : Int))), (20, (int .i64 l19i20)), (33, (bool i))])) (fun i => kk29 i = some r) ?_ ?_
      ·rintro j28b33 h
       have h : kk29 j28b33 = some r := h
       rw [hkk29] at h
       dsimp only at h
       clear hkk29
       refine aw_show (m := (memOf w0 Z0 [] [(oRow l3v9 5 tyU8 l3x9)] [(fDat (tyList tyStr) [v1_0] a1), (fPtr tyStr p27 u25)])) (S := (tab [(0, (str a0)), (1, v1_0), (2, (int .i64 a2)), (9, l3v9), (10, (int .i64 l3i10)), (11, (int .i64 l19i11)), (12, (int .i64 l19i20)), (18, v1_0), (19, (int .i64 (a1.length : Int))), (20, (int .i64 l19i20)), (33, (bool j28b33))])) ?_
       refine aw_cond rfl (fun hb30 => ?_) (fun hb30 => ?_)
       ·replace h := bif_t hb30 h
        refine aw_region ?_
        refine al_mv rfl rfl ?_
        refine al_as rfl rfl ?_
        refine al_nil ?_
        refine aq_block ?_
        exact aq_join l19i20 h (fun w a hm hs => norm hm hs [0] [0] [(0, (str a0)), (1, v1_0), (2, (int .i64 a2)), (9, l3v9), (10, (int .i64 l3i10)), (11, (int .i64 l19i20)), (18, v1_0), (19, (int .i64 (a1.length : Int))), (20, (int .i64 l19i20))] (by decide) ⟨rfl, rfl, rfl, rfl, rfl, rfl, rfl, rfl, rfl, trivial⟩)
       ·replace h := bif_f hb30 h
        refine aw_skip ?_
        refine aq_block ?_
        exact aq_join l19i11 h (fun w a hm hs => norm hm hs [0] [0] [(0, (str a0)), (1, v1_0), (2, (int .i64 a2)), (9, l3v9), (10, (int .i64 l3i10)), (11, (int .i64 l19i11)), (18, v1_0), (19, (int .i64 (a1.length : Int))), (20, (int .i64 l19i20))] (by decide) ⟨rfl, rfl, rfl, rfl, rfl, rfl, rfl, rfl, rfl, trivial⟩)
      ·clear hkk29
       refine aw_region ?_
       refine al_mv rfl rfl ?_
       refine al_val (ov_strCmp rfl rfl rfl rfl) ?_
       refine al_mv rfl rfl ?_
       refine al_caseB 27 rfl (fun hb31 => ?_) (fun hb31 => ?_)
       ·replace h := bif_t hb31 h
        refine al_mv rfl rfl ?_
        refine al_mv rfl rfl ?_
        obtain ⟨hc32, h⟩ := req_some h
        refine al_val (ov_strFrom hc32.1 hc32.2 Try.underlying9 rfl rfl rfl) ?_
        refine al_mv rfl rfl ?_
        obtain ⟨r34, hc33, h⟩ := opt_some h
        refine al_call (vs := [(str (a0.drop (l3i10).toNat)), (str u25)]) (f_strings_HasPrefix_ok fu (a0.drop (l3i10).toNat) u25 hc33) [] [] [0] pre_nil rfl (by simp) (by decide) (.inl rfl) rfl Try.func130 rfl rfl rfl (fun _ => ?_)
        refine al_val (ov_pick_t rfl rfl rfl) ?_
        refine al_nil ?_
        exact aq_join r34 h (fun w a hm hs => norm hm hs [0] [1, 0] [(0, (str a0)), (1, v1_0), (2, (int .i64 a2)), (9, l3v9), (10, (int .i64 l3i10)), (11, (int .i64 l19i11)), (12, (int .i64 l19i20)), (18, v1_0), (19, (int .i64 (a1.length : Int))), (20, (int .i64 l19i20)), (33, (bool r34))] (by decide) ⟨rfl, rfl, rfl, rfl, rfl, rfl, rfl, rfl, rfl, rfl, rfl, trivial⟩)
       ·replace h := bif_f hb31 h
        refine al_skip ?_
        refine al_skip ?_
        refine al_skip ?_
        refine al_skip ?_
        refine al_skip ?_
        refine al_val (ov_pick_f rfl rfl rfl) ?_
        refine al_nil ?_
        exact aq_join false h (fun w a hm hs => norm hm hs [0] [1, 0] [(0, (str a0)), (1, v1_0), (2, (int .i64 a2)), (9, l3v9), (10, (int .i64 l3i10)), (11, (int .i64 l19i11)), (12, (int .i64 l19i20)), (18, v1_0), (19, (int .i64 (a1.length : Int))), (20, (int .i64 l19i20)), (33, (bool false))] (by decide) ⟨rfl, rfl, rfl, rfl, rfl, rfl, rfl, rfl, rfl, rfl, rfl, trivial⟩)
    ·replace h := bif_f hb22 h
     refine aw_exit ?_
     refine aq_then_exit ?_
     refine aq_then_exit ?_
     refine aq_block_exit ?_
     exact aq_join l19i11 h (fun w a hm hs => norm hm hs [0] [0] [(0, (str a0)), (1, v1_0), (2, (int .i64 a2)), (9, l3v9), (10, (int .i64 l3i10)), (11, (int .i64 l19i11))] (by decide) ⟨rfl, rfl, rfl, rfl, rfl, rfl, trivial⟩)
  ·replace h := bif_f hb7 h
   refine aw_exit ?_
   refine aq_then_exit ?_
   refine aq_then_exit ?_
   refine aq_block_exit ?_
   exact aq_join (l3v9, l3x9, l3i10) h (fun w a hm hs => norm hm hs [0] [0] [(9, l3v9), (10, (int .i64 l3i10))] (by decide) ⟨rfl, rfl, trivial⟩)
def f_strings_Contains (fu : Nat) (a0 a1 : List UInt8) : Option Bool := match a1 with | [c] => some (decide (0 ≤ Lib.indexByte a0 c)) | _ => none
theorem f_strings_Contains_ok (fu : Nat) (a0 a1 : List UInt8) {r : Bool} (h : f_strings_Contains fu a0 a1 = some r) : FnOk Try.prog 78 [(str a0), (str a1)] [] [] (fun (i : Unit) => { val := (bool r) }) := by
  unfold f_strings_Contains at h
  split at h
  · rename_i c
    obtain rfl := Option.some.inj h
    refine fnok_pure fun w => ?_
    exact (Try.strings_Contains_one ⟨a0.toArray⟩ c w).mono fun e w' h9 => ⟨by simpa [str] using h9.1, by rw [h9.2]; exact Below.refl _ _⟩
  · cases h
def f_lumref_ReadTokens_L5 (a0 : (List UInt8)) (kk2 : ((List S_api_Token) → Option ((List S_api_Token) × Int))) : Nat → (List S_api_Token) → Int → Option ((List S_api_Token) × Int)
  | 0, _, _ => none
  | k4 + 1, l3x4, l3i5 => (bif (decide (l3i5 < (a0.length : Int))) then (lt (fun (j8i5 : Int) (j8i6_0 : Int) (j8i6_1 : Int) (j8i6_2 : Int) => (bif ((l3x4.length : Int) == (4096 : Int)) then (some (([] : List S_api_Token), (2 : Int))) else (req (((l3x4.length + ([(S_api_Token.mk j8i6_0 j8i6_1 j8i6_2)]).length) * 24 : Nat) ≤ 140737488355328 ∧ l3x4.length + ([(S_api_Token.mk j8i6_0 j8i6_1 j8i6_2)]).length ≤ 9223372036854775807) (f_lumref_ReadTokens_L5 a0 kk2 k4 (l3x4 ++ ([(S_api_Token.mk j8i6_0 j8i6_1 j8i6_2)])) j8i5)))) fun (kk9 : Int → Int → Int → Int → Option ((List S_api_Token) × Int)) => (req (0 ≤ l3i5 ∧ l3i5 < (a0.length : Int)) (bif ((En.bAt a0 l3i5) == (0 : Int)) then (bif (decide ((IntKind.i64.wrap (l3i5 + (2 : Int))) > (a0.length : Int))) then (some (([] : List S_api_Token), (3 : Int))) else (req (0 ≤ (IntKind.i64.wrap (l3i5 + (1 : Int))) ∧ (IntKind.i64.wrap (l3i5 + (1 : Int))) < (a0.length : Int)) (kk9 (IntKind.i64.wrap (l3i5 + (2 : Int))) (En.bAt a0 (IntKind.i64.wrap (l3i5 + (1 : Int)))) (0 : Int) (0 : Int)))) else (bif (decide ((IntKind.i64.wrap (l3i5 + (3 : Int))) > (a0.length : Int))) then (some (([] : List S_api_Token), (3 : Int))) else (req (0 ≤ l3i5 ∧ l3i5 < (a0.length : Int)) (req (0 ≤ (IntKind.i64.wrap (l3i5 + (1 : Int))) ∧ (IntKind.i64.wrap (l3i5 + (1 : Int))) < (a0.length : Int)) (req (0 ≤ (IntKind.i64.wrap (l3i5 + (2 : Int))) ∧ (IntKind.i64.wrap (l3i5 + (2 : Int))) < (a0.length : Int)) (lt (fun (j22b59 : Bool) => (bif j22b59 then (some (([] : List S_api_Token), (4 : Int))) else (kk9 (IntKind.i64.wrap (l3i5 + (3 : Int))) (0 : Int) (IntKind.i64.wrap (En.bAt a0 l3i5)) (IntKind.i64.wrap ((IntKind.i64.wrap (En.bAt a0 (IntKind.i64.wrap (l3i5 + (1 : Int))))) + (IntKind.i64.wrap ((256 : Int) * (IntKind.i64.wrap (En.bAt a0 (IntKind.i64.wrap (l3i5 + (2 : Int)))))))))))) fun (kk23 : Bool → Option ((List S_api_Token) × Int)) => (bif ((IntKind.i64.wrap ((IntKind.i64.wrap (En.bAt a0 (IntKind.i64.wrap (l3i5 + (1 : Int))))) + (IntKind.i64.wrap ((256 : Int) * (IntKind.i64.wrap (En.bAt a0 (IntKind.i64.wrap (l3i5 + (2 : Int))))))))) == (0 : Int)) then (kk23 true) else (kk23 (decide ((IntKind.i64.wrap ((IntKind.i64.wrap (En.bAt a0 (IntKind.i64.wrap (l3i5 + (1 : Int))))) + (IntKind.i64.wrap ((256 : Int) * (IntKind.i64.wrap (En.bAt a0 (IntKind.i64.wrap (l3i5 + (2 : Int))))))))) > (1024 : Int))))))))))))) else (kk2 l3x4))
def f_lumref_ReadTokens (fu : Nat) (a0 : (List UInt8)) : Option ((List S_api_Token) × Int) := (lt (fun (j1x4 : (List S_api_Token)) => (some (j1x4, (0 : Int)))) fun (kk2 : (List S_api_Token) → Option ((List S_api_Token) × Int)) => (f_lumref_ReadTokens_L5 a0 kk2 fu ([] : List S_api_Token) (0 : Int)))
set_option maxRecDepth 100000 in
set_option maxHeartbeats 2000000 in
theorem f_lumref_ReadTokens_ok (fu : Nat) (a0 : (List UInt8)) {r : ((List S_api_Token) × Int)} (h : f_lumref_ReadTokens fu a0 = some r) : FnOk Try.prog 79 [(str a0)] [] [] (fun (i : Value) => { val := (Value.tuple #[i, (int .i64 r.2)]), own := [(oRow i 205 tyS_api_Token r.1)] }) := by
 unfold f_lumref_ReadTokens at h
 refine fn_enter Try.func79 rfl Try.ntmps79 rfl (fun w0 Z0 => ?_)
 refine aw_sr ?_
 refine al_as rfl rfl ?_
 refine al_as rfl rfl ?_
 refine al_nt ?_
 refine aw_sr ?_
 refine al_as rfl rfl ?_
 refine al_nt ?_
 refine aw_sr ?_
 refine al_as rfl rfl ?_
 refine al_nt ?_
 obtain ⟨kk2, hkk2, h⟩ := lt_some h
 refine aw_seq_join (ι := Value × (List S_api_Token)) (fun i => (memOf w0 Z0 [] [(oRow i.1 205 tyS_api_Token i.2)] [])) (fun i => (tab [(4, i.1)])) (fun i => kk2 i.2 = some r) ?_ ?_
 ·rintro ⟨j1v4, j1x4⟩ h
  have h : kk2 j1x4 = some r := h
  rw [hkk2] at h
  dsimp only at h
  clear hkk2
  refine aw_show (m := (memOf w0 Z0 [] [(oRow j1v4 205 tyS_api_Token j1x4)] [])) (S := (tab [(4, j1v4)])) ?_
  refine aw_sr ?_
  refine al_mv rfl rfl ?_
  refine al_as rfl rfl ?_
  refine al_as rfl rfl ?_
  refine al_nt ?_
  refine aw_ret ?_
  obtain rfl := Option.some.inj h
  exact fn_ret j1v4 [0] [] rfl rfl rfl rfl (res2 rfl rfl rfl) rfl rfl rfl (by decide)
 ·clear hkk2
  refine aw_block ?_
  refine aw_nilR 205 tyS_api_Token ?_
  refine aw_state (aw_loop (ι := Value × (List S_api_Token) × Int) (fun i => (memOf w0 Z0 [] [(oRow i.1 205 tyS_api_Token i.2.1)] [])) (fun i => (tab [(0, (str a0)), (4, i.1), (5, (int .i64 i.2.2))])) (fun q i => f_lumref_ReadTokens_L5 a0 kk2 q i.2.1 i.2.2 = some r) ?_ fu ((Value.slice none 0 0), ([] : List S_api_Token), (0 : Int)) h) (fun w a hm hs => norm hm hs [0] [] [(0, (str a0)), (4, (Value.slice none 0 0)), (5, (int .i64 (0 : Int)))] (by decide) ⟨rfl, rfl, rfl, trivial⟩)
  clear h
  rintro k4 ⟨l3v4, l3x4, l3i5⟩ h
  have h : f_lumref_ReadTokens_L5 a0 kk2 k4 l3x4 l3i5 = some r := h
  obtain _ | k4 := k4
  · rw [f_lumref_ReadTokens_L5] at h; cases h
  rw [f_lumref_ReadTokens_L5] at h
  refine aw_show (m := (memOf w0 Z0 [] [(oRow l3v4 205 tyS_api_Token l3x4)] [])) (S := (tab [(0, (str a0)), (4, l3v4), (5, (int .i64 l3i5))])) ?_
  refine aw_seq ?_
  refine aw_sr ?_
  refine al_mv rfl rfl ?_
  refine al_mv rfl rfl ?_
  refine al_val (ov_strLen Try.underlying9 rfl rfl) ?_
  refine al_in rfl rfl rfl rfl ?_
  refine al_nt ?_
  refine aw_cond rfl (fun hb6 => ?_) (fun hb6 => ?_)
  ·replace h := bif_t hb6 h
   refine aw_skip ?_
   refine aq_then ?_
   refine aw_block ?_
   refine aw_sr ?_
   refine al_alloc (zs := [(int .u8 (0 : Int)), (int .i64 (0 : Int)), (int .i64 (0 : Int))]) (zeroOf_to to205) rfl rfl (fun g7 => ?_)
   refine al_nt ?_
   obtain ⟨kk9, hkk9, h⟩ := lt_some h
   refine aw_seq_join (ι := Int × Int × Int × Int) (fun i => (memOf w0 Z0 [] [(oRow l3v4 205 tyS_api_Token l3x4), (oBox g7 205 [(int .u8 i.2.1), (int .i64 i.2.2.1), (int .i64 i.2.2.2)])] [])) (fun i => (tab [(0, (str a0)), (4, l3v4), (5, (int .i64 i.1)), (6, (ptr g7 0))])) (fun i => kk9 i.1 i.2.1 i.2.2.1 i.2.2.2 = some r) ?_ ?_
   ·rintro ⟨j8i5, j8i6_0, j8i6_1, j8i6_2⟩ h
    have h : kk9 j8i5 j8i6_0 j8i6_1 j8i6_2 = some r := h
    rw [hkk9] at h
    dsimp only at h
    clear hkk9
    refine aw_show (m := (memOf w0 Z0 [] [(oRow l3v4 205 tyS_api_Token l3x4), (oBox g7 205 [(int .u8 j8i6_0), (int .i64 j8i6_1), (int .i64 j8i6_2)])] [])) (S := (tab [(0, (str a0)), (4, l3v4), (5, (int .i64 j8i5)), (6, (ptr g7 0))])) ?_
    refine aw_seq ?_
    refine aw_sr ?_
    refine al_mv rfl rfl ?_
    refine al_val (ov_lenR 0 rfl rfl Try.underlying147 rfl) ?_
    refine al_in rfl rfl rfl rfl ?_
    refine al_nt ?_
    refine aw_cond rfl (fun hb10 => ?_) (fun hb10 => ?_)
    ·replace h := bif_t hb10 h
     refine aw_sr ?_
     refine al_as rfl rfl ?_
     refine al_as rfl rfl ?_
     refine al_nt ?_
     refine aw_ret ?_
     refine aq_then_ret ?_
     refine aq_block_ret ?_
     refine aq_then_ret ?_
     refine aq_block_ret ?_
     refine aq_then_ret ?_
     refine aq_nilR 205 tyS_api_Token ?_
     obtain rfl := Option.some.inj h
     exact fn_ret (Value.slice none 0 0) [0] [] rfl rfl rfl rfl (res2 rfl rfl rfl) rfl rfl rfl (by decide)
    ·replace h := bif_f hb10 h
     refine aw_skip ?_
     refine aq_then ?_
     refine aw_region ?_
     refine al_mv rfl rfl ?_
     refine al_val (ov_load (i := 1) (v := (ag [(int .u8 j8i6_0), (int .i64 j8i6_1), (int .i64 j8i6_2)])) rfl rfl Try.underlying205 sz205 rfl rfl rfl rfl) ?_
     refine al_buildSlice (τ := tyS_api_Token) (e := 205) (k := 1) (sz := 0) (by_ := 0) (z := undef) (cs := [(int .u8 j8i6_0), (int .i64 j8i6_1), (int .i64 j8i6_2)]) (xs := [(S_api_Token.mk j8i6_0 j8i6_1 j8i6_2)]) rfl (by decide) (fun w a hm hs => ⟨([(int .u8 j8i6_0), (int .i64 j8i6_1), (int .i64 j8i6_2)]).toArray, rfl, by simp only [List.map_toArray, List.map_cons, List.map_nil, hs.ev (x := .tmp 64) rfl]; exact run_bs [(ag [(int .u8 j8i6_0), (int .i64 j8i6_1), (int .i64 j8i6_2)])] [(int .u8 j8i6_0), (int .i64 j8i6_1), (int .i64 j8i6_2)] Try.underlying147 to205 rfl rfl (bs_cons (l := [(int .u8 j8i6_0), (int .i64 j8i6_1), (int .i64 j8i6_2)]) (cs := []) (cv_rfl rfl) rfl bs_nil) hm⟩) (fun hm => ⟨_, _, rfl, (fun _ => mkS_api_Token rfl) hm, rfl⟩) rfl (fun v11 => ?_)
     obtain ⟨hc12, h⟩ := req_some h
     refine al_append 1 hc12.1 hc12.2 rfl (src_own (i := 1) 0 rfl) rfl rfl Try.underlying147 to205 rfl rfl rfl (fun v13 => ?_)
     refine al_as rfl rfl ?_
     refine al_nil ?_
     refine aq_block ?_
     exact aq_again k4 (v13, (l3x4 ++ ([(S_api_Token.mk j8i6_0 j8i6_1 j8i6_2)])), j8i5) (Nat.lt_succ_self _) h (fun w a hm hs => norm hm hs [1] [] [(0, (str a0)), (4, v13), (5, (int .i64 j8i5))] (by decide) ⟨rfl, rfl, rfl, trivial⟩)
   ·clear hkk9
    refine aw_sr ?_
    refine al_mv rfl rfl ?_
    refine al_mv rfl rfl ?_
    obtain ⟨hc14, h⟩ := req_some h
    refine al_val (ov_strIdx hc14.1 hc14.2 Try.underlying9 rfl rfl rfl) ?_
    refine al_in rfl rfl rfl rfl ?_
    refine al_nt ?_
    refine aw_cond rfl (fun hb15 => ?_) (fun hb15 => ?_)
    ·replace h := bif_t hb15 h
     refine aw_seq ?_
     refine aw_sr ?_
     refine al_mv rfl rfl ?_
     refine al_in rfl rfl rfl rfl ?_
     refine al_mv rfl rfl ?_
     refine al_val (ov_strLen Try.underlying9 rfl rfl) ?_
     refine al_in rfl rfl rfl rfl ?_
     refine al_nt ?_
     refine aw_cond rfl (fun hb16 => ?_) (fun hb16 => ?_)
     ·replace h := bif_t hb16 h
      refine aw_sr ?_
      refine al_as rfl rfl ?_
      refine al_as rfl rfl ?_
      refine al_nt ?_
      refine aw_ret ?_
      refine aq_then_ret ?_
      refine aq_then_ret ?_
      refine aq_block_ret ?_
      refine aq_then_ret ?_
      refine aq_block_ret ?_
      refine aq_then_ret ?_
      refine aq_nilR 205 tyS_api_Token ?_
      obtain rfl := Option.some.inj h
      exact fn_ret (Value.slice none 0 0) [0] [] rfl rfl rfl rfl (res2 rfl rfl rfl) rfl rfl rfl (by decide)
     ·replace h := bif_f hb16 h
      refine aw_skip ?_
      refine aq_tr ?_
      refine al_mv rfl rfl ?_
      refine al_mv rfl rfl ?_
      refine al_in rfl rfl rfl rfl ?_
      obtain ⟨hc17, h⟩ := req_some h
      refine al_val (ov_strIdx hc17.1 hc17.2 Try.underlying9 rfl rfl rfl) ?_
      refine al_val (ov_fieldA (p := 0) rfl Try.underlying205 rfl sz5 rfl rfl rfl) ?_
      refine al_store (i := 0) (vs := [(int .u8 (En.bAt a0 (IntKind.i64.wrap (l3i5 + (1 : Int)))))]) (cs' := [(int .u8 (En.bAt a0 (IntKind.i64.wrap (l3i5 + (1 : Int))))), (int .i64 (0 : Int)), (int .i64 (0 : Int))]) rfl rfl rfl sz5 (cv_rfl rfl) rfl (co_val rfl co_nil) (Nat.le_of_ble_eq_true rfl) rfl rfl ?_
      refine al_nt ?_
      refine aw_region ?_
      refine al_mv rfl rfl ?_
      refine al_in rfl rfl rfl rfl ?_
      refine al_as rfl rfl ?_
      refine al_nil ?_
      exact aq_join ((IntKind.i64.wrap (l3i5 + (2 : Int))), (En.bAt a0 (IntKind.i64.wrap (l3i5 + (1 : Int)))), (0 : Int), (0 : Int)) h (fun w a hm hs => norm hm hs [1, 0] [] [(0, (str a0)), (4, l3v4), (5, (int .i64 (IntKind.i64.wrap (l3i5 + (2 : Int))))), (6, (ptr g7 0))] (by decide) ⟨rfl, rfl, rfl, rfl, trivial⟩)
    ·replace h := bif_f hb15 h
     refine aw_seq ?_
     refine aw_sr ?_
     refine al_mv rfl rfl ?_
     refine al_in rfl rfl rfl rfl ?_
     refine al_mv rfl rfl ?_
     refine al_val (ov_strLen Try.underlying9 rfl rfl) ?_
     refine al_in rfl rfl rfl rfl ?_
     refine al_nt ?_
     refine aw_cond rfl (fun hb18 => ?_) (fun hb18 => ?_)
     ·replace h := bif_t hb18 h
      refine aw_sr ?_
      refine al_as rfl rfl ?_
      refine al_as rfl rfl ?_
      refine al_nt ?_
      refine aw_ret ?_
      refine aq_then_ret ?_
      refine aq_then_ret ?_
      refine aq_block_ret ?_
      refine aq_then_ret ?_
      refine aq_block_ret ?_
      refine aq_then_ret ?_
      refine aq_nilR 205 tyS_api_Token ?_
      obtain rfl := Option.some.inj h
      exact fn_ret (Value.slice none 0 0) [0] [] rfl rfl rfl rfl (res2 rfl rfl rfl) rfl rfl rfl (by decide)
     ·replace h := bif_f hb18 h
      refine aw_skip ?_
      refine aq_tr ?_
      refine al_mv rfl rfl ?_
      refine al_mv rfl rfl ?_
      obtain ⟨hc19, h⟩ := req_some h
      refine al_val (ov_strIdx hc19.1 hc19.2 Try.underlying9 rfl rfl rfl) ?_
      refine al_val (ov_convInt (by rw [Try.underlying5]; rfl) Try.underlying3 rfl rfl) ?_
      refine al_val (ov_fieldA (p := 1) rfl Try.underlying205 rfl sz3 rfl rfl rfl) ?_
      refine al_store (i := 0) (vs := [(int .i64 (IntKind.i64.wrap (En.bAt a0 l3i5)))]) (cs' := [(int .u8 (0 : Int)), (int .i64 (IntKind.i64.wrap (En.bAt a0 l3i5))), (int .i64 (0 : Int))]) rfl rfl rfl sz3 (cv_rfl rfl) rfl (co_val rfl co_nil) (Nat.le_of_ble_eq_true rfl) rfl rfl ?_
      refine al_nt ?_
      refine aw_seq ?_
      obtain ⟨hc20, h⟩ := req_some h
      obtain ⟨hc21, h⟩ := req_some h
      refine aw_region_draw 13 [(37, (fun u => fEq u (str a0))), (38, (fun u => fEq u (int .i64 l3i5))), (39, (fun u => fEq u (int .i64 (IntKind.i64.wrap (l3i5 + (1 : Int)))))), (40, (fun u => fEq u (int .u8 (En.bAt a0 (IntKind.i64.wrap (l3i5 + (1 : Int))))))), (41, (fun u => fEq u (int .i64 (IntKind.i64.wrap (En.bAt a0 (IntKind.i64.wrap (l3i5 + (1 : Int)))))))), (42, (fun u => fEq u (str a0))), (43, (fun u => fEq u (int .i64 l3i5))), (44, (fun u => fEq u (int .i64 (IntKind.i64.wrap (l3i5 + (2 : Int)))))), (45, (fun u => fEq u (int .u8 (En.bAt a0 (IntKind.i64.wrap (l3i5 + (2 : Int))))))), (46, (fun u => fEq u (int .i64 (IntKind.i64.wrap (En.bAt a0 (IntKind.i64.wrap (l3i5 + (2 : Int)))))))), (47, (fun u => fEq u (int .i64 (IntKind.i64.wrap ((256 : Int) * (IntKind.i64.wrap (En.bAt a0 (IntKind.i64.wrap (l3i5 + (2 : Int)))))))))), (48, (fun u => fEq u (int .i64 (IntKind.i64.wrap ((IntKind.i64.wrap (En.bAt a0 (IntKind.i64.wrap (l3i5 + (1 : Int))))) + (IntKind.i64.wrap ((256 : Int) * (IntKind.i64.wrap (En.bAt a0 (IntKind.i64.wrap (l3i5 + (2 : Int)))))))))))), (49, (fun u => fEq u (ptr g7 2)))] (tab [(0, (str a0)), (4, l3v4), (5, (int .i64 l3i5)), (6, (ptr g7 0))]) mixed (by kernel_rfl) rfl rfl rfl (fun a hs => hs.tab _ (allT_mem ⟨rfl, rfl, rfl, rfl, trivial⟩)) ⟨⟨rfl, ld_val (ov_move rfl rfl)⟩, ⟨rfl, ld_val (ov_move rfl rfl)⟩, ⟨rfl, ld_eq (j := 1) rfl rfl (ld_val (ov_int rfl rfl rfl rfl))⟩, ⟨rfl, ld_eq (j := 0) rfl rfl (ld_eq (j := 2) rfl rfl (ld_val (ov_strIdx hc20.1 hc20.2 Try.underlying9 rfl rfl rfl)))⟩, ⟨rfl, ld_eq (j := 3) rfl rfl (ld_val (ov_convInt (by rw [Try.underlying5]; rfl) Try.underlying3 rfl rfl))⟩, ⟨rfl, ld_val (ov_move rfl rfl)⟩, ⟨rfl, ld_val (ov_move rfl rfl)⟩, ⟨rfl, ld_eq (j := 6) rfl rfl (ld_val (ov_int rfl rfl rfl rfl))⟩, ⟨rfl, ld_eq (j := 5) rfl rfl (ld_eq (j := 7) rfl rfl (ld_val (ov_strIdx hc21.1 hc21.2 Try.underlying9 rfl rfl rfl)))⟩, ⟨rfl, ld_eq (j := 8) rfl rfl (ld_val (ov_convInt (by rw [Try.underlying5]; rfl) Try.underlying3 rfl rfl))⟩, ⟨rfl, ld_eq (j := 9) rfl rfl (ld_val (ov_int rfl rfl rfl rfl))⟩, ⟨rfl, ld_eq (j := 4) rfl rfl (ld_eq (j := 10) rfl rfl (ld_val (ov_int rfl rfl rfl rfl)))⟩, ⟨rfl, ld_val (ov_fieldA (p := 2) rfl Try.underlying205 rfl sz3 rfl rfl rfl)⟩, trivial⟩ ?_
      refine tl_eq 11 rfl ?_
      refine tl_eq 12 rfl ?_
      refine tl_done ?_
      refine al_store (i := 0) (vs := [(int .i64 (IntKind.i64.wrap ((IntKind.i64.wrap (En.bAt a0 (IntKind.i64.wrap (l3i5 + (1 : Int))))) + (IntKind.i64.wrap ((256 : Int) * (IntKind.i64.wrap (En.bAt a0 (IntKind.i64.wrap (l3i5 + (2 : Int))))))))))]) (cs' := [(int .u8 (0 : Int)), (int .i64 (IntKind.i64.wrap (En.bAt a0 l3i5))), (int .i64 (IntKind.i64.wrap ((IntKind.i64.wrap (En.bAt a0 (IntKind.i64.wrap (l3i5 + (1 : Int))))) + (IntKind.i64.wrap ((256 : Int) * (IntKind.i64.wrap (En.bAt a0 (IntKind.i64.wrap (l3i5 + (2 : Int))))))))))]) rfl rfl rfl sz3 (cv_rfl rfl) rfl (co_val rfl co_nil) (Nat.le_of_ble_eq_true rfl) rfl rfl ?_
      refine al_nt ?_
      refine aw_sr ?_
      refine al_mv rfl rfl ?_
      refine al_in rfl rfl rfl rfl ?_
      refine al_as rfl rfl ?_
      refine al_nt ?_
      obtain ⟨kk23, hkk23, h⟩ := lt_some h
      refine aw_seq_join (ι := Bool) (fun i => (memOf w0 Z0 [] [(oRow l3v4 205 tyS_api_Token l3x4), (oBox g7 205 [(int .u8 (0 : Int)), (int .i64 (IntKind.i64.wrap (En.bAt a0 l3i5))), (int .i64 (IntKind.i64.wrap ((IntKind.i64.wrap (En.bAt a0 (IntKind.i64.wrap (l3i5 + (1 : Int))))) + (IntKind.i64.wrap ((256 : Int) * (IntKind.i64.wrap (En.bAt a0 (IntKind.i64.wrap (l3i5 + (2 : Int))))))))))])] [])) (fun i => (tab [(0, (str a0)), (4, l3v4), (5, (int .i64 (IntKind.i64.wrap (l3i5 + (3 : Int))))), (6, (ptr g7 0)), (59, (bool i))])) (fun i => kk23 i = some r) ?_ ?_
      ·rintro j22b59 h
       have h : kk23 j22b59 = some r := h
       rw [hkk23] at h
       dsimp only at h
       clear hkk23
       refine aw_show (m := (memOf w0 Z0 [] [(oRow l3v4 205 tyS_api_Token l3x4), (oBox g7 205 [(int .u8 (0 : Int)), (int .i64 (IntKind.i64.wrap (En.bAt a0 l3i5))), (int .i64 (IntKind.i64.wrap ((IntKind.i64.wrap (En.bAt a0 (IntKind.i64.wrap (l3i5 + (1 : Int))))) + (IntKind.i64.wrap ((256 : Int) * (IntKind.i64.wrap (En.bAt a0 (IntKind.i64.wrap (l3i5 + (2 : Int))))))))))])] [])) (S := (tab [(0, (str a0)), (4, l3v4), (5, (int .i64 (IntKind.i64.wrap (l3i5 + (3 : Int))))), (6, (ptr g7 0)), (59, (bool j22b59))])) ?_
       refine aw_cond rfl (fun hb24 => ?_) (fun hb24 => ?_)
       ·replace h := bif_t hb24 h
        refine aw_sr ?_
        refine al_as rfl rfl ?_
        refine al_as rfl rfl ?_
        refine al_nt ?_
        refine aw_ret ?_
        refine aq_then_ret ?_
        refine aq_block_ret ?_
        refine aq_then_ret ?_
        refine aq_block_ret ?_
        refine aq_then_ret ?_
        refine aq_nilR 205 tyS_api_Token ?_
        obtain rfl := Option.some.inj h
        exact fn_ret (Value.slice none 0 0) [0] [] rfl rfl rfl rfl (res2 rfl rfl rfl) rfl rfl rfl (by decide)
       ·replace h := bif_f hb24 h
        refine aw_skip ?_
        exact aq_join ((IntKind.i64.wrap (l3i5 + (3 : Int))), (0 : Int), (IntKind.i64.wrap (En.bAt a0 l3i5)), (IntKind.i64.wrap ((IntKind.i64.wrap (En.bAt a0 (IntKind.i64.wrap (l3i5 + (1 : Int))))) + (IntKind.i64.wrap ((256 : Int) * (IntKind.i64.wrap (En.bAt a0 (IntKind.i64.wrap (l3i5 + (2 : Int)))))))))) h (fun w a hm hs => norm hm hs [0, 1] [] [(0, (str a0)), (4, l3v4), (5, (int .i64 (IntKind.i64.wrap (l3i5 + (3 : Int))))), (6, (ptr g7 0))] (by decide) ⟨rfl, rfl, rfl, rfl, trivial⟩)
      ·clear hkk23
       refine aw_region ?_
       refine al_val (ov_fieldA (p := 2) rfl Try.underlying205 rfl sz3 rfl rfl rfl) ?_
       refine al_val (ov_load (i := 0) (v := (int .i64 (IntKind.i64.wrap ((IntKind.i64.wrap (En.bAt a0 (IntKind.i64.wrap (l3i5 + (1 : Int))))) + (IntKind.i64.wrap ((256 : Int) * (IntKind.i64.wrap (En.bAt a0 (IntKind.i64.wrap (l3i5 + (2 : Int))))))))))) rfl rfl Try.underlying3 sz3 rfl rfl rfl rfl) ?_
       refine al_in rfl rfl rfl rfl ?_
       refine al_mv rfl rfl ?_
       refine al_caseB 55 rfl (fun hb25 => ?_) (fun hb25 => ?_)
       ·replace h := bif_t hb25 h
        refine al_skip ?_
        refine al_skip ?_
        refine al_skip ?_
        refine al_val (ov_pick_t rfl rfl rfl) ?_
        refine al_nil ?_
        exact aq_join true h (fun w a hm hs => norm hm hs [1, 0] [] [(0, (str a0)), (4, l3v4), (5, (int .i64 (IntKind.i64.wrap (l3i5 + (3 : Int))))), (6, (ptr g7 0)), (59, (bool true))] (by decide) ⟨rfl, rfl, rfl, rfl, rfl, trivial⟩)
       ·replace h := bif_f hb25 h
        refine al_val (ov_fieldA (p := 2) rfl Try.underlying205 rfl sz3 rfl rfl rfl) ?_
        refine al_val (ov_load (i := 0) (v := (int .i64 (IntKind.i64.wrap ((IntKind.i64.wrap (En.bAt a0 (IntKind.i64.wrap (l3i5 + (1 : Int))))) + (IntKind.i64.wrap ((256 : Int) * (IntKind.i64.wrap (En.bAt a0 (IntKind.i64.wrap (l3i5 + (2 : Int))))))))))) rfl rfl Try.underlying3 sz3 rfl rfl rfl rfl) ?_
        refine al_in rfl rfl rfl rfl ?_
        refine al_val (ov_pick_f rfl rfl rfl) ?_
        refine al_nil ?_
        exact aq_join (decide ((IntKind.i64.wrap ((IntKind.i64.wrap (En.bAt a0 (IntKind.i64.wrap (l3i5 + (1 : Int))))) + (IntKind.i64.wrap ((256 : Int) * (IntKind.i64.wrap (En.bAt a0 (IntKind.i64.wrap (l3i5 + (2 : Int))))))))) > (1024 : Int))) h (fun w a hm hs => norm hm hs [1, 0] [] [(0, (str a0)), (4, l3v4), (5, (int .i64 (IntKind.i64.wrap (l3i5 + (3 : Int))))), (6, (ptr g7 0)), (59, (bool (decide ((IntKind.i64.wrap ((IntKind.i64.wrap (En.bAt a0 (IntKind.i64.wrap (l3i5 + (1 : Int))))) + (IntKind.i64.wrap ((256 : Int) * (IntKind.i64.wrap (En.bAt a0 (IntKind.i64.wrap (l3i5 + (2 : Int))))))))) > (1024 : Int)))))] (by decide) ⟨rfl, rfl, rfl, rfl, rfl, trivial⟩)
  ·replace h := bif_f hb6 h
   refine aw_exit ?_
   refine aq_then_exit ?_
   refine aq_then_exit ?_
   refine aq_block_exit ?_
   exact aq_join (l3v4, l3x4) h (fun w a hm hs => norm hm hs [0] [] [(4, l3v4)] (by decide) ⟨rfl, trivial⟩)
def f_lumref_tokenForm (fu : Nat) (a0 : S_api_Token) : Option Bool := (lt (fun (j2b3 : Bool) => (lt (fun (j4b4 : Bool) => (lt (fun (j6b2 : Bool) => (some j6b2)) fun (kk7 : Bool → Option Bool) => (bif j2b3 then (kk7 true) else (kk7 j4b4)))) fun (kk5 : Bool → Option Bool) => (bif (a0.Lit == (0 : Int)) then (bif (decide ((1 : Int) ≤ a0.Len)) then (bif (decide (a0.Len ≤ (255 : Int))) then (bif (decide ((1 : Int) ≤ a0.Dist)) then (kk5 (decide (a0.Dist ≤ (1024 : Int)))) else (kk5 false)) else (kk5 false)) else (kk5 false)) else (kk5 false)))) fun (kk3 : Bool → Option Bool) => (bif (a0.Len == (0 : Int)) then (kk3 (a0.Dist == (0 : Int))) else (kk3 false)))
set_option maxRecDepth 100000 in
theorem f_lumref_tokenForm_ok (fu : Nat) (a0 : S_api_Token) {r : Bool} (h : f_lumref_tokenForm fu a0 = some r) : FnOk Try.prog 172 [(ag [(int .u8 a0.Lit), (int .i64 a0.Len), (int .i64 a0.Dist)])] [] [] (fun (i : Unit) => { val := (bool r) }) := by
 unfold f_lumref_tokenForm at h
 refine fn_enter Try.func172 rfl Try.ntmps172 rfl (fun w0 Z0 => ?_)
 refine aw_sr ?_
 refine al_box (vs := [(int .u8 a0.Lit), (int .i64 a0.Len), (int .i64 a0.Dist)]) rfl (cv_rfl rfl) rfl (fun g1 => ?_)
 refine al_as rfl rfl ?_
 refine al_nt ?_
 obtain ⟨kk3, hkk3, h⟩ := lt_some h
 refine aw_seq_join (ι := Bool) (fun i => (memOf w0 Z0 [] [(oBox g1 205 [(int .u8 a0.Lit), (int .i64 a0.Len), (int .i64 a0.Dist)])] [])) (fun i => (tab [(1, (ptr g1 0)), (3, (bool i))])) (fun i => kk3 i = some r) ?_ ?_
 ·rintro j2b3 h
  have h : kk3 j2b3 = some r := h
  rw [hkk3] at h
  dsimp only at h
  clear hkk3
  refine aw_show (m := (memOf w0 Z0 [] [(oBox g1 205 [(int .u8 a0.Lit), (int .i64 a0.Len), (int .i64 a0.Dist)])] [])) (S := (tab [(1, (ptr g1 0)), (3, (bool j2b3))])) ?_
  obtain ⟨kk5, hkk5, h⟩ := lt_some h
  refine aw_seq_join (ι := Bool) (fun i => (memOf w0 Z0 [] [] [])) (fun i => (tab [(3, (bool j2b3)), (4, (bool i))])) (fun i => kk5 i = some r) ?_ ?_
  ·rintro j4b4 h
   have h : kk5 j4b4 = some r := h
   rw [hkk5] at h
   dsimp only at h
   clear hkk5
   refine aw_show (m := (memOf w0 Z0 [] [] [])) (S := (tab [(3, (bool j2b3)), (4, (bool j4b4))])) ?_
   obtain ⟨kk7, hkk7, h⟩ := lt_some h
   refine aw_seq_join (ι := Bool) (fun i => (memOf w0 Z0 [] [] [])) (fun i => (tab [(2, (bool i))])) (fun i => kk7 i = some r) ?_ ?_
   ·rintro j6b2 h
    have h : kk7 j6b2 = some r := h
    rw [hkk7] at h
    dsimp only at h
    clear hkk7
    refine aw_show (m := (memOf w0 Z0 [] [] [])) (S := (tab [(2, (bool j6b2))])) ?_
    refine aw_ret ?_
    obtain rfl := Option.some.inj h
    exact fn_ret () [] [] rfl rfl rfl rfl (res1 rfl rfl) rfl rfl rfl (by decide)
   ·clear hkk7
    refine aw_region ?_
    refine al_mv rfl rfl ?_
    refine al_mv rfl rfl ?_
    refine al_caseB 37 rfl (fun hb8 => ?_) (fun hb8 => ?_)
    ·replace h := bif_t hb8 h
     refine al_skip ?_
     refine al_val (ov_pick_t rfl rfl rfl) ?_
     refine al_as rfl rfl ?_
     refine al_nil ?_
     exact aq_join true h (fun w a hm hs => norm hm hs [] [] [(2, (bool true))] (by decide) ⟨rfl, trivial⟩)
    ·replace h := bif_f hb8 h
     refine al_mv rfl rfl ?_
     refine al_val (ov_pick_f rfl rfl rfl) ?_
     refine al_as rfl rfl ?_
     refine al_nil ?_
     exact aq_join j4b4 h (fun w a hm hs => norm hm hs [] [] [(2, (bool j4b4))] (by decide) ⟨rfl, trivial⟩)
  ·clear hkk5
   refine aw_region ?_
   refine al_val (ov_fieldA (p := 0) rfl Try.underlying205 rfl sz5 rfl rfl rfl) ?_
   refine al_val (ov_load (i := 0) (v := (int .u8 a0.Lit)) rfl rfl Try.underlying5 sz5 rfl rfl rfl rfl) ?_
   refine al_in rfl rfl rfl rfl ?_
   refine al_mv rfl rfl ?_
   refine al_caseB 16 rfl (fun hb9 => ?_) (fun hb9 => ?_)
   ·replace h := bif_t hb9 h
    refine al_val (ov_fieldA (p := 1) rfl Try.underlying205 rfl sz3 rfl rfl rfl) ?_
    refine al_val (ov_load (i := 0) (v := (int .i64 a0.Len)) rfl rfl Try.underlying3 sz3 rfl rfl rfl rfl) ?_
    refine al_in rfl rfl rfl rfl ?_
    refine al_val (ov_pick_t rfl rfl rfl) ?_
    refine al_mv rfl rfl ?_
    refine al_caseB 21 rfl (fun hb10 => ?_) (fun hb10 => ?_)
    ·replace h := bif_t hb10 h
     refine al_val (ov_fieldA (p := 1) rfl Try.underlying205 rfl sz3 rfl rfl rfl) ?_
     refine al_val (ov_load (i := 0) (v := (int .i64 a0.Len)) rfl rfl Try.underlying3 sz3 rfl rfl rfl rfl) ?_
     refine al_in rfl rfl rfl rfl ?_
     refine al_val (ov_pick_t rfl rfl rfl) ?_
     refine al_mv rfl rfl ?_
     refine al_caseB 26 rfl (fun hb11 => ?_) (fun hb11 => ?_)
     ·replace h := bif_t hb11 h
      refine al_val (ov_fieldA (p := 2) rfl Try.underlying205 rfl sz3 rfl rfl rfl) ?_
      refine al_val (ov_load (i := 0) (v := (int .i64 a0.Dist)) rfl rfl Try.underlying3 sz3 rfl rfl rfl rfl) ?_
      refine al_in rfl rfl rfl rfl ?_
      refine al_val (ov_pick_t rfl rfl rfl) ?_
      refine al_mv rfl rfl ?_
      refine al_caseB 31 rfl (fun hb12 => ?_) (fun hb12 => ?_)
      ·replace h := bif_t hb12 h
       refine al_val (ov_fieldA (p := 2) rfl Try.underlying205 rfl sz3 rfl rfl rfl) ?_
       refine al_val (ov_load (i := 0) (v := (int .i64 a0.Dist)) rfl rfl Try.underlying3 sz3 rfl rfl rfl rfl) ?_
       refine al_in rfl rfl rfl rfl ?_
       refine al_val (ov_pick_t rfl rfl rfl) ?_
       refine al_as rfl rfl ?_
       refine al_nil ?_
       exact aq_join (decide (a0.Dist ≤ (1024 : Int))) h (fun w a hm hs => norm hm hs [] [] [(3, (bool j2b3)), (4, (bool (decide (a0.Dist ≤ (1024 : Int)))))] (by decide) ⟨rfl, rfl, trivial⟩)
      ·replace h := bif_f hb12 h
       refine al_skip ?_
       refine al_skip ?_
       refine al_skip ?_
       refine al_val (ov_pick_f rfl rfl rfl) ?_
       refine al_as rfl rfl ?_
       refine al_nil ?_
       exact aq_join false h (fun w a hm hs => norm hm hs [] [] [(3, (bool j2b3)), (4, (bool false))] (by decide) ⟨rfl, rfl, trivial⟩)
     ·replace h := bif_f hb11 h
      refine al_skip ?_
      refine al_skip ?_
      refine al_skip ?_
      refine al_val (ov_pick_f rfl rfl rfl) ?_
      refine al_mv rfl rfl ?_
      refine al_skip ?_
      refine al_skip ?_
      refine al_skip ?_
      refine al_val (ov_pick_f rfl rfl rfl) ?_
      refine al_as rfl rfl ?_
      refine al_nil ?_
      exact aq_join false h (fun w a hm hs => norm hm hs [] [] [(3, (bool j2b3)), (4, (bool false))] (by decide) ⟨rfl, rfl, trivial⟩)
    ·replace h := bif_f hb10 h
     refine al_skip ?_
     refine al_skip ?_
     refine al_skip ?_
     refine al_val (ov_pick_f rfl rfl rfl) ?_
     refine al_mv rfl rfl ?_
     refine al_skip ?_
     refine al_skip ?_
     refine al_skip ?_
     refine al_val (ov_pick_f rfl rfl rfl) ?_
     refine al_mv rfl rfl ?_
     refine al_skip ?_
     refine al_skip ?_
     refine al_skip ?_
     refine al_val (ov_pick_f rfl rfl rfl) ?_
     refine al_as rfl rfl ?_
     refine al_nil ?_
     exact aq_join false h (fun w a hm hs => norm hm hs [] [] [(3, (bool j2b3)), (4, (bool false))] (by decide) ⟨rfl, rfl, trivial⟩)
   ·replace h := bif_f hb9 h
    refine al_skip ?_
    refine al_skip ?_
    refine al_skip ?_
    refine al_val (ov_pick_f rfl rfl rfl) ?_
    refine al_mv rfl rfl ?_
    refine al_skip ?_
    refine al_skip ?_
    refine al_skip ?_
    refine al_val (ov_pick_f rfl rfl rfl) ?_
    refine al_mv rfl rfl ?_
    refine al_skip ?_
    refine al_skip ?_
    refine al_skip ?_
    refine al_val (ov_pick_f rfl rfl rfl) ?_
    refine al_mv rfl rfl ?_
    refine al_skip ?_
    refine al_skip ?_
    refine al_skip ?_
    refine al_val (ov_pick_f rfl rfl rfl) ?_
    refine al_as rfl rfl ?_
    refine al_nil ?_
    exact aq_join false h (fun w a hm hs => norm hm hs [] [] [(3, (bool j2b3)), (4, (bool false))] (by decide) ⟨rfl, rfl, trivial⟩)
 ·clear hkk3
  refine aw_region ?_
  refine al_val (ov_fieldA (p := 1) rfl Try.underlying205 rfl sz3 rfl rfl rfl) ?_
  refine al_val (ov_load (i := 0) (v := (int .i64 a0.Len)) rfl rfl Try.underlying3 sz3 rfl rfl rfl rfl) ?_
  refine al_in rfl rfl rfl rfl ?_
  refine al_mv rfl rfl ?_
  refine al_caseB 8 rfl (fun hb13 => ?_) (fun hb13 => ?_)
  ·replace h := bif_t hb13 h
   refine al_val (ov_fieldA (p := 2) rfl Try.underlying205 rfl sz3 rfl rfl rfl) ?_
   refine al_val (ov_load (i := 0) (v := (int .i64 a0.Dist)) rfl rfl Try.underlying3 sz3 rfl rfl rfl rfl) ?_
   refine al_in rfl rfl rfl rfl ?_
   refine al_val (ov_pick_t rfl rfl rfl) ?_
   refine al_as rfl rfl ?_
   refine al_nil ?_
   exact aq_join (a0.Dist == (0 : Int)) h (fun w a hm hs => norm hm hs [0] [] [(1, (ptr g1 0)), (3, (bool (a0.Dist == (0 : Int))))] (by decide) ⟨rfl, rfl, trivial⟩)
  ·replace h := bif_f hb13 h
   refine al_skip ?_
   refine al_skip ?_
   refine al_skip ?_
   refine al_val (ov_pick_f rfl rfl rfl) ?_
   refine al_as rfl rfl ?_
   refine al_nil ?_
   exact aq_join false h (fun w a hm hs => norm hm hs [0] [] [(1, (ptr g1 0)), (3, (bool false))] (by decide) ⟨rfl, rfl, trivial⟩)
def f_lumref_Tokens_L6 (a0 : (List S_api_Token)) (kk3 : (Unit → Option Int)) (fu : Nat) : Nat → Int → Option Int
  | 0, _ => none
  | k5 + 1, l4i10 => (bif (decide (l4i10 < (a0.length : Int))) then (opt (at? a0 l4i10) fun (u8 : S_api_Token) => (opt (f_lumref_tokenForm fu u8) fun (r13 : Bool) => (bif (!r13) then (some (4 : Int)) else (f_lumref_Tokens_L6 a0 kk3 fu k5 (IntKind.i64.wrap (l4i10 + (1 : Int))))))) else (kk3 ()))
def f_lumref_Tokens (fu : Nat) (a0 : (List S_api_Token)) : Option Int := (bif (decide ((a0.length : Int) > (4096 : Int))) then (some (2 : Int)) else (lt (fun (_ : Unit) => (some (0 : Int))) fun (kk3 : Unit → Option Int) => (f_lumref_Tokens_L6 a0 kk3 fu fu (0 : Int))))
set_option maxRecDepth 100000 in
theorem f_lumref_Tokens_ok (fu : Nat) (v0_0 : Value) (a0 : (List S_api_Token)) {r : Int} (h : f_lumref_Tokens fu a0 = some r) : FnOk Try.prog 132 [v0_0] [(fDat (tyList tyS_api_Token) [v0_0] a0)] [] (fun (i : Unit) => { val := (int .i64 r) }) := by
 unfold f_lumref_Tokens at h
 refine fn_enter Try.func132 rfl Try.ntmps132 rfl (fun w0 Z0 => ?_)
 refine aw_sr ?_
 refine al_as rfl rfl ?_
 refine al_nt ?_
 refine aw_seq ?_
 refine aw_sr ?_
 refine al_mv rfl rfl ?_
 refine al_val (ov_lenD 0 rfl rfl Try.underlying147 rfl) ?_
 refine al_in rfl rfl rfl rfl ?_
 refine al_nt ?_
 refine aw_cond rfl (fun hb1 => ?_) (fun hb1 => ?_)
 ·replace h := bif_t hb1 h
  refine aw_sr ?_
  refine al_as rfl rfl ?_
  refine al_nt ?_
  refine aw_ret ?_
  refine aq_then_ret ?_
  obtain rfl := Option.some.inj h
  exact fn_ret () [] [] rfl rfl rfl rfl (res1 rfl rfl) rfl rfl rfl (by decide)
 ·replace h := bif_f hb1 h
  refine aw_skip ?_
  refine aq_then ?_
  obtain ⟨kk3, hkk3, h⟩ := lt_some h
  refine aw_seq_join (ι := Unit) (fun i => (memOf w0 Z0 [] [] [(fDat (tyList tyS_api_Token) [v0_0] a0)])) (fun i => (tab [])) (fun i => kk3 () = some r) ?_ ?_
  ·rintro _ h
   have h : kk3 () = some r := h
   rw [hkk3] at h
   dsimp only at h
   clear hkk3
   refine aw_show (m := (memOf w0 Z0 [] [] [(fDat (tyList tyS_api_Token) [v0_0] a0)])) (S := (tab [])) ?_
   refine aw_sr ?_
   refine al_as rfl rfl ?_
   refine al_nt ?_
   refine aw_ret ?_
   obtain rfl := Option.some.inj h
   exact fn_ret () [] [] rfl rfl rfl rfl (res1 rfl rfl) rfl rfl rfl (by decide)
  ·clear hkk3
   refine aw_sr ?_
   refine al_mv rfl rfl ?_
   refine al_val (ov_lenD 0 rfl rfl Try.underlying147 rfl) ?_
   refine al_mv rfl rfl ?_
   refine al_nt ?_
   refine aw_block ?_
   refine aw_state (aw_loop (ι := Int) (fun i => (memOf w0 Z0 [] [] [(fDat (tyList tyS_api_Token) [v0_0] a0)])) (fun i => (tab [(8, v0_0), (9, (int .i64 (a0.length : Int))), (10, (int .i64 i))])) (fun q i => f_lumref_Tokens_L6 a0 kk3 fu q i = some r) ?_ fu (0 : Int) h) (fun w a hm hs => norm hm hs [] [0] [(8, v0_0), (9, (int .i64 (a0.length : Int))), (10, (int .i64 (0 : Int)))] (by decide) ⟨rfl, rfl, rfl, trivial⟩)
   clear h
   rintro k5 l4i10 h
   have h : f_lumref_Tokens_L6 a0 kk3 fu k5 l4i10 = some r := h
   obtain _ | k5 := k5
   · rw [f_lumref_Tokens_L6] at h; cases h
   rw [f_lumref_Tokens_L6] at h
   refine aw_show (m := (memOf w0 Z0 [] [] [(fDat (tyList tyS_api_Token) [v0_0] a0)])) (S := (tab [(8, v0_0), (9, (int .i64 (a0.length : Int))), (10, (int .i64 l4i10))])) ?_
   refine aw_sr ?_
   refine al_in rfl rfl rfl rfl ?_
   refine al_nt ?_
   refine aw_seq ?_
   refine aw_cond rfl (fun hb7 => ?_) (fun hb7 => ?_)
   ·replace h := bif_t hb7 h
    refine aw_skip ?_
    refine aq_then ?_
    refine aw_seq ?_
    refine aw_block ?_
    refine aw_sr ?_
    obtain ⟨u8, hu9, h⟩ := opt_some h
    refine al_idxD 0 hu9 rfl rfl rfl Try.underlying147 sz205 rfl (fun p10 => ?_)
    refine al_val (ov_loadP (ds := [(int .u8 u8.Lit), (int .i64 u8.Len), (int .i64 u8.Dist)]) 0 rfl encS_api_Token rfl Try.underlying205 sz205 rfl rfl rfl) ?_
    refine al_alloc (zs := [(int .u8 (0 : Int)), (int .i64 (0 : Int)), (int .i64 (0 : Int))]) (zeroOf_to to205) rfl rfl (fun g11 => ?_)
    refine al_store (i := 0) (vs := [(int .u8 u8.Lit), (int .i64 u8.Len), (int .i64 u8.Dist)]) (cs' := [(int .u8 u8.Lit), (int .i64 u8.Len), (int .i64 u8.Dist)]) rfl rfl rfl sz205 (cv_rfl rfl) rfl (co_val rfl (co_val rfl (co_val rfl co_nil))) (Nat.le_of_ble_eq_true rfl) rfl rfl ?_
    refine al_nt ?_
    refine aw_sr ?_
    refine al_val (ov_load (i := 0) (v := (ag [(int .u8 u8.Lit), (int .i64 u8.Len), (int .i64 u8.Dist)])) rfl rfl Try.underlying205 sz205 rfl rfl rfl rfl) ?_
    obtain ⟨r13, hc12, h⟩ := opt_some h
    refine al_call (vs := [(ag [(int .u8 u8.Lit), (int .i64 u8.Len), (int .i64 u8.Dist)])]) (f_lumref_tokenForm_ok fu u8 hc12) [] [] [0] pre_nil rfl (by simp) (by decide) (.inl rfl) rfl Try.func172 rfl rfl rfl (fun _ => ?_)
    refine al_val (ov_not rfl rfl) ?_
    refine al_nt ?_
    refine aw_cond rfl (fun hb14 => ?_) (fun hb14 => ?_)
    ·replace h := bif_t hb14 h
     refine aw_sr ?_
     refine al_as rfl rfl ?_
     refine al_nt ?_
     refine aw_ret ?_
     refine aq_block_ret ?_
     refine aq_then_ret ?_
     refine aq_then_ret ?_
     refine aq_block_ret ?_
     refine aq_then_ret ?_
     obtain rfl := Option.some.inj h
     exact fn_ret () [] [] rfl rfl rfl rfl (res1 rfl rfl) rfl rfl rfl (by decide)
    ·replace h := bif_f hb14 h
     refine aw_skip ?_
     refine aq_block ?_
     refine aq_then ?_
     refine aw_region ?_
     refine al_in rfl rfl rfl rfl ?_
     refine al_mv rfl rfl ?_
     refine al_nil ?_
     exact aq_again k5 (IntKind.i64.wrap (l4i10 + (1 : Int))) (Nat.lt_succ_self _) h (fun w a hm hs => norm hm hs [] [1] [(8, v0_0), (9, (int .i64 (a0.length : Int))), (10, (int .i64 (IntKind.i64.wrap (l4i10 + (1 : Int)))))] (by decide) ⟨rfl, rfl, rfl, trivial⟩)
   ·replace h := bif_f hb7 h
    refine aw_exit ?_
    refine aq_then_exit ?_
    refine aq_then_exit ?_
    refine aq_block_exit ?_
    exact aq_join () h (fun w a hm hs => norm hm hs [] [0] [] (by decide) trivial)
def f_strings_Repeat (fu : Nat) (a0 : List UInt8) (a1 : Int) : Option (List UInt8) := req (0 ≤ a1 ∧ a1 ≤ 9223372036854775807 ∧ a0.length * a1.toNat ≤ 140737488355328) (some (Lib.repeatL a0 a1.toNat))
theorem f_strings_Repeat_ok (fu : Nat) (a0 : List UInt8) (a1 : Int) {r : List UInt8} (h : f_strings_Repeat fu a0 a1 = some r) : FnOk Try.prog 133 [(str a0), (int .i64 a1)] [] [] (fun (i : Unit) => { val := (str r) }) := by
  unfold f_strings_Repeat at h
  obtain ⟨hc, h⟩ := req_some h
  obtain rfl := Option.some.inj h
  obtain ⟨n, rfl⟩ : ∃ n : Nat, a1 = n := ⟨a1.toNat, by omega⟩
  refine fnok_pure fun w => ?_
  exact (Try.strings_Repeat ⟨a0.toArray⟩ n w (by omega) (by simpa [ByteArray.size] using hc.2.2)).mono fun e w' h9 => by simpa [str] using h9
def f_lumref_Expand_L11 (a0 : (List S_api_Token)) (a1 : Int) (kk8 : ((List UInt8) → Option ((List UInt8) × Int))) (fu : Nat) : Nat → (List UInt8) → Int → Option ((List UInt8) × Int)
  | 0, _, _ => none
  | k10 + 1, l9s7, l9i25 => (bif (decide (l9i25 < (a0.length : Int))) then (lt (fun (j13s7 : (List UInt8)) => (f_lumref_Expand_L11 a0 a1 kk8 fu k10 j13s7 (IntKind.i64.wrap (l9i25 + (1 : Int))))) fun (kk14 : (List UInt8) → Option ((List UInt8) × Int)) => (opt (at? a0 l9i25) fun (u15 : S_api_Token) => (bif (decide (u15.Dist > (l9s7.length : Int))) then (some (([] : List UInt8), (4 : Int))) else (lt (fun (j20i10 : Int) => (bif (decide ((IntKind.i64.wrap ((l9s7.length : Int) + j20i10)) > a1)) then (some (([] : List UInt8), (2 : Int))) else (bif (u15.Len == (0 : Int)) then (req (0 ≤ u15.Lit ∧ u15.Lit ≤ 255) (req (l9s7.length + ([(UInt8.ofNat (u15.Lit).toNat)]).length ≤ 9223372036854775807) (kk14 (l9s7 ++ ([(UInt8.ofNat (u15.Lit).toNat)]))))) else (req (0 ≤ (IntKind.i64.wrap ((l9s7.length : Int) - u15.Dist)) ∧ (IntKind.i64.wrap ((l9s7.length : Int) - u15.Dist)) ≤ (l9s7.length : Int)) (req (((l9s7.drop ((IntKind.i64.wrap ((l9s7.length : Int) - u15.Dist))).toNat).length : Int) ≠ 0) (opt (f_strings_Repeat fu (l9s7.drop ((IntKind.i64.wrap ((l9s7.length : Int) - u15.Dist))).toNat) (IntKind.i64.wrap ((IntKind.i64.wrap ((j20i10).tdiv ((l9s7.drop ((IntKind.i64.wrap ((l9s7.length : Int) - u15.Dist))).toNat).length : Int))) + (1 : Int)))) fun (r30 : (List UInt8)) => (req (0 ≤ j20i10 ∧ j20i10 ≤ (r30.length : Int)) (req (l9s7.length + (r30.take (j20i10).toNat).length ≤ 9223372036854775807) (kk14 (l9s7 ++ (r30.take (j20i10).toNat))))))))))) fun (kk21 : Int → Option ((List UInt8) × Int)) => (bif (u15.Len == (0 : Int)) then (kk21 (1 : Int)) else (kk21 u15.Len)))))) else (kk8 l9s7))
def f_lumref_Expand (fu : Nat) (a0 : (List S_api_Token)) (a1 : Int) : Option ((List UInt8) × Int) := (lt (fun (j1b17 : Bool) => (bif j1b17 then (some (([] : List UInt8), (1 : Int))) else (opt (f_lumref_Tokens fu a0) fun (r5 : Int) => (bif (r5 != (0 : Int)) then (some (([] : List UInt8), r5)) else (lt (fun (j7s7 : (List UInt8)) => (some (j7s7, (0 : Int)))) fun (kk8 : (List UInt8) → Option ((List UInt8) × Int)) => (f_lumref_Expand_L11 a0 a1 kk8 fu fu ([] : List UInt8) (0 : Int))))))) fun (kk2 : Bool → Option ((List UInt8) × Int)) => (bif (decide (a1 < (0 : Int))) then (kk2 true) else (kk2 (decide (a1 > (4096 : Int))))))
set_option maxRecDepth 100000 in
set_option maxHeartbeats 2000000 in
theorem f_lumref_Expand_ok (fu : Nat) (v0_0 : Value) (a0 : (List S_api_Token)) (a1 : Int) {r : ((List UInt8) × Int)} (h : f_lumref_Expand fu a0 a1 = some r) : FnOk Try.prog 80 [v0_0, (int .i64 a1)] [(fDat (tyList tyS_api_Token) [v0_0] a0)] [] (fun (i : Unit) => { val := (Value.tuple #[(str r.1), (int .i64 r.2)]) }) := by
 unfold f_lumref_Expand at h
 refine fn_enter Try.func80 rfl Try.ntmps80 rfl (fun w0 Z0 => ?_)
 refine aw_sr ?_
 refine al_as rfl rfl ?_
 refine al_as rfl rfl ?_
 refine al_nt ?_
 refine aw_seq ?_
 obtain ⟨kk2, hkk2, h⟩ := lt_some h
 refine aw_seq_join (ι := Bool) (fun i => (memOf w0 Z0 [] [] [(fDat (tyList tyS_api_Token) [v0_0] a0)])) (fun i => (tab [(0, v0_0), (1, (int .i64 a1)), (17, (bool i))])) (fun i => kk2 i = some r) ?_ ?_
 ·rintro j1b17 h
  have h : kk2 j1b17 = some r := h
  rw [hkk2] at h
  dsimp only at h
  clear hkk2
  refine aw_show (m := (memOf w0 Z0 [] [] [(fDat (tyList tyS_api_Token) [v0_0] a0)])) (S := (tab [(0, v0_0), (1, (int .i64 a1)), (17, (bool j1b17))])) ?_
  refine aw_cond rfl (fun hb3 => ?_) (fun hb3 => ?_)
  ·replace h := bif_t hb3 h
   refine aw_sr ?_
   refine al_as rfl rfl ?_
   refine al_as rfl rfl ?_
   refine al_nt ?_
   refine aw_ret ?_
   refine aq_then_ret ?_
   obtain rfl := Option.some.inj h
   exact fn_ret () [] [] rfl rfl rfl rfl (res2 rfl rfl rfl) rfl rfl rfl (by decide)
  ·replace h := bif_f hb3 h
   refine aw_skip ?_
   refine aq_then ?_
   refine aw_seq ?_
   refine aw_sr ?_
   refine al_mv rfl rfl ?_
   obtain ⟨r5, hc4, h⟩ := opt_some h
   refine al_call (vs := [v0_0]) (f_lumref_Tokens_ok fu v0_0 a0 hc4) [] [] [] (pre_fz 0 rfl pre_nil) rfl (by simp) (by decide) (.inl rfl) rfl Try.func132 rfl rfl rfl (fun _ => ?_)
   refine al_as rfl rfl ?_
   refine al_nt ?_
   refine aw_sr ?_
   refine al_mv rfl rfl ?_
   refine al_in rfl rfl rfl rfl ?_
   refine al_nt ?_
   refine aw_cond rfl (fun hb6 => ?_) (fun hb6 => ?_)
   ·replace h := bif_t hb6 h
    refine aw_sr ?_
    refine al_mv rfl rfl ?_
    refine al_as rfl rfl ?_
    refine al_as rfl rfl ?_
    refine al_nt ?_
    refine aw_ret ?_
    refine aq_then_ret ?_
    obtain rfl := Option.some.inj h
    exact fn_ret () [] [] rfl rfl rfl rfl (res2 rfl rfl rfl) rfl rfl rfl (by decide)
   ·replace h := bif_f hb6 h
    refine aw_skip ?_
    refine aq_tr ?_
    refine al_as rfl rfl ?_
    refine al_nt ?_
    obtain ⟨kk8, hkk8, h⟩ := lt_some h
    refine aw_seq_join (ι := (List UInt8)) (fun i => (memOf w0 Z0 [] [] [(fDat (tyList tyS_api_Token) [v0_0] a0)])) (fun i => (tab [(7, (str i))])) (fun i => kk8 i = some r) ?_ ?_
    ·rintro j7s7 h
     have h : kk8 j7s7 = some r := h
     rw [hkk8] at h
     dsimp only at h
     clear hkk8
     refine aw_show (m := (memOf w0 Z0 [] [] [(fDat (tyList tyS_api_Token) [v0_0] a0)])) (S := (tab [(7, (str j7s7))])) ?_
     refine aw_sr ?_
     refine al_mv rfl rfl ?_
     refine al_as rfl rfl ?_
     refine al_as rfl rfl ?_
     refine al_nt ?_
     refine aw_ret ?_
     obtain rfl := Option.some.inj h
     exact fn_ret () [] [] rfl rfl rfl rfl (res2 rfl rfl rfl) rfl rfl rfl (by decide)
    ·clear hkk8
     refine aw_sr ?_
     refine al_mv rfl rfl ?_
     refine al_val (ov_lenD 0 rfl rfl Try.underlying147 rfl) ?_
     refine al_mv rfl rfl ?_
     refine al_nt ?_
     refine aw_block ?_
     refine aw_state (aw_loop (ι := (List UInt8) × Int) (fun i => (memOf w0 Z0 [] [] [(fDat (tyList tyS_api_Token) [v0_0] a0)])) (fun i => (tab [(1, (int .i64 a1)), (7, (str i.1)), (23, v0_0), (24, (int .i64 (a0.length : Int))), (25, (int .i64 i.2))])) (fun q i => f_lumref_Expand_L11 a0 a1 kk8 fu q i.1 i.2 = some r) ?_ fu (([] : List UInt8), (0 : Int)) h) (fun w a hm hs => norm hm hs [] [0] [(1, (int .i64 a1)), (7, (str ([] : List UInt8))), (23, v0_0), (24, (int .i64 (a0.length : Int))), (25, (int .i64 (0 : Int)))] (by decide) ⟨rfl, rfl, rfl, rfl, rfl, trivial⟩)
     clear h
     rintro k10 ⟨l9s7, l9i25⟩ h
     have h : f_lumref_Expand_L11 a0 a1 kk8 fu k10 l9s7 l9i25 = some r := h
     obtain _ | k10 := k10
     · rw [f_lumref_Expand_L11] at h; cases h
     rw [f_lumref_Expand_L11] at h
     refine aw_show (m := (memOf w0 Z0 [] [] [(fDat (tyList tyS_api_Token) [v0_0] a0)])) (S := (tab [(1, (int .i64 a1)), (7, (str l9s7)), (23, v0_0), (24, (int .i64 (a0.length : Int))), (25, (int .i64 l9i25))])) ?_
     refine aw_sr ?_
     refine al_in rfl rfl rfl rfl ?_
     refine al_nt ?_
     refine aw_seq ?_
     refine aw_cond rfl (fun hb12 => ?_) (fun hb12 => ?_)
     ·replace h := bif_t hb12 h
      refine aw_skip ?_
      refine aq_then ?_
      obtain ⟨kk14, hkk14, h⟩ := lt_some h
      refine aw_seq_join (ι := (List UInt8)) (fun i => (memOf w0 Z0 [] [] [(fDat (tyList tyS_api_Token) [v0_0] a0)])) (fun i => (tab [(1, (int .i64 a1)), (7, (str i)), (23, v0_0), (24, (int .i64 (a0.length : Int))), (25, (int .i64 l9i25))])) (fun i => kk14 i = some r) ?_ ?_
      ·rintro j13s7 h
       have h : kk14 j13s7 = some r := h
       rw [hkk14] at h
       dsimp only at h
       clear hkk14
       refine aw_show (m := (memOf w0 Z0 [] [] [(fDat (tyList tyS_api_Token) [v0_0] a0)])) (S := (tab [(1, (int .i64 a1)), (7, (str j13s7)), (23, v0_0), (24, (int .i64 (a0.length : Int))), (25, (int .i64 l9i25))])) ?_
       refine aw_region ?_
       refine al_in rfl rfl rfl rfl ?_
       refine al_mv rfl rfl ?_
       refine al_nil ?_
       exact aq_again k10 (j13s7, (IntKind.i64.wrap (l9i25 + (1 : Int)))) (Nat.lt_succ_self _) h (fun w a hm hs => norm hm hs [] [0] [(1, (int .i64 a1)), (7, (str j13s7)), (23, v0_0), (24, (int .i64 (a0.length : Int))), (25, (int .i64 (IntKind.i64.wrap (l9i25 + (1 : Int)))))] (by decide) ⟨rfl, rfl, rfl, rfl, rfl, trivial⟩)
      ·clear hkk14
       refine aw_block ?_
       refine aw_sr ?_
       obtain ⟨u15, hu16, h⟩ := opt_some h
       refine al_idxD 0 hu16 rfl rfl rfl Try.underlying147 sz205 rfl (fun p17 => ?_)
       refine al_val (ov_loadP (ds := [(int .u8 u15.Lit), (int .i64 u15.Len), (int .i64 u15.Dist)]) 0 rfl encS_api_Token rfl Try.underlying205 sz205 rfl rfl rfl) ?_
       refine al_alloc (zs := [(int .u8 (0 : Int)), (int .i64 (0 : Int)), (int .i64 (0 : Int))]) (zeroOf_to to205) rfl rfl (fun g18 => ?_)
       refine al_store (i := 0) (vs := [(int .u8 u15.Lit), (int .i64 u15.Len), (int .i64 u15.Dist)]) (cs' := [(int .u8 u15.Lit), (int .i64 u15.Len), (int .i64 u15.Dist)]) rfl rfl rfl sz205 (cv_rfl rfl) rfl (co_val rfl (co_val rfl (co_val rfl co_nil))) (Nat.le_of_ble_eq_true rfl) rfl rfl ?_
       refine al_nt ?_
       refine aw_seq ?_
       refine aw_sr ?_
       refine al_val (ov_fieldA (p := 2) rfl Try.underlying205 rfl sz3 rfl rfl rfl) ?_
       refine al_val (ov_load (i := 0) (v := (int .i64 u15.Dist)) rfl rfl Try.underlying3 sz3 rfl rfl rfl rfl) ?_
       refine al_mv rfl rfl ?_
       refine al_val (ov_strLen Try.underlying9 rfl rfl) ?_
       refine al_in rfl rfl rfl rfl ?_
       refine al_nt ?_
       refine aw_cond rfl (fun hb19 => ?_) (fun hb19 => ?_)
       ·replace h := bif_t hb19 h
        refine aw_sr ?_
        refine al_as rfl rfl ?_
        refine al_as rfl rfl ?_
        refine al_nt ?_
        refine aw_ret ?_
        refine aq_then_ret ?_
        refine aq_block_ret ?_
        refine aq_then_ret ?_
        refine aq_then_ret ?_
        refine aq_block_ret ?_
        refine aq_then_ret ?_
        obtain rfl := Option.some.inj h
        exact fn_ret () [] [] rfl rfl rfl rfl (res2 rfl rfl rfl) rfl rfl rfl (by decide)
       ·replace h := bif_f hb19 h
        refine aw_skip ?_
        refine aq_tr ?_
        refine al_val (ov_fieldA (p := 1) rfl Try.underlying205 rfl sz3 rfl rfl rfl) ?_
        refine al_val (ov_load (i := 0) (v := (int .i64 u15.Len)) rfl rfl Try.underlying3 sz3 rfl rfl rfl rfl) ?_
        refine al_as rfl rfl ?_
        refine al_nt ?_
        obtain ⟨kk21, hkk21, h⟩ := lt_some h
        refine aw_seq_join (ι := Int) (fun i => (memOf w0 Z0 [] [(oBox g18 205 [(int .u8 u15.Lit), (int .i64 u15.Len), (int .i64 u15.Dist)])] [(fDat (tyList tyS_api_Token) [v0_0] a0), (fPtr tyS_api_Token p17 u15)])) (fun i => (tab [(1, (int .i64 a1)), (7, (str l9s7)), (9, (ptr g18 0)), (10, (int .i64 i)), (23, v0_0), (24, (int .i64 (a0.length : Int))), (25, (int .i64 l9i25))])) (fun i => kk21 i = some r) ?_ ?_
        ·rintro j20i10 h
         have h : kk21 j20i10 = some r := h
         rw [hkk21] at h
         dsimp only at h
         clear hkk21
         refine aw_show (m := (memOf w0 Z0 [] [(oBox g18 205 [(int .u8 u15.Lit), (int .i64 u15.Len), (int .i64 u15.Dist)])] [(fDat (tyList tyS_api_Token) [v0_0] a0), (fPtr tyS_api_Token p17 u15)])) (S := (tab [(1, (int .i64 a1)), (7, (str l9s7)), (9, (ptr g18 0)), (10, (int .i64 j20i10)), (23, v0_0), (24, (int .i64 (a0.length : Int))), (25, (int .i64 l9i25))])) ?_
         refine aw_seq ?_
         refine aw_sr ?_
         refine al_mv rfl rfl ?_
         refine al_val (ov_strLen Try.underlying9 rfl rfl) ?_
         refine al_mv rfl rfl ?_
         refine al_in rfl rfl rfl rfl ?_
         refine al_mv rfl rfl ?_
         refine al_in rfl rfl rfl rfl ?_
         refine al_nt ?_
         refine aw_cond rfl (fun hb22 => ?_) (fun hb22 => ?_)
         ·replace h := bif_t hb22 h
          refine aw_sr ?_
          refine al_as rfl rfl ?_
          refine al_as rfl rfl ?_
          refine al_nt ?_
          refine aw_ret ?_
          refine aq_then_ret ?_
          refine aq_block_ret ?_
          refine aq_then_ret ?_
          refine aq_then_ret ?_
          refine aq_block_ret ?_
          refine aq_then_ret ?_
          obtain rfl := Option.some.inj h
          exact fn_ret () [] [] rfl rfl rfl rfl (res2 rfl rfl rfl) rfl rfl rfl (by decide)
         ·replace h := bif_f hb22 h
          refine aw_skip ?_
          refine aq_then ?_
          refine aw_seq ?_
          refine aw_sr ?_
          refine al_val (ov_fieldA (p := 1) rfl Try.underlying205 rfl sz3 rfl rfl rfl) ?_
          refine al_val (ov_load (i := 0) (v := (int .i64 u15.Len)) rfl rfl Try.underlying3 sz3 rfl rfl rfl rfl) ?_
          refine al_in rfl rfl rfl rfl ?_
          refine al_nt ?_
          refine aw_cond rfl (fun hb23 => ?_) (fun hb23 => ?_)
          ·replace h := bif_t hb23 h
           refine aw_sr ?_
           refine al_mv rfl rfl ?_
           refine al_val (ov_fieldA (p := 0) rfl Try.underlying205 rfl sz5 rfl rfl rfl) ?_
           refine al_val (ov_load (i := 0) (v := (int .u8 u15.Lit)) rfl rfl Try.underlying5 sz5 rfl rfl rfl rfl) ?_
           obtain ⟨hc25, h⟩ := req_some h
           refine al_buildSlice (τ := tyU8) (e := 5) (k := 1) (sz := 0) (by_ := 0) (z := undef) (cs := [(int .u8 u15.Lit)]) (xs := [(UInt8.ofNat (u15.Lit).toNat)]) rfl (by decide) (fun w a hm hs => ⟨([(int .u8 u15.Lit)]).toArray, rfl, by simp only [List.map_toArray, List.map_cons, List.map_nil, hs.ev (x := .tmp 49) rfl]; exact run_bs [(int .u8 u15.Lit)] [(int .u8 u15.Lit)] Try.underlying121 to5 rfl rfl (bs_cons (l := [(int .u8 u15.Lit)]) (cs := []) (cv_rfl rfl) rfl bs_nil) hm⟩) (fun hm => ⟨_, _, rfl, (fun _ => u8_rep hc25) hm, rfl⟩) rfl (fun v24 => ?_)
           refine al_val (ov_toStrR 0 rfl rfl Try.underlying121 Try.underlying5 Try.underlying9 rfl) ?_
           obtain ⟨hc26, h⟩ := req_some h
           refine al_val (ov_strAdd hc26 rfl rfl rfl) ?_
           refine al_as rfl rfl ?_
           refine al_nt ?_
           refine aw_exit ?_
           refine aq_then_exit ?_
           refine aq_block_exit ?_
           exact aq_join (l9s7 ++ ([(UInt8.ofNat (u15.Lit).toNat)])) h (fun w a hm hs => norm hm hs [] [0] [(1, (int .i64 a1)), (7, (str (l9s7 ++ ([(UInt8.ofNat (u15.Lit).toNat)])))), (23, v0_0), (24, (int .i64 (a0.length : Int))), (25, (int .i64 l9i25))] (by decide) ⟨rfl, rfl, rfl, rfl, rfl, trivial⟩)
          ·replace h := bif_f hb23 h
           refine aw_skip ?_
           refine aq_tr ?_
           refine al_mv rfl rfl ?_
           refine al_mv rfl rfl ?_
           refine al_val (ov_strLen Try.underlying9 rfl rfl) ?_
           refine al_val (ov_fieldA (p := 2) rfl Try.underlying205 rfl sz3 rfl rfl rfl) ?_
           refine al_val (ov_load (i := 0) (v := (int .i64 u15.Dist)) rfl rfl Try.underlying3 sz3 rfl rfl rfl rfl) ?_
           refine al_in rfl rfl rfl rfl ?_
           obtain ⟨hc27, h⟩ := req_some h
           refine al_val (ov_strFrom hc27.1 hc27.2 Try.underlying9 rfl rfl rfl) ?_
           refine al_as rfl rfl ?_
           refine al_nt ?_
           refine aw_region ?_
           refine al_mv rfl rfl ?_
           refine al_mv rfl rfl ?_
           refine al_mv rfl rfl ?_
           refine al_mv rfl rfl ?_
           refine al_val (ov_strLen Try.underlying9 rfl rfl) ?_
           obtain ⟨hc28, h⟩ := req_some h
           refine al_val (ov_quo hc28 rfl rfl rfl) ?_
           refine al_in rfl rfl rfl rfl ?_
           obtain ⟨r30, hc29, h⟩ := opt_some h
           refine al_call (vs := [(str (l9s7.drop ((IntKind.i64.wrap ((l9s7.length : Int) - u15.Dist))).toNat)), (int .i64 (IntKind.i64.wrap ((IntKind.i64.wrap ((j20i10).tdiv ((l9s7.drop ((IntKind.i64.wrap ((l9s7.length : Int) - u15.Dist))).toNat).length : Int))) + (1 : Int))))]) (f_strings_Repeat_ok fu (l9s7.drop ((IntKind.i64.wrap ((l9s7.length : Int) - u15.Dist))).toNat) (IntKind.i64.wrap ((IntKind.i64.wrap ((j20i10).tdiv ((l9s7.drop ((IntKind.i64.wrap ((l9s7.length : Int) - u15.Dist))).toNat).length : Int))) + (1 : Int))) hc29) [] [] [0] pre_nil rfl (by simp) (by decide) (.inl rfl) rfl Try.func133 rfl rfl rfl (fun _ => ?_)
           refine al_mv rfl rfl ?_
           obtain ⟨hc31, h⟩ := req_some h
           refine al_val (ov_strTo hc31.1 hc31.2 Try.underlying9 rfl rfl rfl) ?_
           obtain ⟨hc32, h⟩ := req_some h
           refine al_val (ov_strAdd hc32 rfl rfl rfl) ?_
           refine al_as rfl rfl ?_
           refine al_nil ?_
           refine aq_block ?_
           exact aq_join (l9s7 ++ (r30.take (j20i10).toNat)) h (fun w a hm hs => norm hm hs [] [0] [(1, (int .i64 a1)), (7, (str (l9s7 ++ (r30.take (j20i10).toNat)))), (23, v0_0), (24, (int .i64 (a0.length : Int))), (25, (int .i64 l9i25))] (by decide) ⟨rfl, rfl, rfl, rfl, rfl, trivial⟩)
        ·clear hkk21
         refine aw_sr ?_
         refine al_mv rfl rfl ?_
         refine al_in rfl rfl rfl rfl ?_
         refine al_nt ?_
         refine aw_cond rfl (fun hb33 => ?_) (fun hb33 => ?_)
         ·replace h := bif_t hb33 h
          refine aw_region ?_
          refine al_as rfl rfl ?_
          refine al_nil ?_
          exact aq_join (1 : Int) h (fun w a hm hs => norm hm hs [0] [1, 0] [(1, (int .i64 a1)), (7, (str l9s7)), (9, (ptr g18 0)), (10, (int .i64 (1 : Int))), (23, v0_0), (24, (int .i64 (a0.length : Int))), (25, (int .i64 l9i25))] (by decide) ⟨rfl, rfl, rfl, rfl, rfl, rfl, rfl, trivial⟩)
         ·replace h := bif_f hb33 h
          refine aw_skip ?_
          exact aq_join u15.Len h (fun w a hm hs => norm hm hs [0] [1, 0] [(1, (int .i64 a1)), (7, (str l9s7)), (9, (ptr g18 0)), (10, (int .i64 u15.Len)), (23, v0_0), (24, (int .i64 (a0.length : Int))), (25, (int .i64 l9i25))] (by decide) ⟨rfl, rfl, rfl, rfl, rfl, rfl, rfl, trivial⟩)
     ·replace h := bif_f hb12 h
      refine aw_exit ?_
      refine aq_then_exit ?_
      refine aq_then_exit ?_
      refine aq_block_exit ?_
      exact aq_join l9s7 h (fun w a hm hs => norm hm hs [] [0] [(7, (str l9s7))] (by decide) ⟨rfl, trivial⟩)
 ·clear hkk2
  refine aw_region ?_
  refine al_mv rfl rfl ?_
  refine al_in rfl rfl rfl rfl ?_
  refine al_mv rfl rfl ?_
  refine al_caseB 14 rfl (fun hb34 => ?_) (fun hb34 => ?_)
  ·replace h := bif_t hb34 h
   refine al_skip ?_
   refine al_skip ?_
   refine al_val (ov_pick_t rfl rfl rfl) ?_
   refine al_nil ?_
   exact aq_join true h (fun w a hm hs => norm hm hs [] [0] [(0, v0_0), (1, (int .i64 a1)), (17, (bool true))] (by decide) ⟨rfl, rfl, rfl, trivial⟩)
  ·replace h := bif_f hb34 h
   refine al_mv rfl rfl ?_
   refine al_in rfl rfl rfl rfl ?_
   refine al_val (ov_pick_f rfl rfl rfl) ?_
   refine al_nil ?_
   exact aq_join (decide (a1 > (4096 : Int))) h (fun w a hm hs => norm hm hs [] [0] [(0, v0_0), (1, (int .i64 a1)), (17, (bool (decide (a1 > (4096 : Int)))))] (by decide) ⟨rfl, rfl, rfl, trivial⟩)
def f___strings_Builder__WriteString_sb (fu : Nat) (a0 : (List UInt8)) (a1 : (List UInt8)) : Option (Int × Unit × (List UInt8)) := (req (a0.length + a1.length ≤ 140737488355328) (some ((a1.length : Int), (), (a0 ++ a1))))
set_option maxRecDepth 100000 in
theorem f___strings_Builder__WriteString_sb_ok (fu : Nat) (bx0 : Nat) (v0_0 : Value) (a0 : (List UInt8)) (a1 : (List UInt8)) {r : (Int × Unit × (List UInt8))} (h : f___strings_Builder__WriteString_sb fu a0 a1 = some r) : FnOk Try.prog 75 [(ptr bx0 0), (str a1)] [] [(oSB bx0 138 v0_0), (oRow v0_0 5 tyU8 a0)] (fun (i : Value) => { val := (Value.tuple #[(int .i64 r.1), Value.nilIface]), own := [(oSB bx0 138 i), (oRow i 5 tyU8 r.2.2)] }) := by
 unfold f___strings_Builder__WriteString_sb at h
 refine fn_enter Try.func75 rfl Try.ntmps75 rfl (fun w0 Z0 => ?_)
 refine aw_sr ?_
 refine al_as rfl rfl ?_
 refine al_as rfl rfl ?_
 refine al_nt ?_
 refine aw_sr ?_
 refine al_mv rfl rfl ?_
 refine al_call (vs := [(ptr bx0 0)]) (fn_copyCheck bx0 v0_0) [] [0] [1] pre_nil rfl (by simp) (by decide) (.inl rfl) rfl Try.func129 rfl rfl rfl (fun _ => ?_)
 refine al_nt ?_
 refine aw_sr ?_
 refine al_mv rfl rfl ?_
 refine al_mv rfl rfl ?_
 refine al_val (ov_nilCheck rfl rfl) ?_
 refine al_val (ov_fieldA (p := 1) rfl Try.underlying138 rfl sz121 rfl rfl rfl) ?_
 refine al_val (ov_load (i := 0) (v := v0_0) rfl rfl Try.underlying121 sz121 rfl rfl rfl rfl) ?_
 refine al_mv rfl rfl ?_
 obtain ⟨hc1, h⟩ := req_some h
 refine al_appendS 1 hc1 rfl rfl rfl Try.underlying121 Try.underlying9 to5 rfl (fun v2 => ?_)
 refine al_val (ov_nilCheck rfl rfl) ?_
 refine al_val (ov_fieldA (p := 1) rfl Try.underlying138 rfl sz121 rfl rfl rfl) ?_
 refine al_store (i := 0) (vs := [v2]) (cs' := [(ptr bx0 0), v2]) rfl rfl rfl sz121 (cv_own 1 rfl) rfl (co_own 1 rfl co_nil) (Nat.le_of_ble_eq_true rfl) rfl rfl ?_
 refine al_nt ?_
 refine aw_sr ?_
 refine al_mv rfl rfl ?_
 refine al_val (ov_strLen Try.underlying9 rfl rfl) ?_
 refine al_as rfl rfl ?_
 refine al_as rfl rfl ?_
 refine al_nt ?_
 refine aw_ret ?_
 refine aq_sb 0 rfl (.inr rfl) ?_
 obtain rfl := Option.some.inj h
 exact fn_ret v2 [0, 1] [] rfl rfl rfl rfl (res2 rfl rfl rfl) rfl rfl rfl (by decide)
def f_lumref_Open_L55 (r12 : (A3i64 × (List UInt8) × Int)) (kk30 : ((List UInt8) → Option ((List UInt8) × Int))) (fu : Nat) : Nat → (List UInt8) → Int → Option ((List UInt8) × Int)
  | 0, _, _ => none
  | k54 + 1, l53x12_0, l53i142 => (bif (decide (l53i142 < ((r12.2.1.drop ((IntKind.i64.wrap ((2 : Int) * r12.1.e2))).toNat).length : Int))) then (opt (at? (r12.2.1.drop ((IntKind.i64.wrap ((2 : Int) * r12.1.e2))).toNat) l53i142) fun (u57 : UInt8) => (opt (f_lumref_bitsOf fu (IntKind.i64.wrap (u57.toNat : Int)) (8 : Int)) fun (r61 : (List UInt8)) => (opt (f___strings_Builder__WriteString_sb fu l53x12_0 r61) fun (r63 : (Int × Unit × (List UInt8))) => (f_lumref_Open_L55 r12 kk30 fu k54 r63.2.2 (IntKind.i64.wrap (l53i142 + (1 : Int))))))) else (kk30 l53x12_0))
def f_lumref_Open_L67 (j17x6 : (List Int)) (r21 : ((List Int) × Int)) (kk27 : ((List (List UInt8)) → Option ((List UInt8) × Int))) (fu : Nat) : Nat → (List (List UInt8)) → Int → Option ((List UInt8) × Int)
  | 0, _, _ => none
  | k66 + 1, l65x9, l65i124 => (bif (decide (l65i124 < (j17x6.length : Int))) then (opt (at? j17x6 l65i124) fun (u69 : Int) => (opt (at? r21.1 l65i124) fun (u73 : Int) => (opt (f_lumref_bitsOf fu u73 u69) fun (r78 : (List UInt8)) => (opt (at? l65x9 l65i124) fun (u79 : (List UInt8)) => (f_lumref_Open_L67 j17x6 r21 kk27 fu k66 (l65x9.set (l65i124).toNat r78) (IntKind.i64.wrap (l65i124 + (1 : Int)))))))) else (kk27 l65x9))
def f_lumref_Open_L85 (r12 : (A3i64 × (List UInt8) × Int)) (kk18 : ((List Int) → Option ((List UInt8) × Int))) : Nat → (List Int) → Int → Option ((List UInt8) × Int)
  | 0, _, _ => none
  | k84 + 1, l83x6, l83i56 => (bif (decide (l83i56 < r12.1.e2)) then (bif (decide ((r12.2.1.length : Int) < (IntKind.i64.wrap ((IntKind.i64.wrap ((2 : Int) * l83i56)) + (2 : Int))))) then (some (([] : List UInt8), (3 : Int))) else (lt (fun (j88b94 : Bool) => (bif j88b94 then (some (([] : List UInt8), (4 : Int))) else (req (0 ≤ (IntKind.i64.wrap ((2 : Int) * l83i56)) ∧ (IntKind.i64.wrap ((2 : Int) * l83i56)) < (r12.2.1.length : Int)) (req (0 ≤ (IntKind.i64.wrap ((IntKind.i64.wrap ((2 : Int) * l83i56)) + (1 : Int))) ∧ (IntKind.i64.wrap ((IntKind.i64.wrap ((2 : Int) * l83i56)) + (1 : Int))) < (r12.2.1.length : Int)) (opt (at? l83x6 (En.bAt r12.2.1 (IntKind.i64.wrap ((2 : Int) * l83i56)))) fun (u93 : Int) => (f_lumref_Open_L85 r12 kk18 k84 (l83x6.set ((En.bAt r12.2.1 (IntKind.i64.wrap ((2 : Int) * l83i56)))).toNat (IntKind.i64.wrap (En.bAt r12.2.1 (IntKind.i64.wrap ((IntKind.i64.wrap ((2 : Int) * l83i56)) + (1 : Int)))))) (IntKind.i64.wrap (l83i56 + (1 : Int))))))))) fun (kk89 : Bool → Option ((List UInt8) × Int)) => (bif (decide (l83i56 > (0 : Int))) then (req (0 ≤ (IntKind.i64.wrap ((2 : Int) * l83i56)) ∧ (IntKind.i64.wrap ((2 : Int) * l83i56)) < (r12.2.1.length : Int)) (req (0 ≤ (IntKind.i64.wrap ((IntKind.i64.wrap ((2 : Int) * l83i56)) - (2 : Int))) ∧ (IntKind.i64.wrap ((IntKind.i64.wrap ((2 : Int) * l83i56)) - (2 : Int))) < (r12.2.1.length : Int)) (bif (decide ((En.bAt r12.2.1 (IntKind.i64.wrap ((2 : Int) * l83i56))) ≤ (En.bAt r12.2.1 (IntKind.i64.wrap ((IntKind.i64.wrap ((2 : Int) * l83i56)) - (2 : Int)))))) then (kk89 true) else (req (0 ≤ (IntKind.i64.wrap ((IntKind.i64.wrap ((2 : Int) * l83i56)) + (1 : Int))) ∧ (IntKind.i64.wrap ((IntKind.i64.wrap ((2 : Int) * l83i56)) + (1 : Int))) < (r12.2.1.length : Int)) (bif ((En.bAt r12.2.1 (IntKind.i64.wrap ((IntKind.i64.wrap ((2 : Int) * l83i56)) + (1 : Int)))) == (0 : Int)) then (kk89 true) else (req (0 ≤ (IntKind.i64.wrap ((IntKind.i64.wrap ((2 : Int) * l83i56)) + (1 : Int))) ∧ (IntKind.i64.wrap ((IntKind.i64.wrap ((2 : Int) * l83i56)) + (1 : Int))) < (r12.2.1.length : Int)) (kk89 (decide ((En.bAt r12.2.1 (IntKind.i64.wrap ((IntKind.i64.wrap ((2 : Int) * l83i56)) + (1 : Int)))) > (48 : Int)))))))))) else (req (0 ≤ (IntKind.i64.wrap ((IntKind.i64.wrap ((2 : Int) * l83i56)) + (1 : Int))) ∧ (IntKind.i64.wrap ((IntKind.i64.wrap ((2 : Int) * l83i56)) + (1 : Int))) < (r12.2.1.length : Int)) (bif ((En.bAt r12.2.1 (IntKind.i64.wrap ((IntKind.i64.wrap ((2 : Int) * l83i56)) + (1 : Int)))) == (0 : Int)) then (kk89 true) else (req (0 ≤ (IntKind.i64.wrap ((IntKind.i64.wrap ((2 : Int) * l83i56)) + (1 : Int))) ∧ (IntKind.i64.wrap ((IntKind.i64.wrap ((2 : Int) * l83i56)) + (1 : Int))) < (r12.2.1.length : Int)) (kk89 (decide ((En.bAt r12.2.1 (IntKind.i64.wrap ((IntKind.i64.wrap ((2 : Int) * l83i56)) + (1 : Int)))) > (48 : Int)))))))))) else (kk18 l83x6))
def f_lumref_Open (fu : Nat) (a0 : (List UInt8)) : Option ((List UInt8) × Int) := (bif (a0 == ([] : List UInt8)) then (some (([] : List UInt8), (3 : Int))) else (lt (fun (j2b24 : Bool) => (bif j2b24 then (some (([] : List UInt8), (2 : Int))) else (req (0 ≤ (0 : Int) ∧ (0 : Int) < (a0.length : Int)) (bif ((En.bAt a0 (0 : Int)) == (0 : Int)) then (req (0 ≤ (1 : Int) ∧ (1 : Int) ≤ (a0.length : Int)) (some ((a0.drop ((1 : Int)).toNat), (0 : Int)))) else (req (0 ≤ (0 : Int) ∧ (0 : Int) < (a0.length : Int)) (bif ((En.bAt a0 (0 : Int)) != (1 : Int)) then (some (([] : List UInt8), (5 : Int))) else (req (0 ≤ (1 : Int) ∧ (1 : Int) ≤ (a0.length : Int)) (opt (f_lumref_three fu (a0.drop ((1 : Int)).toNat)) fun (r12 : (A3i64 × (List UInt8) × Int)) => (bif (r12.2.2 != (0 : Int)) then (some (([] : List UInt8), r12.2.2)) else (req (0 ≤ (256 : Int) ∧ 8 * (256 : Int) ≤ 281474976710656 ∧ (256 : Int) ≤ 9223372036854775807) (lt (fun (j17x6 : (List Int)) => (req (0 ≤ (IntKind.i64.wrap ((2 : Int) * r12.1.e2)) ∧ (IntKind.i64.wrap ((2 : Int) * r12.1.e2)) ≤ (r12.2.1.length : Int)) (opt (f_lumref_Codes fu j17x6) fun (r21 : ((List Int) × Int)) => (bif (r21.2 != (0 : Int)) then (some (([] : List UInt8), r21.2)) else (req (0 ≤ (256 : Int) ∧ 16 * (256 : Int) ≤ 281474976710656 ∧ (256 : Int) ≤ 9223372036854775807) (lt (fun (j26x9 : (List (List UInt8))) => (lt (fun (j29x12_0 : (List UInt8)) => (opt (f_lumref_signsOf fu j29x12_0 j26x9 r12.1.e1) fun (r32 : ((List UInt8) × Int × Int)) => (bif (r32.2.2 != (0 : Int)) then (some (([] : List UInt8), r32.2.2)) else (req (0 ≤ r32.2.1 ∧ r32.2.1 ≤ (j29x12_0.length : Int)) (lt (fun (j35b173 : Bool) => (bif j35b173 then (some (([] : List UInt8), (4 : Int))) else (opt (f_lumref_ReadTokens fu r32.1) fun (r39 : ((List S_api_Token) × Int)) => (bif (r39.2 != (0 : Int)) then (some (([] : List UInt8), r39.2)) else (opt (f_lumref_Expand fu r39.1 r12.1.e0) fun (r43 : ((List UInt8) × Int)) => (lt (fun (j44b197 : Bool) => (bif j44b197 then (some (([] : List UInt8), (4 : Int))) else (some (r43.1, r43.2)))) fun (kk45 : Bool → Option ((List UInt8) × Int)) => (bif (r43.2 == (0 : Int)) then (kk45 (decide ((r43.1.length : Int) < r12.1.e0))) else (kk45 false)))))))) fun (kk36 : Bool → Option ((List UInt8) × Int)) => (bif (decide (((j29x12_0.drop (r32.2.1).toNat).length : Int) > (7 : Int))) then (kk36 true) else (opt (f_strings_Contains fu (j29x12_0.drop (r32.2.1).toNat) ([49] : List UInt8)) fun (r50 : Bool) => (kk36 r50)))))))) fun (kk30 : (List UInt8) → Option ((List UInt8) × Int)) => (req ((r12.2.1.drop ((IntKind.i64.wrap ((2 : Int) * r12.1.e2))).toNat).length ≤ 9223372036854775807) (f_lumref_Open_L55 r12 kk30 fu fu ([] : List UInt8) (0 : Int))))) fun (kk27 : (List (List UInt8)) → Option ((List UInt8) × Int)) => (f_lumref_Open_L67 j17x6 r21 kk27 fu fu (List.replicate ((256 : Int)).toNat ([] : (List UInt8))) (0 : Int)))))))) fun (kk18 : (List Int) → Option ((List UInt8) × Int)) => (f_lumref_Open_L85 r12 kk18 fu (List.replicate ((256 : Int)).toNat 0) (0 : Int))))))))))))) fun (kk3 : Bool → Option ((List UInt8) × Int)) => (req (0 ≤ (0 : Int) ∧ (0 : Int) < (a0.length : Int)) (bif ((En.bAt a0 (0 : Int)) == (0 : Int)) then (kk3 (decide ((a0.length : Int) > (4097 : Int)))) else (kk3 false)))))
set_option maxRecDepth 100000 in
set_option maxHeartbeats 2000000 in
theorem f_lumref_Open_ok (fu : Nat) (a0 : (List UInt8)) {r : ((List UInt8) × Int)} (h : f_lumref_Open fu a0 = some r) : FnOk Try.prog 33 [(str a0)] [] [] (fun (i : Unit) => { val := (Value.tuple #[(str r.1), (int .i64 r.2)]) }) := by
 unfold f_lumref_Open at h
 refine fn_enter Try.func33 rfl Try.ntmps33 rfl (fun w0 Z0 => ?_)
 refine aw_sr ?_
 refine al_as rfl rfl ?_
 refine al_as rfl rfl ?_
 refine al_nt ?_
 refine aw_seq ?_
 refine aw_block ?_
 refine aw_sr ?_
 refine al_mv rfl rfl ?_
 refine al_val (ov_strCmp rfl rfl rfl rfl) ?_
 refine al_as rfl rfl ?_
 refine al_nt ?_
 refine aw_cond rfl (fun hb1 => ?_) (fun hb1 => ?_)
 ·replace h := bif_t hb1 h
  refine aw_sr ?_
  refine al_as rfl rfl ?_
  refine al_as rfl rfl ?_
  refine al_nt ?_
  refine aw_ret ?_
  refine aq_block_ret ?_
  refine aq_then_ret ?_
  obtain rfl := Option.some.inj h
  exact fn_ret () [] [] rfl rfl rfl rfl (res2 rfl rfl rfl) rfl rfl rfl (by decide)
 ·replace h := bif_f hb1 h
  obtain ⟨kk3, hkk3, h⟩ := lt_some h
  refine aw_seq_join (ι := Bool) (fun i => (memOf w0 Z0 [] [] [])) (fun i => (tab [(0, (str a0)), (24, (bool i))])) (fun i => kk3 i = some r) ?_ ?_
  ·rintro j2b24 h
   have h : kk3 j2b24 = some r := h
   rw [hkk3] at h
   dsimp only at h
   clear hkk3
   refine aw_show (m := (memOf w0 Z0 [] [] [])) (S := (tab [(0, (str a0)), (24, (bool j2b24))])) ?_
   refine aw_cond rfl (fun hb4 => ?_) (fun hb4 => ?_)
   ·replace h := bif_t hb4 h
    refine aw_sr ?_
    refine al_as rfl rfl ?_
    refine al_as rfl rfl ?_
    refine al_nt ?_
    refine aw_ret ?_
    refine aq_block_ret ?_
    refine aq_then_ret ?_
    obtain rfl := Option.some.inj h
    exact fn_ret () [] [] rfl rfl rfl rfl (res2 rfl rfl rfl) rfl rfl rfl (by decide)
   ·replace h := bif_f hb4 h
    refine aw_sr ?_
    refine al_mv rfl rfl ?_
    obtain ⟨hc5, h⟩ := req_some h
    refine al_val (ov_strIdx hc5.1 hc5.2 Try.underlying9 rfl rfl rfl) ?_
    refine al_in rfl rfl rfl rfl ?_
    refine al_as rfl rfl ?_
    refine al_nt ?_
    refine aw_cond rfl (fun hb6 => ?_) (fun hb6 => ?_)
    ·replace h := bif_t hb6 h
     refine aw_sr ?_
     refine al_mv rfl rfl ?_
     obtain ⟨hc7, h⟩ := req_some h
     refine al_val (ov_strFrom hc7.1 hc7.2 Try.underlying9 rfl rfl rfl) ?_
     refine al_as rfl rfl ?_
     refine al_as rfl rfl ?_
     refine al_nt ?_
     refine aw_ret ?_
     refine aq_block_ret ?_
     refine aq_then_ret ?_
     obtain rfl := Option.some.inj h
     exact fn_ret () [] [] rfl rfl rfl rfl (res2 rfl rfl rfl) rfl rfl rfl (by decide)
    ·replace h := bif_f hb6 h
     refine aw_sr ?_
     refine al_mv rfl rfl ?_
     obtain ⟨hc8, h⟩ := req_some h
     refine al_val (ov_strIdx hc8.1 hc8.2 Try.underlying9 rfl rfl rfl) ?_
     refine al_in rfl rfl rfl rfl ?_
     refine al_as rfl rfl ?_
     refine al_nt ?_
     refine aw_cond rfl (fun hb9 => ?_) (fun hb9 => ?_)
     ·replace h := bif_t hb9 h
      refine aw_sr ?_
      refine al_as rfl rfl ?_
      refine al_as rfl rfl ?_
      refine al_nt ?_
      refine aw_ret ?_
      refine aq_block_ret ?_
      refine aq_then_ret ?_
      obtain rfl := Option.some.inj h
      exact fn_ret () [] [] rfl rfl rfl rfl (res2 rfl rfl rfl) rfl rfl rfl (by decide)
     ·replace h := bif_f hb9 h
      refine aw_skip ?_
      refine aq_block ?_
      refine aq_tr ?_
      refine al_mv rfl rfl ?_
      obtain ⟨hc10, h⟩ := req_some h
      refine al_val (ov_strFrom hc10.1 hc10.2 Try.underlying9 rfl rfl rfl) ?_
      obtain ⟨r12, hc11, h⟩ := opt_some h
      refine al_call (vs := [(str (a0.drop ((1 : Int)).toNat))]) (f_lumref_three_ok fu (a0.drop ((1 : Int)).toNat) hc11) [] [] [] pre_nil rfl (by simp) (by decide) (.inl rfl) rfl Try.func72 rfl rfl rfl (fun _ => ?_)
      refine al_mv rfl rfl ?_
      refine al_ex rfl rfl rfl ?_
      refine al_ex rfl rfl rfl ?_
      refine al_ex rfl rfl rfl ?_
      refine al_alloc (zs := (cA3i64 (A3i64.mk (0 : Int) (0 : Int) (0 : Int)))) (zeroOf_to to132) rfl rfl (fun g13 => ?_)
      refine al_store (i := 0) (vs := (cA3i64 r12.1)) (cs' := (cA3i64 r12.1)) rfl rfl rfl sz132 (cv_rfl rfl) rfl (co_all (oneA3i64 r12.1)) (Nat.le_of_ble_eq_true rfl) rfl rfl ?_
      refine al_as rfl rfl ?_
      refine al_as rfl rfl ?_
      refine al_nt ?_
      refine aw_seq ?_
      refine aw_sr ?_
      refine al_mv rfl rfl ?_
      refine al_in rfl rfl rfl rfl ?_
      refine al_nt ?_
      refine aw_cond rfl (fun hb14 => ?_) (fun hb14 => ?_)
      ·replace h := bif_t hb14 h
       refine aw_sr ?_
       refine al_mv rfl rfl ?_
       refine al_as rfl rfl ?_
       refine al_as rfl rfl ?_
       refine al_nt ?_
       refine aw_ret ?_
       refine aq_then_ret ?_
       obtain rfl := Option.some.inj h
       exact fn_ret () [] [] rfl rfl rfl rfl (res2 rfl rfl rfl) rfl rfl rfl (by decide)
      ·replace h := bif_f hb14 h
       refine aw_skip ?_
       refine aq_tr ?_
       obtain ⟨hc15, h⟩ := req_some h
       refine al_make (τ := (tyInt .i64)) (x0 := 0) hc15.1 hc15.2.1 hc15.2.2 rfl rfl Try.underlying34 to3 (fun _ _ => rfl) rfl rfl (fun v16 => ?_)
       refine al_as rfl rfl ?_
       refine al_nt ?_
       obtain ⟨kk18, hkk18, h⟩ := lt_some h
       refine aw_seq_join (ι := (List Int)) (fun i => (memOf w0 Z0 [] [(oBox g13 132 (cA3i64 r12.1)), (oRow v16 3 (tyInt .i64) i)] [])) (fun i => (tab [(0, (str r12.2.1)), (4, (ptr g13 0)), (6, v16)])) (fun i => kk18 i = some r) ?_ ?_
       ·rintro j17x6 h
        have h : kk18 j17x6 = some r := h
        rw [hkk18] at h
        dsimp only at h
        clear hkk18
        refine aw_show (m := (memOf w0 Z0 [] [(oBox g13 132 (cA3i64 r12.1)), (oRow v16 3 (tyInt .i64) j17x6)] [])) (S := (tab [(0, (str r12.2.1)), (4, (ptr g13 0)), (6, v16)])) ?_
        refine aw_sr ?_
        refine al_mv rfl rfl ?_
        refine al_val (ov_idxArr (by decide) (by decide) rfl rfl Try.underlying132 sz3 rfl) ?_
        refine al_val (ov_load (i := 0) (v := (int .i64 r12.1.e2)) rfl rfl Try.underlying3 sz3 rfl rfl rfl rfl) ?_
        refine al_in rfl rfl rfl rfl ?_
        obtain ⟨hc19, h⟩ := req_some h
        refine al_val (ov_strFrom hc19.1 hc19.2 Try.underlying9 rfl rfl rfl) ?_
        refine al_as rfl rfl ?_
        refine al_nt ?_
        refine aw_sr ?_
        refine al_mv rfl rfl ?_
        obtain ⟨r21, hc20, h⟩ := opt_some h
        refine al_call (vs := [v16]) (f_lumref_Codes_ok fu v16 j17x6 hc20) [1] [] [0, 1] (pre_own 1 rfl rfl pre_nil) rfl (by simp) (by decide) (.inr (flat_res1 (fun _ => flat_row flat_enc))) rfl Try.func73 rfl rfl rfl (fun v22 => ?_)
        refine al_mv rfl rfl ?_
        refine al_ex rfl rfl rfl ?_
        refine al_ex rfl rfl rfl ?_
        refine al_as rfl rfl ?_
        refine al_as rfl rfl ?_
        refine al_nt ?_
        refine aw_seq ?_
        refine aw_sr ?_
        refine al_mv rfl rfl ?_
        refine al_in rfl rfl rfl rfl ?_
        refine al_nt ?_
        refine aw_cond rfl (fun hb23 => ?_) (fun hb23 => ?_)
        ·replace h := bif_t hb23 h
         refine aw_sr ?_
         refine al_mv rfl rfl ?_
         refine al_as rfl rfl ?_
         refine al_as rfl rfl ?_
         refine al_nt ?_
         refine aw_ret ?_
         refine aq_then_ret ?_
         obtain rfl := Option.some.inj h
         exact fn_ret () [] [] rfl rfl rfl rfl (res2 rfl rfl rfl) rfl rfl rfl (by decide)
        ·replace h := bif_f hb23 h
         refine aw_skip ?_
         refine aq_tr ?_
         obtain ⟨hc24, h⟩ := req_some h
         refine al_make (τ := tyStr) (x0 := []) hc24.1 hc24.2.1 hc24.2.2 rfl rfl Try.underlying24 to9 (fun _ _ => rfl) rfl rfl (fun v25 => ?_)
         refine al_as rfl rfl ?_
         refine al_nt ?_
         obtain ⟨kk27, hkk27, h⟩ := lt_some h
         refine aw_seq_join (ι := (List (List UInt8))) (fun i => (memOf w0 Z0 [] [(oBox g13 132 (cA3i64 r12.1)), (oRow v25 9 tyStr i)] [])) (fun i => (tab [(0, (str (r12.2.1.drop ((IntKind.i64.wrap ((2 : Int) * r12.1.e2))).toNat))), (4, (ptr g13 0)), (9, v25)])) (fun i => kk27 i = some r) ?_ ?_
         ·rintro j26x9 h
          have h : kk27 j26x9 = some r := h
          rw [hkk27] at h
          dsimp only at h
          clear hkk27
          refine aw_show (m := (memOf w0 Z0 [] [(oBox g13 132 (cA3i64 r12.1)), (oRow v25 9 tyStr j26x9)] [])) (S := (tab [(0, (str (r12.2.1.drop ((IntKind.i64.wrap ((2 : Int) * r12.1.e2))).toNat))), (4, (ptr g13 0)), (9, v25)])) ?_
          refine aw_sr ?_
          refine al_alloc (zs := [(Value.pointer none), (Value.slice none 0 0)]) (zeroOf_to to138) rfl rfl (fun g28 => ?_)
          refine al_nilR 5 tyU8 ?_
          refine al_sb 1 rfl (.inl rfl) ?_
          refine al_nt ?_
          obtain ⟨kk30, hkk30, h⟩ := lt_some h
          refine aw_seq_join (ι := Value × (List UInt8)) (fun i => (memOf w0 Z0 [] [(oBox g13 132 (cA3i64 r12.1)), (oRow v25 9 tyStr j26x9), (oRow i.1 5 tyU8 i.2), (oSB g28 138 i.1)] [])) (fun i => (tab [(4, (ptr g13 0)), (9, v25), (12, (ptr g28 0))])) (fun i => kk30 i.2 = some r) ?_ ?_
          ·rintro ⟨j29v12_0, j29x12_0⟩ h
           have h : kk30 j29x12_0 = some r := h
           rw [hkk30] at h
           dsimp only at h
           clear hkk30
           refine aw_show (m := (memOf w0 Z0 [] [(oBox g13 132 (cA3i64 r12.1)), (oRow v25 9 tyStr j26x9), (oRow j29v12_0 5 tyU8 j29x12_0), (oSB g28 138 j29v12_0)] [])) (S := (tab [(4, (ptr g13 0)), (9, v25), (12, (ptr g28 0))])) ?_
           refine aw_sr ?_
           refine al_call (vs := [(ptr g28 0)]) (fn_String g28 j29v12_0 j29x12_0) [] [3, 2] [0, 1] pre_nil rfl (by simp) (by decide) (.inl rfl) rfl Try.func76 rfl rfl rfl (fun _ => ?_)
           refine al_as rfl rfl ?_
           refine al_nt ?_
           refine aw_sr ?_
           refine al_mv rfl rfl ?_
           refine al_mv rfl rfl ?_
           refine al_val (ov_idxArr (by decide) (by decide) rfl rfl Try.underlying132 sz3 rfl) ?_
           refine al_val (ov_load (i := 0) (v := (int .i64 r12.1.e1)) rfl rfl Try.underlying3 sz3 rfl rfl rfl rfl) ?_
           obtain ⟨r32, hc31, h⟩ := opt_some h
           refine al_call (vs := [(str j29x12_0), v25, (int .i64 r12.1.e1)]) (f_lumref_signsOf_ok fu j29x12_0 v25 j26x9 r12.1.e1 hc31) [1] [] [0, 1] (pre_own 1 rfl rfl pre_nil) rfl (by simp) (by decide) (.inr flat_res0) rfl Try.func77 rfl rfl rfl (fun _ => ?_)
           refine al_mv rfl rfl ?_
           refine al_ex rfl rfl rfl ?_
           refine al_ex rfl rfl rfl ?_
           refine al_ex rfl rfl rfl ?_
           refine al_as rfl rfl ?_
           refine al_as rfl rfl ?_
           refine al_as rfl rfl ?_
           refine al_nt ?_
           refine aw_seq ?_
           refine aw_sr ?_
           refine al_mv rfl rfl ?_
           refine al_in rfl rfl rfl rfl ?_
           refine al_nt ?_
           refine aw_cond rfl (fun hb33 => ?_) (fun hb33 => ?_)
           ·replace h := bif_t hb33 h
            refine aw_sr ?_
            refine al_mv rfl rfl ?_
            refine al_as rfl rfl ?_
            refine al_as rfl rfl ?_
            refine al_nt ?_
            refine aw_ret ?_
            refine aq_then_ret ?_
            obtain rfl := Option.some.inj h
            exact fn_ret () [] [] rfl rfl rfl rfl (res2 rfl rfl rfl) rfl rfl rfl (by decide)
           ·replace h := bif_f hb33 h
            refine aw_skip ?_
            refine aq_then ?_
            refine aw_seq ?_
            refine aw_sr ?_
            refine al_mv rfl rfl ?_
            refine al_mv rfl rfl ?_
            obtain ⟨hc34, h⟩ := req_some h
            refine al_val (ov_strFrom hc34.1 hc34.2 Try.underlying9 rfl rfl rfl) ?_
            refine al_as rfl rfl ?_
            refine al_nt ?_
            obtain ⟨kk36, hkk36, h⟩ := lt_some h
            refine aw_seq_join (ι := Bool) (fun i => (memOf w0 Z0 [] [(oBox g13 132 (cA3i64 r12.1))] [])) (fun i => (tab [(4, (ptr g13 0)), (16, (str r32.1)), (173, (bool i))])) (fun i => kk36 i = some r) ?_ ?_
            ·rintro j35b173 h
             have h : kk36 j35b173 = some r := h
             rw [hkk36] at h
             dsimp only at h
             clear hkk36
             refine aw_show (m := (memOf w0 Z0 [] [(oBox g13 132 (cA3i64 r12.1))] [])) (S := (tab [(4, (ptr g13 0)), (16, (str r32.1)), (173, (bool j35b173))])) ?_
             refine aw_cond rfl (fun hb37 => ?_) (fun hb37 => ?_)
             ·replace h := bif_t hb37 h
              refine aw_sr ?_
              refine al_as rfl rfl ?_
              refine al_as rfl rfl ?_
              refine al_nt ?_
              refine aw_ret ?_
              refine aq_then_ret ?_
              obtain rfl := Option.some.inj h
              exact fn_ret () [] [] rfl rfl rfl rfl (res2 rfl rfl rfl) rfl rfl rfl (by decide)
             ·replace h := bif_f hb37 h
              refine aw_skip ?_
              refine aq_tr ?_
              refine al_mv rfl rfl ?_
              obtain ⟨r39, hc38, h⟩ := opt_some h
              refine al_call (vs := [(str r32.1)]) (f_lumref_ReadTokens_ok fu r32.1 hc38) [] [] [0] pre_nil rfl (by simp) (by decide) (.inl rfl) rfl Try.func79 rfl rfl rfl (fun v40 => ?_)
              refine al_mv rfl rfl ?_
              refine al_ex rfl rfl rfl ?_
              refine al_ex rfl rfl rfl ?_
              refine al_as rfl rfl ?_
              refine al_as rfl rfl ?_
              refine al_nt ?_
              refine aw_seq ?_
              refine aw_sr ?_
              refine al_mv rfl rfl ?_
              refine al_in rfl rfl rfl rfl ?_
              refine al_nt ?_
              refine aw_cond rfl (fun hb41 => ?_) (fun hb41 => ?_)
              ·replace h := bif_t hb41 h
               refine aw_sr ?_
               refine al_mv rfl rfl ?_
               refine al_as rfl rfl ?_
               refine al_as rfl rfl ?_
               refine al_nt ?_
               refine aw_ret ?_
               refine aq_then_ret ?_
               obtain rfl := Option.some.inj h
               exact fn_ret () [] [] rfl rfl rfl rfl (res2 rfl rfl rfl) rfl rfl rfl (by decide)
              ·replace h := bif_f hb41 h
               refine aw_skip ?_
               refine aq_tr ?_
               refine al_mv rfl rfl ?_
               refine al_val (ov_idxArr (by decide) (by decide) rfl rfl Try.underlying132 sz3 rfl) ?_
               refine al_val (ov_load (i := 1) (v := (int .i64 r12.1.e0)) rfl rfl Try.underlying3 sz3 rfl rfl rfl rfl) ?_
               obtain ⟨r43, hc42, h⟩ := opt_some h
               refine al_call (vs := [v40, (int .i64 r12.1.e0)]) (f_lumref_Expand_ok fu v40 r39.1 r12.1.e0 hc42) [0] [] [0, 1] (pre_own 0 rfl rfl pre_nil) rfl (by simp) (by decide) (.inr flat_res0) rfl Try.func80 rfl rfl rfl (fun _ => ?_)
               refine al_mv rfl rfl ?_
               refine al_ex rfl rfl rfl ?_
               refine al_ex rfl rfl rfl ?_
               refine al_as rfl rfl ?_
               refine al_as rfl rfl ?_
               refine al_nt ?_
               refine aw_seq ?_
               obtain ⟨kk45, hkk45, h⟩ := lt_some h
               refine aw_seq_join (ι := Bool) (fun i => (memOf w0 Z0 [] [] [])) (fun i => (tab [(5, (int .i64 r43.2)), (20, (str r43.1)), (197, (bool i))])) (fun i => kk45 i = some r) ?_ ?_
               ·rintro j44b197 h
                have h : kk45 j44b197 = some r := h
                rw [hkk45] at h
                dsimp only at h
                clear hkk45
                refine aw_show (m := (memOf w0 Z0 [] [] [])) (S := (tab [(5, (int .i64 r43.2)), (20, (str r43.1)), (197, (bool j44b197))])) ?_
                refine aw_cond rfl (fun hb46 => ?_) (fun hb46 => ?_)
                ·replace h := bif_t hb46 h
                 refine aw_sr ?_
                 refine al_as rfl rfl ?_
                 refine al_as rfl rfl ?_
                 refine al_nt ?_
                 refine aw_ret ?_
                 refine aq_then_ret ?_
                 obtain rfl := Option.some.inj h
                 exact fn_ret () [] [] rfl rfl rfl rfl (res2 rfl rfl rfl) rfl rfl rfl (by decide)
                ·replace h := bif_f hb46 h
                 refine aw_skip ?_
                 refine aq_tr ?_
                 refine al_mv rfl rfl ?_
                 refine al_mv rfl rfl ?_
                 refine al_as rfl rfl ?_
                 refine al_as rfl rfl ?_
                 refine al_nt ?_
                 refine aw_ret ?_
                 obtain rfl := Option.some.inj h
                 exact fn_ret () [] [] rfl rfl rfl rfl (res2 rfl rfl rfl) rfl rfl rfl (by decide)
               ·clear hkk45
                refine aw_region ?_
                refine al_mv rfl rfl ?_
                refine al_in rfl rfl rfl rfl ?_
                refine al_mv rfl rfl ?_
                refine al_caseB 191 rfl (fun hb47 => ?_) (fun hb47 => ?_)
                ·replace h := bif_t hb47 h
                 refine al_mv rfl rfl ?_
                 refine al_val (ov_strLen Try.underlying9 rfl rfl) ?_
                 refine al_val (ov_idxArr (by decide) (by decide) rfl rfl Try.underlying132 sz3 rfl) ?_
                 refine al_val (ov_load (i := 1) (v := (int .i64 r12.1.e0)) rfl rfl Try.underlying3 sz3 rfl rfl rfl rfl) ?_
                 refine al_in rfl rfl rfl rfl ?_
                 refine al_val (ov_pick_t rfl rfl rfl) ?_
                 refine al_nil ?_
                 exact aq_join (decide ((r43.1.length : Int) < r12.1.e0)) h (fun w a hm hs => norm hm hs [] [] [(5, (int .i64 r43.2)), (20, (str r43.1)), (197, (bool (decide ((r43.1.length : Int) < r12.1.e0))))] (by decide) ⟨rfl, rfl, rfl, trivial⟩)
                ·replace h := bif_f hb47 h
                 refine al_skip ?_
                 refine al_skip ?_
                 refine al_skip ?_
                 refine al_skip ?_
                 refine al_skip ?_
                 refine al_val (ov_pick_f rfl rfl rfl) ?_
                 refine al_nil ?_
                 exact aq_join false h (fun w a hm hs => norm hm hs [] [] [(5, (int .i64 r43.2)), (20, (str r43.1)), (197, (bool false))] (by decide) ⟨rfl, rfl, rfl, trivial⟩)
            ·clear hkk36
             refine aw_region ?_
             refine al_mv rfl rfl ?_
             refine al_val (ov_strLen Try.underlying9 rfl rfl) ?_
             refine al_in rfl rfl rfl rfl ?_
             refine al_mv rfl rfl ?_
             refine al_caseB 170 rfl (fun hb48 => ?_) (fun hb48 => ?_)
             ·replace h := bif_t hb48 h
              refine al_skip ?_
              refine al_skip ?_
              refine al_val (ov_pick_t rfl rfl rfl) ?_
              refine al_nil ?_
              exact aq_join true h (fun w a hm hs => norm hm hs [0] [] [(4, (ptr g13 0)), (16, (str r32.1)), (173, (bool true))] (by decide) ⟨rfl, rfl, rfl, trivial⟩)
             ·replace h := bif_f hb48 h
              refine al_mv rfl rfl ?_
              obtain ⟨r50, hc49, h⟩ := opt_some h
              refine al_call (vs := [(str (j29x12_0.drop (r32.2.1).toNat)), (str ([49] : List UInt8))]) (f_strings_Contains_ok fu (j29x12_0.drop (r32.2.1).toNat) ([49] : List UInt8) hc49) [] [] [0, 1] pre_nil rfl (by simp) (by decide) (.inl rfl) rfl Try.func78 rfl rfl rfl (fun _ => ?_)
              refine al_val (ov_pick_f rfl rfl rfl) ?_
              refine al_nil ?_
              exact aq_join r50 h (fun w a hm hs => norm hm hs [0] [] [(4, (ptr g13 0)), (16, (str r32.1)), (173, (bool r50))] (by decide) ⟨rfl, rfl, rfl, trivial⟩)
          ·clear hkk30
           refine aw_sr ?_
           refine al_mv rfl rfl ?_
           obtain ⟨hc51, h⟩ := req_some h
           refine al_bytes hc51 rfl Try.underlying9 Try.underlying121 Try.underlying5 rfl (fun s52 => ?_)
           refine al_val (ov_lenD 0 rfl rfl Try.underlying121 rfl) ?_
           refine al_mv rfl rfl ?_
           refine al_nt ?_
           refine aw_block ?_
           refine aw_state (aw_loop (ι := Value × (List UInt8) × Int) (fun i => (memOf w0 Z0 [] [(oBox g13 132 (cA3i64 r12.1)), (oRow v25 9 tyStr j26x9), (oRow i.1 5 tyU8 i.2.1), (oSB g28 138 i.1)] [(fDat (tyList tyU8) [s52] (r12.2.1.drop ((IntKind.i64.wrap ((2 : Int) * r12.1.e2))).toNat))])) (fun i => (tab [(4, (ptr g13 0)), (9, v25), (12, (ptr g28 0)), (140, s52), (141, (int .i64 ((r12.2.1.drop ((IntKind.i64.wrap ((2 : Int) * r12.1.e2))).toNat).length : Int))), (142, (int .i64 i.2.2))])) (fun q i => f_lumref_Open_L55 r12 kk30 fu q i.2.1 i.2.2 = some r) ?_ fu ((Value.slice none 0 0), ([] : List UInt8), (0 : Int)) h) (fun w a hm hs => norm hm hs [2, 3, 0, 1] [0] [(4, (ptr g13 0)), (9, v25), (12, (ptr g28 0)), (140, s52), (141, (int .i64 ((r12.2.1.drop ((IntKind.i64.wrap ((2 : Int) * r12.1.e2))).toNat).length : Int))), (142, (int .i64 (0 : Int)))] (by decide) ⟨rfl, rfl, rfl, rfl, rfl, rfl, trivial⟩)
           clear h
           rintro k54 ⟨l53v12_0, l53x12_0, l53i142⟩ h
           have h : f_lumref_Open_L55 r12 kk30 fu k54 l53x12_0 l53i142 = some r := h
           obtain _ | k54 := k54
           · rw [f_lumref_Open_L55] at h; cases h
           rw [f_lumref_Open_L55] at h
           refine aw_show (m := (memOf w0 Z0 [] [(oBox g13 132 (cA3i64 r12.1)), (oRow v25 9 tyStr j26x9), (oRow l53v12_0 5 tyU8 l53x12_0), (oSB g28 138 l53v12_0)] [(fDat (tyList tyU8) [s52] (r12.2.1.drop ((IntKind.i64.wrap ((2 : Int) * r12.1.e2))).toNat))])) (S := (tab [(4, (ptr g13 0)), (9, v25), (12, (ptr g28 0)), (140, s52), (141, (int .i64 ((r12.2.1.drop ((IntKind.i64.wrap ((2 : Int) * r12.1.e2))).toNat).length : Int))), (142, (int .i64 l53i142))])) ?_
           refine aw_sr ?_
           refine al_in rfl rfl rfl rfl ?_
           refine al_nt ?_
           refine aw_seq ?_
           refine aw_cond rfl (fun hb56 => ?_) (fun hb56 => ?_)
           ·replace h := bif_t hb56 h
            refine aw_skip ?_
            refine aq_then ?_
            refine aw_seq ?_
            refine aw_block ?_
            refine aw_sr ?_
            obtain ⟨u57, hu58, h⟩ := opt_some h
            refine al_idxD 0 hu58 rfl rfl rfl Try.underlying121 sz5 rfl (fun p59 => ?_)
            refine al_val (ov_loadP (ds := [(int .u8 (u57.toNat : Int))]) 0 rfl (fun h => h) rfl Try.underlying5 sz5 rfl rfl rfl) ?_
            refine al_as rfl rfl ?_
            refine al_nt ?_
            refine aw_region ?_
            refine al_mv rfl rfl ?_
            refine al_val (ov_convInt (by rw [Try.underlying5]; rfl) Try.underlying3 rfl rfl) ?_
            obtain ⟨r61, hc60, h⟩ := opt_some h
            refine al_call (vs := [(int .i64 (IntKind.i64.wrap (u57.toNat : Int))), (int .i64 (8 : Int))]) (f_lumref_bitsOf_ok fu (IntKind.i64.wrap (u57.toNat : Int)) (8 : Int) hc60) [] [] [0, 1, 2, 3] pre_nil rfl (by simp) (by decide) (.inl rfl) rfl Try.func74 rfl rfl rfl (fun _ => ?_)
            obtain ⟨r63, hc62, h⟩ := opt_some h
            refine al_call (vs := [(ptr g28 0), (str r61)]) (f___strings_Builder__WriteString_sb_ok fu g28 l53v12_0 l53x12_0 r61 hc62) [] [3, 2] [0, 1] pre_nil rfl (by simp) (by decide) (.inl rfl) rfl Try.func75 rfl rfl rfl (fun v64 => ?_)
            refine al_nil ?_
            refine aq_block ?_
            refine aq_then ?_
            refine aw_region ?_
            refine al_in rfl rfl rfl rfl ?_
            refine al_mv rfl rfl ?_
            refine al_nil ?_
            exact aq_again k54 (v64, r63.2.2, (IntKind.i64.wrap (l53i142 + (1 : Int)))) (Nat.lt_succ_self _) h (fun w a hm hs => norm hm hs [2, 3, 1, 0] [1] [(4, (ptr g13 0)), (9, v25), (12, (ptr g28 0)), (140, s52), (141, (int .i64 ((r12.2.1.drop ((IntKind.i64.wrap ((2 : Int) * r12.1.e2))).toNat).length : Int))), (142, (int .i64 (IntKind.i64.wrap (l53i142 + (1 : Int)))))] (by decide) ⟨rfl, rfl, rfl, rfl, rfl, rfl, trivial⟩)
           ·replace h := bif_f hb56 h
            refine aw_exit ?_
            refine aq_then_exit ?_
            refine aq_then_exit ?_
            refine aq_block_exit ?_
            exact aq_join (l53v12_0, l53x12_0) h (fun w a hm hs => norm hm hs [0, 1, 2, 3] [] [(4, (ptr g13 0)), (9, v25), (12, (ptr g28 0))] (by decide) ⟨rfl, rfl, rfl, trivial⟩)
         ·clear hkk27
          refine aw_sr ?_
          refine al_mv rfl rfl ?_
          refine al_val (ov_lenR 3 rfl rfl Try.underlying34 rfl) ?_
          refine al_mv rfl rfl ?_
          refine al_nt ?_
          refine aw_block ?_
          refine aw_state (aw_loop (ι := (List (List UInt8)) × Int) (fun i => (memOf w0 Z0 [] [(oBox g13 132 (cA3i64 r12.1)), (oRow v22 3 (tyInt .i64) r21.1), (oRow v25 9 tyStr i.1), (oRow v16 3 (tyInt .i64) j17x6)] [])) (fun i => (tab [(0, (str (r12.2.1.drop ((IntKind.i64.wrap ((2 : Int) * r12.1.e2))).toNat))), (4, (ptr g13 0)), (8, v22), (9, v25), (122, v16), (123, (int .i64 (j17x6.length : Int))), (124, (int .i64 i.2))])) (fun q i => f_lumref_Open_L67 j17x6 r21 kk27 fu q i.1 i.2 = some r) ?_ fu ((List.replicate ((256 : Int)).toNat ([] : (List UInt8))), (0 : Int)) h) (fun w a hm hs => norm hm hs [2, 1, 0, 3] [] [(0, (str (r12.2.1.drop ((IntKind.i64.wrap ((2 : Int) * r12.1.e2))).toNat))), (4, (ptr g13 0)), (8, v22), (9, v25), (122, v16), (123, (int .i64 (j17x6.length : Int))), (124, (int .i64 (0 : Int)))] (by decide) ⟨rfl, rfl, rfl, rfl, rfl, rfl, rfl, trivial⟩)
          clear h
          rintro k66 ⟨l65x9, l65i124⟩ h
          have h : f_lumref_Open_L67 j17x6 r21 kk27 fu k66 l65x9 l65i124 = some r := h
          obtain _ | k66 := k66
          · rw [f_lumref_Open_L67] at h; cases h
          rw [f_lumref_Open_L67] at h
          refine aw_show (m := (memOf w0 Z0 [] [(oBox g13 132 (cA3i64 r12.1)), (oRow v22 3 (tyInt .i64) r21.1), (oRow v25 9 tyStr l65x9), (oRow v16 3 (tyInt .i64) j17x6)] [])) (S := (tab [(0, (str (r12.2.1.drop ((IntKind.i64.wrap ((2 : Int) * r12.1.e2))).toNat))), (4, (ptr g13 0)), (8, v22), (9, v25), (122, v16), (123, (int .i64 (j17x6.length : Int))), (124, (int .i64 l65i124))])) ?_
          refine aw_sr ?_
          refine al_in rfl rfl rfl rfl ?_
          refine al_nt ?_
          refine aw_seq ?_
          refine aw_cond rfl (fun hb68 => ?_) (fun hb68 => ?_)
          ·replace h := bif_t hb68 h
           refine aw_skip ?_
           refine aq_then ?_
           refine aw_seq ?_
           refine aw_block ?_
           refine aw_sr ?_
           refine al_mv rfl rfl ?_
           obtain ⟨u69, hu70, h⟩ := opt_some h
           refine al_idxR 3 (at_some hu70).1 (at_some hu70).2.1 rfl rfl rfl Try.underlying34 sz3 rfl (fun p71 hp72 => ?_)
           refine al_val (ov_loadR (ds := [(int .i64 u69)]) 3 rfl hp72 (at_some hu70).2.2 (fun h => h) rfl Try.underlying3 sz3 rfl rfl rfl) ?_
           refine al_as rfl rfl ?_
           refine al_as rfl rfl ?_
           refine al_nt ?_
           refine aw_region ?_
           refine al_mv rfl rfl ?_
           refine al_mv rfl rfl ?_
           refine al_mv rfl rfl ?_
           refine al_mv rfl rfl ?_
           obtain ⟨u73, hu74, h⟩ := opt_some h
           refine al_idxR 1 (at_some hu74).1 (at_some hu74).2.1 rfl rfl rfl Try.underlying34 sz3 rfl (fun p75 hp76 => ?_)
           refine al_val (ov_loadR (ds := [(int .i64 u73)]) 1 rfl hp76 (at_some hu74).2.2 (fun h => h) rfl Try.underlying3 sz3 rfl rfl rfl) ?_
           refine al_mv rfl rfl ?_
           obtain ⟨r78, hc77, h⟩ := opt_some h
           refine al_call (vs := [(int .i64 u73), (int .i64 u69)]) (f_lumref_bitsOf_ok fu u73 u69 hc77) [] [] [0, 1, 2, 3] pre_nil rfl (by simp) (by decide) (.inl rfl) rfl Try.func74 rfl rfl rfl (fun _ => ?_)
           obtain ⟨u79, hu80, h⟩ := opt_some h
           refine al_idxR 2 (at_some hu80).1 (at_some hu80).2.1 rfl rfl rfl Try.underlying24 sz9 rfl (fun p81 hp82 => ?_)
           refine al_storeR (k := (l65i124).toNat) (x := r78) (vs := [(str r78)]) 2 rfl hp82 (idx_lt hu80) rfl rfl (cv_rfl rfl) (fun _ => rfl) sz9 rfl ?_
           refine al_nil ?_
           refine aq_block ?_
           refine aq_then ?_
           refine aw_region ?_
           refine al_in rfl rfl rfl rfl ?_
           refine al_mv rfl rfl ?_
           refine al_nil ?_
           exact aq_again k66 ((l65x9.set (l65i124).toNat r78), (IntKind.i64.wrap (l65i124 + (1 : Int)))) (Nat.lt_succ_self _) h (fun w a hm hs => norm hm hs [0, 1, 2, 3] [] [(0, (str (r12.2.1.drop ((IntKind.i64.wrap ((2 : Int) * r12.1.e2))).toNat))), (4, (ptr g13 0)), (8, v22), (9, v25), (122, v16), (123, (int .i64 (j17x6.length : Int))), (124, (int .i64 (IntKind.i64.wrap (l65i124 + (1 : Int)))))] (by decide) ⟨rfl, rfl, rfl, rfl, rfl, rfl, rfl, trivial⟩)
          ·replace h := bif_f hb68 h
           refine aw_exit ?_
           refine aq_then_exit ?_
           refine aq_then_exit ?_
           refine aq_block_exit ?_
           exact aq_join l65x9 h (fun w a hm hs => norm hm hs [0, 2] [] [(0, (str (r12.2.1.drop ((IntKind.i64.wrap ((2 : Int) * r12.1.e2))).toNat))), (4, (ptr g13 0)), (9, v25)] (by decide) ⟨rfl, rfl, rfl, trivial⟩)
       ·clear hkk18
        refine aw_sr ?_
        refine al_val (ov_idxArr (by decide) (by decide) rfl rfl Try.underlying132 sz3 rfl) ?_
        refine al_val (ov_load (i := 1) (v := (int .i64 r12.1.e2)) rfl rfl Try.underlying3 sz3 rfl rfl rfl rfl) ?_
        refine al_mv rfl rfl ?_
        refine al_nt ?_
        refine aw_block ?_
        refine aw_state (aw_loop (ι := (List Int) × Int) (fun i => (memOf w0 Z0 [] [(oBox g13 132 (cA3i64 r12.1)), (oRow v16 3 (tyInt .i64) i.1)] [])) (fun i => (tab [(0, (str r12.2.1)), (4, (ptr g13 0)), (6, v16), (55, (int .i64 r12.1.e2)), (56, (int .i64 i.2))])) (fun q i => f_lumref_Open_L85 r12 kk18 q i.1 i.2 = some r) ?_ fu ((List.replicate ((256 : Int)).toNat 0), (0 : Int)) h) (fun w a hm hs => norm hm hs [1, 0] [] [(0, (str r12.2.1)), (4, (ptr g13 0)), (6, v16), (55, (int .i64 r12.1.e2)), (56, (int .i64 (0 : Int)))] (by decide) ⟨rfl, rfl, rfl, rfl, rfl, trivial⟩)
        clear h
        rintro k84 ⟨l83x6, l83i56⟩ h
        have h : f_lumref_Open_L85 r12 kk18 k84 l83x6 l83i56 = some r := h
        obtain _ | k84 := k84
        · rw [f_lumref_Open_L85] at h; cases h
        rw [f_lumref_Open_L85] at h
        refine aw_show (m := (memOf w0 Z0 [] [(oBox g13 132 (cA3i64 r12.1)), (oRow v16 3 (tyInt .i64) l83x6)] [])) (S := (tab [(0, (str r12.2.1)), (4, (ptr g13 0)), (6, v16), (55, (int .i64 r12.1.e2)), (56, (int .i64 l83i56))])) ?_
        refine aw_sr ?_
        refine al_in rfl rfl rfl rfl ?_
        refine al_nt ?_
        refine aw_seq ?_
        refine aw_cond rfl (fun hb86 => ?_) (fun hb86 => ?_)
        ·replace h := bif_t hb86 h
         refine aw_skip ?_
         refine aq_then ?_
         refine aw_seq ?_
         refine aw_block ?_
         refine aw_sr ?_
         refine al_mv rfl rfl ?_
         refine al_as rfl rfl ?_
         refine al_nt ?_
         refine aw_seq ?_
         refine aw_sr ?_
         refine al_mv rfl rfl ?_
         refine al_val (ov_strLen Try.underlying9 rfl rfl) ?_
         refine al_mv rfl rfl ?_
         refine al_in rfl rfl rfl rfl ?_
         refine al_in rfl rfl rfl rfl ?_
         refine al_in rfl rfl rfl rfl ?_
         refine al_nt ?_
         refine aw_cond rfl (fun hb87 => ?_) (fun hb87 => ?_)
         ·replace h := bif_t hb87 h
          refine aw_sr ?_
          refine al_as rfl rfl ?_
          refine al_as rfl rfl ?_
          refine al_nt ?_
          refine aw_ret ?_
          refine aq_then_ret ?_
          refine aq_block_ret ?_
          refine aq_then_ret ?_
          refine aq_then_ret ?_
          refine aq_block_ret ?_
          refine aq_then_ret ?_
          obtain rfl := Option.some.inj h
          exact fn_ret () [] [] rfl rfl rfl rfl (res2 rfl rfl rfl) rfl rfl rfl (by decide)
         ·replace h := bif_f hb87 h
          refine aw_skip ?_
          refine aq_then ?_
          refine aw_seq ?_
          obtain ⟨kk89, hkk89, h⟩ := lt_some h
          refine aw_seq_join (ι := Bool) (fun i => (memOf w0 Z0 [] [(oBox g13 132 (cA3i64 r12.1)), (oRow v16 3 (tyInt .i64) l83x6)] [])) (fun i => (tab [(0, (str r12.2.1)), (4, (ptr g13 0)), (6, v16), (7, (int .i64 l83i56)), (55, (int .i64 r12.1.e2)), (56, (int .i64 l83i56)), (94, (bool i))])) (fun i => kk89 i = some r) ?_ ?_
          ·rintro j88b94 h
           have h : kk89 j88b94 = some r := h
           rw [hkk89] at h
           dsimp only at h
           clear hkk89
           refine aw_show (m := (memOf w0 Z0 [] [(oBox g13 132 (cA3i64 r12.1)), (oRow v16 3 (tyInt .i64) l83x6)] [])) (S := (tab [(0, (str r12.2.1)), (4, (ptr g13 0)), (6, v16), (7, (int .i64 l83i56)), (55, (int .i64 r12.1.e2)), (56, (int .i64 l83i56)), (94, (bool j88b94))])) ?_
           refine aw_cond rfl (fun hb90 => ?_) (fun hb90 => ?_)
           ·replace h := bif_t hb90 h
            refine aw_sr ?_
            refine al_as rfl rfl ?_
            refine al_as rfl rfl ?_
            refine al_nt ?_
            refine aw_ret ?_
            refine aq_then_ret ?_
            refine aq_block_ret ?_
            refine aq_then_ret ?_
            refine aq_then_ret ?_
            refine aq_block_ret ?_
            refine aq_then_ret ?_
            obtain rfl := Option.some.inj h
            exact fn_ret () [] [] rfl rfl rfl rfl (res2 rfl rfl rfl) rfl rfl rfl (by decide)
           ·replace h := bif_f hb90 h
            refine aw_skip ?_
            refine aq_then ?_
            obtain ⟨hc91, h⟩ := req_some h
            obtain ⟨hc92, h⟩ := req_some h
            obtain ⟨u93, hu94, h⟩ := opt_some h
            refine aw_region_draw 12 [(95, (fun u => fEq u v16)), (96, (fun u => fEq u (str r12.2.1))), (97, (fun u => fEq u (int .i64 l83i56))), (98, (fun u => fEq u (int .i64 (IntKind.i64.wrap ((2 : Int) * l83i56))))), (99, (fun u => fEq u (int .u8 (En.bAt r12.2.1 (IntKind.i64.wrap ((2 : Int) * l83i56)))))), (100, (fun u => fEq u (str r12.2.1))), (101, (fun u => fEq u (int .i64 l83i56))), (102, (fun u => fEq u (int .i64 (IntKind.i64.wrap ((2 : Int) * l83i56))))), (103, (fun u => fEq u (int .i64 (IntKind.i64.wrap ((IntKind.i64.wrap ((2 : Int) * l83i56)) + (1 : Int)))))), (104, (fun u => fEq u (int .u8 (En.bAt r12.2.1 (IntKind.i64.wrap ((IntKind.i64.wrap ((2 : Int) * l83i56)) + (1 : Int))))))), (105, (fun u => fEq u (int .i64 (IntKind.i64.wrap (En.bAt r12.2.1 (IntKind.i64.wrap ((IntKind.i64.wrap ((2 : Int) * l83i56)) + (1 : Int)))))))), (106, (fun p => fElt v16 p (((En.bAt r12.2.1 (IntKind.i64.wrap ((2 : Int) * l83i56)))).toNat * Ty.size (tyInt .i64))))] (tab [(0, (str r12.2.1)), (4, (ptr g13 0)), (6, v16), (7, (int .i64 l83i56)), (55, (int .i64 r12.1.e2)), (56, (int .i64 l83i56))]) mixed (by kernel_rfl) rfl rfl rfl (fun a hs => hs.tab _ (allT_mem ⟨rfl, rfl, rfl, rfl, rfl, rfl, trivial⟩)) ⟨⟨rfl, ld_val (ov_move rfl rfl)⟩, ⟨rfl, ld_val (ov_move rfl rfl)⟩, ⟨rfl, ld_val (ov_move rfl rfl)⟩, ⟨rfl, ld_eq (j := 2) rfl rfl (ld_val (ov_int rfl rfl rfl rfl))⟩, ⟨rfl, ld_eq (j := 1) rfl rfl (ld_eq (j := 3) rfl rfl (ld_val (ov_strIdx hc91.1 hc91.2 Try.underlying9 rfl rfl rfl)))⟩, ⟨rfl, ld_val (ov_move rfl rfl)⟩, ⟨rfl, ld_val (ov_move rfl rfl)⟩, ⟨rfl, ld_eq (j := 6) rfl rfl (ld_val (ov_int rfl rfl rfl rfl))⟩, ⟨rfl, ld_eq (j := 7) rfl rfl (ld_val (ov_int rfl rfl rfl rfl))⟩, ⟨rfl, ld_eq (j := 5) rfl rfl (ld_eq (j := 8) rfl rfl (ld_val (ov_strIdx hc92.1 hc92.2 Try.underlying9 rfl rfl rfl)))⟩, ⟨rfl, ld_eq (j := 9) rfl rfl (ld_val (ov_convInt (by rw [Try.underlying5]; rfl) Try.underlying3 rfl rfl))⟩, ⟨rfl, ld_eq (j := 0) rfl rfl (ld_eq (j := 4) rfl rfl (ld_of (of_idxR 1 (at_some hu94).1 (at_some hu94).2.1 rfl rfl rfl Try.underlying34 sz3 rfl)))⟩, trivial⟩ ?_
            refine tl_eq 10 rfl ?_
            refine tl_elt 11 rfl (fun p95 hp96 => ?_)
            refine tl_done ?_
            refine al_storeR (k := ((En.bAt r12.2.1 (IntKind.i64.wrap ((2 : Int) * l83i56)))).toNat) (x := (IntKind.i64.wrap (En.bAt r12.2.1 (IntKind.i64.wrap ((IntKind.i64.wrap ((2 : Int) * l83i56)) + (1 : Int)))))) (vs := [(int .i64 (IntKind.i64.wrap (En.bAt r12.2.1 (IntKind.i64.wrap ((IntKind.i64.wrap ((2 : Int) * l83i56)) + (1 : Int))))))]) 1 rfl hp96 (idx_lt hu94) rfl rfl (cv_rfl rfl) (fun _ => rfl) sz3 rfl ?_
            refine al_nil ?_
            refine aq_block ?_
            refine aq_then ?_
            refine aw_region ?_
            refine al_in rfl rfl rfl rfl ?_
            refine al_mv rfl rfl ?_
            refine al_nil ?_
            exact aq_again k84 ((l83x6.set ((En.bAt r12.2.1 (IntKind.i64.wrap ((2 : Int) * l83i56)))).toNat (IntKind.i64.wrap (En.bAt r12.2.1 (IntKind.i64.wrap ((IntKind.i64.wrap ((2 : Int) * l83i56)) + (1 : Int)))))), (IntKind.i64.wrap (l83i56 + (1 : Int)))) (Nat.lt_succ_self _) h (fun w a hm hs => norm hm hs [0, 1] [] [(0, (str r12.2.1)), (4, (ptr g13 0)), (6, v16), (55, (int .i64 r12.1.e2)), (56, (int .i64 (IntKind.i64.wrap (l83i56 + (1 : Int)))))] (by decide) ⟨rfl, rfl, rfl, rfl, rfl, trivial⟩)
          ·clear hkk89
           rcases Bool.eq_false_or_eq_true (decide (l83i56 > (0 : Int))) with hb97 | hb97
           ·replace h := bif_t hb97 h
            obtain ⟨hc98, h⟩ := req_some h
            obtain ⟨hc99, h⟩ := req_some h
            rcases Bool.eq_false_or_eq_true (decide ((En.bAt r12.2.1 (IntKind.i64.wrap ((2 : Int) * l83i56))) ≤ (En.bAt r12.2.1 (IntKind.i64.wrap ((IntKind.i64.wrap ((2 : Int) * l83i56)) - (2 : Int)))))) with hb100 | hb100
            ·replace h := bif_t hb100 h
             refine aw_region_draw 29 [(65, (fun u => fEq u (int .i64 l83i56))), (66, (fun u => fEq u (bool true))), (67, (fun u => fEq u (bool true))), (68, (fun u => fEq u (str r12.2.1))), (69, (fun u => fEq u (int .i64 l83i56))), (70, (fun u => fEq u (int .i64 (IntKind.i64.wrap ((2 : Int) * l83i56))))), (71, (fun u => fEq u (int .u8 (En.bAt r12.2.1 (IntKind.i64.wrap ((2 : Int) * l83i56)))))), (72, (fun u => fEq u (str r12.2.1))), (73, (fun u => fEq u (int .i64 l83i56))), (74, (fun u => fEq u (int .i64 (IntKind.i64.wrap ((2 : Int) * l83i56))))), (75, (fun u => fEq u (int .i64 (IntKind.i64.wrap ((IntKind.i64.wrap ((2 : Int) * l83i56)) - (2 : Int)))))), (76, (fun u => fEq u (int .u8 (En.bAt r12.2.1 (IntKind.i64.wrap ((IntKind.i64.wrap ((2 : Int) * l83i56)) - (2 : Int))))))), (77, (fun u => fEq u (bool true))), (78, (fun u => fEq u (bool true))), (79, (fun u => fEq u (bool true))), (80, (fun u => fEq u undef)), (81, (fun u => fEq u undef)), (82, (fun u => fEq u undef)), (83, (fun u => fEq u undef)), (84, (fun u => fEq u undef)), (85, (fun u => fEq u undef)), (86, (fun u => fEq u (bool true))), (87, (fun u => fEq u (bool true))), (88, (fun u => fEq u undef)), (89, (fun u => fEq u undef)), (90, (fun u => fEq u undef)), (91, (fun u => fEq u undef)), (92, (fun u => fEq u undef)), (93, (fun u => fEq u undef))] (tab [(0, (str r12.2.1)), (4, (ptr g13 0)), (6, v16), (7, (int .i64 l83i56)), (55, (int .i64 r12.1.e2)), (56, (int .i64 l83i56))]) mixed (by kernel_rfl) rfl rfl rfl (fun a hs => hs.tab _ (allT_mem ⟨rfl, rfl, rfl, rfl, rfl, rfl, trivial⟩)) ⟨⟨rfl, ld_val (ov_move rfl rfl)⟩, ⟨rfl, ld_eq (j := 0) rfl rfl (ld_val (ov_cast (by first | rw [hb97] | rfl) (ov_int rfl rfl rfl rfl)))⟩, ⟨rfl, ld_eq (j := 1) rfl rfl (ld_val (ov_cast (by first | rw [hb97] | rfl) (ov_move rfl rfl)))⟩, ⟨rfl, ld_eq (j := 2) rfl rfl (ld_val (ov_move rfl rfl))⟩, ⟨rfl, ld_eq (j := 2) rfl rfl (ld_val (ov_move rfl rfl))⟩, ⟨rfl, ld_eq (j := 2) rfl rfl (ld_eq (j := 4) rfl rfl (ld_val (ov_int rfl rfl rfl rfl)))⟩, ⟨rfl, ld_eq (j := 2) rfl rfl (ld_eq (j := 3) rfl rfl (ld_eq (j := 5) rfl rfl (ld_val (ov_strIdx hc98.1 hc98.2 Try.underlying9 rfl rfl rfl))))⟩, ⟨rfl, ld_eq (j := 2) rfl rfl (ld_val (ov_move rfl rfl))⟩, ⟨rfl, ld_eq (j := 2) rfl rfl (ld_val (ov_move rfl rfl))⟩, ⟨rfl, ld_eq (j := 2) rfl rfl (ld_eq (j := 8) rfl rfl (ld_val (ov_int rfl rfl rfl rfl)))⟩, ⟨rfl, ld_eq (j := 2) rfl rfl (ld_eq (j := 9) rfl rfl (ld_val (ov_int rfl rfl rfl rfl)))⟩, ⟨rfl, ld_eq (j := 2) rfl rfl (ld_eq (j := 7) rfl rfl (ld_eq (j := 10) rfl rfl (ld_val (ov_strIdx hc99.1 hc99.2 Try.underlying9 rfl rfl rfl))))⟩, ⟨rfl, ld_eq (j := 2) rfl rfl (ld_eq (j := 6) rfl rfl (ld_eq (j := 11) rfl rfl (ld_val (ov_cast (by first | rw [hb100] | rfl) (ov_int rfl rfl rfl rfl)))))⟩, ⟨rfl, ld_eq (j := 2) rfl rfl (ld_eq (j := 12) rfl rfl (ld_val (ov_cast (by first | rw [hb100] | rfl) (ov_pick_t rfl rfl rfl))))⟩, ⟨rfl, ld_eq (j := 13) rfl rfl (ld_val (ov_cast (by first | rw [hb100] | rfl) (ov_move rfl rfl)))⟩, ⟨rfl, ld_eq (j := 14) rfl rfl (ld_skip)⟩, ⟨rfl, ld_eq (j := 14) rfl rfl (ld_skip)⟩, ⟨rfl, ld_eq (j := 14) rfl rfl (ld_skip)⟩, ⟨rfl, ld_eq (j := 14) rfl rfl (ld_skip)⟩, ⟨rfl, ld_eq (j := 14) rfl rfl (ld_skip)⟩, ⟨rfl, ld_eq (j := 14) rfl rfl (ld_skip)⟩, ⟨rfl, ld_eq (j := 14) rfl rfl (ld_eq (j := 20) rfl rfl (ld_val (ov_pick_t rfl rfl rfl)))⟩, ⟨rfl, ld_eq (j := 21) rfl rfl (ld_val (ov_move rfl rfl))⟩, ⟨rfl, ld_eq (j := 22) rfl rfl (ld_skip)⟩, ⟨rfl, ld_eq (j := 22) rfl rfl (ld_skip)⟩, ⟨rfl, ld_eq (j := 22) rfl rfl (ld_skip)⟩, ⟨rfl, ld_eq (j := 22) rfl rfl (ld_skip)⟩, ⟨rfl, ld_eq (j := 22) rfl rfl (ld_skip)⟩, ⟨rfl, ld_eq (j := 22) rfl rfl (ld_skip)⟩, trivial⟩ ?_
             refine tl_eq 22 rfl ?_
             refine tl_eq 28 rfl ?_
             refine tl_done ?_
             refine al_val (ov_pick_t rfl rfl rfl) ?_
             refine al_nil ?_
             exact aq_join true h (fun w a hm hs => norm hm hs [0, 1] [] [(0, (str r12.2.1)), (4, (ptr g13 0)), (6, v16), (7, (int .i64 l83i56)), (55, (int .i64 r12.1.e2)), (56, (int .i64 l83i56)), (94, (bool true))] (by decide) ⟨rfl, rfl, rfl, rfl, rfl, rfl, rfl, trivial⟩)
            ·replace h := bif_f hb100 h
             obtain ⟨hc101, h⟩ := req_some h
             rcases Bool.eq_false_or_eq_true ((En.bAt r12.2.1 (IntKind.i64.wrap ((IntKind.i64.wrap ((2 : Int) * l83i56)) + (1 : Int)))) == (0 : Int)) with hb102 | hb102
             ·replace h := bif_t hb102 h
              refine aw_region_draw 29 [(65, (fun u => fEq u (int .i64 l83i56))), (66, (fun u => fEq u (bool true))), (67, (fun u => fEq u (bool true))), (68, (fun u => fEq u (str r12.2.1))), (69, (fun u => fEq u (int .i64 l83i56))), (70, (fun u => fEq u (int .i64 (IntKind.i64.wrap ((2 : Int) * l83i56))))), (71, (fun u => fEq u (int .u8 (En.bAt r12.2.1 (IntKind.i64.wrap ((2 : Int) * l83i56)))))), (72, (fun u => fEq u (str r12.2.1))), (73, (fun u => fEq u (int .i64 l83i56))), (74, (fun u => fEq u (int .i64 (IntKind.i64.wrap ((2 : Int) * l83i56))))), (75, (fun u => fEq u (int .i64 (IntKind.i64.wrap ((IntKind.i64.wrap ((2 : Int) * l83i56)) - (2 : Int)))))), (76, (fun u => fEq u (int .u8 (En.bAt r12.2.1 (IntKind.i64.wrap ((IntKind.i64.wrap ((2 : Int) * l83i56)) - (2 : Int))))))), (77, (fun u => fEq u (bool false))), (78, (fun u => fEq u (bool false))), (79, (fun u => fEq u (bool false))), (80, (fun u => fEq u (str r12.2.1))), (81, (fun u => fEq u (int .i64 l83i56))), (82, (fun u => fEq u (int .i64 (IntKind.i64.wrap ((2 : Int) * l83i56))))), (83, (fun u => fEq u (int .i64 (IntKind.i64.wrap ((IntKind.i64.wrap ((2 : Int) * l83i56)) + (1 : Int)))))), (84, (fun u => fEq u (int .u8 (En.bAt r12.2.1 (IntKind.i64.wrap ((IntKind.i64.wrap ((2 : Int) * l83i56)) + (1 : Int))))))), (85, (fun u => fEq u (bool true))), (86, (fun u => fEq u (bool true))), (87, (fun u => fEq u (bool true))), (88, (fun u => fEq u undef)), (89, (fun u => fEq u undef)), (90, (fun u => fEq u undef)), (91, (fun u => fEq u undef)), (92, (fun u => fEq u undef)), (93, (fun u => fEq u undef))] (tab [(0, (str r12.2.1)), (4, (ptr g13 0)), (6, v16), (7, (int .i64 l83i56)), (55, (int .i64 r12.1.e2)), (56, (int .i64 l83i56))]) mixed (by kernel_rfl) rfl rfl rfl (fun a hs => hs.tab _ (allT_mem ⟨rfl, rfl, rfl, rfl, rfl, rfl, trivial⟩)) ⟨⟨rfl, ld_val (ov_move rfl rfl)⟩, ⟨rfl, ld_eq (j := 0) rfl rfl (ld_val (ov_cast (by first | rw [hb97] | rfl) (ov_int rfl rfl rfl rfl)))⟩, ⟨rfl, ld_eq (j := 1) rfl rfl (ld_val (ov_cast (by first | rw [hb97] | rfl) (ov_move rfl rfl)))⟩, ⟨rfl, ld_eq (j := 2) rfl rfl (ld_val (ov_move rfl rfl))⟩, ⟨rfl, ld_eq (j := 2) rfl rfl (ld_val (ov_move rfl rfl))⟩, ⟨rfl, ld_eq (j := 2) rfl rfl (ld_eq (j := 4) rfl rfl (ld_val (ov_int rfl rfl rfl rfl)))⟩, ⟨rfl, ld_eq (j := 2) rfl rfl (ld_eq (j := 3) rfl rfl (ld_eq (j := 5) rfl rfl (ld_val (ov_strIdx hc98.1 hc98.2 Try.underlying9 rfl rfl rfl))))⟩, ⟨rfl, ld_eq (j := 2) rfl rfl (ld_val (ov_move rfl rfl))⟩, ⟨rfl, ld_eq (j := 2) rfl rfl (ld_val (ov_move rfl rfl))⟩, ⟨rfl, ld_eq (j := 2) rfl rfl (ld_eq (j := 8) rfl rfl (ld_val (ov_int rfl rfl rfl rfl)))⟩, ⟨rfl, ld_eq (j := 2) rfl rfl (ld_eq (j := 9) rfl rfl (ld_val (ov_int rfl rfl rfl rfl)))⟩, ⟨rfl, ld_eq (j := 2) rfl rfl (ld_eq (j := 7) rfl rfl (ld_eq (j := 10) rfl rfl (ld_val (ov_strIdx hc99.1 hc99.2 Try.underlying9 rfl rfl rfl))))⟩, ⟨rfl, ld_eq (j := 2) rfl rfl (ld_eq (j := 6) rfl rfl (ld_eq (j := 11) rfl rfl (ld_val (ov_cast (by first | rw [hb100] | rfl) (ov_int rfl rfl rfl rfl)))))⟩, ⟨rfl, ld_eq (j := 2) rfl rfl (ld_eq (j := 12) rfl rfl (ld_val (ov_cast (by first | rw [hb100] | rfl) (ov_pick_t rfl rfl rfl))))⟩, ⟨rfl, ld_eq (j := 13) rfl rfl (ld_val (ov_cast (by first | rw [hb100] | rfl) (ov_move rfl rfl)))⟩, ⟨rfl, ld_eq (j := 14) rfl rfl (ld_val (ov_move rfl rfl))⟩, ⟨rfl, ld_eq (j := 14) rfl rfl (ld_val (ov_move rfl rfl))⟩, ⟨rfl, ld_eq (j := 14) rfl rfl (ld_eq (j := 16) rfl rfl (ld_val (ov_int rfl rfl rfl rfl)))⟩, ⟨rfl, ld_eq (j := 14) rfl rfl (ld_eq (j := 17) rfl rfl (ld_val (ov_int rfl rfl rfl rfl)))⟩, ⟨rfl, ld_eq (j := 14) rfl rfl (ld_eq (j := 15) rfl rfl (ld_eq (j := 18) rfl rfl (ld_val (ov_strIdx hc101.1 hc101.2 Try.underlying9 rfl rfl rfl))))⟩, ⟨rfl, ld_eq (j := 14) rfl rfl (ld_eq (j := 19) rfl rfl (ld_val (ov_cast (by first | rw [hb102] | rfl) (ov_int rfl rfl rfl rfl))))⟩, ⟨rfl, ld_eq (j := 14) rfl rfl (ld_eq (j := 20) rfl rfl (ld_val (ov_cast (by first | rw [hb102] | rfl) (ov_pick_f rfl rfl rfl))))⟩, ⟨rfl, ld_eq (j := 21) rfl rfl (ld_val (ov_cast (by first | rw [hb102] | rfl) (ov_move rfl rfl)))⟩, ⟨rfl, ld_eq (j := 22) rfl rfl (ld_skip)⟩, ⟨rfl, ld_eq (j := 22) rfl rfl (ld_skip)⟩, ⟨rfl, ld_eq (j := 22) rfl rfl (ld_skip)⟩, ⟨rfl, ld_eq (j := 22) rfl rfl (ld_skip)⟩, ⟨rfl, ld_eq (j := 22) rfl rfl (ld_skip)⟩, ⟨rfl, ld_eq (j := 22) rfl rfl (ld_skip)⟩, trivial⟩ ?_
              refine tl_eq 22 rfl ?_
              refine tl_eq 28 rfl ?_
              refine tl_done ?_
              refine al_val (ov_pick_t rfl rfl rfl) ?_
              refine al_nil ?_
              exact aq_join true h (fun w a hm hs => norm hm hs [0, 1] [] [(0, (str r12.2.1)), (4, (ptr g13 0)), (6, v16), (7, (int .i64 l83i56)), (55, (int .i64 r12.1.e2)), (56, (int .i64 l83i56)), (94, (bool true))] (by decide) ⟨rfl, rfl, rfl, rfl, rfl, rfl, rfl, trivial⟩)
             ·replace h := bif_f hb102 h
              obtain ⟨hc103, h⟩ := req_some h
              refine aw_region_draw 29 [(65, (fun u => fEq u (int .i64 l83i56))), (66, (fun u => fEq u (bool true))), (67, (fun u => fEq u (bool true))), (68, (fun u => fEq u (str r12.2.1))), (69, (fun u => fEq u (int .i64 l83i56))), (70, (fun u => fEq u (int .i64 (IntKind.i64.wrap ((2 : Int) * l83i56))))), (71, (fun u => fEq u (int .u8 (En.bAt r12.2.1 (IntKind.i64.wrap ((2 : Int) * l83i56)))))), (72, (fun u => fEq u (str r12.2.1))), (73, (fun u => fEq u (int .i64 l83i56))), (74, (fun u => fEq u (int .i64 (IntKind.i64.wrap ((2 : Int) * l83i56))))), (75, (fun u => fEq u (int .i64 (IntKind.i64.wrap ((IntKind.i64.wrap ((2 : Int) * l83i56)) - (2 : Int)))))), (76, (fun u => fEq u (int .u8 (En.bAt r12.2.1 (IntKind.i64.wrap ((IntKind.i64.wrap ((2 : Int) * l83i56)) - (2 : Int))))))), (77, (fun u => fEq u (bool false))), (78, (fun u => fEq u (bool false))), (79, (fun u => fEq u (bool false))), (80, (fun u => fEq u (str r12.2.1))), (81, (fun u => fEq u (int .i64 l83i56))), (82, (fun u => fEq u (int .i64 (IntKind.i64.wrap ((2 : Int) * l83i56))))), (83, (fun u => fEq u (int .i64 (IntKind.i64.wrap ((IntKind.i64.wrap ((2 : Int) * l83i56)) + (1 : Int)))))), (84, (fun u => fEq u (int .u8 (En.bAt r12.2.1 (IntKind.i64.wrap ((IntKind.i64.wrap ((2 : Int) * l83i56)) + (1 : Int))))))), (85, (fun u => fEq u (bool false))), (86, (fun u => fEq u (bool false))), (87, (fun u => fEq u (bool false))), (88, (fun u => fEq u (str r12.2.1))), (89, (fun u => fEq u (int .i64 l83i56))), (90, (fun u => fEq u (int .i64 (IntKind.i64.wrap ((2 : Int) * l83i56))))), (91, (fun u => fEq u (int .i64 (IntKind.i64.wrap ((IntKind.i64.wrap ((2 : Int) * l83i56)) + (1 : Int)))))), (92, (fun u => fEq u (int .u8 (En.bAt r12.2.1 (IntKind.i64.wrap ((IntKind.i64.wrap ((2 : Int) * l83i56)) + (1 : Int))))))), (93, (fun u => fEq u (bool (decide ((En.bAt r12.2.1 (IntKind.i64.wrap ((IntKind.i64.wrap ((2 : Int) * l83i56)) + (1 : Int)))) > (48 : Int))))))] (tab [(0, (str r12.2.1)), (4, (ptr g13 0)), (6, v16), (7, (int .i64 l83i56)), (55, (int .i64 r12.1.e2)), (56, (int .i64 l83i56))]) mixed (by kernel_rfl) rfl rfl rfl (fun a hs => hs.tab _ (allT_mem ⟨rfl, rfl, rfl, rfl, rfl, rfl, trivial⟩)) ⟨⟨rfl, ld_val (ov_move rfl rfl)⟩, ⟨rfl, ld_eq (j := 0) rfl rfl (ld_val (ov_cast (by first | rw [hb97] | rfl) (ov_int rfl rfl rfl rfl)))⟩, ⟨rfl, ld_eq (j := 1) rfl rfl (ld_val (ov_cast (by first | rw [hb97] | rfl) (ov_move rfl rfl)))⟩, ⟨rfl, ld_eq (j := 2) rfl rfl (ld_val (ov_move rfl rfl))⟩, ⟨rfl, ld_eq (j := 2) rfl rfl (ld_val (ov_move rfl rfl))⟩, ⟨rfl, ld_eq (j := 2) rfl rfl (ld_eq (j := 4) rfl rfl (ld_val (ov_int rfl rfl rfl rfl)))⟩, ⟨rfl, ld_eq (j := 2) rfl rfl (ld_eq (j := 3) rfl rfl (ld_eq (j := 5) rfl rfl (ld_val (ov_strIdx hc98.1 hc98.2 Try.underlying9 rfl rfl rfl))))⟩, ⟨rfl, ld_eq (j := 2) rfl rfl (ld_val (ov_move rfl rfl))⟩, ⟨rfl, ld_eq (j := 2) rfl rfl (ld_val (ov_move rfl rfl))⟩, ⟨rfl, ld_eq (j := 2) rfl rfl (ld_eq (j := 8) rfl rfl (ld_val (ov_int rfl rfl rfl rfl)))⟩, ⟨rfl, ld_eq (j := 2) rfl rfl (ld_eq (j := 9) rfl rfl (ld_val (ov_int rfl rfl rfl rfl)))⟩, ⟨rfl, ld_eq (j := 2) rfl rfl (ld_eq (j := 7) rfl rfl (ld_eq (j := 10) rfl rfl (ld_val (ov_strIdx hc99.1 hc99.2 Try.underlying9 rfl rfl rfl))))⟩, ⟨rfl, ld_eq (j := 2) rfl rfl (ld_eq (j := 6) rfl rfl (ld_eq (j := 11) rfl rfl (ld_val (ov_cast (by first | rw [hb100] | rfl) (ov_int rfl rfl rfl rfl)))))⟩, ⟨rfl, ld_eq (j := 2) rfl rfl (ld_eq (j := 12) rfl rfl (ld_val (ov_cast (by first | rw [hb100] | rfl) (ov_pick_t rfl rfl rfl))))⟩, ⟨rfl, ld_eq (j := 13) rfl rfl (ld_val (ov_cast (by first | rw [hb100] | rfl) (ov_move rfl rfl)))⟩, ⟨rfl, ld_eq (j := 14) rfl rfl (ld_val (ov_move rfl rfl))⟩, ⟨rfl, ld_eq (j := 14) rfl rfl (ld_val (ov_move rfl rfl))⟩, ⟨rfl, ld_eq (j := 14) rfl rfl (ld_eq (j := 16) rfl rfl (ld_val (ov_int rfl rfl rfl rfl)))⟩, ⟨rfl, ld_eq (j := 14) rfl rfl (ld_eq (j := 17) rfl rfl (ld_val (ov_int rfl rfl rfl rfl)))⟩, ⟨rfl, ld_eq (j := 14) rfl rfl (ld_eq (j := 15) rfl rfl (ld_eq (j := 18) rfl rfl (ld_val (ov_strIdx hc101.1 hc101.2 Try.underlying9 rfl rfl rfl))))⟩, ⟨rfl, ld_eq (j := 14) rfl rfl (ld_eq (j := 19) rfl rfl (ld_val (ov_cast (by first | rw [hb102] | rfl) (ov_int rfl rfl rfl rfl))))⟩, ⟨rfl, ld_eq (j := 14) rfl rfl (ld_eq (j := 20) rfl rfl (ld_val (ov_cast (by first | rw [hb102] | rfl) (ov_pick_f rfl rfl rfl))))⟩, ⟨rfl, ld_eq (j := 21) rfl rfl (ld_val (ov_cast (by first | rw [hb102] | rfl) (ov_move rfl rfl)))⟩, ⟨rfl, ld_eq (j := 22) rfl rfl (ld_val (ov_move rfl rfl))⟩, ⟨rfl, ld_eq (j := 22) rfl rfl (ld_val (ov_move rfl rfl))⟩, ⟨rfl, ld_eq (j := 22) rfl rfl (ld_eq (j := 24) rfl rfl (ld_val (ov_int rfl rfl rfl rfl)))⟩, ⟨rfl, ld_eq (j := 22) rfl rfl (ld_eq (j := 25) rfl rfl (ld_val (ov_int rfl rfl rfl rfl)))⟩, ⟨rfl, ld_eq (j := 22) rfl rfl (ld_eq (j := 23) rfl rfl (ld_eq (j := 26) rfl rfl (ld_val (ov_strIdx hc103.1 hc103.2 Try.underlying9 rfl rfl rfl))))⟩, ⟨rfl, ld_eq (j := 22) rfl rfl (ld_eq (j := 27) rfl rfl (ld_val (ov_int rfl rfl rfl rfl)))⟩, trivial⟩ ?_
              refine tl_eq 22 rfl ?_
              refine tl_eq 28 rfl ?_
              refine tl_done ?_
              refine al_val (ov_pick_f rfl rfl rfl) ?_
              refine al_nil ?_
              exact aq_join (decide ((En.bAt r12.2.1 (IntKind.i64.wrap ((IntKind.i64.wrap ((2 : Int) * l83i56)) + (1 : Int)))) > (48 : Int))) h (fun w a hm hs => norm hm hs [0, 1] [] [(0, (str r12.2.1)), (4, (ptr g13 0)), (6, v16), (7, (int .i64 l83i56)), (55, (int .i64 r12.1.e2)), (56, (int .i64 l83i56)), (94, (bool (decide ((En.bAt r12.2.1 (IntKind.i64.wrap ((IntKind.i64.wrap ((2 : Int) * l83i56)) + (1 : Int)))) > (48 : Int)))))] (by decide) ⟨rfl, rfl, rfl, rfl, rfl, rfl, rfl, trivial⟩)
           ·replace h := bif_f hb97 h
            obtain ⟨hc104, h⟩ := req_some h
            rcases Bool.eq_false_or_eq_true ((En.bAt r12.2.1 (IntKind.i64.wrap ((IntKind.i64.wrap ((2 : Int) * l83i56)) + (1 : Int)))) == (0 : Int)) with hb105 | hb105
            ·replace h := bif_t hb105 h
             refine aw_region_draw 29 [(65, (fun u => fEq u (int .i64 l83i56))), (66, (fun u => fEq u (bool false))), (67, (fun u => fEq u (bool false))), (68, (fun u => fEq u undef)), (69, (fun u => fEq u undef)), (70, (fun u => fEq u undef)), (71, (fun u => fEq u undef)), (72, (fun u => fEq u undef)), (73, (fun u => fEq u undef)), (74, (fun u => fEq u undef)), (75, (fun u => fEq u undef)), (76, (fun u => fEq u undef)), (77, (fun u => fEq u undef)), (78, (fun u => fEq u (bool false))), (79, (fun u => fEq u (bool false))), (80, (fun u => fEq u (str r12.2.1))), (81, (fun u => fEq u (int .i64 l83i56))), (82, (fun u => fEq u (int .i64 (IntKind.i64.wrap ((2 : Int) * l83i56))))), (83, (fun u => fEq u (int .i64 (IntKind.i64.wrap ((IntKind.i64.wrap ((2 : Int) * l83i56)) + (1 : Int)))))), (84, (fun u => fEq u (int .u8 (En.bAt r12.2.1 (IntKind.i64.wrap ((IntKind.i64.wrap ((2 : Int) * l83i56)) + (1 : Int))))))), (85, (fun u => fEq u (bool true))), (86, (fun u => fEq u (bool true))), (87, (fun u => fEq u (bool true))), (88, (fun u => fEq u undef)), (89, (fun u => fEq u undef)), (90, (fun u => fEq u undef)), (91, (fun u => fEq u undef)), (92, (fun u => fEq u undef)), (93, (fun u => fEq u undef))] (tab [(0, (str r12.2.1)), (4, (ptr g13 0)), (6, v16), (7, (int .i64 l83i56)), (55, (int .i64 r12.1.e2)), (56, (int .i64 l83i56))]) mixed (by kernel_rfl) rfl rfl rfl (fun a hs => hs.tab _ (allT_mem ⟨rfl, rfl, rfl, rfl, rfl, rfl, trivial⟩)) ⟨⟨rfl, ld_val (ov_move rfl rfl)⟩, ⟨rfl, ld_eq (j := 0) rfl rfl (ld_val (ov_cast (by first | rw [hb97] | rfl) (ov_int rfl rfl rfl rfl)))⟩, ⟨rfl, ld_eq (j := 1) rfl rfl (ld_val (ov_cast (by first | rw [hb97] | rfl) (ov_move rfl rfl)))⟩, ⟨rfl, ld_eq (j := 2) rfl rfl (ld_skip)⟩, ⟨rfl, ld_eq (j := 2) rfl rfl (ld_skip)⟩, ⟨rfl, ld_eq (j := 2) rfl rfl (ld_skip)⟩, ⟨rfl, ld_eq (j := 2) rfl rfl (ld_skip)⟩, ⟨rfl, ld_eq (j := 2) rfl rfl (ld_skip)⟩, ⟨rfl, ld_eq (j := 2) rfl rfl (ld_skip)⟩, ⟨rfl, ld_eq (j := 2) rfl rfl (ld_skip)⟩, ⟨rfl, ld_eq (j := 2) rfl rfl (ld_skip)⟩, ⟨rfl, ld_eq (j := 2) rfl rfl (ld_skip)⟩, ⟨rfl, ld_eq (j := 2) rfl rfl (ld_skip)⟩, ⟨rfl, ld_eq (j := 2) rfl rfl (ld_eq (j := 12) rfl rfl (ld_val (ov_pick_f rfl rfl rfl)))⟩, ⟨rfl, ld_eq (j := 13) rfl rfl (ld_val (ov_move rfl rfl))⟩, ⟨rfl, ld_eq (j := 14) rfl rfl (ld_val (ov_move rfl rfl))⟩, ⟨rfl, ld_eq (j := 14) rfl rfl (ld_val (ov_move rfl rfl))⟩, ⟨rfl, ld_eq (j := 14) rfl rfl (ld_eq (j := 16) rfl rfl (ld_val (ov_int rfl rfl rfl rfl)))⟩, ⟨rfl, ld_eq (j := 14) rfl rfl (ld_eq (j := 17) rfl rfl (ld_val (ov_int rfl rfl rfl rfl)))⟩, ⟨rfl, ld_eq (j := 14) rfl rfl (ld_eq (j := 15) rfl rfl (ld_eq (j := 18) rfl rfl (ld_val (ov_strIdx hc104.1 hc104.2 Try.underlying9 rfl rfl rfl))))⟩, ⟨rfl, ld_eq (j := 14) rfl rfl (ld_eq (j := 19) rfl rfl (ld_val (ov_cast (by first | rw [hb105] | rfl) (ov_int rfl rfl rfl rfl))))⟩, ⟨rfl, ld_eq (j := 14) rfl rfl (ld_eq (j := 20) rfl rfl (ld_val (ov_cast (by first | rw [hb105] | rfl) (ov_pick_f rfl rfl rfl))))⟩, ⟨rfl, ld_eq (j := 21) rfl rfl (ld_val (ov_cast (by first | rw [hb105] | rfl) (ov_move rfl rfl)))⟩, ⟨rfl, ld_eq (j := 22) rfl rfl (ld_skip)⟩, ⟨rfl, ld_eq (j := 22) rfl rfl (ld_skip)⟩, ⟨rfl, ld_eq (j := 22) rfl rfl (ld_skip)⟩, ⟨rfl, ld_eq (j := 22) rfl rfl (ld_skip)⟩, ⟨rfl, ld_eq (j := 22) rfl rfl (ld_skip)⟩, ⟨rfl, ld_eq (j := 22) rfl rfl (ld_skip)⟩, trivial⟩ ?_
             refine tl_eq 22 rfl ?_
             refine tl_eq 28 rfl ?_
             refine tl_done ?_
             refine al_val (ov_pick_t rfl rfl rfl) ?_
             refine al_nil ?_
             exact aq_join true h (fun w a hm hs => norm hm hs [0, 1] [] [(0, (str r12.2.1)), (4, (ptr g13 0)), (6, v16), (7, (int .i64 l83i56)), (55, (int .i64 r12.1.e2)), (56, (int .i64 l83i56)), (94, (bool true))] (by decide) ⟨rfl, rfl, rfl, rfl, rfl, rfl, rfl, trivial⟩)
            ·replace h := bif_f hb105 h
             obtain ⟨hc106, h⟩ := req_some h
             refine aw_region_draw 29 [(65, (fun u => fEq u (int .i64 l83i56))), (66, (fun u => fEq u (bool false))), (67, (fun u => fEq u (bool false))), (68, (fun u => fEq u undef)), (69, (fun u => fEq u undef)), (70, (fun u => fEq u undef)), (71, (fun u => fEq u undef)), (72, (fun u => fEq u undef)), (73, (fun u => fEq u undef)), (74, (fun u => fEq u undef)), (75, (fun u => fEq u undef)), (76, (fun u => fEq u undef)), (77, (fun u => fEq u undef)), (78, (fun u => fEq u (bool false))), (79, (fun u => fEq u (bool false))), (80, (fun u => fEq u (str r12.2.1))), (81, (fun u => fEq u (int .i64 l83i56))), (82, (fun u => fEq u (int .i64 (IntKind.i64.wrap ((2 : Int) * l83i56))))), (83, (fun u => fEq u (int .i64 (IntKind.i64.wrap ((IntKind.i64.wrap ((2 : Int) * l83i56)) + (1 : Int)))))), (84, (fun u => fEq u (int .u8 (En.bAt r12.2.1 (IntKind.i64.wrap ((IntKind.i64.wrap ((2 : Int) * l83i56)) + (1 : Int))))))), (85, (fun u => fEq u (bool false))), (86, (fun u => fEq u (bool false))), (87, (fun u => fEq u (bool false))), (88, (fun u => fEq u (str r12.2.1))), (89, (fun u => fEq u (int .i64 l83i56))), (90, (fun u => fEq u (int .i64 (IntKind.i64.wrap ((2 : Int) * l83i56))))), (91, (fun u => fEq u (int .i64 (IntKind.i64.wrap ((IntKind.i64.wrap ((2 : Int) * l83i56)) + (1 : Int)))))), (92, (fun u => fEq u (int .u8 (En.bAt r12.2.1 (IntKind.i64.wrap ((IntKind.i64.wrap ((2 : Int) * l83i56)) + (1 : Int))))))), (93, (fun u => fEq u (bool (decide ((En.bAt r12.2.1 (IntKind.i64.wrap ((IntKind.i64.wrap ((2 : Int) * l83i56)) + (1 : Int)))) > (48 : Int))))))] (tab [(0, (str r12.2.1)), (4, (ptr g13 0)), (6, v16), (7, (int .i64 l83i56)), (55, (int .i64 r12.1.e2)), (56, (int .i64 l83i56))]) mixed (by kernel_rfl) rfl rfl rfl (fun a hs => hs.tab _ (allT_mem ⟨rfl, rfl, rfl, rfl, rfl, rfl, trivial⟩)) ⟨⟨rfl, ld_val (ov_move rfl rfl)⟩, ⟨rfl, ld_eq (j := 0) rfl rfl (ld_val (ov_cast (by first | rw [hb97] | rfl) (ov_int rfl rfl rfl rfl)))⟩, ⟨rfl, ld_eq (j := 1) rfl rfl (ld_val (ov_cast (by first | rw [hb97] | rfl) (ov_move rfl rfl)))⟩, ⟨rfl, ld_eq (j := 2) rfl rfl (ld_skip)⟩, ⟨rfl, ld_eq (j := 2) rfl rfl (ld_skip)⟩, ⟨rfl, ld_eq (j := 2) rfl rfl (ld_skip)⟩, ⟨rfl, ld_eq (j := 2) rfl rfl (ld_skip)⟩, ⟨rfl, ld_eq (j := 2) rfl rfl (ld_skip)⟩, ⟨rfl, ld_eq (j := 2) rfl rfl (ld_skip)⟩, ⟨rfl, ld_eq (j := 2) rfl rfl (ld_skip)⟩, ⟨rfl, ld_eq (j := 2) rfl rfl (ld_skip)⟩, ⟨rfl, ld_eq (j := 2) rfl rfl (ld_skip)⟩, ⟨rfl, ld_eq (j := 2) rfl rfl (ld_skip)⟩, ⟨rfl, ld_eq (j := 2) rfl rfl (ld_eq (j := 12) rfl rfl (ld_val (ov_pick_f rfl rfl rfl)))⟩, ⟨rfl, ld_eq (j := 13) rfl rfl (ld_val (ov_move rfl rfl))⟩, ⟨rfl, ld_eq (j := 14) rfl rfl (ld_val (ov_move rfl rfl))⟩, ⟨rfl, ld_eq (j := 14) rfl rfl (ld_val (ov_move rfl rfl))⟩, ⟨rfl, ld_eq (j := 14) rfl rfl (ld_eq (j := 16) rfl rfl (ld_val (ov_int rfl rfl rfl rfl)))⟩, ⟨rfl, ld_eq (j := 14) rfl rfl (ld_eq (j := 17) rfl rfl (ld_val (ov_int rfl rfl rfl rfl)))⟩, ⟨rfl, ld_eq (j := 14) rfl rfl (ld_eq (j := 15) rfl rfl (ld_eq (j := 18) rfl rfl (ld_val (ov_strIdx hc104.1 hc104.2 Try.underlying9 rfl rfl rfl))))⟩, ⟨rfl, ld_eq (j := 14) rfl rfl (ld_eq (j := 19) rfl rfl (ld_val (ov_cast (by first | rw [hb105] | rfl) (ov_int rfl rfl rfl rfl))))⟩, ⟨rfl, ld_eq (j := 14) rfl rfl (ld_eq (j := 20) rfl rfl (ld_val (ov_cast (by first | rw [hb105] | rfl) (ov_pick_f rfl rfl rfl))))⟩, ⟨rfl, ld_eq (j := 21) rfl rfl (ld_val (ov_cast (by first | rw [hb105] | rfl) (ov_move rfl rfl)))⟩, ⟨rfl, ld_eq (j := 22) rfl rfl (ld_val (ov_move rfl rfl))⟩, ⟨rfl, ld_eq (j := 22) rfl rfl (ld_val (ov_move rfl rfl))⟩, ⟨rfl, ld_eq (j := 22) rfl rfl (ld_eq (j := 24) rfl rfl (ld_val (ov_int rfl rfl rfl rfl)))⟩, ⟨rfl, ld_eq (j := 22) rfl rfl (ld_eq (j := 25) rfl rfl (ld_val (ov_int rfl rfl rfl rfl)))⟩, ⟨rfl, ld_eq (j := 22) rfl rfl (ld_eq (j := 23) rfl rfl (ld_eq (j := 26) rfl rfl (ld_val (ov_strIdx hc106.1 hc106.2 Try.underlying9 rfl rfl rfl))))⟩, ⟨rfl, ld_eq (j := 22) rfl rfl (ld_eq (j := 27) rfl rfl (ld_val (ov_int rfl rfl rfl rfl)))⟩, trivial⟩ ?_
             refine tl_eq 22 rfl ?_
             refine tl_eq 28 rfl ?_
             refine tl_done ?_
             refine al_val (ov_pick_f rfl rfl rfl) ?_
             refine al_nil ?_
             exact aq_join (decide ((En.bAt r12.2.1 (IntKind.i64.wrap ((IntKind.i64.wrap ((2 : Int) * l83i56)) + (1 : Int)))) > (48 : Int))) h (fun w a hm hs => norm hm hs [0, 1] [] [(0, (str r12.2.1)), (4, (ptr g13 0)), (6, v16), (7, (int .i64 l83i56)), (55, (int .i64 r12.1.e2)), (56, (int .i64 l83i56)), (94, (bool (decide ((En.bAt r12.2.1 (IntKind.i64.wrap ((IntKind.i64.wrap ((2 : Int) * l83i56)) + (1 : Int)))) > (48 : Int)))))] (by decide) ⟨rfl, rfl, rfl, rfl, rfl, rfl, rfl, trivial⟩)
        ·replace h := bif_f hb86 h
         refine aw_exit ?_
         refine aq_then_exit ?_
         refine aq_then_exit ?_
         refine aq_block_exit ?_
         exact aq_join l83x6 h (fun w a hm hs => norm hm hs [0, 1] [] [(0, (str r12.2.1)), (4, (ptr g13 0)), (6, v16)] (by decide) ⟨rfl, rfl, rfl, trivial⟩)
  ·clear hkk3
   refine aw_region ?_
   refine al_mv rfl rfl ?_
   obtain ⟨hc107, h⟩ := req_some h
   refine al_val (ov_strIdx hc107.1 hc107.2 Try.underlying9 rfl rfl rfl) ?_
   refine al_in rfl rfl rfl rfl ?_
   refine al_mv rfl rfl ?_
   refine al_caseB 28 rfl (fun hb108 => ?_) (fun hb108 => ?_)
   ·replace h := bif_t hb108 h
    refine al_mv rfl rfl ?_
    refine al_val (ov_strLen Try.underlying9 rfl rfl) ?_
    refine al_in rfl rfl rfl rfl ?_
    refine al_val (ov_pick_t rfl rfl rfl) ?_
    refine al_as rfl rfl ?_
    refine al_nil ?_
    exact aq_join (decide ((a0.length : Int) > (4097 : Int))) h (fun w a hm hs => norm hm hs [] [] [(0, (str a0)), (24, (bool (decide ((a0.length : Int) > (4097 : Int)))))] (by decide) ⟨rfl, rfl, trivial⟩)
   ·replace h := bif_f hb108 h
    refine al_skip ?_
    refine al_skip ?_
    refine al_skip ?_
    refine al_val (ov_pick_f rfl rfl rfl) ?_
    refine al_as rfl rfl ?_
    refine al_nil ?_
    exact aq_join false h (fun w a hm hs => norm hm hs [] [] [(0, (str a0)), (24, (bool false))] (by decide) ⟨rfl, rfl, trivial⟩)
def f_lumref_Narrow_1 (fu : Nat) (a0 : Int) (a1 : Int) : Option Int := (bif (a1 == (64 : Int)) then (some a0) else (req (0 ≤ a1) (req ((IntKind.u64.wrap ((1 : Int) * 2 ^ min (a1).toNat (IntKind.bits .u64))) ≠ 0) (some ((a0).tmod (IntKind.u64.wrap ((1 : Int) * 2 ^ min (a1).toNat (IntKind.bits .u64))))))))
set_option maxRecDepth 100000 in
theorem f_lumref_Narrow_1_ok (fu : Nat) (a0 : Int) (c1 : Value) (a1 : Int) {r : Int} (h : f_lumref_Narrow_1 fu a0 a1 = some r) : FnOk Try.prog 219 [(int .u64 a0), c1] [(fPtr (tyInt .i64) c1 a1)] [] (fun (i : Unit) => { val := (int .u64 r) }) := by
 unfold f_lumref_Narrow_1 at h
 refine fn_enter Try.func219 rfl Try.ntmps219 rfl (fun w0 Z0 => ?_)
 refine aw_sr ?_
 refine al_as rfl rfl ?_
 refine al_nt ?_
 refine aw_seq ?_
 refine aw_sr ?_
 refine al_val (ov_loadP (ds := [(int .i64 a1)]) 0 rfl (fun h => h) rfl Try.underlying3 sz3 rfl rfl rfl) ?_
 refine al_in rfl rfl rfl rfl ?_
 refine al_nt ?_
 refine aw_cond rfl (fun hb1 => ?_) (fun hb1 => ?_)
 ·replace h := bif_t hb1 h
  refine aw_sr ?_
  refine al_mv rfl rfl ?_
  refine al_as rfl rfl ?_
  refine al_nt ?_
  refine aw_ret ?_
  refine aq_then_ret ?_
  obtain rfl := Option.some.inj h
  exact fn_ret () [] [] rfl rfl rfl rfl (res1 rfl rfl) rfl rfl rfl (by decide)
 ·replace h := bif_f hb1 h
  refine aw_skip ?_
  refine aq_tr ?_
  refine al_mv rfl rfl ?_
  refine al_val (ov_loadP (ds := [(int .i64 a1)]) 0 rfl (fun h => h) rfl Try.underlying3 sz3 rfl rfl rfl) ?_
  obtain ⟨hc2, h⟩ := req_some h
  refine al_val (ov_shl hc2 rfl rfl rfl) ?_
  obtain ⟨hc3, h⟩ := req_some h
  refine al_val (ov_rem hc3 rfl rfl rfl) ?_
  refine al_as rfl rfl ?_
  refine al_nt ?_
  refine aw_ret ?_
  obtain rfl := Option.some.inj h
  exact fn_ret () [] [] rfl rfl rfl rfl (res1 rfl rfl) rfl rfl rfl (by decide)
def f_lumref_product_L5 (a0 : Int) (a1 : Int) (kk2 : (Int → Option Int)) : Nat → Int → Int → Option Int
  | 0, _, _ => none
  | k4 + 1, l3i5, l3i7 => (bif (decide (l3i7 < (64 : Int))) then (lt (fun (j7i5 : Int) => (f_lumref_product_L5 a0 a1 kk2 k4 j7i5 (IntKind.i64.wrap (l3i7 + (1 : Int))))) fun (kk8 : Int → Option Int) => (req (0 ≤ l3i7) (bif ((bits .and .u64 ((a1).fdiv (2 ^ min (l3i7).toNat (IntKind.bits .u64))) (1 : Int)) == (1 : Int)) then (req (0 ≤ l3i7) (kk8 (IntKind.u64.wrap (l3i5 + (IntKind.u64.wrap (a0 * 2 ^ min (l3i7).toNat (IntKind.bits .u64))))))) else (kk8 l3i5)))) else (kk2 l3i5))
def f_lumref_product (fu : Nat) (a0 : Int) (a1 : Int) : Option Int := (lt (fun (j1i5 : Int) => (some j1i5)) fun (kk2 : Int → Option Int) => (f_lumref_product_L5 a0 a1 kk2 fu (0 : Int) (0 : Int)))
set_option maxRecDepth 100000 in
theorem f_lumref_product_ok (fu : Nat) (a0 : Int) (a1 : Int) {r : Int} (h : f_lumref_product fu a0 a1 = some r) : FnOk Try.prog 244 [(int .u64 a0), (int .u64 a1)] [] [] (fun (i : Unit) => { val := (int .u64 r) }) := by
 unfold f_lumref_product at h
 refine fn_enter Try.func244 rfl Try.ntmps244 rfl (fun w0 Z0 => ?_)
 refine aw_sr ?_
 refine al_as rfl rfl ?_
 refine al_nt ?_
 refine aw_sr ?_
 refine al_as rfl rfl ?_
 refine al_nt ?_
 obtain ⟨kk2, hkk2, h⟩ := lt_some h
 refine aw_seq_join (ι := Int) (fun i => (memOf w0 Z0 [] [] [])) (fun i => (tab [(5, (int .u64 i))])) (fun i => kk2 i = some r) ?_ ?_
 ·rintro j1i5 h
  have h : kk2 j1i5 = some r := h
  rw [hkk2] at h
  dsimp only at h
  clear hkk2
  refine aw_show (m := (memOf w0 Z0 [] [] [])) (S := (tab [(5, (int .u64 j1i5))])) ?_
  refine aw_sr ?_
  refine al_mv rfl rfl ?_
  refine al_as rfl rfl ?_
  refine al_nt ?_
  refine aw_ret ?_
  obtain rfl := Option.some.inj h
  exact fn_ret () [] [] rfl rfl rfl rfl (res1 rfl rfl) rfl rfl rfl (by decide)
 ·clear hkk2
  refine aw_sr ?_
  refine al_mv rfl rfl ?_
  refine al_nt ?_
  refine aw_block ?_
  refine aw_state (aw_loop (ι := Int × Int) (fun i => (memOf w0 Z0 [] [] [])) (fun i => (tab [(0, (int .u64 a0)), (1, (int .u64 a1)), (5, (int .u64 i.1)), (7, (int .i64 i.2))])) (fun q i => f_lumref_product_L5 a0 a1 kk2 q i.1 i.2 = some r) ?_ fu ((0 : Int), (0 : Int)) h) (fun w a hm hs => norm hm hs [] [] [(0, (int .u64 a0)), (1, (int .u64 a1)), (5, (int .u64 (0 : Int))), (7, (int .i64 (0 : Int)))] (by decide) ⟨rfl, rfl, rfl, rfl, trivial⟩)
  clear h
  rintro k4 ⟨l3i5, l3i7⟩ h
  have h : f_lumref_product_L5 a0 a1 kk2 k4 l3i5 l3i7 = some r := h
  obtain _ | k4 := k4
  · rw [f_lumref_product_L5] at h; cases h
  rw [f_lumref_product_L5] at h
  refine aw_show (m := (memOf w0 Z0 [] [] [])) (S := (tab [(0, (int .u64 a0)), (1, (int .u64 a1)), (5, (int .u64 l3i5)), (7, (int .i64 l3i7))])) ?_
  refine aw_sr ?_
  refine al_in rfl rfl rfl rfl ?_
  refine al_nt ?_
  refine aw_seq ?_
  refine aw_cond rfl (fun hb6 => ?_) (fun hb6 => ?_)
  ·replace h := bif_t hb6 h
   refine aw_skip ?_
   refine aq_then ?_
   obtain ⟨kk8, hkk8, h⟩ := lt_some h
   refine aw_seq_join (ι := Int) (fun i => (memOf w0 Z0 [] [] [])) (fun i => (tab [(0, (int .u64 a0)), (1, (int .u64 a1)), (5, (int .u64 i)), (7, (int .i64 l3i7))])) (fun i => kk8 i = some r) ?_ ?_
   ·rintro j7i5 h
    have h : kk8 j7i5 = some r := h
    rw [hkk8] at h
    dsimp only at h
    clear hkk8
    refine aw_show (m := (memOf w0 Z0 [] [] [])) (S := (tab [(0, (int .u64 a0)), (1, (int .u64 a1)), (5, (int .u64 j7i5)), (7, (int .i64 l3i7))])) ?_
    refine aw_region ?_
    refine al_in rfl rfl rfl rfl ?_
    refine al_mv rfl rfl ?_
    refine al_nil ?_
    exact aq_again k4 (j7i5, (IntKind.i64.wrap (l3i7 + (1 : Int)))) (Nat.lt_succ_self _) h (fun w a hm hs => norm hm hs [] [] [(0, (int .u64 a0)), (1, (int .u64 a1)), (5, (int .u64 j7i5)), (7, (int .i64 (IntKind.i64.wrap (l3i7 + (1 : Int)))))] (by decide) ⟨rfl, rfl, rfl, rfl, trivial⟩)
   ·clear hkk8
    refine aw_block ?_
    refine aw_sr ?_
    refine al_mv rfl rfl ?_
    refine al_as rfl rfl ?_
    refine al_nt ?_
    refine aw_sr ?_
    refine al_mv rfl rfl ?_
    refine al_mv rfl rfl ?_
    obtain ⟨hc9, h⟩ := req_some h
    refine al_val (ov_shr hc9 rfl rfl rfl) ?_
    refine al_in rfl rfl rfl rfl ?_
    refine al_in rfl rfl rfl rfl ?_
    refine al_nt ?_
    refine aw_cond rfl (fun hb10 => ?_) (fun hb10 => ?_)
    ·replace h := bif_t hb10 h
     refine aw_region ?_
     refine al_mv rfl rfl ?_
     refine al_mv rfl rfl ?_
     refine al_mv rfl rfl ?_
     obtain ⟨hc11, h⟩ := req_some h
     refine al_val (ov_shl hc11 rfl rfl rfl) ?_
     refine al_in rfl rfl rfl rfl ?_
     refine al_as rfl rfl ?_
     refine al_nil ?_
     refine aq_block ?_
     exact aq_join (IntKind.u64.wrap (l3i5 + (IntKind.u64.wrap (a0 * 2 ^ min (l3i7).toNat (IntKind.bits .u64))))) h (fun w a hm hs => norm hm hs [] [] [(0, (int .u64 a0)), (1, (int .u64 a1)), (5, (int .u64 (IntKind.u64.wrap (l3i5 + (IntKind.u64.wrap (a0 * 2 ^ min (l3i7).toNat (IntKind.bits .u64))))))), (7, (int .i64 l3i7))] (by decide) ⟨rfl, rfl, rfl, rfl, trivial⟩)
    ·replace h := bif_f hb10 h
     refine aw_skip ?_
     refine aq_block ?_
     exact aq_join l3i5 h (fun w a hm hs => norm hm hs [] [] [(0, (int .u64 a0)), (1, (int .u64 a1)), (5, (int .u64 l3i5)), (7, (int .i64 l3i7))] (by decide) ⟨rfl, rfl, rfl, rfl, trivial⟩)
  ·replace h := bif_f hb6 h
   refine aw_exit ?_
   refine aq_then_exit ?_
   refine aq_then_exit ?_
   refine aq_block_exit ?_
   exact aq_join l3i5 h (fun w a hm hs => norm hm hs [] [] [(5, (int .u64 l3i5))] (by decide) ⟨rfl, trivial⟩)
def f_lumref_Step (fu : Nat) (a0 : Int) (a1 : Int) : Option Int := (opt (f_lumref_product fu (bits .xor .u64 a0 a1) (11400714819323198485 : Int)) fun (r2 : Int) => (opt (f_lumref_product fu (bits .xor .u64 r2 (IntKind.u64.wrap ((r2).tdiv (536870912 : Int)))) (13787848793156543929 : Int)) fun (r4 : Int) => (some (bits .xor .u64 r4 (IntKind.u64.wrap ((r4).tdiv (4294967296 : Int)))))))
set_option maxRecDepth 100000 in
theorem f_lumref_Step_ok (fu : Nat) (a0 : Int) (a1 : Int) {r : Int} (h : f_lumref_Step fu a0 a1 = some r) : FnOk Try.prog 220 [(int .u64 a0), (int .u64 a1)] [] [] (fun (i : Unit) => { val := (int .u64 r) }) := by
 unfold f_lumref_Step at h
 refine fn_enter Try.func220 rfl Try.ntmps220 rfl (fun w0 Z0 => ?_)
 refine aw_sr ?_
 refine al_as rfl rfl ?_
 refine al_nt ?_
 refine aw_sr ?_
 refine al_mv rfl rfl ?_
 refine al_mv rfl rfl ?_
 refine al_in rfl rfl rfl rfl ?_
 obtain ⟨r2, hc1, h⟩ := opt_some h
 refine al_call (vs := [(int .u64 (bits .xor .u64 a0 a1)), (int .u64 (11400714819323198485 : Int))]) (f_lumref_product_ok fu (bits .xor .u64 a0 a1) (11400714819323198485 : Int) hc1) [] [] [] pre_nil rfl (by simp) (by decide) (.inl rfl) rfl Try.func244 rfl rfl rfl (fun _ => ?_)
 refine al_as rfl rfl ?_
 refine al_nt ?_
 refine aw_sr ?_
 refine al_mv rfl rfl ?_
 refine al_mv rfl rfl ?_
 refine al_val (ov_quo (by decide) rfl rfl rfl) ?_
 refine al_in rfl rfl rfl rfl ?_
 refine al_as rfl rfl ?_
 refine al_nt ?_
 refine aw_sr ?_
 refine al_mv rfl rfl ?_
 obtain ⟨r4, hc3, h⟩ := opt_some h
 refine al_call (vs := [(int .u64 (bits .xor .u64 r2 (IntKind.u64.wrap ((r2).tdiv (536870912 : Int))))), (int .u64 (13787848793156543929 : Int))]) (f_lumref_product_ok fu (bits .xor .u64 r2 (IntKind.u64.wrap ((r2).tdiv (536870912 : Int)))) (13787848793156543929 : Int) hc3) [] [] [] pre_nil rfl (by simp) (by decide) (.inl rfl) rfl Try.func244 rfl rfl rfl (fun _ => ?_)
 refine al_as rfl rfl ?_
 refine al_nt ?_
 refine aw_sr ?_
 refine al_mv rfl rfl ?_
 refine al_mv rfl rfl ?_
 refine al_val (ov_quo (by decide) rfl rfl rfl) ?_
 refine al_in rfl rfl rfl rfl ?_
 refine al_as rfl rfl ?_
 refine al_nt ?_
 refine aw_ret ?_
 obtain rfl := Option.some.inj h
 exact fn_ret () [] [] rfl rfl rfl rfl (res1 rfl rfl) rfl rfl rfl (by decide)
def f_lumref_Narrow_L27 (l11s7 : (List UInt8)) (kk20 : (Int → Option Int)) : Nat → Int → Int → Option Int
  | 0, _, _ => none
  | k26 + 1, l25i8, l25i9 => (bif (decide (l25i9 ≥ (0 : Int))) then (req (0 ≤ l25i9 ∧ l25i9 < (l11s7.length : Int)) (f_lumref_Narrow_L27 l11s7 kk20 k26 (IntKind.u64.wrap ((IntKind.u64.wrap ((256 : Int) * l25i8)) + (IntKind.u64.wrap (En.bAt l11s7 l25i9)))) (IntKind.i64.wrap (l25i9 - (1 : Int))))) else (kk20 l25i8))
def f_lumref_Narrow_L13 (a0 : Int) (kk6 : (Int → Option Int)) (fu : Nat) : Nat → Int → (List UInt8) → Option Int
  | 0, _, _ => none
  | k12 + 1, l11i5, l11s7 => (lt (fun (l11i5 : Int) (l11s7 : (List UInt8)) => (f_lumref_Narrow_L13 a0 kk6 fu k12 l11i5 l11s7)) fun (kk14 : Int → (List UInt8) → Option Int) => (bif (!(l11s7 == ([] : List UInt8))) then (lt (fun (j16i5 : Int) => (req (0 ≤ (8 : Int) ∧ (8 : Int) ≤ (l11s7.length : Int)) (kk14 j16i5 (l11s7.drop ((8 : Int)).toNat)))) fun (kk17 : Int → Option Int) => (lt (fun (j19i8 : Int) => (opt (f_lumref_Step fu l11i5 j19i8) fun (r22 : Int) => (opt (f_lumref_Narrow_1 fu r22 a0) fun (r24 : Int) => (kk17 r24)))) fun (kk20 : Int → Option Int) => (f_lumref_Narrow_L27 l11s7 kk20 fu (0 : Int) (7 : Int)))) else (kk6 l11i5)))
def f_lumref_Narrow (fu : Nat) (a0 : Int) (a1 : (List UInt8)) : Option Int := (opt (f_strings_Repeat fu ([0] : List UInt8) (((IntKind.i64.wrap ((8 : Int) - (((a1.length : Int)).tmod (8 : Int))))).tmod (8 : Int))) fun (r3 : (List UInt8)) => (req (a1.length + r3.length ≤ 9223372036854775807) (lt (fun (j5i5 : Int) => (opt (f_lumref_Step fu j5i5 (IntKind.u64.wrap (a1.length : Int))) fun (r8 : Int) => (opt (f_lumref_Narrow_1 fu r8 a0) fun (r10 : Int) => (some r10)))) fun (kk6 : Int → Option Int) => (f_lumref_Narrow_L13 a0 kk6 fu fu (0 : Int) (a1 ++ r3)))))
end Go.Proofs.Ytgmggcpceemnnaa
