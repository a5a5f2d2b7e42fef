/- Walks by program. No condition. -/
import Derived.Test.YtaoopodaalhheaaDoorEn16
import Derived.Test.YtaoopodaalhheaaDoorChecked
import Derived.Test.YtaoopodaalhheaaDoorShTrim
import Derived.Test.YtaoopodaalhheaaDoorShBEApp
namespace Go.Proofs.YtaoopodaalhheaaDoor
open Go.RowKit YtaoopodaalhheaaDoor.En
set_option linter.unusedVariables false
set_option linter.unusedSimpArgs false
theorem sz5 : szOf Tryd.prog 5 = some 1 := by kernel_rfl
theorem to5 : tyOf Tryd.prog 5 = some (1, 1, some (Value.int .u8 (0 : Int))) := by kernel_rfl
theorem sz110 : szOf Tryd.prog 110 = some 0 := by kernel_rfl
theorem to110 : tyOf Tryd.prog 110 = some (0, 0, some (ag [])) := by kernel_rfl
theorem mixed : Tryd.prog.follows .mixedOrders = true := by kernel_rfl
def f_num_turned_L7 (a0 : (List UInt8)) (kk4 : ((List UInt8) → Option (List UInt8))) : Nat → (List UInt8) → Int → Option (List UInt8)
  | 0, _, _ => none
  | k6 + 1, l5x3, l5i9 => (bif (decide (l5i9 < (a0.length : Int))) then (opt (at? l5x3 l5i9) fun (u9 : UInt8) => (opt (at? l5x3 l5i9) fun (u13 : UInt8) => (req (0 ≤ (bits .xor .u8 (if IntKind.signed .u8 then -1 else IntKind.max .u8) (u9.toNat : Int)) ∧ (bits .xor .u8 (if IntKind.signed .u8 then -1 else IntKind.max .u8) (u9.toNat : Int)) ≤ 255) (f_num_turned_L7 a0 kk4 k6 (l5x3.set (l5i9).toNat (UInt8.ofNat ((bits .xor .u8 (if IntKind.signed .u8 then -1 else IntKind.max .u8) (u9.toNat : Int))).toNat)) (IntKind.i64.wrap (l5i9 + (1 : Int))))))) else (kk4 l5x3))
def f_num_turned (fu : Nat) (a0 : (List UInt8)) : Option (List UInt8) := (req (a0.length ≤ 9223372036854775807) (lt (fun (j3x3 : (List UInt8)) => (some j3x3)) fun (kk4 : (List UInt8) → Option (List UInt8)) => (f_num_turned_L7 a0 kk4 fu a0 (0 : Int))))
set_option maxRecDepth 100000 in
theorem f_num_turned_ok (fu : Nat) (a0 : (List UInt8)) {r : (List UInt8)} (h : f_num_turned fu a0 = some r) : FnOk Tryd.prog 50 [(str a0)] [] [] (fun (i : Unit) => { val := (str r) }) := by
  unfold f_num_turned at h
  refine fn_enter Tryd.func50 rfl Tryd.ntmps50 rfl (fun w0 Z0 => ?_)
  refine aw_seq ?_
  refine aw_region ?_
  refine al_val (ov_assign rfl rfl) ?_
  refine al_nil ?_
  refine aq_then ?_
  refine aw_seq ?_
  refine aw_region ?_
  refine al_val (ov_move rfl rfl) ?_
  obtain ⟨hc1, h⟩ := req_some h
  refine al_bytesO hc1 rfl Tryd.underlying9 Tryd.underlying70 Tryd.underlying5 rfl (fun s2 => ?_)
  refine al_val (ov_assign rfl rfl) ?_
  refine al_nil ?_
  refine aq_then ?_
  obtain ⟨kk4, hkk4, h⟩ := lt_some h
  refine aw_seq_join (ι := (List UInt8)) (fun i => (memOf w0 Z0 [] [(oBy s2 5 i)] [])) (fun i => (tab [(3, s2)])) (fun i => kk4 i = some r) ?_ ?_
  · rintro j3x3 h
    have h : kk4 j3x3 = some r := h
    rw [hkk4] at h
    dsimp only at h
    clear hkk4
    refine aw_show (m := (memOf w0 Z0 [] [(oBy s2 5 j3x3)] [])) (S := (tab [(3, s2)])) ?_
    refine aw_seq ?_
    refine aw_region ?_
    refine al_val (ov_move rfl rfl) ?_
    refine al_val (ov_toStrO 0 rfl rfl Tryd.underlying70 Tryd.underlying5 Tryd.underlying9 rfl) ?_
    refine al_val (ov_assign rfl rfl) ?_
    refine al_nil ?_
    refine aq_then ?_
    refine aw_ret ?_
    obtain rfl := Option.some.inj h
    exact fn_ret () [] [] rfl rfl rfl rfl (res1 rfl rfl) rfl rfl rfl (by decide)
  · clear hkk4
    refine aw_seq ?_
    refine aw_region ?_
    refine al_val (ov_move rfl rfl) ?_
    refine al_val (ov_lenO 0 rfl rfl Tryd.underlying70 rfl) ?_
    refine al_val (ov_move rfl rfl) ?_
    refine al_nil ?_
    refine aq_then ?_
    refine aw_block ?_
    refine aw_state (aw_loop (ι := (List UInt8) × Int) (fun i => (memOf w0 Z0 [] [(oBy s2 5 i.1)] [])) (fun i => (tab [(3, s2), (8, (Value.int .i64 (a0.length : Int))), (9, (Value.int .i64 i.2))])) (fun q i => f_num_turned_L7 a0 kk4 q i.1 i.2 = some r) ?_ fu (a0, (0 : Int)) h) (fun w a hm hs => norm hm hs [0] [] [(3, s2), (8, (Value.int .i64 (a0.length : Int))), (9, (Value.int .i64 (0 : Int)))] (by decide) ⟨rfl, rfl, rfl, trivial⟩)
    clear h
    rintro k6 ⟨l5x3, l5i9⟩ h
    have h : f_num_turned_L7 a0 kk4 k6 l5x3 l5i9 = some r := h
    obtain _ | k6 := k6
    · rw [f_num_turned_L7] at h; cases h
    rw [f_num_turned_L7] at h
    refine aw_show (m := (memOf w0 Z0 [] [(oBy s2 5 l5x3)] [])) (S := (tab [(3, s2), (8, (Value.int .i64 (a0.length : Int))), (9, (Value.int .i64 l5i9))])) ?_
    refine aw_seq ?_
    refine aw_region ?_
    refine al_val (ov_int rfl rfl rfl rfl) ?_
    refine al_nil ?_
    refine aq_then ?_
    refine aw_seq ?_
    refine aw_cond rfl (fun hb8 => ?_) (fun hb8 => ?_)
    · replace h := bif_t hb8 h
      refine aw_skip ?_
      refine aq_then ?_
      refine aw_seq ?_
      refine aw_block ?_
      refine aw_seq ?_
      refine aw_region ?_
      refine al_val (ov_move rfl rfl) ?_
      refine al_val (ov_assign rfl rfl) ?_
      refine al_nil ?_
      refine aq_then ?_
      refine aw_region ?_
      refine al_val (ov_move rfl rfl) ?_
      refine al_val (ov_move rfl rfl) ?_
      refine al_val (ov_move rfl rfl) ?_
      refine al_val (ov_move rfl rfl) ?_
      obtain ⟨u9, hu10, h⟩ := opt_some h
      refine al_idxO 0 (at_some hu10).1 (at_some hu10).2.1 rfl rfl rfl Tryd.underlying70 sz5 rfl (fun p11 hp12 => ?_)
      refine al_val (ov_loadO (ds := [(Value.int .u8 (u9.toNat : Int))]) 0 rfl hp12 (at_some hu10).2.2 (fun h => h) rfl Tryd.underlying5 sz5 rfl rfl rfl) ?_
      refine al_val (ov_compl rfl rfl) ?_
      obtain ⟨u13, hu14, h⟩ := opt_some h
      refine al_idxO 0 (at_some hu14).1 (at_some hu14).2.1 rfl rfl rfl Tryd.underlying70 sz5 rfl (fun p15 hp16 => ?_)
      obtain ⟨hc17, h⟩ := req_some h
      refine al_storeO (k := (l5i9).toNat) (x := (UInt8.ofNat ((bits .xor .u8 (if IntKind.signed .u8 then -1 else IntKind.max .u8) (u9.toNat : Int))).toNat)) (vs := [(Value.int .u8 (bits .xor .u8 (if IntKind.signed .u8 then -1 else IntKind.max .u8) (u9.toNat : Int)))]) 0 rfl hp16 (idx_lt hu14) rfl rfl (cv_rfl rfl) (fun _ => u8_rep hc17) sz5 rfl ?_
      refine al_nil ?_
      refine aq_block ?_
      refine aq_then ?_
      refine aw_region ?_
      refine al_val (ov_int rfl rfl rfl rfl) ?_
      refine al_val (ov_move rfl rfl) ?_
      refine al_nil ?_
      exact aq_again k6 ((l5x3.set (l5i9).toNat (UInt8.ofNat ((bits .xor .u8 (if IntKind.signed .u8 then -1 else IntKind.max .u8) (u9.toNat : Int))).toNat)), (IntKind.i64.wrap (l5i9 + (1 : Int)))) (Nat.lt_succ_self _) h (fun w a hm hs => norm hm hs [0] [] [(3, s2), (8, (Value.int .i64 (a0.length : Int))), (9, (Value.int .i64 (IntKind.i64.wrap (l5i9 + (1 : Int)))))] (by decide) ⟨rfl, rfl, rfl, trivial⟩)
    · replace h := bif_f hb8 h
      refine aw_exit ?_
      refine aq_then_exit ?_
      refine aq_then_exit ?_
      refine aq_block_exit ?_
      exact aq_join l5x3 h (fun w a hm hs => norm hm hs [0] [] [(3, s2)] (by decide) ⟨rfl, trivial⟩)
def f_num_value_L5 (a0 : (List UInt8)) (kk2 : (Int → Option Int)) : Nat → Int → Int → Option Int
  | 0, _, _ => none
  | k4 + 1, l3i3, l3i7 => (bif (decide (l3i7 < (a0.length : Int))) then (req (0 ≤ l3i7 ∧ l3i7 < (a0.length : Int)) (f_num_value_L5 a0 kk2 k4 (bits .or .u64 (IntKind.u64.wrap (l3i3 * 2 ^ min ((8 : Int)).toNat (IntKind.bits .u64))) (IntKind.u64.wrap (En.bAt a0 l3i7))) (IntKind.i64.wrap (l3i7 + (1 : Int))))) else (kk2 l3i3))
def f_num_value (fu : Nat) (a0 : (List UInt8)) : Option Int := (lt (fun (j1i3 : Int) => (some j1i3)) fun (kk2 : Int → Option Int) => (f_num_value_L5 a0 kk2 fu (0 : Int) (0 : Int)))
set_option maxRecDepth 100000 in
theorem f_num_value_ok (fu : Nat) (a0 : (List UInt8)) {r : Int} (h : f_num_value fu a0 = some r) : FnOk Tryd.prog 45 [(str a0)] [] [] (fun (i : Unit) => { val := (Value.int .u64 r) }) := by
  unfold f_num_value at h
  refine fn_enter Tryd.func45 rfl Tryd.ntmps45 rfl (fun w0 Z0 => ?_)
  refine aw_seq ?_
  refine aw_region ?_
  refine al_val (ov_assign rfl rfl) ?_
  refine al_nil ?_
  refine aq_then ?_
  refine aw_seq ?_
  refine aw_region ?_
  refine al_val (ov_assign rfl rfl) ?_
  refine al_nil ?_
  refine aq_then ?_
  obtain ⟨kk2, hkk2, h⟩ := lt_some h
  refine aw_seq_join (ι := Int) (fun i => (memOf w0 Z0 [] [] [])) (fun i => (tab [(3, (Value.int .u64 i))])) (fun i => kk2 i = some r) ?_ ?_
  · rintro j1i3 h
    have h : kk2 j1i3 = some r := h
    rw [hkk2] at h
    dsimp only at h
    clear hkk2
    refine aw_show (m := (memOf w0 Z0 [] [] [])) (S := (tab [(3, (Value.int .u64 j1i3))])) ?_
    refine aw_seq ?_
    refine aw_region ?_
    refine al_val (ov_move rfl rfl) ?_
    refine al_val (ov_assign rfl rfl) ?_
    refine al_nil ?_
    refine aq_then ?_
    refine aw_ret ?_
    obtain rfl := Option.some.inj h
    exact fn_ret () [] [] rfl rfl rfl rfl (res1 rfl rfl) rfl rfl rfl (by decide)
  · clear hkk2
    refine aw_seq ?_
    refine aw_region ?_
    refine al_val (ov_move rfl rfl) ?_
    refine al_val (ov_strLen Tryd.underlying9 rfl rfl) ?_
    refine al_val (ov_move rfl rfl) ?_
    refine al_nil ?_
    refine aq_then ?_
    refine aw_block ?_
    refine aw_state (aw_loop (ι := Int × Int) (fun i => (memOf w0 Z0 [] [] [])) (fun i => (tab [(0, (str a0)), (3, (Value.int .u64 i.1)), (6, (Value.int .i64 (a0.length : Int))), (7, (Value.int .i64 i.2))])) (fun q i => f_num_value_L5 a0 kk2 q i.1 i.2 = some r) ?_ fu ((0 : Int), (0 : Int)) h) (fun w a hm hs => norm hm hs [] [] [(0, (str a0)), (3, (Value.int .u64 (0 : Int))), (6, (Value.int .i64 (a0.length : Int))), (7, (Value.int .i64 (0 : Int)))] (by decide) ⟨rfl, rfl, rfl, rfl, trivial⟩)
    clear h
    rintro k4 ⟨l3i3, l3i7⟩ h
    have h : f_num_value_L5 a0 kk2 k4 l3i3 l3i7 = some r := h
    obtain _ | k4 := k4
    · rw [f_num_value_L5] at h; cases h
    rw [f_num_value_L5] at h
    refine aw_show (m := (memOf w0 Z0 [] [] [])) (S := (tab [(0, (str a0)), (3, (Value.int .u64 l3i3)), (6, (Value.int .i64 (a0.length : Int))), (7, (Value.int .i64 l3i7))])) ?_
    refine aw_seq ?_
    refine aw_region ?_
    refine al_val (ov_int rfl rfl rfl rfl) ?_
    refine al_nil ?_
    refine aq_then ?_
    refine aw_seq ?_
    refine aw_cond rfl (fun hb6 => ?_) (fun hb6 => ?_)
    · replace h := bif_t hb6 h
      refine aw_skip ?_
      refine aq_then ?_
      refine aw_seq ?_
      refine aw_block ?_
      refine aw_seq ?_
      refine aw_region ?_
      refine al_val (ov_move rfl rfl) ?_
      refine al_val (ov_assign rfl rfl) ?_
      refine al_nil ?_
      refine aq_then ?_
      refine aw_region ?_
      refine al_val (ov_move rfl rfl) ?_
      refine al_val (ov_shl (by decide) rfl rfl rfl) ?_
      refine al_val (ov_move rfl rfl) ?_
      refine al_val (ov_move rfl rfl) ?_
      obtain ⟨hc7, h⟩ := req_some h
      refine al_val (ov_strIdx hc7.1 hc7.2 Tryd.underlying9 rfl rfl rfl) ?_
      refine al_val (ov_convInt (by rw [Tryd.underlying5]; rfl) Tryd.underlying31 rfl rfl) ?_
      refine al_val (ov_int rfl rfl rfl rfl) ?_
      refine al_val (ov_assign rfl rfl) ?_
      refine al_nil ?_
      refine aq_block ?_
      refine aq_then ?_
      refine aw_region ?_
      refine al_val (ov_int rfl rfl rfl rfl) ?_
      refine al_val (ov_move rfl rfl) ?_
      refine al_nil ?_
      exact aq_again k4 ((bits .or .u64 (IntKind.u64.wrap (l3i3 * 2 ^ min ((8 : Int)).toNat (IntKind.bits .u64))) (IntKind.u64.wrap (En.bAt a0 l3i7))), (IntKind.i64.wrap (l3i7 + (1 : Int)))) (Nat.lt_succ_self _) h (fun w a hm hs => norm hm hs [] [] [(0, (str a0)), (3, (Value.int .u64 (bits .or .u64 (IntKind.u64.wrap (l3i3 * 2 ^ min ((8 : Int)).toNat (IntKind.bits .u64))) (IntKind.u64.wrap (En.bAt a0 l3i7))))), (6, (Value.int .i64 (a0.length : Int))), (7, (Value.int .i64 (IntKind.i64.wrap (l3i7 + (1 : Int)))))] (by decide) ⟨rfl, rfl, rfl, rfl, trivial⟩)
    · replace h := bif_f hb6 h
      refine aw_exit ?_
      refine aq_then_exit ?_
      refine aq_then_exit ?_
      refine aq_block_exit ?_
      exact aq_join l3i3 h (fun w a hm hs => norm hm hs [] [] [(3, (Value.int .u64 l3i3))] (by decide) ⟨rfl, trivial⟩)
def f_num_GetInt (fu : Nat) (a0 : (List UInt8)) : Option (Int × Int × Int) := (bif (a0 == ([] : List UInt8)) then (some ((0 : Int), (0 : Int), (3 : Int))) else (req (0 ≤ (0 : Int) ∧ (0 : Int) < (a0.length : Int)) (req (0 ≤ (0 : Int) ∧ (0 : Int) < (a0.length : Int)) (lt (fun (j4i5 : Int) => (bif (decide (j4i5 > (8 : Int))) then (some ((0 : Int), (0 : Int), (4 : Int))) else (bif (decide ((a0.length : Int) < (IntKind.i64.wrap ((1 : Int) + j4i5)))) then (some ((0 : Int), (0 : Int), (3 : Int))) else (req (0 ≤ (1 : Int) ∧ (1 : Int) ≤ (IntKind.i64.wrap ((1 : Int) + j4i5)) ∧ (IntKind.i64.wrap ((1 : Int) + j4i5)) ≤ (a0.length : Int)) (lt (fun (j9s7 : (List UInt8)) => (opt (f_num_value fu j9s7) fun (r12 : Int) => (lt (fun (j13b51 : Bool) => (bif j13b51 then (some ((0 : Int), (0 : Int), (4 : Int))) else (bif (decide ((En.bAt a0 (0 : Int)) < (128 : Int))) then (some ((IntKind.i64.wrap ((-1 : Int) - (IntKind.i64.wrap r12))), (IntKind.i64.wrap ((1 : Int) + j4i5)), (0 : Int))) else (some ((IntKind.i64.wrap r12), (IntKind.i64.wrap ((1 : Int) + j4i5)), (0 : Int)))))) fun (kk14 : Bool → Option (Int × Int × Int)) => (bif (decide (j4i5 > (0 : Int))) then (req (0 ≤ (0 : Int) ∧ (0 : Int) < (j9s7.length : Int)) (bif ((En.bAt j9s7 (0 : Int)) == (0 : Int)) then (kk14 true) else (kk14 (decide (r12 > (9223372036854775807 : Int)))))) else (kk14 (decide (r12 > (9223372036854775807 : Int)))))))) fun (kk10 : (List UInt8) → Option (Int × Int × Int)) => (bif (decide ((En.bAt a0 (0 : Int)) < (128 : Int))) then (opt (f_num_turned fu (cut a0 (1 : Int) (IntKind.i64.wrap ((1 : Int) + j4i5)))) fun (r22 : (List UInt8)) => (kk10 r22)) else (kk10 (cut a0 (1 : Int) (IntKind.i64.wrap ((1 : Int) + j4i5)))))))))) fun (kk5 : Int → Option (Int × Int × Int)) => (bif (decide ((En.bAt a0 (0 : Int)) < (128 : Int))) then (req (0 ≤ (0 : Int) ∧ (0 : Int) < (a0.length : Int)) (kk5 (IntKind.i64.wrap ((127 : Int) - (IntKind.i64.wrap (En.bAt a0 (0 : Int))))))) else (kk5 (IntKind.i64.wrap ((IntKind.i64.wrap (En.bAt a0 (0 : Int))) - (128 : Int)))))))))
set_option maxRecDepth 100000 in
theorem f_num_GetInt_ok (fu : Nat) (a0 : (List UInt8)) {r : (Int × Int × Int)} (h : f_num_GetInt fu a0 = some r) : FnOk Tryd.prog 20 [(str a0)] [] [] (fun (i : Unit) => { val := (Value.tuple #[(Value.int .i64 r.1), (Value.int .i64 r.2.1), (Value.int .i64 r.2.2)]) }) := by
  unfold f_num_GetInt at h
  refine fn_enter Tryd.func20 rfl Tryd.ntmps20 rfl (fun w0 Z0 => ?_)
  refine aw_seq ?_
  refine aw_region ?_
  refine al_val (ov_assign rfl rfl) ?_
  refine al_val (ov_assign rfl rfl) ?_
  refine al_val (ov_assign rfl rfl) ?_
  refine al_nil ?_
  refine aq_then ?_
  refine aw_seq ?_
  refine aw_seq ?_
  refine aw_region ?_
  refine al_val (ov_move rfl rfl) ?_
  refine al_val (ov_strCmp rfl rfl rfl rfl) ?_
  refine al_nil ?_
  refine aq_then ?_
  refine aw_cond rfl (fun hb1 => ?_) (fun hb1 => ?_)
  · replace h := bif_t hb1 h
    refine aw_seq ?_
    refine aw_region ?_
    refine al_val (ov_assign rfl rfl) ?_
    refine al_val (ov_assign rfl rfl) ?_
    refine al_val (ov_assign rfl rfl) ?_
    refine al_nil ?_
    refine aq_then ?_
    refine aw_ret ?_
    refine aq_then_ret ?_
    obtain rfl := Option.some.inj h
    exact fn_ret () [] [] rfl rfl rfl rfl (res3 rfl rfl rfl rfl) rfl rfl rfl (by decide)
  · replace h := bif_f hb1 h
    refine aw_skip ?_
    refine aq_then ?_
    refine aw_seq ?_
    obtain ⟨hc2, h⟩ := req_some h
    obtain ⟨hc3, h⟩ := req_some h
    refine aw_region_draw 8 [(11, (fun u => fEq u (str a0))), (12, (fun u => fEq u (Value.int .u8 (En.bAt a0 (0 : Int))))), (13, (fun u => fEq u (Value.int .i64 (IntKind.i64.wrap (En.bAt a0 (0 : Int)))))), (14, (fun u => fEq u (Value.int .i64 (IntKind.i64.wrap ((IntKind.i64.wrap (En.bAt a0 (0 : Int))) - (128 : Int)))))), (15, (fun u => fEq u (str a0))), (16, (fun u => fEq u (Value.int .u8 (En.bAt a0 (0 : Int))))), (17, (fun u => fEq u (Value.bool (decide ((En.bAt a0 (0 : Int)) < (128 : Int)))))), (5, (fun u => fEq u (Value.int .i64 (IntKind.i64.wrap ((IntKind.i64.wrap (En.bAt a0 (0 : Int))) - (128 : Int))))))] (tab [(0, (str a0))]) mixed (by kernel_rfl) rfl rfl rfl (fun a hs => hs.tab _ (allT_mem ⟨rfl, trivial⟩)) ⟨⟨rfl, ld_val (ov_move rfl rfl)⟩, ⟨rfl, ld_eq (j := 0) rfl rfl (ld_val (ov_strIdx hc2.1 hc2.2 Tryd.underlying9 rfl rfl rfl))⟩, ⟨rfl, ld_eq (j := 1) rfl rfl (ld_val (ov_convInt (by rw [Tryd.underlying5]; rfl) Tryd.underlying3 rfl rfl))⟩, ⟨rfl, ld_eq (j := 2) rfl rfl (ld_val (ov_int rfl rfl rfl rfl))⟩, ⟨rfl, ld_val (ov_move rfl rfl)⟩, ⟨rfl, ld_eq (j := 4) rfl rfl (ld_val (ov_strIdx hc3.1 hc3.2 Tryd.underlying9 rfl rfl rfl))⟩, ⟨rfl, ld_eq (j := 5) rfl rfl (ld_val (ov_int rfl rfl rfl rfl))⟩, ⟨rfl, ld_eq (j := 3) rfl rfl (ld_val (ov_assign rfl rfl))⟩, trivial⟩ ?_
    refine tl_eq 6 rfl ?_
    refine tl_eq 7 rfl ?_
    refine tl_done ?_
    refine al_val (ov_assign rfl rfl) ?_
    refine al_nil ?_
    refine aq_then ?_
    obtain ⟨kk5, hkk5, h⟩ := lt_some h
    refine aw_seq_join (ι := Int) (fun i => (memOf w0 Z0 [] [] [])) (fun i => (tab [(0, (str a0)), (5, (Value.int .i64 i)), (6, (Value.bool (decide ((En.bAt a0 (0 : Int)) < (128 : Int)))))])) (fun i => kk5 i = some r) ?_ ?_
    · rintro j4i5 h
      have h : kk5 j4i5 = some r := h
      rw [hkk5] at h
      dsimp only at h
      clear hkk5
      refine aw_show (m := (memOf w0 Z0 [] [] [])) (S := (tab [(0, (str a0)), (5, (Value.int .i64 j4i5)), (6, (Value.bool (decide ((En.bAt a0 (0 : Int)) < (128 : Int)))))])) ?_
      refine aw_seq ?_
      refine aw_block ?_
      refine aw_seq ?_
      refine aw_region ?_
      refine al_val (ov_move rfl rfl) ?_
      refine al_val (ov_int rfl rfl rfl rfl) ?_
      refine al_val (ov_assign rfl rfl) ?_
      refine al_nil ?_
      refine aq_then ?_
      refine aw_cond rfl (fun hb6 => ?_) (fun hb6 => ?_)
      · replace h := bif_t hb6 h
        refine aw_seq ?_
        refine aw_region ?_
        refine al_val (ov_assign rfl rfl) ?_
        refine al_val (ov_assign rfl rfl) ?_
        refine al_val (ov_assign rfl rfl) ?_
        refine al_nil ?_
        refine aq_then ?_
        refine aw_ret ?_
        refine aq_block_ret ?_
        refine aq_then_ret ?_
        obtain rfl := Option.some.inj h
        exact fn_ret () [] [] rfl rfl rfl rfl (res3 rfl rfl rfl rfl) rfl rfl rfl (by decide)
      · replace h := bif_f hb6 h
        refine aw_seq ?_
        refine aw_region ?_
        refine al_val (ov_move rfl rfl) ?_
        refine al_val (ov_strLen Tryd.underlying9 rfl rfl) ?_
        refine al_val (ov_move rfl rfl) ?_
        refine al_val (ov_int rfl rfl rfl rfl) ?_
        refine al_val (ov_int rfl rfl rfl rfl) ?_
        refine al_val (ov_assign rfl rfl) ?_
        refine al_nil ?_
        refine aq_then ?_
        refine aw_cond rfl (fun hb7 => ?_) (fun hb7 => ?_)
        · replace h := bif_t hb7 h
          refine aw_seq ?_
          refine aw_region ?_
          refine al_val (ov_assign rfl rfl) ?_
          refine al_val (ov_assign rfl rfl) ?_
          refine al_val (ov_assign rfl rfl) ?_
          refine al_nil ?_
          refine aq_then ?_
          refine aw_ret ?_
          refine aq_block_ret ?_
          refine aq_then_ret ?_
          obtain rfl := Option.some.inj h
          exact fn_ret () [] [] rfl rfl rfl rfl (res3 rfl rfl rfl rfl) rfl rfl rfl (by decide)
        · replace h := bif_f hb7 h
          refine aw_skip ?_
          refine aq_block ?_
          refine aq_then ?_
          refine aw_seq ?_
          refine aw_region ?_
          refine al_val (ov_move rfl rfl) ?_
          refine al_val (ov_move rfl rfl) ?_
          refine al_val (ov_int rfl rfl rfl rfl) ?_
          obtain ⟨hc8, h⟩ := req_some h
          refine al_val (ov_strCut hc8.1 hc8.2.1 hc8.2.2 Tryd.underlying9 rfl rfl rfl rfl) ?_
          refine al_val (ov_assign rfl rfl) ?_
          refine al_nil ?_
          refine aq_then ?_
          obtain ⟨kk10, hkk10, h⟩ := lt_some h
          refine aw_seq_join (ι := (List UInt8)) (fun i => (memOf w0 Z0 [] [] [])) (fun i => (tab [(5, (Value.int .i64 j4i5)), (6, (Value.bool (decide ((En.bAt a0 (0 : Int)) < (128 : Int))))), (7, (str i))])) (fun i => kk10 i = some r) ?_ ?_
          · rintro j9s7 h
            have h : kk10 j9s7 = some r := h
            rw [hkk10] at h
            dsimp only at h
            clear hkk10
            refine aw_show (m := (memOf w0 Z0 [] [] [])) (S := (tab [(5, (Value.int .i64 j4i5)), (6, (Value.bool (decide ((En.bAt a0 (0 : Int)) < (128 : Int))))), (7, (str j9s7))])) ?_
            refine aw_seq ?_
            refine aw_region ?_
            refine al_val (ov_move rfl rfl) ?_
            obtain ⟨r12, hc11, h⟩ := opt_some h
            refine al_call (vs := [(str j9s7)]) (f_num_value_ok fu j9s7 hc11) [] [] [] pre_nil rfl (by simp) (by decide) (.inl rfl) rfl Tryd.func45 rfl rfl rfl (fun _ => ?_)
            refine al_val (ov_assign rfl rfl) ?_
            refine al_nil ?_
            refine aq_then ?_
            refine aw_seq ?_
            obtain ⟨kk14, hkk14, h⟩ := lt_some h
            refine aw_seq_join (ι := Bool) (fun i => (memOf w0 Z0 [] [] [])) (fun i => (tab [(5, (Value.int .i64 j4i5)), (6, (Value.bool (decide ((En.bAt a0 (0 : Int)) < (128 : Int))))), (8, (Value.int .u64 r12)), (51, (Value.bool i))])) (fun i => kk14 i = some r) ?_ ?_
            · rintro j13b51 h
              have h : kk14 j13b51 = some r := h
              rw [hkk14] at h
              dsimp only at h
              clear hkk14
              refine aw_show (m := (memOf w0 Z0 [] [] [])) (S := (tab [(5, (Value.int .i64 j4i5)), (6, (Value.bool (decide ((En.bAt a0 (0 : Int)) < (128 : Int))))), (8, (Value.int .u64 r12)), (51, (Value.bool j13b51))])) ?_
              refine aw_cond rfl (fun hb15 => ?_) (fun hb15 => ?_)
              · replace h := bif_t hb15 h
                refine aw_seq ?_
                refine aw_region ?_
                refine al_val (ov_assign rfl rfl) ?_
                refine al_val (ov_assign rfl rfl) ?_
                refine al_val (ov_assign rfl rfl) ?_
                refine al_nil ?_
                refine aq_then ?_
                refine aw_ret ?_
                refine aq_then_ret ?_
                obtain rfl := Option.some.inj h
                exact fn_ret () [] [] rfl rfl rfl rfl (res3 rfl rfl rfl rfl) rfl rfl rfl (by decide)
              · replace h := bif_f hb15 h
                refine aw_skip ?_
                refine aq_then ?_
                refine aw_seq ?_
                refine aw_seq ?_
                refine aw_region ?_
                refine al_val (ov_move rfl rfl) ?_
                refine al_nil ?_
                refine aq_then ?_
                refine aw_cond rfl (fun hb16 => ?_) (fun hb16 => ?_)
                · replace h := bif_t hb16 h
                  refine aw_seq ?_
                  refine aw_region ?_
                  refine al_val (ov_move rfl rfl) ?_
                  refine al_val (ov_convInt (by rw [Tryd.underlying31]; rfl) Tryd.underlying3 rfl rfl) ?_
                  refine al_val (ov_int rfl rfl rfl rfl) ?_
                  refine al_val (ov_move rfl rfl) ?_
                  refine al_val (ov_int rfl rfl rfl rfl) ?_
                  refine al_val (ov_assign rfl rfl) ?_
                  refine al_val (ov_assign rfl rfl) ?_
                  refine al_val (ov_assign rfl rfl) ?_
                  refine al_nil ?_
                  refine aq_then ?_
                  refine aw_ret ?_
                  refine aq_then_ret ?_
                  obtain rfl := Option.some.inj h
                  exact fn_ret () [] [] rfl rfl rfl rfl (res3 rfl rfl rfl rfl) rfl rfl rfl (by decide)
                · replace h := bif_f hb16 h
                  refine aw_skip ?_
                  refine aq_then ?_
                  refine aw_seq ?_
                  refine aw_region ?_
                  refine al_val (ov_move rfl rfl) ?_
                  refine al_val (ov_convInt (by rw [Tryd.underlying31]; rfl) Tryd.underlying3 rfl rfl) ?_
                  refine al_val (ov_move rfl rfl) ?_
                  refine al_val (ov_int rfl rfl rfl rfl) ?_
                  refine al_val (ov_assign rfl rfl) ?_
                  refine al_val (ov_assign rfl rfl) ?_
                  refine al_val (ov_assign rfl rfl) ?_
                  refine al_nil ?_
                  refine aq_then ?_
                  refine aw_ret ?_
                  obtain rfl := Option.some.inj h
                  exact fn_ret () [] [] rfl rfl rfl rfl (res3 rfl rfl rfl rfl) rfl rfl rfl (by decide)
            · clear hkk14
              refine aw_region ?_
              refine al_val (ov_move rfl rfl) ?_
              refine al_val (ov_int rfl rfl rfl rfl) ?_
              refine al_val (ov_move rfl rfl) ?_
              refine al_caseB 43 rfl (fun hb17 => ?_) (fun hb17 => ?_)
              · replace h := bif_t hb17 h
                refine al_val (ov_move rfl rfl) ?_
                obtain ⟨hc18, h⟩ := req_some h
                refine al_val (ov_strIdx hc18.1 hc18.2 Tryd.underlying9 rfl rfl rfl) ?_
                refine al_val (ov_int rfl rfl rfl rfl) ?_
                refine al_val (ov_pick_t rfl rfl rfl) ?_
                refine al_val (ov_move rfl rfl) ?_
                refine al_caseB 48 rfl (fun hb19 => ?_) (fun hb19 => ?_)
                · replace h := bif_t hb19 h
                  refine al_skip ?_
                  refine al_skip ?_
                  refine al_val (ov_pick_t rfl rfl rfl) ?_
                  refine al_nil ?_
                  exact aq_join true h (fun w a hm hs => norm hm hs [] [] [(5, (Value.int .i64 j4i5)), (6, (Value.bool (decide ((En.bAt a0 (0 : Int)) < (128 : Int))))), (8, (Value.int .u64 r12)), (51, (Value.bool true))] (by decide) ⟨rfl, rfl, rfl, rfl, trivial⟩)
                · replace h := bif_f hb19 h
                  refine al_val (ov_move rfl rfl) ?_
                  refine al_val (ov_int rfl rfl rfl rfl) ?_
                  refine al_val (ov_pick_f rfl rfl rfl) ?_
                  refine al_nil ?_
                  exact aq_join (decide (r12 > (9223372036854775807 : Int))) h (fun w a hm hs => norm hm hs [] [] [(5, (Value.int .i64 j4i5)), (6, (Value.bool (decide ((En.bAt a0 (0 : Int)) < (128 : Int))))), (8, (Value.int .u64 r12)), (51, (Value.bool (decide (r12 > (9223372036854775807 : Int)))))] (by decide) ⟨rfl, rfl, rfl, rfl, trivial⟩)
              · replace h := bif_f hb17 h
                refine al_skip ?_
                refine al_skip ?_
                refine al_skip ?_
                refine al_val (ov_pick_f rfl rfl rfl) ?_
                refine al_val (ov_move rfl rfl) ?_
                refine al_val (ov_move rfl rfl) ?_
                refine al_val (ov_int rfl rfl rfl rfl) ?_
                refine al_val (ov_pick_f rfl rfl rfl) ?_
                refine al_nil ?_
                exact aq_join (decide (r12 > (9223372036854775807 : Int))) h (fun w a hm hs => norm hm hs [] [] [(5, (Value.int .i64 j4i5)), (6, (Value.bool (decide ((En.bAt a0 (0 : Int)) < (128 : Int))))), (8, (Value.int .u64 r12)), (51, (Value.bool (decide (r12 > (9223372036854775807 : Int)))))] (by decide) ⟨rfl, rfl, rfl, rfl, trivial⟩)
          · clear hkk10
            refine aw_seq ?_
            refine aw_region ?_
            refine al_val (ov_move rfl rfl) ?_
            refine al_nil ?_
            refine aq_then ?_
            refine aw_cond rfl (fun hb20 => ?_) (fun hb20 => ?_)
            · replace h := bif_t hb20 h
              refine aw_region ?_
              refine al_val (ov_move rfl rfl) ?_
              obtain ⟨r22, hc21, h⟩ := opt_some h
              refine al_call (vs := [(str (cut a0 (1 : Int) (IntKind.i64.wrap ((1 : Int) + j4i5))))]) (f_num_turned_ok fu (cut a0 (1 : Int) (IntKind.i64.wrap ((1 : Int) + j4i5))) hc21) [] [] [] pre_nil rfl (by simp) (by decide) (.inl rfl) rfl Tryd.func50 rfl rfl rfl (fun _ => ?_)
              refine al_val (ov_assign rfl rfl) ?_
              refine al_nil ?_
              exact aq_join r22 h (fun w a hm hs => norm hm hs [] [] [(5, (Value.int .i64 j4i5)), (6, (Value.bool (decide ((En.bAt a0 (0 : Int)) < (128 : Int))))), (7, (str r22))] (by decide) ⟨rfl, rfl, rfl, trivial⟩)
            · replace h := bif_f hb20 h
              refine aw_skip ?_
              exact aq_join (cut a0 (1 : Int) (IntKind.i64.wrap ((1 : Int) + j4i5))) h (fun w a hm hs => norm hm hs [] [] [(5, (Value.int .i64 j4i5)), (6, (Value.bool (decide ((En.bAt a0 (0 : Int)) < (128 : Int))))), (7, (str (cut a0 (1 : Int) (IntKind.i64.wrap ((1 : Int) + j4i5)))))] (by decide) ⟨rfl, rfl, rfl, trivial⟩)
    · clear hkk5
      refine aw_seq ?_
      refine aw_region ?_
      refine al_val (ov_move rfl rfl) ?_
      refine al_nil ?_
      refine aq_then ?_
      refine aw_cond rfl (fun hb23 => ?_) (fun hb23 => ?_)
      · replace h := bif_t hb23 h
        refine aw_region ?_
        refine al_val (ov_move rfl rfl) ?_
        obtain ⟨hc24, h⟩ := req_some h
        refine al_val (ov_strIdx hc24.1 hc24.2 Tryd.underlying9 rfl rfl rfl) ?_
        refine al_val (ov_convInt (by rw [Tryd.underlying5]; rfl) Tryd.underlying3 rfl rfl) ?_
        refine al_val (ov_int rfl rfl rfl rfl) ?_
        refine al_val (ov_assign rfl rfl) ?_
        refine al_nil ?_
        exact aq_join (IntKind.i64.wrap ((127 : Int) - (IntKind.i64.wrap (En.bAt a0 (0 : Int))))) h (fun w a hm hs => norm hm hs [] [] [(0, (str a0)), (5, (Value.int .i64 (IntKind.i64.wrap ((127 : Int) - (IntKind.i64.wrap (En.bAt a0 (0 : Int))))))), (6, (Value.bool (decide ((En.bAt a0 (0 : Int)) < (128 : Int)))))] (by decide) ⟨rfl, rfl, rfl, trivial⟩)
      · replace h := bif_f hb23 h
        refine aw_skip ?_
        exact aq_join (IntKind.i64.wrap ((IntKind.i64.wrap (En.bAt a0 (0 : Int))) - (128 : Int))) h (fun w a hm hs => norm hm hs [] [] [(0, (str a0)), (5, (Value.int .i64 (IntKind.i64.wrap ((IntKind.i64.wrap (En.bAt a0 (0 : Int))) - (128 : Int))))), (6, (Value.bool (decide ((En.bAt a0 (0 : Int)) < (128 : Int)))))] (by decide) ⟨rfl, rfl, rfl, trivial⟩)
def f_lumref_number : Nat → (List UInt8) → Option Int
  | 0, _ => none
  | fu + 1, a0 => (bif (a0 == ([] : List UInt8)) then (some (0 : Int)) else (req (0 ≤ (IntKind.i64.wrap ((a0.length : Int) - (1 : Int))) ∧ (IntKind.i64.wrap ((a0.length : Int) - (1 : Int))) ≤ (a0.length : Int)) (opt (f_lumref_number fu (a0.take ((IntKind.i64.wrap ((a0.length : Int) - (1 : Int)))).toNat)) fun (r4 : Int) => (req (0 ≤ (IntKind.i64.wrap ((a0.length : Int) - (1 : Int))) ∧ (IntKind.i64.wrap ((a0.length : Int) - (1 : Int))) < (a0.length : Int)) (some (IntKind.u64.wrap ((IntKind.u64.wrap ((256 : Int) * r4)) + (IntKind.u64.wrap (En.bAt a0 (IntKind.i64.wrap ((a0.length : Int) - (1 : Int))))))))))))
set_option maxRecDepth 100000 in
theorem f_lumref_number_ok (fu : Nat) (a0 : (List UInt8)) {r : Int} (h : f_lumref_number fu a0 = some r) : FnOk Tryd.prog 47 [(str a0)] [] [] (fun (i : Unit) => { val := (Value.int .u64 r) }) := by
  cases fu with
  | zero => rw [f_lumref_number] at h; cases h
  | succ fu =>
    rw [f_lumref_number] at h
    refine fn_enter Tryd.func47 rfl Tryd.ntmps47 rfl (fun w0 Z0 => ?_)
    refine aw_seq ?_
    refine aw_region ?_
    refine al_val (ov_assign rfl rfl) ?_
    refine al_nil ?_
    refine aq_then ?_
    refine aw_seq ?_
    refine aw_seq ?_
    refine aw_region ?_
    refine al_val (ov_move rfl rfl) ?_
    refine al_val (ov_strCmp rfl rfl rfl rfl) ?_
    refine al_nil ?_
    refine aq_then ?_
    refine aw_cond rfl (fun hb1 => ?_) (fun hb1 => ?_)
    · replace h := bif_t hb1 h
      refine aw_seq ?_
      refine aw_region ?_
      refine al_val (ov_assign rfl rfl) ?_
      refine al_nil ?_
      refine aq_then ?_
      refine aw_ret ?_
      refine aq_then_ret ?_
      obtain rfl := Option.some.inj h
      exact fn_ret () [] [] rfl rfl rfl rfl (res1 rfl rfl) rfl rfl rfl (by decide)
    · replace h := bif_f hb1 h
      refine aw_skip ?_
      refine aq_then ?_
      refine aw_seq ?_
      obtain ⟨hc2, h⟩ := req_some h
      obtain ⟨r4, hc3, h⟩ := opt_some h
      obtain ⟨hc5, h⟩ := req_some h
      refine aw_region_draw 14 [(5, (fun u => fEq u (str a0))), (6, (fun u => fEq u (str a0))), (7, (fun u => fEq u (Value.int .i64 (a0.length : Int)))), (8, (fun u => fEq u (Value.int .i64 (IntKind.i64.wrap ((a0.length : Int) - (1 : Int)))))), (9, (fun u => fEq u (str (a0.take ((IntKind.i64.wrap ((a0.length : Int) - (1 : Int)))).toNat)))), (10, (fun u => fEq u (Value.int .u64 r4))), (11, (fun u => fEq u (Value.int .u64 (IntKind.u64.wrap ((256 : Int) * r4))))), (12, (fun u => fEq u (str a0))), (13, (fun u => fEq u (str a0))), (14, (fun u => fEq u (Value.int .i64 (a0.length : Int)))), (15, (fun u => fEq u (Value.int .i64 (IntKind.i64.wrap ((a0.length : Int) - (1 : Int)))))), (16, (fun u => fEq u (Value.int .u8 (En.bAt a0 (IntKind.i64.wrap ((a0.length : Int) - (1 : Int))))))), (17, (fun u => fEq u (Value.int .u64 (IntKind.u64.wrap (En.bAt a0 (IntKind.i64.wrap ((a0.length : Int) - (1 : Int)))))))), (18, (fun u => fEq u (Value.int .u64 (IntKind.u64.wrap ((IntKind.u64.wrap ((256 : Int) * r4)) + (IntKind.u64.wrap (En.bAt a0 (IntKind.i64.wrap ((a0.length : Int) - (1 : Int))))))))))] (tab [(0, (str a0)), (2, (Value.int .u64 (0 : Int)))]) mixed (by kernel_rfl) rfl rfl rfl (fun a hs => hs.tab _ (allT_mem ⟨rfl, rfl, trivial⟩)) ⟨⟨rfl, ld_val (ov_move rfl rfl)⟩, ⟨rfl, ld_val (ov_move rfl rfl)⟩, ⟨rfl, ld_eq (j := 1) rfl rfl (ld_val (ov_strLen Tryd.underlying9 rfl rfl))⟩, ⟨rfl, ld_eq (j := 2) rfl rfl (ld_val (ov_int rfl rfl rfl rfl))⟩, ⟨rfl, ld_eq (j := 0) rfl rfl (ld_eq (j := 3) rfl rfl (ld_val (ov_strTo hc2.1 hc2.2 Tryd.underlying9 rfl rfl rfl)))⟩, ⟨rfl, ld_eq (j := 4) rfl rfl (ld_callV (vs := [(str (a0.take ((IntKind.i64.wrap ((a0.length : Int) - (1 : Int)))).toNat))]) (f_lumref_number_ok fu (a0.take ((IntKind.i64.wrap ((a0.length : Int) - (1 : Int)))).toNat) hc3) [] pre_nil rfl Tryd.func47 rfl rfl rfl)⟩, ⟨rfl, ld_eq (j := 5) rfl rfl (ld_val (ov_int rfl rfl rfl rfl))⟩, ⟨rfl, ld_val (ov_move rfl rfl)⟩, ⟨rfl, ld_val (ov_move rfl rfl)⟩, ⟨rfl, ld_eq (j := 8) rfl rfl (ld_val (ov_strLen Tryd.underlying9 rfl rfl))⟩, ⟨rfl, ld_eq (j := 9) rfl rfl (ld_val (ov_int rfl rfl rfl rfl))⟩, ⟨rfl, ld_eq (j := 7) rfl rfl (ld_eq (j := 10) rfl rfl (ld_val (ov_strIdx hc5.1 hc5.2 Tryd.underlying9 rfl rfl rfl)))⟩, ⟨rfl, ld_eq (j := 11) rfl rfl (ld_val (ov_convInt (by rw [Tryd.underlying5]; rfl) Tryd.underlying31 rfl rfl))⟩, ⟨rfl, ld_eq (j := 6) rfl rfl (ld_eq (j := 12) rfl rfl (ld_val (ov_int rfl rfl rfl rfl)))⟩, trivial⟩ ?_
      refine tl_eq 13 rfl ?_
      refine tl_done ?_
      refine al_val (ov_assign rfl rfl) ?_
      refine al_nil ?_
      refine aq_then ?_
      refine aw_ret ?_
      obtain rfl := Option.some.inj h
      exact fn_ret () [] [] rfl rfl rfl rfl (res1 rfl rfl) rfl rfl rfl (by decide)
def f_stringslite_HasPrefix (fu : Nat) (a0 : (List UInt8)) (a1 : (List UInt8)) : Option Bool := (lt (fun (j1b4 : Bool) => (some j1b4)) fun (kk2 : Bool → Option Bool) => (bif (decide ((a0.length : Int) ≥ (a1.length : Int))) then (req (0 ≤ (a1.length : Int) ∧ (a1.length : Int) ≤ (a0.length : Int)) (kk2 ((a0.take ((a1.length : Int)).toNat) == a1))) else (kk2 false)))
set_option maxRecDepth 100000 in
theorem f_stringslite_HasPrefix_ok (fu : Nat) (a0 : (List UInt8)) (a1 : (List UInt8)) {r : Bool} (h : f_stringslite_HasPrefix fu a0 a1 = some r) : FnOk Tryd.prog 73 [(str a0), (str a1)] [] [] (fun (i : Unit) => { val := (Value.bool r) }) := by
  unfold f_stringslite_HasPrefix at h
  refine fn_enter Tryd.func73 rfl Tryd.ntmps73 rfl (fun w0 Z0 => ?_)
  refine aw_seq ?_
  refine aw_region ?_
  refine al_val (ov_assign rfl rfl) ?_
  refine al_nil ?_
  refine aq_then ?_
  obtain ⟨kk2, hkk2, h⟩ := lt_some h
  refine aw_seq_join (ι := Bool) (fun i => (memOf w0 Z0 [] [] [])) (fun i => (tab [(4, (Value.bool i))])) (fun i => kk2 i = some r) ?_ ?_
  · rintro j1b4 h
    have h : kk2 j1b4 = some r := h
    rw [hkk2] at h
    dsimp only at h
    clear hkk2
    refine aw_show (m := (memOf w0 Z0 [] [] [])) (S := (tab [(4, (Value.bool j1b4))])) ?_
    refine aw_ret ?_
    obtain rfl := Option.some.inj h
    exact fn_ret () [] [] rfl rfl rfl rfl (res1 rfl rfl) rfl rfl rfl (by decide)
  · clear hkk2
    refine aw_region ?_
    refine al_val (ov_move rfl rfl) ?_
    refine al_val (ov_strLen Tryd.underlying9 rfl rfl) ?_
    refine al_val (ov_move rfl rfl) ?_
    refine al_val (ov_strLen Tryd.underlying9 rfl rfl) ?_
    refine al_val (ov_int rfl rfl rfl rfl) ?_
    refine al_val (ov_move rfl rfl) ?_
    refine al_caseB 10 rfl (fun hb3 => ?_) (fun hb3 => ?_)
    · replace h := bif_t hb3 h
      refine al_val (ov_move rfl rfl) ?_
      refine al_val (ov_move rfl rfl) ?_
      refine al_val (ov_strLen Tryd.underlying9 rfl rfl) ?_
      obtain ⟨hc4, h⟩ := req_some h
      refine al_val (ov_strTo hc4.1 hc4.2 Tryd.underlying9 rfl rfl rfl) ?_
      refine al_val (ov_move rfl rfl) ?_
      refine al_val (ov_strCmp rfl rfl rfl rfl) ?_
      refine al_val (ov_pick_t rfl rfl rfl) ?_
      refine al_val (ov_assign rfl rfl) ?_
      refine al_nil ?_
      exact aq_join ((a0.take ((a1.length : Int)).toNat) == a1) h (fun w a hm hs => norm hm hs [] [] [(4, (Value.bool ((a0.take ((a1.length : Int)).toNat) == a1)))] (by decide) ⟨rfl, trivial⟩)
    · replace h := bif_f hb3 h
      refine al_skip ?_
      refine al_skip ?_
      refine al_skip ?_
      refine al_skip ?_
      refine al_skip ?_
      refine al_skip ?_
      refine al_val (ov_pick_f rfl rfl rfl) ?_
      refine al_val (ov_assign rfl rfl) ?_
      refine al_nil ?_
      exact aq_join false h (fun w a hm hs => norm hm hs [] [] [(4, (Value.bool false))] (by decide) ⟨rfl, trivial⟩)
def f_strings_HasPrefix (fu : Nat) (a0 : (List UInt8)) (a1 : (List UInt8)) : Option Bool := (opt (f_stringslite_HasPrefix fu a0 a1) fun (r2 : Bool) => (some r2))
set_option maxRecDepth 100000 in
theorem f_strings_HasPrefix_ok (fu : Nat) (a0 : (List UInt8)) (a1 : (List UInt8)) {r : Bool} (h : f_strings_HasPrefix fu a0 a1 = some r) : FnOk Tryd.prog 46 [(str a0), (str a1)] [] [] (fun (i : Unit) => { val := (Value.bool r) }) := by
  unfold f_strings_HasPrefix at h
  refine fn_enter Tryd.func46 rfl Tryd.ntmps46 rfl (fun w0 Z0 => ?_)
  refine aw_seq ?_
  refine aw_region ?_
  refine al_val (ov_assign rfl rfl) ?_
  refine al_nil ?_
  refine aq_then ?_
  refine aw_seq ?_
  refine aw_region ?_
  refine al_val (ov_move rfl rfl) ?_
  refine al_val (ov_move rfl rfl) ?_
  obtain ⟨r2, hc1, h⟩ := opt_some h
  refine al_call (vs := [(str a0), (str a1)]) (f_stringslite_HasPrefix_ok fu a0 a1 hc1) [] [] [] pre_nil rfl (by simp) (by decide) (.inl rfl) rfl Tryd.func73 rfl rfl rfl (fun _ => ?_)
  refine al_val (ov_assign rfl rfl) ?_
  refine al_nil ?_
  refine aq_then ?_
  refine aw_ret ?_
  obtain rfl := Option.some.inj h
  exact fn_ret () [] [] rfl rfl rfl rfl (res1 rfl rfl) rfl rfl rfl (by decide)
def f_lumref_turned_L7 (a0 : (List UInt8)) (kk4 : ((List UInt8) → Option (List UInt8))) : Nat → (List UInt8) → Int → Option (List UInt8)
  | 0, _, _ => none
  | k6 + 1, l5x3, l5i9 => (bif (decide (l5i9 < (a0.length : Int))) then (opt (at? l5x3 l5i9) fun (u9 : UInt8) => (opt (at? l5x3 l5i9) fun (u13 : UInt8) => (req (0 ≤ (IntKind.u8.wrap ((255 : Int) - (u9.toNat : Int))) ∧ (IntKind.u8.wrap ((255 : Int) - (u9.toNat : Int))) ≤ 255) (f_lumref_turned_L7 a0 kk4 k6 (l5x3.set (l5i9).toNat (UInt8.ofNat ((IntKind.u8.wrap ((255 : Int) - (u9.toNat : Int)))).toNat)) (IntKind.i64.wrap (l5i9 + (1 : Int))))))) else (kk4 l5x3))
def f_lumref_turned (fu : Nat) (a0 : (List UInt8)) : Option (List UInt8) := (req (a0.length ≤ 9223372036854775807) (lt (fun (j3x3 : (List UInt8)) => (some j3x3)) fun (kk4 : (List UInt8) → Option (List UInt8)) => (f_lumref_turned_L7 a0 kk4 fu a0 (0 : Int))))
set_option maxRecDepth 100000 in
theorem f_lumref_turned_ok (fu : Nat) (a0 : (List UInt8)) {r : (List UInt8)} (h : f_lumref_turned fu a0 = some r) : FnOk Tryd.prog 51 [(str a0)] [] [] (fun (i : Unit) => { val := (str r) }) := by
  unfold f_lumref_turned at h
  refine fn_enter Tryd.func51 rfl Tryd.ntmps51 rfl (fun w0 Z0 => ?_)
  refine aw_seq ?_
  refine aw_region ?_
  refine al_val (ov_assign rfl rfl) ?_
  refine al_nil ?_
  refine aq_then ?_
  refine aw_seq ?_
  refine aw_region ?_
  refine al_val (ov_move rfl rfl) ?_
  obtain ⟨hc1, h⟩ := req_some h
  refine al_bytesO hc1 rfl Tryd.underlying9 Tryd.underlying70 Tryd.underlying5 rfl (fun s2 => ?_)
  refine al_val (ov_assign rfl rfl) ?_
  refine al_nil ?_
  refine aq_then ?_
  obtain ⟨kk4, hkk4, h⟩ := lt_some h
  refine aw_seq_join (ι := (List UInt8)) (fun i => (memOf w0 Z0 [] [(oBy s2 5 i)] [])) (fun i => (tab [(3, s2)])) (fun i => kk4 i = some r) ?_ ?_
  · rintro j3x3 h
    have h : kk4 j3x3 = some r := h
    rw [hkk4] at h
    dsimp only at h
    clear hkk4
    refine aw_show (m := (memOf w0 Z0 [] [(oBy s2 5 j3x3)] [])) (S := (tab [(3, s2)])) ?_
    refine aw_seq ?_
    refine aw_region ?_
    refine al_val (ov_move rfl rfl) ?_
    refine al_val (ov_toStrO 0 rfl rfl Tryd.underlying70 Tryd.underlying5 Tryd.underlying9 rfl) ?_
    refine al_val (ov_assign rfl rfl) ?_
    refine al_nil ?_
    refine aq_then ?_
    refine aw_ret ?_
    obtain rfl := Option.some.inj h
    exact fn_ret () [] [] rfl rfl rfl rfl (res1 rfl rfl) rfl rfl rfl (by decide)
  · clear hkk4
    refine aw_seq ?_
    refine aw_region ?_
    refine al_val (ov_move rfl rfl) ?_
    refine al_val (ov_lenO 0 rfl rfl Tryd.underlying70 rfl) ?_
    refine al_val (ov_move rfl rfl) ?_
    refine al_nil ?_
    refine aq_then ?_
    refine aw_block ?_
    refine aw_state (aw_loop (ι := (List UInt8) × Int) (fun i => (memOf w0 Z0 [] [(oBy s2 5 i.1)] [])) (fun i => (tab [(3, s2), (8, (Value.int .i64 (a0.length : Int))), (9, (Value.int .i64 i.2))])) (fun q i => f_lumref_turned_L7 a0 kk4 q i.1 i.2 = some r) ?_ fu (a0, (0 : Int)) h) (fun w a hm hs => norm hm hs [0] [] [(3, s2), (8, (Value.int .i64 (a0.length : Int))), (9, (Value.int .i64 (0 : Int)))] (by decide) ⟨rfl, rfl, rfl, trivial⟩)
    clear h
    rintro k6 ⟨l5x3, l5i9⟩ h
    have h : f_lumref_turned_L7 a0 kk4 k6 l5x3 l5i9 = some r := h
    obtain _ | k6 := k6
    · rw [f_lumref_turned_L7] at h; cases h
    rw [f_lumref_turned_L7] at h
    refine aw_show (m := (memOf w0 Z0 [] [(oBy s2 5 l5x3)] [])) (S := (tab [(3, s2), (8, (Value.int .i64 (a0.length : Int))), (9, (Value.int .i64 l5i9))])) ?_
    refine aw_seq ?_
    refine aw_region ?_
    refine al_val (ov_int rfl rfl rfl rfl) ?_
    refine al_nil ?_
    refine aq_then ?_
    refine aw_seq ?_
    refine aw_cond rfl (fun hb8 => ?_) (fun hb8 => ?_)
    · replace h := bif_t hb8 h
      refine aw_skip ?_
      refine aq_then ?_
      refine aw_seq ?_
      refine aw_block ?_
      refine aw_seq ?_
      refine aw_region ?_
      refine al_val (ov_move rfl rfl) ?_
      refine al_val (ov_assign rfl rfl) ?_
      refine al_nil ?_
      refine aq_then ?_
      refine aw_region ?_
      refine al_val (ov_move rfl rfl) ?_
      refine al_val (ov_move rfl rfl) ?_
      refine al_val (ov_move rfl rfl) ?_
      refine al_val (ov_move rfl rfl) ?_
      obtain ⟨u9, hu10, h⟩ := opt_some h
      refine al_idxO 0 (at_some hu10).1 (at_some hu10).2.1 rfl rfl rfl Tryd.underlying70 sz5 rfl (fun p11 hp12 => ?_)
      refine al_val (ov_loadO (ds := [(Value.int .u8 (u9.toNat : Int))]) 0 rfl hp12 (at_some hu10).2.2 (fun h => h) rfl Tryd.underlying5 sz5 rfl rfl rfl) ?_
      refine al_val (ov_int rfl rfl rfl rfl) ?_
      obtain ⟨u13, hu14, h⟩ := opt_some h
      refine al_idxO 0 (at_some hu14).1 (at_some hu14).2.1 rfl rfl rfl Tryd.underlying70 sz5 rfl (fun p15 hp16 => ?_)
      obtain ⟨hc17, h⟩ := req_some h
      refine al_storeO (k := (l5i9).toNat) (x := (UInt8.ofNat ((IntKind.u8.wrap ((255 : Int) - (u9.toNat : Int)))).toNat)) (vs := [(Value.int .u8 (IntKind.u8.wrap ((255 : Int) - (u9.toNat : Int))))]) 0 rfl hp16 (idx_lt hu14) rfl rfl (cv_rfl rfl) (fun _ => u8_rep hc17) sz5 rfl ?_
      refine al_nil ?_
      refine aq_block ?_
      refine aq_then ?_
      refine aw_region ?_
      refine al_val (ov_int rfl rfl rfl rfl) ?_
      refine al_val (ov_move rfl rfl) ?_
      refine al_nil ?_
      exact aq_again k6 ((l5x3.set (l5i9).toNat (UInt8.ofNat ((IntKind.u8.wrap ((255 : Int) - (u9.toNat : Int)))).toNat)), (IntKind.i64.wrap (l5i9 + (1 : Int)))) (Nat.lt_succ_self _) h (fun w a hm hs => norm hm hs [0] [] [(3, s2), (8, (Value.int .i64 (a0.length : Int))), (9, (Value.int .i64 (IntKind.i64.wrap (l5i9 + (1 : Int)))))] (by decide) ⟨rfl, rfl, rfl, trivial⟩)
    · replace h := bif_f hb8 h
      refine aw_exit ?_
      refine aq_then_exit ?_
      refine aq_then_exit ?_
      refine aq_block_exit ?_
      exact aq_join l5x3 h (fun w a hm hs => norm hm hs [0] [] [(3, s2)] (by decide) ⟨rfl, trivial⟩)
def f_lumref_GetInt (fu : Nat) (a0 : (List UInt8)) : Option (Int × Int × Int) := (bif ((a0.length : Int) == (0 : Int)) then (some ((0 : Int), (0 : Int), (3 : Int))) else (lt (fun (j2b19 : Bool) => (bif j2b19 then (some ((0 : Int), (0 : Int), (4 : Int))) else (req (0 ≤ (0 : Int) ∧ (0 : Int) < (a0.length : Int)) (bif (decide ((En.bAt a0 (0 : Int)) ≥ (128 : Int))) then (req (0 ≤ (0 : Int) ∧ (0 : Int) < (a0.length : Int)) (bif (decide ((a0.length : Int) < (IntKind.i64.wrap ((IntKind.i64.wrap ((1 : Int) + (IntKind.i64.wrap (En.bAt a0 (0 : Int))))) - (128 : Int))))) then (some ((0 : Int), (0 : Int), (3 : Int))) else (req (0 ≤ (1 : Int) ∧ (1 : Int) ≤ (IntKind.i64.wrap ((IntKind.i64.wrap ((1 : Int) + (IntKind.i64.wrap (En.bAt a0 (0 : Int))))) - (128 : Int))) ∧ (IntKind.i64.wrap ((IntKind.i64.wrap ((1 : Int) + (IntKind.i64.wrap (En.bAt a0 (0 : Int))))) - (128 : Int))) ≤ (a0.length : Int)) (opt (f_lumref_number fu (cut a0 (1 : Int) (IntKind.i64.wrap ((IntKind.i64.wrap ((1 : Int) + (IntKind.i64.wrap (En.bAt a0 (0 : Int))))) - (128 : Int))))) fun (r11 : Int) => (lt (fun (j12b43 : Bool) => (bif j12b43 then (some ((0 : Int), (0 : Int), (4 : Int))) else (some ((IntKind.i64.wrap r11), (IntKind.i64.wrap ((IntKind.i64.wrap ((1 : Int) + (IntKind.i64.wrap (En.bAt a0 (0 : Int))))) - (128 : Int))), (0 : Int))))) fun (kk13 : Bool → Option (Int × Int × Int)) => (req (0 ≤ (1 : Int) ∧ (1 : Int) ≤ (IntKind.i64.wrap ((IntKind.i64.wrap ((1 : Int) + (IntKind.i64.wrap (En.bAt a0 (0 : Int))))) - (128 : Int))) ∧ (IntKind.i64.wrap ((IntKind.i64.wrap ((1 : Int) + (IntKind.i64.wrap (En.bAt a0 (0 : Int))))) - (128 : Int))) ≤ (a0.length : Int)) (opt (f_strings_HasPrefix fu (cut a0 (1 : Int) (IntKind.i64.wrap ((IntKind.i64.wrap ((1 : Int) + (IntKind.i64.wrap (En.bAt a0 (0 : Int))))) - (128 : Int)))) ([0] : List UInt8)) fun (r17 : Bool) => (bif r17 then (kk13 true) else (kk13 (decide (r11 ≥ (9223372036854775808 : Int)))))))))))) else (req (0 ≤ (0 : Int) ∧ (0 : Int) < (a0.length : Int)) (bif (decide ((a0.length : Int) < (IntKind.i64.wrap ((128 : Int) - (IntKind.i64.wrap (En.bAt a0 (0 : Int))))))) then (some ((0 : Int), (0 : Int), (3 : Int))) else (req (0 ≤ (1 : Int) ∧ (1 : Int) ≤ (IntKind.i64.wrap ((128 : Int) - (IntKind.i64.wrap (En.bAt a0 (0 : Int))))) ∧ (IntKind.i64.wrap ((128 : Int) - (IntKind.i64.wrap (En.bAt a0 (0 : Int))))) ≤ (a0.length : Int)) (opt (f_lumref_turned fu (cut a0 (1 : Int) (IntKind.i64.wrap ((128 : Int) - (IntKind.i64.wrap (En.bAt a0 (0 : Int))))))) fun (r23 : (List UInt8)) => (opt (f_lumref_number fu r23) fun (r25 : Int) => (lt (fun (j26b67 : Bool) => (bif j26b67 then (some ((0 : Int), (0 : Int), (4 : Int))) else (some ((IntKind.i64.wrap ((-1 : Int) - (IntKind.i64.wrap r25))), (IntKind.i64.wrap ((128 : Int) - (IntKind.i64.wrap (En.bAt a0 (0 : Int))))), (0 : Int))))) fun (kk27 : Bool → Option (Int × Int × Int)) => (req (0 ≤ (1 : Int) ∧ (1 : Int) ≤ (IntKind.i64.wrap ((128 : Int) - (IntKind.i64.wrap (En.bAt a0 (0 : Int))))) ∧ (IntKind.i64.wrap ((128 : Int) - (IntKind.i64.wrap (En.bAt a0 (0 : Int))))) ≤ (a0.length : Int)) (opt (f_strings_HasPrefix fu (cut a0 (1 : Int) (IntKind.i64.wrap ((128 : Int) - (IntKind.i64.wrap (En.bAt a0 (0 : Int)))))) ([255] : List UInt8)) fun (r31 : Bool) => (bif r31 then (kk27 true) else (kk27 (decide (r25 ≥ (9223372036854775808 : Int))))))))))))))))) fun (kk3 : Bool → Option (Int × Int × Int)) => (req (0 ≤ (0 : Int) ∧ (0 : Int) < (a0.length : Int)) (bif (decide ((En.bAt a0 (0 : Int)) < (119 : Int))) then (kk3 true) else (req (0 ≤ (0 : Int) ∧ (0 : Int) < (a0.length : Int)) (kk3 (decide ((En.bAt a0 (0 : Int)) > (136 : Int)))))))))
set_option maxRecDepth 100000 in
theorem f_lumref_GetInt_ok (fu : Nat) (a0 : (List UInt8)) {r : (Int × Int × Int)} (h : f_lumref_GetInt fu a0 = some r) : FnOk Tryd.prog 21 [(str a0)] [] [] (fun (i : Unit) => { val := (Value.tuple #[(Value.int .i64 r.1), (Value.int .i64 r.2.1), (Value.int .i64 r.2.2)]) }) := by
  unfold f_lumref_GetInt at h
  refine fn_enter Tryd.func21 rfl Tryd.ntmps21 rfl (fun w0 Z0 => ?_)
  refine aw_seq ?_
  refine aw_region ?_
  refine al_val (ov_assign rfl rfl) ?_
  refine al_val (ov_assign rfl rfl) ?_
  refine al_val (ov_assign rfl rfl) ?_
  refine al_nil ?_
  refine aq_then ?_
  refine aw_seq ?_
  refine aw_seq ?_
  refine aw_region ?_
  refine al_val (ov_move rfl rfl) ?_
  refine al_val (ov_strLen Tryd.underlying9 rfl rfl) ?_
  refine al_val (ov_int rfl rfl rfl rfl) ?_
  refine al_nil ?_
  refine aq_then ?_
  refine aw_cond rfl (fun hb1 => ?_) (fun hb1 => ?_)
  · replace h := bif_t hb1 h
    refine aw_seq ?_
    refine aw_region ?_
    refine al_val (ov_assign rfl rfl) ?_
    refine al_val (ov_assign rfl rfl) ?_
    refine al_val (ov_assign rfl rfl) ?_
    refine al_nil ?_
    refine aq_then ?_
    refine aw_ret ?_
    refine aq_then_ret ?_
    obtain rfl := Option.some.inj h
    exact fn_ret () [] [] rfl rfl rfl rfl (res3 rfl rfl rfl rfl) rfl rfl rfl (by decide)
  · replace h := bif_f hb1 h
    refine aw_skip ?_
    refine aq_then ?_
    refine aw_seq ?_
    obtain ⟨kk3, hkk3, h⟩ := lt_some h
    refine aw_seq_join (ι := Bool) (fun i => (memOf w0 Z0 [] [] [])) (fun i => (tab [(0, (str a0)), (19, (Value.bool i))])) (fun i => kk3 i = some r) ?_ ?_
    · rintro j2b19 h
      have h : kk3 j2b19 = some r := h
      rw [hkk3] at h
      dsimp only at h
      clear hkk3
      refine aw_show (m := (memOf w0 Z0 [] [] [])) (S := (tab [(0, (str a0)), (19, (Value.bool j2b19))])) ?_
      refine aw_cond rfl (fun hb4 => ?_) (fun hb4 => ?_)
      · replace h := bif_t hb4 h
        refine aw_seq ?_
        refine aw_region ?_
        refine al_val (ov_assign rfl rfl) ?_
        refine al_val (ov_assign rfl rfl) ?_
        refine al_val (ov_assign rfl rfl) ?_
        refine al_nil ?_
        refine aq_then ?_
        refine aw_ret ?_
        refine aq_then_ret ?_
        obtain rfl := Option.some.inj h
        exact fn_ret () [] [] rfl rfl rfl rfl (res3 rfl rfl rfl rfl) rfl rfl rfl (by decide)
      · replace h := bif_f hb4 h
        refine aw_skip ?_
        refine aq_then ?_
        refine aw_seq ?_
        refine aw_seq ?_
        refine aw_region ?_
        refine al_val (ov_move rfl rfl) ?_
        obtain ⟨hc5, h⟩ := req_some h
        refine al_val (ov_strIdx hc5.1 hc5.2 Tryd.underlying9 rfl rfl rfl) ?_
        refine al_val (ov_int rfl rfl rfl rfl) ?_
        refine al_nil ?_
        refine aq_then ?_
        refine aw_cond rfl (fun hb6 => ?_) (fun hb6 => ?_)
        · replace h := bif_t hb6 h
          refine aw_seq ?_
          refine aw_region ?_
          refine al_val (ov_move rfl rfl) ?_
          obtain ⟨hc7, h⟩ := req_some h
          refine al_val (ov_strIdx hc7.1 hc7.2 Tryd.underlying9 rfl rfl rfl) ?_
          refine al_val (ov_convInt (by rw [Tryd.underlying5]; rfl) Tryd.underlying3 rfl rfl) ?_
          refine al_val (ov_int rfl rfl rfl rfl) ?_
          refine al_val (ov_int rfl rfl rfl rfl) ?_
          refine al_val (ov_assign rfl rfl) ?_
          refine al_nil ?_
          refine aq_then ?_
          refine aw_seq ?_
          refine aw_seq ?_
          refine aw_region ?_
          refine al_val (ov_move rfl rfl) ?_
          refine al_val (ov_strLen Tryd.underlying9 rfl rfl) ?_
          refine al_val (ov_move rfl rfl) ?_
          refine al_val (ov_int rfl rfl rfl rfl) ?_
          refine al_nil ?_
          refine aq_then ?_
          refine aw_cond rfl (fun hb8 => ?_) (fun hb8 => ?_)
          · replace h := bif_t hb8 h
            refine aw_seq ?_
            refine aw_region ?_
            refine al_val (ov_assign rfl rfl) ?_
            refine al_val (ov_assign rfl rfl) ?_
            refine al_val (ov_assign rfl rfl) ?_
            refine al_nil ?_
            refine aq_then ?_
            refine aw_ret ?_
            refine aq_then_ret ?_
            refine aq_then_ret ?_
            obtain rfl := Option.some.inj h
            exact fn_ret () [] [] rfl rfl rfl rfl (res3 rfl rfl rfl rfl) rfl rfl rfl (by decide)
          · replace h := bif_f hb8 h
            refine aw_skip ?_
            refine aq_then ?_
            refine aw_seq ?_
            refine aw_region ?_
            refine al_val (ov_move rfl rfl) ?_
            refine al_val (ov_move rfl rfl) ?_
            obtain ⟨hc9, h⟩ := req_some h
            refine al_val (ov_strCut hc9.1 hc9.2.1 hc9.2.2 Tryd.underlying9 rfl rfl rfl rfl) ?_
            obtain ⟨r11, hc10, h⟩ := opt_some h
            refine al_call (vs := [(str (cut a0 (1 : Int) (IntKind.i64.wrap ((IntKind.i64.wrap ((1 : Int) + (IntKind.i64.wrap (En.bAt a0 (0 : Int))))) - (128 : Int)))))]) (f_lumref_number_ok fu (cut a0 (1 : Int) (IntKind.i64.wrap ((IntKind.i64.wrap ((1 : Int) + (IntKind.i64.wrap (En.bAt a0 (0 : Int))))) - (128 : Int)))) hc10) [] [] [] pre_nil rfl (by simp) (by decide) (.inl rfl) rfl Tryd.func47 rfl rfl rfl (fun _ => ?_)
            refine al_val (ov_assign rfl rfl) ?_
            refine al_nil ?_
            refine aq_then ?_
            refine aw_seq ?_
            obtain ⟨kk13, hkk13, h⟩ := lt_some h
            refine aw_seq_join (ι := Bool) (fun i => (memOf w0 Z0 [] [] [])) (fun i => (tab [(5, (Value.int .i64 (IntKind.i64.wrap ((IntKind.i64.wrap ((1 : Int) + (IntKind.i64.wrap (En.bAt a0 (0 : Int))))) - (128 : Int))))), (6, (Value.int .u64 r11)), (43, (Value.bool i))])) (fun i => kk13 i = some r) ?_ ?_
            · rintro j12b43 h
              have h : kk13 j12b43 = some r := h
              rw [hkk13] at h
              dsimp only at h
              clear hkk13
              refine aw_show (m := (memOf w0 Z0 [] [] [])) (S := (tab [(5, (Value.int .i64 (IntKind.i64.wrap ((IntKind.i64.wrap ((1 : Int) + (IntKind.i64.wrap (En.bAt a0 (0 : Int))))) - (128 : Int))))), (6, (Value.int .u64 r11)), (43, (Value.bool j12b43))])) ?_
              refine aw_cond rfl (fun hb14 => ?_) (fun hb14 => ?_)
              · replace h := bif_t hb14 h
                refine aw_seq ?_
                refine aw_region ?_
                refine al_val (ov_assign rfl rfl) ?_
                refine al_val (ov_assign rfl rfl) ?_
                refine al_val (ov_assign rfl rfl) ?_
                refine al_nil ?_
                refine aq_then ?_
                refine aw_ret ?_
                refine aq_then_ret ?_
                refine aq_then_ret ?_
                obtain rfl := Option.some.inj h
                exact fn_ret () [] [] rfl rfl rfl rfl (res3 rfl rfl rfl rfl) rfl rfl rfl (by decide)
              · replace h := bif_f hb14 h
                refine aw_skip ?_
                refine aq_then ?_
                refine aw_seq ?_
                refine aw_region ?_
                refine al_val (ov_move rfl rfl) ?_
                refine al_val (ov_convInt (by rw [Tryd.underlying31]; rfl) Tryd.underlying3 rfl rfl) ?_
                refine al_val (ov_move rfl rfl) ?_
                refine al_val (ov_assign rfl rfl) ?_
                refine al_val (ov_assign rfl rfl) ?_
                refine al_val (ov_assign rfl rfl) ?_
                refine al_nil ?_
                refine aq_then ?_
                refine aw_ret ?_
                refine aq_then_ret ?_
                obtain rfl := Option.some.inj h
                exact fn_ret () [] [] rfl rfl rfl rfl (res3 rfl rfl rfl rfl) rfl rfl rfl (by decide)
            · clear hkk13
              refine aw_region ?_
              refine al_val (ov_move rfl rfl) ?_
              refine al_val (ov_move rfl rfl) ?_
              obtain ⟨hc15, h⟩ := req_some h
              refine al_val (ov_strCut hc15.1 hc15.2.1 hc15.2.2 Tryd.underlying9 rfl rfl rfl rfl) ?_
              obtain ⟨r17, hc16, h⟩ := opt_some h
              refine al_call (vs := [(str (cut a0 (1 : Int) (IntKind.i64.wrap ((IntKind.i64.wrap ((1 : Int) + (IntKind.i64.wrap (En.bAt a0 (0 : Int))))) - (128 : Int))))), (str ([0] : List UInt8))]) (f_strings_HasPrefix_ok fu (cut a0 (1 : Int) (IntKind.i64.wrap ((IntKind.i64.wrap ((1 : Int) + (IntKind.i64.wrap (En.bAt a0 (0 : Int))))) - (128 : Int)))) ([0] : List UInt8) hc16) [] [] [] pre_nil rfl (by simp) (by decide) (.inl rfl) rfl Tryd.func46 rfl rfl rfl (fun _ => ?_)
              refine al_val (ov_move rfl rfl) ?_
              refine al_caseB 40 rfl (fun hb18 => ?_) (fun hb18 => ?_)
              · replace h := bif_t hb18 h
                refine al_skip ?_
                refine al_skip ?_
                refine al_val (ov_pick_t rfl rfl rfl) ?_
                refine al_nil ?_
                exact aq_join true h (fun w a hm hs => norm hm hs [] [] [(5, (Value.int .i64 (IntKind.i64.wrap ((IntKind.i64.wrap ((1 : Int) + (IntKind.i64.wrap (En.bAt a0 (0 : Int))))) - (128 : Int))))), (6, (Value.int .u64 r11)), (43, (Value.bool true))] (by decide) ⟨rfl, rfl, rfl, trivial⟩)
              · replace h := bif_f hb18 h
                refine al_val (ov_move rfl rfl) ?_
                refine al_val (ov_int rfl rfl rfl rfl) ?_
                refine al_val (ov_pick_f rfl rfl rfl) ?_
                refine al_nil ?_
                exact aq_join (decide (r11 ≥ (9223372036854775808 : Int))) h (fun w a hm hs => norm hm hs [] [] [(5, (Value.int .i64 (IntKind.i64.wrap ((IntKind.i64.wrap ((1 : Int) + (IntKind.i64.wrap (En.bAt a0 (0 : Int))))) - (128 : Int))))), (6, (Value.int .u64 r11)), (43, (Value.bool (decide (r11 ≥ (9223372036854775808 : Int)))))] (by decide) ⟨rfl, rfl, rfl, trivial⟩)
        · replace h := bif_f hb6 h
          refine aw_skip ?_
          refine aq_then ?_
          refine aw_seq ?_
          refine aw_region ?_
          refine al_val (ov_move rfl rfl) ?_
          obtain ⟨hc19, h⟩ := req_some h
          refine al_val (ov_strIdx hc19.1 hc19.2 Tryd.underlying9 rfl rfl rfl) ?_
          refine al_val (ov_convInt (by rw [Tryd.underlying5]; rfl) Tryd.underlying3 rfl rfl) ?_
          refine al_val (ov_int rfl rfl rfl rfl) ?_
          refine al_val (ov_assign rfl rfl) ?_
          refine al_nil ?_
          refine aq_then ?_
          refine aw_seq ?_
          refine aw_seq ?_
          refine aw_region ?_
          refine al_val (ov_move rfl rfl) ?_
          refine al_val (ov_strLen Tryd.underlying9 rfl rfl) ?_
          refine al_val (ov_move rfl rfl) ?_
          refine al_val (ov_int rfl rfl rfl rfl) ?_
          refine al_nil ?_
          refine aq_then ?_
          refine aw_cond rfl (fun hb20 => ?_) (fun hb20 => ?_)
          · replace h := bif_t hb20 h
            refine aw_seq ?_
            refine aw_region ?_
            refine al_val (ov_assign rfl rfl) ?_
            refine al_val (ov_assign rfl rfl) ?_
            refine al_val (ov_assign rfl rfl) ?_
            refine al_nil ?_
            refine aq_then ?_
            refine aw_ret ?_
            refine aq_then_ret ?_
            obtain rfl := Option.some.inj h
            exact fn_ret () [] [] rfl rfl rfl rfl (res3 rfl rfl rfl rfl) rfl rfl rfl (by decide)
          · replace h := bif_f hb20 h
            refine aw_skip ?_
            refine aq_then ?_
            refine aw_seq ?_
            refine aw_region ?_
            refine al_val (ov_move rfl rfl) ?_
            refine al_val (ov_move rfl rfl) ?_
            obtain ⟨hc21, h⟩ := req_some h
            refine al_val (ov_strCut hc21.1 hc21.2.1 hc21.2.2 Tryd.underlying9 rfl rfl rfl rfl) ?_
            obtain ⟨r23, hc22, h⟩ := opt_some h
            refine al_call (vs := [(str (cut a0 (1 : Int) (IntKind.i64.wrap ((128 : Int) - (IntKind.i64.wrap (En.bAt a0 (0 : Int)))))))]) (f_lumref_turned_ok fu (cut a0 (1 : Int) (IntKind.i64.wrap ((128 : Int) - (IntKind.i64.wrap (En.bAt a0 (0 : Int)))))) hc22) [] [] [] pre_nil rfl (by simp) (by decide) (.inl rfl) rfl Tryd.func51 rfl rfl rfl (fun _ => ?_)
            obtain ⟨r25, hc24, h⟩ := opt_some h
            refine al_call (vs := [(str r23)]) (f_lumref_number_ok fu r23 hc24) [] [] [] pre_nil rfl (by simp) (by decide) (.inl rfl) rfl Tryd.func47 rfl rfl rfl (fun _ => ?_)
            refine al_val (ov_assign rfl rfl) ?_
            refine al_nil ?_
            refine aq_then ?_
            refine aw_seq ?_
            obtain ⟨kk27, hkk27, h⟩ := lt_some h
            refine aw_seq_join (ι := Bool) (fun i => (memOf w0 Z0 [] [] [])) (fun i => (tab [(7, (Value.int .i64 (IntKind.i64.wrap ((128 : Int) - (IntKind.i64.wrap (En.bAt a0 (0 : Int))))))), (8, (Value.int .u64 r25)), (67, (Value.bool i))])) (fun i => kk27 i = some r) ?_ ?_
            · rintro j26b67 h
              have h : kk27 j26b67 = some r := h
              rw [hkk27] at h
              dsimp only at h
              clear hkk27
              refine aw_show (m := (memOf w0 Z0 [] [] [])) (S := (tab [(7, (Value.int .i64 (IntKind.i64.wrap ((128 : Int) - (IntKind.i64.wrap (En.bAt a0 (0 : Int))))))), (8, (Value.int .u64 r25)), (67, (Value.bool j26b67))])) ?_
              refine aw_cond rfl (fun hb28 => ?_) (fun hb28 => ?_)
              · replace h := bif_t hb28 h
                refine aw_seq ?_
                refine aw_region ?_
                refine al_val (ov_assign rfl rfl) ?_
                refine al_val (ov_assign rfl rfl) ?_
                refine al_val (ov_assign rfl rfl) ?_
                refine al_nil ?_
                refine aq_then ?_
                refine aw_ret ?_
                refine aq_then_ret ?_
                obtain rfl := Option.some.inj h
                exact fn_ret () [] [] rfl rfl rfl rfl (res3 rfl rfl rfl rfl) rfl rfl rfl (by decide)
              · replace h := bif_f hb28 h
                refine aw_skip ?_
                refine aq_then ?_
                refine aw_seq ?_
                refine aw_region ?_
                refine al_val (ov_move rfl rfl) ?_
                refine al_val (ov_convInt (by rw [Tryd.underlying31]; rfl) Tryd.underlying3 rfl rfl) ?_
                refine al_val (ov_int rfl rfl rfl rfl) ?_
                refine al_val (ov_move rfl rfl) ?_
                refine al_val (ov_assign rfl rfl) ?_
                refine al_val (ov_assign rfl rfl) ?_
                refine al_val (ov_assign rfl rfl) ?_
                refine al_nil ?_
                refine aq_then ?_
                refine aw_ret ?_
                obtain rfl := Option.some.inj h
                exact fn_ret () [] [] rfl rfl rfl rfl (res3 rfl rfl rfl rfl) rfl rfl rfl (by decide)
            · clear hkk27
              refine aw_region ?_
              refine al_val (ov_move rfl rfl) ?_
              refine al_val (ov_move rfl rfl) ?_
              obtain ⟨hc29, h⟩ := req_some h
              refine al_val (ov_strCut hc29.1 hc29.2.1 hc29.2.2 Tryd.underlying9 rfl rfl rfl rfl) ?_
              obtain ⟨r31, hc30, h⟩ := opt_some h
              refine al_call (vs := [(str (cut a0 (1 : Int) (IntKind.i64.wrap ((128 : Int) - (IntKind.i64.wrap (En.bAt a0 (0 : Int))))))), (str ([255] : List UInt8))]) (f_strings_HasPrefix_ok fu (cut a0 (1 : Int) (IntKind.i64.wrap ((128 : Int) - (IntKind.i64.wrap (En.bAt a0 (0 : Int)))))) ([255] : List UInt8) hc30) [] [] [] pre_nil rfl (by simp) (by decide) (.inl rfl) rfl Tryd.func46 rfl rfl rfl (fun _ => ?_)
              refine al_val (ov_move rfl rfl) ?_
              refine al_caseB 64 rfl (fun hb32 => ?_) (fun hb32 => ?_)
              · replace h := bif_t hb32 h
                refine al_skip ?_
                refine al_skip ?_
                refine al_val (ov_pick_t rfl rfl rfl) ?_
                refine al_nil ?_
                exact aq_join true h (fun w a hm hs => norm hm hs [] [] [(7, (Value.int .i64 (IntKind.i64.wrap ((128 : Int) - (IntKind.i64.wrap (En.bAt a0 (0 : Int))))))), (8, (Value.int .u64 r25)), (67, (Value.bool true))] (by decide) ⟨rfl, rfl, rfl, trivial⟩)
              · replace h := bif_f hb32 h
                refine al_val (ov_move rfl rfl) ?_
                refine al_val (ov_int rfl rfl rfl rfl) ?_
                refine al_val (ov_pick_f rfl rfl rfl) ?_
                refine al_nil ?_
                exact aq_join (decide (r25 ≥ (9223372036854775808 : Int))) h (fun w a hm hs => norm hm hs [] [] [(7, (Value.int .i64 (IntKind.i64.wrap ((128 : Int) - (IntKind.i64.wrap (En.bAt a0 (0 : Int))))))), (8, (Value.int .u64 r25)), (67, (Value.bool (decide (r25 ≥ (9223372036854775808 : Int)))))] (by decide) ⟨rfl, rfl, rfl, trivial⟩)
    · clear hkk3
      refine aw_region ?_
      refine al_val (ov_move rfl rfl) ?_
      obtain ⟨hc33, h⟩ := req_some h
      refine al_val (ov_strIdx hc33.1 hc33.2 Tryd.underlying9 rfl rfl rfl) ?_
      refine al_val (ov_int rfl rfl rfl rfl) ?_
      refine al_val (ov_move rfl rfl) ?_
      refine al_caseB 15 rfl (fun hb34 => ?_) (fun hb34 => ?_)
      · replace h := bif_t hb34 h
        refine al_skip ?_
        refine al_skip ?_
        refine al_skip ?_
        refine al_val (ov_pick_t rfl rfl rfl) ?_
        refine al_nil ?_
        exact aq_join true h (fun w a hm hs => norm hm hs [] [] [(0, (str a0)), (19, (Value.bool true))] (by decide) ⟨rfl, rfl, trivial⟩)
      · replace h := bif_f hb34 h
        refine al_val (ov_move rfl rfl) ?_
        obtain ⟨hc35, h⟩ := req_some h
        refine al_val (ov_strIdx hc35.1 hc35.2 Tryd.underlying9 rfl rfl rfl) ?_
        refine al_val (ov_int rfl rfl rfl rfl) ?_
        refine al_val (ov_pick_f rfl rfl rfl) ?_
        refine al_nil ?_
        exact aq_join (decide ((En.bAt a0 (0 : Int)) > (136 : Int))) h (fun w a hm hs => norm hm hs [] [] [(0, (str a0)), (19, (Value.bool (decide ((En.bAt a0 (0 : Int)) > (136 : Int)))))] (by decide) ⟨rfl, rfl, trivial⟩)
-- STUCK (encoding/binary.bigEndian).AppendUint64: binary.go:222: call: append to data
def f_strings_TrimLeft (fu : Nat) (a0 a1 : List UInt8) : Option (List UInt8) := match a1 with | [c] => req (c.toNat < 128) (some (Lib.trimLeftB a0 c)) | _ => none
theorem f_strings_TrimLeft_ok (fu : Nat) (a0 a1 : List UInt8) {r : List UInt8} (h : f_strings_TrimLeft fu a0 a1 = some r) : FnOk Tryd.prog 75 [(str a0), (str a1)] [] [] (fun (i : Unit) => { val := (str r) }) := by
  unfold f_strings_TrimLeft at h
  split at h
  · rename_i c
    obtain ⟨hc, h⟩ := req_some h
    obtain rfl := Option.some.inj h
    refine fnok_pure fun w => ?_
    exact (Tryd.strings_TrimLeft_one ⟨a0.toArray⟩ c hc w).mono fun e w' h9 => ⟨by simpa [str] using h9.1, by rw [h9.2]; exact Below.refl _ _⟩
  · cases h
def f_binary_BEAppendUint64_nil (fu : Nat) (a0 : Unit) (a2 : Int) : Option (List UInt8) := req (0 ≤ a2 ∧ a2 < 18446744073709551616) (some (Lib.beBytes 8 a2.toNat))
theorem f_binary_BEAppendUint64_nil_ok (fu : Nat) (a0 : Unit) (a2 : Int) {r : List UInt8} (h : f_binary_BEAppendUint64_nil fu a0 a2 = some r) : FnOk Tryd.prog 74 [(ag []), (Value.slice none 0 0), (Value.int .u64 a2)] [] [] (fun (i : Value) => { val := i, own := [(oRow i 5 tyU8 r)] }) := by
  unfold f_binary_BEAppendUint64_nil at h
  obtain ⟨hc, h⟩ := req_some h
  obtain rfl := Option.some.inj h
  obtain ⟨n, rfl⟩ : ∃ n : Nat, a2 = n := ⟨a2.toNat, by omega⟩
  refine fnok_own fun w => ?_
  refine (Tryd.binary_BE_AppendUint64 w.heap.size 0 n (by omega) (.slice none 0 0) [] w ⟨rfl, .inl ⟨rfl, rfl⟩⟩ (Nat.le_refl _) (by omega)).mono fun ex w' h9 => ?_
  obtain ⟨v, h1, h2, h3⟩ := h9
  refine ⟨v, _, h1, ?_, fun Z => u8_row _, h3⟩
  rw [Lib.beBytes_length]
  show World.ownsRow _ _ _ 1 _ _ _
  simpa using h2
def f_num_digits (fu : Nat) (a0 : Int) : Option (List UInt8) := (opt (f_binary_BEAppendUint64_nil fu () a0) fun (r2 : (List UInt8)) => (opt (f_strings_TrimLeft fu r2 ([0] : List UInt8)) fun (r5 : (List UInt8)) => (some r5)))
set_option maxRecDepth 100000 in
theorem f_num_digits_ok (fu : Nat) (a0 : Int) {r : (List UInt8)} (h : f_num_digits fu a0 = some r) : FnOk Tryd.prog 48 [(Value.int .u64 a0)] [] [] (fun (i : Unit) => { val := (str r) }) := by
  unfold f_num_digits at h
  refine fn_enter Tryd.func48 rfl Tryd.ntmps48 rfl (fun w0 Z0 => ?_)
  refine aw_seq ?_
  refine aw_region ?_
  refine al_val (ov_assign rfl rfl) ?_
  refine al_nil ?_
  refine aq_then ?_
  refine aw_seq ?_
  refine aw_region ?_
  refine al_val (ov_load0 Tryd.underlying110 sz110 rfl rfl rfl) ?_
  refine al_val (ov_move rfl rfl) ?_
  obtain ⟨r2, hc1, h⟩ := opt_some h
  refine al_call (vs := [(ag []), (Value.slice none 0 0), (Value.int .u64 a0)]) (f_binary_BEAppendUint64_nil_ok fu () a0 hc1) [] [] [] pre_nil rfl (by simp) (by decide) (.inl rfl) rfl Tryd.func74 rfl rfl rfl (fun v3 => ?_)
  refine al_val (ov_toStrR 0 rfl rfl Tryd.underlying70 Tryd.underlying5 Tryd.underlying9 rfl) ?_
  refine al_val (ov_assign rfl rfl) ?_
  refine al_nil ?_
  refine aq_then ?_
  refine aw_seq ?_
  refine aw_region ?_
  refine al_val (ov_move rfl rfl) ?_
  obtain ⟨r5, hc4, h⟩ := opt_some h
  refine al_call (vs := [(str r2), (str ([0] : List UInt8))]) (f_strings_TrimLeft_ok fu r2 ([0] : List UInt8) hc4) [] [] [0] pre_nil rfl (by simp) (by decide) (.inl rfl) rfl Tryd.func75 rfl rfl rfl (fun _ => ?_)
  refine al_val (ov_assign rfl rfl) ?_
  refine al_nil ?_
  refine aq_then ?_
  refine aw_ret ?_
  obtain rfl := Option.some.inj h
  exact fn_ret () [] [] rfl rfl rfl rfl (res1 rfl rfl) rfl rfl rfl (by decide)
def f_num_PutInt (fu : Nat) (a0 : Int) : Option (List UInt8) := (bif (decide (a0 < (0 : Int))) then (opt (f_num_digits fu (IntKind.u64.wrap (IntKind.i64.wrap ((-1 : Int) - a0)))) fun (r3 : (List UInt8)) => (req (0 ≤ (IntKind.u8.wrap (IntKind.i64.wrap ((127 : Int) - (r3.length : Int)))) ∧ (IntKind.u8.wrap (IntKind.i64.wrap ((127 : Int) - (r3.length : Int)))) ≤ 255) (opt (f_num_turned fu r3) fun (r7 : (List UInt8)) => (req (([(UInt8.ofNat ((IntKind.u8.wrap (IntKind.i64.wrap ((127 : Int) - (r3.length : Int))))).toNat)]).length + r7.length ≤ 9223372036854775807) (some (([(UInt8.ofNat ((IntKind.u8.wrap (IntKind.i64.wrap ((127 : Int) - (r3.length : Int))))).toNat)]) ++ r7)))))) else (opt (f_num_digits fu (IntKind.u64.wrap a0)) fun (r10 : (List UInt8)) => (req (0 ≤ (IntKind.u8.wrap (IntKind.i64.wrap ((128 : Int) + (r10.length : Int)))) ∧ (IntKind.u8.wrap (IntKind.i64.wrap ((128 : Int) + (r10.length : Int)))) ≤ 255) (req (([(UInt8.ofNat ((IntKind.u8.wrap (IntKind.i64.wrap ((128 : Int) + (r10.length : Int))))).toNat)]).length + r10.length ≤ 9223372036854775807) (some (([(UInt8.ofNat ((IntKind.u8.wrap (IntKind.i64.wrap ((128 : Int) + (r10.length : Int))))).toNat)]) ++ r10))))))
set_option maxRecDepth 100000 in
theorem f_num_PutInt_ok (fu : Nat) (a0 : Int) {r : (List UInt8)} (h : f_num_PutInt fu a0 = some r) : FnOk Tryd.prog 22 [(Value.int .i64 a0)] [] [] (fun (i : Unit) => { val := (str r) }) := by
  unfold f_num_PutInt at h
  refine fn_enter Tryd.func22 rfl Tryd.ntmps22 rfl (fun w0 Z0 => ?_)
  refine aw_seq ?_
  refine aw_region ?_
  refine al_val (ov_assign rfl rfl) ?_
  refine al_nil ?_
  refine aq_then ?_
  refine aw_seq ?_
  refine aw_seq ?_
  refine aw_region ?_
  refine al_val (ov_move rfl rfl) ?_
  refine al_val (ov_int rfl rfl rfl rfl) ?_
  refine al_nil ?_
  refine aq_then ?_
  refine aw_cond rfl (fun hb1 => ?_) (fun hb1 => ?_)
  · replace h := bif_t hb1 h
    refine aw_seq ?_
    refine aw_region ?_
    refine al_val (ov_move rfl rfl) ?_
    refine al_val (ov_int rfl rfl rfl rfl) ?_
    refine al_val (ov_convInt (by rw [Tryd.underlying3]; rfl) Tryd.underlying31 rfl rfl) ?_
    obtain ⟨r3, hc2, h⟩ := opt_some h
    refine al_call (vs := [(Value.int .u64 (IntKind.u64.wrap (IntKind.i64.wrap ((-1 : Int) - a0))))]) (f_num_digits_ok fu (IntKind.u64.wrap (IntKind.i64.wrap ((-1 : Int) - a0))) hc2) [] [] [] pre_nil rfl (by simp) (by decide) (.inl rfl) rfl Tryd.func48 rfl rfl rfl (fun _ => ?_)
    refine al_val (ov_assign rfl rfl) ?_
    refine al_nil ?_
    refine aq_then ?_
    refine aw_seq ?_
    obtain ⟨hc5, h⟩ := req_some h
    obtain ⟨r7, hc6, h⟩ := opt_some h
    obtain ⟨hc8, h⟩ := req_some h
    refine aw_region_draw 9 [(11, (fun u => fEq u (str r3))), (12, (fun u => fEq u (Value.int .i64 (r3.length : Int)))), (13, (fun u => fEq u (Value.int .i64 (IntKind.i64.wrap ((127 : Int) - (r3.length : Int)))))), (14, (fun u => fEq u (Value.int .u8 (IntKind.u8.wrap (IntKind.i64.wrap ((127 : Int) - (r3.length : Int))))))), (15, (fun v4 => (fDat (tyList tyU8) [v4] [(UInt8.ofNat ((IntKind.u8.wrap (IntKind.i64.wrap ((127 : Int) - (r3.length : Int))))).toNat)]))), (16, (fun u => fEq u (str [(UInt8.ofNat ((IntKind.u8.wrap (IntKind.i64.wrap ((127 : Int) - (r3.length : Int))))).toNat)]))), (17, (fun u => fEq u (str r3))), (18, (fun u => fEq u (str r7))), (19, (fun u => fEq u (str (([(UInt8.ofNat ((IntKind.u8.wrap (IntKind.i64.wrap ((127 : Int) - (r3.length : Int))))).toNat)]) ++ r7))))] (tab [(2, (str ([] : List UInt8))), (3, (str r3))]) mixed (by kernel_rfl) rfl rfl rfl (fun a hs => hs.tab _ (allT_mem ⟨rfl, rfl, trivial⟩)) ⟨⟨rfl, ld_val (ov_move rfl rfl)⟩, ⟨rfl, ld_eq (j := 0) rfl rfl (ld_val (ov_strLen Tryd.underlying9 rfl rfl))⟩, ⟨rfl, ld_eq (j := 1) rfl rfl (ld_val (ov_int rfl rfl rfl rfl))⟩, ⟨rfl, ld_eq (j := 2) rfl rfl (ld_val (ov_convInt (by rw [Tryd.underlying3]; rfl) Tryd.underlying5 rfl rfl))⟩, ⟨rfl, ld_eq (j := 3) rfl rfl (ld_buildSlice (τ := tyU8) (e := 5) (k := 1) (cs := [(Value.int .u8 (IntKind.u8.wrap (IntKind.i64.wrap ((127 : Int) - (r3.length : Int)))))]) (xs := [(UInt8.ofNat ((IntKind.u8.wrap (IntKind.i64.wrap ((127 : Int) - (r3.length : Int))))).toNat)]) rfl (by decide) rfl (fun w a hm hs => ⟨([(Value.int .u8 (IntKind.u8.wrap (IntKind.i64.wrap ((127 : Int) - (r3.length : Int)))))]).toArray, rfl, by simp only [List.map_toArray, List.map_cons, List.map_nil, hs.ev (x := .tmp 14) rfl]; exact run_bs [(Value.int .u8 (IntKind.u8.wrap (IntKind.i64.wrap ((127 : Int) - (r3.length : Int)))))] [(Value.int .u8 (IntKind.u8.wrap (IntKind.i64.wrap ((127 : Int) - (r3.length : Int)))))] Tryd.underlying70 to5 rfl rfl (bs_cons (l := [(Value.int .u8 (IntKind.u8.wrap (IntKind.i64.wrap ((127 : Int) - (r3.length : Int)))))]) (cs := []) (cv_rfl rfl) rfl bs_nil) hm⟩) (fun hm => ⟨_, _, rfl, (fun _ => u8_rep hc5) hm, rfl⟩) rfl)⟩, ⟨rfl, ld_fact (j := 4) rfl rfl (fun v4 => ld_val (ov_toStr 0 rfl rfl Tryd.underlying70 Tryd.underlying5 Tryd.underlying9 rfl))⟩, ⟨rfl, ld_val (ov_move rfl rfl)⟩, ⟨rfl, ld_eq (j := 6) rfl rfl (ld_callV (vs := [(str r3)]) (f_num_turned_ok fu r3 hc6) [] pre_nil rfl Tryd.func50 rfl rfl rfl)⟩, ⟨rfl, ld_eq (j := 5) rfl rfl (ld_eq (j := 7) rfl rfl (ld_val (ov_strAdd hc8 rfl rfl rfl)))⟩, trivial⟩ ?_
    refine tl_eq 8 rfl ?_
    refine tl_done ?_
    refine al_val (ov_assign rfl rfl) ?_
    refine al_nil ?_
    refine aq_then ?_
    refine aw_ret ?_
    refine aq_then_ret ?_
    obtain rfl := Option.some.inj h
    exact fn_ret () [] [] rfl rfl rfl rfl (res1 rfl rfl) rfl rfl rfl (by decide)
  · replace h := bif_f hb1 h
    refine aw_skip ?_
    refine aq_then ?_
    refine aw_seq ?_
    refine aw_region ?_
    refine al_val (ov_move rfl rfl) ?_
    refine al_val (ov_convInt (by rw [Tryd.underlying3]; rfl) Tryd.underlying31 rfl rfl) ?_
    obtain ⟨r10, hc9, h⟩ := opt_some h
    refine al_call (vs := [(Value.int .u64 (IntKind.u64.wrap a0))]) (f_num_digits_ok fu (IntKind.u64.wrap a0) hc9) [] [] [] pre_nil rfl (by simp) (by decide) (.inl rfl) rfl Tryd.func48 rfl rfl rfl (fun _ => ?_)
    refine al_val (ov_assign rfl rfl) ?_
    refine al_nil ?_
    refine aq_then ?_
    refine aw_seq ?_
    refine aw_region ?_
    refine al_val (ov_move rfl rfl) ?_
    refine al_val (ov_strLen Tryd.underlying9 rfl rfl) ?_
    refine al_val (ov_int rfl rfl rfl rfl) ?_
    refine al_val (ov_convInt (by rw [Tryd.underlying3]; rfl) Tryd.underlying5 rfl rfl) ?_
    obtain ⟨hc12, h⟩ := req_some h
    refine al_buildSlice (τ := tyU8) (e := 5) (k := 1) (sz := 0) (by_ := 0) (z := undef) (cs := [(Value.int .u8 (IntKind.u8.wrap (IntKind.i64.wrap ((128 : Int) + (r10.length : Int)))))]) (xs := [(UInt8.ofNat ((IntKind.u8.wrap (IntKind.i64.wrap ((128 : Int) + (r10.length : Int))))).toNat)]) rfl (by decide) (fun w a hm hs => ⟨([(Value.int .u8 (IntKind.u8.wrap (IntKind.i64.wrap ((128 : Int) + (r10.length : Int)))))]).toArray, rfl, by simp only [List.map_toArray, List.map_cons, List.map_nil, hs.ev (x := .tmp 26) rfl]; exact run_bs [(Value.int .u8 (IntKind.u8.wrap (IntKind.i64.wrap ((128 : Int) + (r10.length : Int)))))] [(Value.int .u8 (IntKind.u8.wrap (IntKind.i64.wrap ((128 : Int) + (r10.length : Int)))))] Tryd.underlying70 to5 rfl rfl (bs_cons (l := [(Value.int .u8 (IntKind.u8.wrap (IntKind.i64.wrap ((128 : Int) + (r10.length : Int)))))]) (cs := []) (cv_rfl rfl) rfl bs_nil) hm⟩) (fun hm => ⟨_, _, rfl, (fun _ => u8_rep hc12) hm, rfl⟩) rfl (fun v11 => ?_)
    refine al_val (ov_toStrR 0 rfl rfl Tryd.underlying70 Tryd.underlying5 Tryd.underlying9 rfl) ?_
    refine al_val (ov_move rfl rfl) ?_
    obtain ⟨hc13, h⟩ := req_some h
    refine al_val (ov_strAdd hc13 rfl rfl rfl) ?_
    refine al_val (ov_assign rfl rfl) ?_
    refine al_nil ?_
    refine aq_then ?_
    refine aw_ret ?_
    obtain rfl := Option.some.inj h
    exact fn_ret () [] [] rfl rfl rfl rfl (res1 rfl rfl) rfl rfl rfl (by decide)
def f_lumref_digits : Nat → Int → Option (List UInt8)
  | 0, _ => none
  | fu + 1, a0 => (bif (a0 == (0 : Int)) then (some ([] : List UInt8)) else (opt (f_lumref_digits fu (IntKind.u64.wrap ((a0).tdiv (256 : Int)))) fun (r3 : (List UInt8)) => (req (0 ≤ (IntKind.u8.wrap ((a0).tmod (256 : Int))) ∧ (IntKind.u8.wrap ((a0).tmod (256 : Int))) ≤ 255) (req (r3.length + ([(UInt8.ofNat ((IntKind.u8.wrap ((a0).tmod (256 : Int)))).toNat)]).length ≤ 9223372036854775807) (some (r3 ++ ([(UInt8.ofNat ((IntKind.u8.wrap ((a0).tmod (256 : Int)))).toNat)])))))))
set_option maxRecDepth 100000 in
theorem f_lumref_digits_ok (fu : Nat) (a0 : Int) {r : (List UInt8)} (h : f_lumref_digits fu a0 = some r) : FnOk Tryd.prog 49 [(Value.int .u64 a0)] [] [] (fun (i : Unit) => { val := (str r) }) := by
  cases fu with
  | zero => rw [f_lumref_digits] at h; cases h
  | succ fu =>
    rw [f_lumref_digits] at h
    refine fn_enter Tryd.func49 rfl Tryd.ntmps49 rfl (fun w0 Z0 => ?_)
    refine aw_seq ?_
    refine aw_region ?_
    refine al_val (ov_assign rfl rfl) ?_
    refine al_nil ?_
    refine aq_then ?_
    refine aw_seq ?_
    refine aw_seq ?_
    refine aw_region ?_
    refine al_val (ov_move rfl rfl) ?_
    refine al_val (ov_int rfl rfl rfl rfl) ?_
    refine al_nil ?_
    refine aq_then ?_
    refine aw_cond rfl (fun hb1 => ?_) (fun hb1 => ?_)
    · replace h := bif_t hb1 h
      refine aw_seq ?_
      refine aw_region ?_
      refine al_val (ov_assign rfl rfl) ?_
      refine al_nil ?_
      refine aq_then ?_
      refine aw_ret ?_
      refine aq_then_ret ?_
      obtain rfl := Option.some.inj h
      exact fn_ret () [] [] rfl rfl rfl rfl (res1 rfl rfl) rfl rfl rfl (by decide)
    · replace h := bif_f hb1 h
      refine aw_skip ?_
      refine aq_then ?_
      refine aw_seq ?_
      obtain ⟨r3, hc2, h⟩ := opt_some h
      obtain ⟨hc5, h⟩ := req_some h
      obtain ⟨hc6, h⟩ := req_some h
      refine aw_region_draw 9 [(5, (fun u => fEq u (Value.int .u64 a0))), (6, (fun u => fEq u (Value.int .u64 (IntKind.u64.wrap ((a0).tdiv (256 : Int)))))), (7, (fun u => fEq u (str r3))), (8, (fun u => fEq u (Value.int .u64 a0))), (9, (fun u => fEq u (Value.int .u64 ((a0).tmod (256 : Int))))), (10, (fun u => fEq u (Value.int .u8 (IntKind.u8.wrap ((a0).tmod (256 : Int)))))), (11, (fun v4 => (fDat (tyList tyU8) [v4] [(UInt8.ofNat ((IntKind.u8.wrap ((a0).tmod (256 : Int)))).toNat)]))), (12, (fun u => fEq u (str [(UInt8.ofNat ((IntKind.u8.wrap ((a0).tmod (256 : Int)))).toNat)]))), (13, (fun u => fEq u (str (r3 ++ ([(UInt8.ofNat ((IntKind.u8.wrap ((a0).tmod (256 : Int)))).toNat)])))))] (tab [(0, (Value.int .u64 a0)), (2, (str ([] : List UInt8)))]) mixed (by kernel_rfl) rfl rfl rfl (fun a hs => hs.tab _ (allT_mem ⟨rfl, rfl, trivial⟩)) ⟨⟨rfl, ld_val (ov_move rfl rfl)⟩, ⟨rfl, ld_eq (j := 0) rfl rfl (ld_val (ov_quo (by decide) rfl rfl rfl))⟩, ⟨rfl, ld_eq (j := 1) rfl rfl (ld_callV (vs := [(Value.int .u64 (IntKind.u64.wrap ((a0).tdiv (256 : Int))))]) (f_lumref_digits_ok fu (IntKind.u64.wrap ((a0).tdiv (256 : Int))) hc2) [] pre_nil rfl Tryd.func49 rfl rfl rfl)⟩, ⟨rfl, ld_val (ov_move rfl rfl)⟩, ⟨rfl, ld_eq (j := 3) rfl rfl (ld_val (ov_rem (by decide) rfl rfl rfl))⟩, ⟨rfl, ld_eq (j := 4) rfl rfl (ld_val (ov_convInt (by rw [Tryd.underlying31]; rfl) Tryd.underlying5 rfl rfl))⟩, ⟨rfl, ld_eq (j := 5) rfl rfl (ld_buildSlice (τ := tyU8) (e := 5) (k := 1) (cs := [(Value.int .u8 (IntKind.u8.wrap ((a0).tmod (256 : Int))))]) (xs := [(UInt8.ofNat ((IntKind.u8.wrap ((a0).tmod (256 : Int)))).toNat)]) rfl (by decide) rfl (fun w a hm hs => ⟨([(Value.int .u8 (IntKind.u8.wrap ((a0).tmod (256 : Int))))]).toArray, rfl, by simp only [List.map_toArray, List.map_cons, List.map_nil, hs.ev (x := .tmp 10) rfl]; exact run_bs [(Value.int .u8 (IntKind.u8.wrap ((a0).tmod (256 : Int))))] [(Value.int .u8 (IntKind.u8.wrap ((a0).tmod (256 : Int))))] Tryd.underlying70 to5 rfl rfl (bs_cons (l := [(Value.int .u8 (IntKind.u8.wrap ((a0).tmod (256 : Int))))]) (cs := []) (cv_rfl rfl) rfl bs_nil) hm⟩) (fun hm => ⟨_, _, rfl, (fun _ => u8_rep hc5) hm, rfl⟩) rfl)⟩, ⟨rfl, ld_fact (j := 6) rfl rfl (fun v4 => ld_val (ov_toStr 0 rfl rfl Tryd.underlying70 Tryd.underlying5 Tryd.underlying9 rfl))⟩, ⟨rfl, ld_eq (j := 2) rfl rfl (ld_eq (j := 7) rfl rfl (ld_val (ov_strAdd hc6 rfl rfl rfl)))⟩, trivial⟩ ?_
      refine tl_eq 8 rfl ?_
      refine tl_done ?_
      refine al_val (ov_assign rfl rfl) ?_
      refine al_nil ?_
      refine aq_then ?_
      refine aw_ret ?_
      obtain rfl := Option.some.inj h
      exact fn_ret () [] [] rfl rfl rfl rfl (res1 rfl rfl) rfl rfl rfl (by decide)
def f_lumref_PutInt (fu : Nat) (a0 : Int) : Option (List UInt8) := (bif (decide (a0 < (0 : Int))) then (opt (f_lumref_digits fu (IntKind.u64.wrap (IntKind.i64.wrap ((-1 : Int) - a0)))) fun (r3 : (List UInt8)) => (req (0 ≤ (IntKind.u8.wrap (IntKind.i64.wrap ((127 : Int) - (r3.length : Int)))) ∧ (IntKind.u8.wrap (IntKind.i64.wrap ((127 : Int) - (r3.length : Int)))) ≤ 255) (opt (f_lumref_turned fu r3) fun (r7 : (List UInt8)) => (req (([(UInt8.ofNat ((IntKind.u8.wrap (IntKind.i64.wrap ((127 : Int) - (r3.length : Int))))).toNat)]).length + r7.length ≤ 9223372036854775807) (some (([(UInt8.ofNat ((IntKind.u8.wrap (IntKind.i64.wrap ((127 : Int) - (r3.length : Int))))).toNat)]) ++ r7)))))) else (opt (f_lumref_digits fu (IntKind.u64.wrap a0)) fun (r10 : (List UInt8)) => (req (0 ≤ (IntKind.u8.wrap (IntKind.i64.wrap ((128 : Int) + (r10.length : Int)))) ∧ (IntKind.u8.wrap (IntKind.i64.wrap ((128 : Int) + (r10.length : Int)))) ≤ 255) (req (([(UInt8.ofNat ((IntKind.u8.wrap (IntKind.i64.wrap ((128 : Int) + (r10.length : Int))))).toNat)]).length + r10.length ≤ 9223372036854775807) (some (([(UInt8.ofNat ((IntKind.u8.wrap (IntKind.i64.wrap ((128 : Int) + (r10.length : Int))))).toNat)]) ++ r10))))))
set_option maxRecDepth 100000 in
theorem f_lumref_PutInt_ok (fu : Nat) (a0 : Int) {r : (List UInt8)} (h : f_lumref_PutInt fu a0 = some r) : FnOk Tryd.prog 23 [(Value.int .i64 a0)] [] [] (fun (i : Unit) => { val := (str r) }) := by
  unfold f_lumref_PutInt at h
  refine fn_enter Tryd.func23 rfl Tryd.ntmps23 rfl (fun w0 Z0 => ?_)
  refine aw_seq ?_
  refine aw_region ?_
  refine al_val (ov_assign rfl rfl) ?_
  refine al_nil ?_
  refine aq_then ?_
  refine aw_seq ?_
  refine aw_seq ?_
  refine aw_region ?_
  refine al_val (ov_move rfl rfl) ?_
  refine al_val (ov_int rfl rfl rfl rfl) ?_
  refine al_nil ?_
  refine aq_then ?_
  refine aw_cond rfl (fun hb1 => ?_) (fun hb1 => ?_)
  · replace h := bif_t hb1 h
    refine aw_seq ?_
    refine aw_region ?_
    refine al_val (ov_move rfl rfl) ?_
    refine al_val (ov_int rfl rfl rfl rfl) ?_
    refine al_val (ov_convInt (by rw [Tryd.underlying3]; rfl) Tryd.underlying31 rfl rfl) ?_
    obtain ⟨r3, hc2, h⟩ := opt_some h
    refine al_call (vs := [(Value.int .u64 (IntKind.u64.wrap (IntKind.i64.wrap ((-1 : Int) - a0))))]) (f_lumref_digits_ok fu (IntKind.u64.wrap (IntKind.i64.wrap ((-1 : Int) - a0))) hc2) [] [] [] pre_nil rfl (by simp) (by decide) (.inl rfl) rfl Tryd.func49 rfl rfl rfl (fun _ => ?_)
    refine al_val (ov_assign rfl rfl) ?_
    refine al_nil ?_
    refine aq_then ?_
    refine aw_seq ?_
    obtain ⟨hc5, h⟩ := req_some h
    obtain ⟨r7, hc6, h⟩ := opt_some h
    obtain ⟨hc8, h⟩ := req_some h
    refine aw_region_draw 9 [(11, (fun u => fEq u (str r3))), (12, (fun u => fEq u (Value.int .i64 (r3.length : Int)))), (13, (fun u => fEq u (Value.int .i64 (IntKind.i64.wrap ((127 : Int) - (r3.length : Int)))))), (14, (fun u => fEq u (Value.int .u8 (IntKind.u8.wrap (IntKind.i64.wrap ((127 : Int) - (r3.length : Int))))))), (15, (fun v4 => (fDat (tyList tyU8) [v4] [(UInt8.ofNat ((IntKind.u8.wrap (IntKind.i64.wrap ((127 : Int) - (r3.length : Int))))).toNat)]))), (16, (fun u => fEq u (str [(UInt8.ofNat ((IntKind.u8.wrap (IntKind.i64.wrap ((127 : Int) - (r3.length : Int))))).toNat)]))), (17, (fun u => fEq u (str r3))), (18, (fun u => fEq u (str r7))), (19, (fun u => fEq u (str (([(UInt8.ofNat ((IntKind.u8.wrap (IntKind.i64.wrap ((127 : Int) - (r3.length : Int))))).toNat)]) ++ r7))))] (tab [(2, (str ([] : List UInt8))), (3, (str r3))]) mixed (by kernel_rfl) rfl rfl rfl (fun a hs => hs.tab _ (allT_mem ⟨rfl, rfl, trivial⟩)) ⟨⟨rfl, ld_val (ov_move rfl rfl)⟩, ⟨rfl, ld_eq (j := 0) rfl rfl (ld_val (ov_strLen Tryd.underlying9 rfl rfl))⟩, ⟨rfl, ld_eq (j := 1) rfl rfl (ld_val (ov_int rfl rfl rfl rfl))⟩, ⟨rfl, ld_eq (j := 2) rfl rfl (ld_val (ov_convInt (by rw [Tryd.underlying3]; rfl) Tryd.underlying5 rfl rfl))⟩, ⟨rfl, ld_eq (j := 3) rfl rfl (ld_buildSlice (τ := tyU8) (e := 5) (k := 1) (cs := [(Value.int .u8 (IntKind.u8.wrap (IntKind.i64.wrap ((127 : Int) - (r3.length : Int)))))]) (xs := [(UInt8.ofNat ((IntKind.u8.wrap (IntKind.i64.wrap ((127 : Int) - (r3.length : Int))))).toNat)]) rfl (by decide) rfl (fun w a hm hs => ⟨([(Value.int .u8 (IntKind.u8.wrap (IntKind.i64.wrap ((127 : Int) - (r3.length : Int)))))]).toArray, rfl, by simp only [List.map_toArray, List.map_cons, List.map_nil, hs.ev (x := .tmp 14) rfl]; exact run_bs [(Value.int .u8 (IntKind.u8.wrap (IntKind.i64.wrap ((127 : Int) - (r3.length : Int)))))] [(Value.int .u8 (IntKind.u8.wrap (IntKind.i64.wrap ((127 : Int) - (r3.length : Int)))))] Tryd.underlying70 to5 rfl rfl (bs_cons (l := [(Value.int .u8 (IntKind.u8.wrap (IntKind.i64.wrap ((127 : Int) - (r3.length : Int)))))]) (cs := []) (cv_rfl rfl) rfl bs_nil) hm⟩) (fun hm => ⟨_, _, rfl, (fun _ => u8_rep hc5) hm, rfl⟩) rfl)⟩, ⟨rfl, ld_fact (j := 4) rfl rfl (fun v4 => ld_val (ov_toStr 0 rfl rfl Tryd.underlying70 Tryd.underlying5 Tryd.underlying9 rfl))⟩, ⟨rfl, ld_val (ov_move rfl rfl)⟩, ⟨rfl, ld_eq (j := 6) rfl rfl (ld_callV (vs := [(str r3)]) (f_lumref_turned_ok fu r3 hc6) [] pre_nil rfl Tryd.func51 rfl rfl rfl)⟩, ⟨rfl, ld_eq (j := 5) rfl rfl (ld_eq (j := 7) rfl rfl (ld_val (ov_strAdd hc8 rfl rfl rfl)))⟩, trivial⟩ ?_
    refine tl_eq 8 rfl ?_
    refine tl_done ?_
    refine al_val (ov_assign rfl rfl) ?_
    refine al_nil ?_
    refine aq_then ?_
    refine aw_ret ?_
    refine aq_then_ret ?_
    obtain rfl := Option.some.inj h
    exact fn_ret () [] [] rfl rfl rfl rfl (res1 rfl rfl) rfl rfl rfl (by decide)
  · replace h := bif_f hb1 h
    refine aw_skip ?_
    refine aq_then ?_
    refine aw_seq ?_
    refine aw_region ?_
    refine al_val (ov_move rfl rfl) ?_
    refine al_val (ov_convInt (by rw [Tryd.underlying3]; rfl) Tryd.underlying31 rfl rfl) ?_
    obtain ⟨r10, hc9, h⟩ := opt_some h
    refine al_call (vs := [(Value.int .u64 (IntKind.u64.wrap a0))]) (f_lumref_digits_ok fu (IntKind.u64.wrap a0) hc9) [] [] [] pre_nil rfl (by simp) (by decide) (.inl rfl) rfl Tryd.func49 rfl rfl rfl (fun _ => ?_)
    refine al_val (ov_assign rfl rfl) ?_
    refine al_nil ?_
    refine aq_then ?_
    refine aw_seq ?_
    refine aw_region ?_
    refine al_val (ov_move rfl rfl) ?_
    refine al_val (ov_strLen Tryd.underlying9 rfl rfl) ?_
    refine al_val (ov_int rfl rfl rfl rfl) ?_
    refine al_val (ov_convInt (by rw [Tryd.underlying3]; rfl) Tryd.underlying5 rfl rfl) ?_
    obtain ⟨hc12, h⟩ := req_some h
    refine al_buildSlice (τ := tyU8) (e := 5) (k := 1) (sz := 0) (by_ := 0) (z := undef) (cs := [(Value.int .u8 (IntKind.u8.wrap (IntKind.i64.wrap ((128 : Int) + (r10.length : Int)))))]) (xs := [(UInt8.ofNat ((IntKind.u8.wrap (IntKind.i64.wrap ((128 : Int) + (r10.length : Int))))).toNat)]) rfl (by decide) (fun w a hm hs => ⟨([(Value.int .u8 (IntKind.u8.wrap (IntKind.i64.wrap ((128 : Int) + (r10.length : Int)))))]).toArray, rfl, by simp only [List.map_toArray, List.map_cons, List.map_nil, hs.ev (x := .tmp 26) rfl]; exact run_bs [(Value.int .u8 (IntKind.u8.wrap (IntKind.i64.wrap ((128 : Int) + (r10.length : Int)))))] [(Value.int .u8 (IntKind.u8.wrap (IntKind.i64.wrap ((128 : Int) + (r10.length : Int)))))] Tryd.underlying70 to5 rfl rfl (bs_cons (l := [(Value.int .u8 (IntKind.u8.wrap (IntKind.i64.wrap ((128 : Int) + (r10.length : Int)))))]) (cs := []) (cv_rfl rfl) rfl bs_nil) hm⟩) (fun hm => ⟨_, _, rfl, (fun _ => u8_rep hc12) hm, rfl⟩) rfl (fun v11 => ?_)
    refine al_val (ov_toStrR 0 rfl rfl Tryd.underlying70 Tryd.underlying5 Tryd.underlying9 rfl) ?_
    refine al_val (ov_move rfl rfl) ?_
    obtain ⟨hc13, h⟩ := req_some h
    refine al_val (ov_strAdd hc13 rfl rfl rfl) ?_
    refine al_val (ov_assign rfl rfl) ?_
    refine al_nil ?_
    refine aq_then ?_
    refine aw_ret ?_
    obtain rfl := Option.some.inj h
    exact fn_ret () [] [] rfl rfl rfl rfl (res1 rfl rfl) rfl rfl rfl (by decide)
def f_lumlaw_NumInts (fu : Nat) (a0 : Int) (a1 : (List UInt8)) : Option Bool := (opt (f_num_GetInt fu a1) fun (r2 : (Int × Int × Int)) => (opt (f_lumref_GetInt fu a1) fun (r4 : (Int × Int × Int)) => (lt (fun (j5b4 : Bool) => (some j5b4)) fun (kk6 : Bool → Option Bool) => (opt (f_num_PutInt fu a0) fun (r8 : (List UInt8)) => (opt (f_lumref_PutInt fu a0) fun (r10 : (List UInt8)) => (bif (r8 == r10) then (bif (r2.1 == r4.1) then (bif (r2.2.1 == r4.2.1) then (kk6 (r2.2.2 == r4.2.2)) else (kk6 false)) else (kk6 false)) else (kk6 false)))))))
set_option maxRecDepth 100000 in
theorem f_lumlaw_NumInts_ok (fu : Nat) (a0 : Int) (a1 : (List UInt8)) {r : Bool} (h : f_lumlaw_NumInts fu a0 a1 = some r) : FnOk Tryd.prog 5 [(Value.int .i64 a0), (str a1)] [] [] (fun (i : Unit) => { val := (Value.bool r) }) := by
  unfold f_lumlaw_NumInts at h
  refine fn_enter Tryd.func5 rfl Tryd.ntmps5 rfl (fun w0 Z0 => ?_)
  refine aw_seq ?_
  refine aw_region ?_
  refine al_val (ov_assign rfl rfl) ?_
  refine al_nil ?_
  refine aq_then ?_
  refine aw_seq ?_
  refine aw_region ?_
  refine al_val (ov_move rfl rfl) ?_
  obtain ⟨r2, hc1, h⟩ := opt_some h
  refine al_call (vs := [(str a1)]) (f_num_GetInt_ok fu a1 hc1) [] [] [] pre_nil rfl (by simp) (by decide) (.inl rfl) rfl Tryd.func20 rfl rfl rfl (fun _ => ?_)
  refine al_val (ov_move rfl rfl) ?_
  refine al_val (ov_extract rfl rfl rfl) ?_
  refine al_val (ov_extract rfl rfl rfl) ?_
  refine al_val (ov_extract rfl rfl rfl) ?_
  refine al_val (ov_assign rfl rfl) ?_
  refine al_val (ov_assign rfl rfl) ?_
  refine al_val (ov_assign rfl rfl) ?_
  refine al_nil ?_
  refine aq_then ?_
  refine aw_seq ?_
  refine aw_region ?_
  refine al_val (ov_move rfl rfl) ?_
  obtain ⟨r4, hc3, h⟩ := opt_some h
  refine al_call (vs := [(str a1)]) (f_lumref_GetInt_ok fu a1 hc3) [] [] [] pre_nil rfl (by simp) (by decide) (.inl rfl) rfl Tryd.func21 rfl rfl rfl (fun _ => ?_)
  refine al_val (ov_move rfl rfl) ?_
  refine al_val (ov_extract rfl rfl rfl) ?_
  refine al_val (ov_extract rfl rfl rfl) ?_
  refine al_val (ov_extract rfl rfl rfl) ?_
  refine al_val (ov_assign rfl rfl) ?_
  refine al_val (ov_assign rfl rfl) ?_
  refine al_val (ov_assign rfl rfl) ?_
  refine al_nil ?_
  refine aq_then ?_
  obtain ⟨kk6, hkk6, h⟩ := lt_some h
  refine aw_seq_join (ι := Bool) (fun i => (memOf w0 Z0 [] [] [])) (fun i => (tab [(4, (Value.bool i))])) (fun i => kk6 i = some r) ?_ ?_
  · rintro j5b4 h
    have h : kk6 j5b4 = some r := h
    rw [hkk6] at h
    dsimp only at h
    clear hkk6
    refine aw_show (m := (memOf w0 Z0 [] [] [])) (S := (tab [(4, (Value.bool j5b4))])) ?_
    refine aw_ret ?_
    obtain rfl := Option.some.inj h
    exact fn_ret () [] [] rfl rfl rfl rfl (res1 rfl rfl) rfl rfl rfl (by decide)
  · clear hkk6
    refine aw_region ?_
    refine al_val (ov_move rfl rfl) ?_
    obtain ⟨r8, hc7, h⟩ := opt_some h
    refine al_call (vs := [(Value.int .i64 a0)]) (f_num_PutInt_ok fu a0 hc7) [] [] [] pre_nil rfl (by simp) (by decide) (.inl rfl) rfl Tryd.func22 rfl rfl rfl (fun _ => ?_)
    refine al_val (ov_move rfl rfl) ?_
    obtain ⟨r10, hc9, h⟩ := opt_some h
    refine al_call (vs := [(Value.int .i64 a0)]) (f_lumref_PutInt_ok fu a0 hc9) [] [] [] pre_nil rfl (by simp) (by decide) (.inl rfl) rfl Tryd.func23 rfl rfl rfl (fun _ => ?_)
    refine al_val (ov_strCmp rfl rfl rfl rfl) ?_
    refine al_val (ov_move rfl rfl) ?_
    refine al_caseB 28 rfl (fun hb11 => ?_) (fun hb11 => ?_)
    · replace h := bif_t hb11 h
      refine al_val (ov_move rfl rfl) ?_
      refine al_val (ov_move rfl rfl) ?_
      refine al_val (ov_int rfl rfl rfl rfl) ?_
      refine al_val (ov_pick_t rfl rfl rfl) ?_
      refine al_val (ov_move rfl rfl) ?_
      refine al_caseB 33 rfl (fun hb12 => ?_) (fun hb12 => ?_)
      · replace h := bif_t hb12 h
        refine al_val (ov_move rfl rfl) ?_
        refine al_val (ov_move rfl rfl) ?_
        refine al_val (ov_int rfl rfl rfl rfl) ?_
        refine al_val (ov_pick_t rfl rfl rfl) ?_
        refine al_val (ov_move rfl rfl) ?_
        refine al_caseB 38 rfl (fun hb13 => ?_) (fun hb13 => ?_)
        · replace h := bif_t hb13 h
          refine al_val (ov_move rfl rfl) ?_
          refine al_val (ov_move rfl rfl) ?_
          refine al_val (ov_int rfl rfl rfl rfl) ?_
          refine al_val (ov_pick_t rfl rfl rfl) ?_
          refine al_val (ov_assign rfl rfl) ?_
          refine al_nil ?_
          exact aq_join (r2.2.2 == r4.2.2) h (fun w a hm hs => norm hm hs [] [] [(4, (Value.bool (r2.2.2 == r4.2.2)))] (by decide) ⟨rfl, trivial⟩)
        · replace h := bif_f hb13 h
          refine al_skip ?_
          refine al_skip ?_
          refine al_skip ?_
          refine al_val (ov_pick_f rfl rfl rfl) ?_
          refine al_val (ov_assign rfl rfl) ?_
          refine al_nil ?_
          exact aq_join false h (fun w a hm hs => norm hm hs [] [] [(4, (Value.bool false))] (by decide) ⟨rfl, trivial⟩)
      · replace h := bif_f hb12 h
        refine al_skip ?_
        refine al_skip ?_
        refine al_skip ?_
        refine al_val (ov_pick_f rfl rfl rfl) ?_
        refine al_val (ov_move rfl rfl) ?_
        refine al_skip ?_
        refine al_skip ?_
        refine al_skip ?_
        refine al_val (ov_pick_f rfl rfl rfl) ?_
        refine al_val (ov_assign rfl rfl) ?_
        refine al_nil ?_
        exact aq_join false h (fun w a hm hs => norm hm hs [] [] [(4, (Value.bool false))] (by decide) ⟨rfl, trivial⟩)
    · replace h := bif_f hb11 h
      refine al_skip ?_
      refine al_skip ?_
      refine al_skip ?_
      refine al_val (ov_pick_f rfl rfl rfl) ?_
      refine al_val (ov_move rfl rfl) ?_
      refine al_skip ?_
      refine al_skip ?_
      refine al_skip ?_
      refine al_val (ov_pick_f rfl rfl rfl) ?_
      refine al_val (ov_move rfl rfl) ?_
      refine al_skip ?_
      refine al_skip ?_
      refine al_skip ?_
      refine al_val (ov_pick_f rfl rfl rfl) ?_
      refine al_val (ov_assign rfl rfl) ?_
      refine al_nil ?_
      exact aq_join false h (fun w a hm hs => norm hm hs [] [] [(4, (Value.bool false))] (by decide) ⟨rfl, trivial⟩)
end Go.Proofs.YtaoopodaalhheaaDoor
