/- What ShieldMends leans on, part 3. No condition. -/
import Derived.Test.YtpakblkldklbmaaQShieldMendsb
import Derived.Test.YtpakblkldklbmaaChecked
import Derived.WalkKit
import Derived.Lib.Hide
import Derived.IntWalk
namespace Go.Proofs.Ytpakblkldklbmaa
open Go.RowKit Ytpakblkldklbmaa.En
set_option linter.unusedVariables false
set_option linter.unusedSimpArgs false
open Go.Value (int bool)
set_option maxHeartbeats 2000000 in
set_option maxRecDepth 100000 in
theorem f_lumref_Mul_ok (fu : Nat) (a0 : Int) (a1 : Int) {r : Int} (h : f_lumref_Mul fu a0 a1 = some r) : FnOk Try.prog 45 [(int .u8 a0), (int .u8 a1)] [] [] (fun (i : Unit) => { val := (int .u8 r) }) := by
 unfold f_lumref_Mul at h
 refine fn_enter Try.func45 rfl Try.ntmps45 rfl (fun w0 Z0 => ?_)
 refine aw_sr ?_
 refine al_as rfl rfl ?_
 refine al_nt ?_
 refine aw_sr ?_
 refine al_as rfl rfl ?_
 refine al_nt ?_
 obtain ⟨kk2, hkk2, h⟩ := lt_some h
 refine aw_seq_join (ι := Int) (fun i => (memOf w0 Z0 [] [] [])) (fun i => (tab [(5, (iq i))])) (fun i => kk2 i = some r) ?_ ?_
 ·rintro j1i5 h
  have h : kk2 j1i5 = some r := h
  rw [hkk2] at h
  dsimp only at h
  clear hkk2
  refine aw_show (m := (memOf w0 Z0 [] [] [])) (S := (tab [(5, (iq j1i5))])) ?_
  obtain ⟨kk4, hkk4, h⟩ := lt_some h
  refine aw_seq_join (ι := Int) (fun i => (memOf w0 Z0 [] [] [])) (fun i => (tab [(5, (iq i))])) (fun i => kk4 i = some r) ?_ ?_
  ·rintro j3i5 h
   have h : kk4 j3i5 = some r := h
   rw [hkk4] at h
   dsimp only at h
   clear hkk4
   refine aw_show (m := (memOf w0 Z0 [] [] [])) (S := (tab [(5, (iq j3i5))])) ?_
   refine aw_sr ?_
   refine al_mv rfl rfl ?_
   refine al_val (ov_convInt (by rw [Try.underlying3]; rfl) Try.underlying5 rfl rfl) ?_
   refine al_as rfl rfl ?_
   refine al_nt ?_
   refine aw_ret ?_
   obtain rfl := Option.some.inj h
   exact fn_ret () [] [] rfl rfl rfl rfl (res1 rfl rfl) rfl rfl rfl (by decide)
  ·clear hkk4
   refine aw_sr ?_
   refine al_as rfl rfl ?_
   refine al_nt ?_
   refine aw_block ?_
   refine aw_state (aw_loop (ι := Int × Int) (fun i => (memOf w0 Z0 [] [] [])) (fun i => (tab [(5, (iq i.1)), (7, (iq i.2))])) (fun q i => f_lumref_Mul_L7 kk4 q i.1 i.2 = some r) ?_ fu (j1i5, (15 : Int)) h) (fun w a hm hs => norm hm hs [] [] [(5, (iq j1i5)), (7, (iq (15 : Int)))] (by decide) ⟨rfl, rfl, trivial⟩)
   clear h
   rintro k6 ⟨l5i5, l5i7⟩ h
   have h : f_lumref_Mul_L7 kk4 k6 l5i5 l5i7 = some r := h
   obtain _ | k6 := k6
   · rw [f_lumref_Mul_L7] at h; cases h
   rw [f_lumref_Mul_L7] at h
   refine aw_show (m := (memOf w0 Z0 [] [] [])) (S := (tab [(5, (iq l5i5)), (7, (iq l5i7))])) ?_
   refine aw_seq ?_
   refine aw_sr ?_
   refine al_mv rfl rfl ?_
   refine al_in rfl rfl rfl rfl ?_
   refine al_nt ?_
   refine aw_cond rfl (fun hb8 => ?_) (fun hb8 => ?_)
   ·replace h := bif_t hb8 h
    refine aw_skip ?_
    refine aq_then ?_
    obtain ⟨kk10, hkk10, h⟩ := lt_some h
    refine aw_seq_join (ι := Int) (fun i => (memOf w0 Z0 [] [] [])) (fun i => (tab [(5, (iq i)), (7, (iq l5i7))])) (fun i => kk10 i = some r) ?_ ?_
    ·rintro j9i5 h
     have h : kk10 j9i5 = some r := h
     rw [hkk10] at h
     dsimp only at h
     clear hkk10
     refine aw_show (m := (memOf w0 Z0 [] [] [])) (S := (tab [(5, (iq j9i5)), (7, (iq l5i7))])) ?_
     refine aw_region ?_
     refine al_mv rfl rfl ?_
     refine al_in rfl rfl rfl rfl ?_
     refine al_as rfl rfl ?_
     refine al_nil ?_
     exact aq_again k6 (j9i5, (wq (l5i7 - (1 : Int)))) (Nat.lt_succ_self _) h (fun w a hm hs => norm hm hs [] [] [(5, (iq j9i5)), (7, (iq (wq (l5i7 - (1 : Int)))))] (by decide) ⟨rfl, rfl, trivial⟩)
    ·clear hkk10
     refine aw_block ?_
     refine aw_sr ?_
     refine al_mv rfl rfl ?_
     refine al_mv rfl rfl ?_
     obtain ⟨hc11, h⟩ := req_some h
     refine al_val (ov_shr hc11 rfl rfl rfl) ?_
     refine al_in rfl rfl rfl rfl ?_
     refine al_in rfl rfl rfl rfl ?_
     refine al_nt ?_
     refine aw_cond rfl (fun hb12 => ?_) (fun hb12 => ?_)
     ·replace h := bif_t hb12 h
      refine aw_region ?_
      refine al_mv rfl rfl ?_
      refine al_mv rfl rfl ?_
      refine al_in rfl rfl rfl rfl ?_
      obtain ⟨hc13, h⟩ := req_some h
      refine al_val (ov_shl hc13 rfl rfl rfl) ?_
      refine al_in rfl rfl rfl rfl ?_
      refine al_as rfl rfl ?_
      refine al_nil ?_
      refine aq_block ?_
      exact aq_join (bits .xor .i64 l5i5 (wq ((285 : Int) * 2 ^ min ((wq (l5i7 - (8 : Int)))).toNat (IntKind.bits .i64)))) h (fun w a hm hs => norm hm hs [] [] [(5, (iq (bits .xor .i64 l5i5 (wq ((285 : Int) * 2 ^ min ((wq (l5i7 - (8 : Int)))).toNat (IntKind.bits .i64)))))), (7, (iq l5i7))] (by decide) ⟨rfl, rfl, trivial⟩)
     ·replace h := bif_f hb12 h
      refine aw_skip ?_
      refine aq_block ?_
      exact aq_join l5i5 h (fun w a hm hs => norm hm hs [] [] [(5, (iq l5i5)), (7, (iq l5i7))] (by decide) ⟨rfl, rfl, trivial⟩)
   ·replace h := bif_f hb8 h
    refine aw_exit ?_
    refine aq_then_exit ?_
    refine aq_then_exit ?_
    refine aq_block_exit ?_
    exact aq_join l5i5 h (fun w a hm hs => norm hm hs [] [] [(5, (iq l5i5))] (by decide) ⟨rfl, trivial⟩)
 ·clear hkk2
  refine aw_sr ?_
  refine al_mv rfl rfl ?_
  refine al_nt ?_
  refine aw_block ?_
  refine aw_state (aw_loop (ι := Int × Int) (fun i => (memOf w0 Z0 [] [] [])) (fun i => (tab [(0, (i8 a0)), (1, (i8 a1)), (5, (iq i.1)), (8, (iq i.2))])) (fun q i => f_lumref_Mul_L16 a0 a1 kk2 q i.1 i.2 = some r) ?_ fu ((0 : Int), (0 : Int)) h) (fun w a hm hs => norm hm hs [] [] [(0, (i8 a0)), (1, (i8 a1)), (5, (iq (0 : Int))), (8, (iq (0 : Int)))] (by decide) ⟨rfl, rfl, rfl, rfl, trivial⟩)
  clear h
  rintro k15 ⟨l14i5, l14i8⟩ h
  have h : f_lumref_Mul_L16 a0 a1 kk2 k15 l14i5 l14i8 = some r := h
  obtain _ | k15 := k15
  · rw [f_lumref_Mul_L16] at h; cases h
  rw [f_lumref_Mul_L16] at h
  refine aw_show (m := (memOf w0 Z0 [] [] [])) (S := (tab [(0, (i8 a0)), (1, (i8 a1)), (5, (iq l14i5)), (8, (iq l14i8))])) ?_
  refine aw_sr ?_
  refine al_in rfl rfl rfl rfl ?_
  refine al_nt ?_
  refine aw_seq ?_
  refine aw_cond rfl (fun hb17 => ?_) (fun hb17 => ?_)
  ·replace h := bif_t hb17 h
   refine aw_skip ?_
   refine aq_then ?_
   obtain ⟨kk19, hkk19, h⟩ := lt_some h
   refine aw_seq_join (ι := Int) (fun i => (memOf w0 Z0 [] [] [])) (fun i => (tab [(0, (i8 a0)), (1, (i8 a1)), (5, (iq i)), (8, (iq l14i8))])) (fun i => kk19 i = some r) ?_ ?_
   ·rintro j18i5 h
    have h : kk19 j18i5 = some r := h
    rw [hkk19] at h
    dsimp only at h
    clear hkk19
    refine aw_show (m := (memOf w0 Z0 [] [] [])) (S := (tab [(0, (i8 a0)), (1, (i8 a1)), (5, (iq j18i5)), (8, (iq l14i8))])) ?_
    refine aw_region ?_
    refine al_in rfl rfl rfl rfl ?_
    refine al_mv rfl rfl ?_
    refine al_nil ?_
    exact aq_again k15 (j18i5, (wq (l14i8 + (1 : Int)))) (Nat.lt_succ_self _) h (fun w a hm hs => norm hm hs [] [] [(0, (i8 a0)), (1, (i8 a1)), (5, (iq j18i5)), (8, (iq (wq (l14i8 + (1 : Int)))))] (by decide) ⟨rfl, rfl, rfl, rfl, trivial⟩)
   ·clear hkk19
    refine aw_block ?_
    refine aw_sr ?_
    refine al_mv rfl rfl ?_
    refine al_as rfl rfl ?_
    refine al_nt ?_
    refine aw_sr ?_
    refine al_mv rfl rfl ?_
    refine al_mv rfl rfl ?_
    obtain ⟨hc20, h⟩ := req_some h
    refine al_val (ov_shr hc20 rfl rfl rfl) ?_
    refine al_in rfl rfl rfl rfl ?_
    refine al_in rfl rfl rfl rfl ?_
    refine al_nt ?_
    refine aw_cond rfl (fun hb21 => ?_) (fun hb21 => ?_)
    ·replace h := bif_t hb21 h
     refine aw_region ?_
     refine al_mv rfl rfl ?_
     refine al_mv rfl rfl ?_
     refine al_val (ov_convInt (by rw [Try.underlying5]; rfl) Try.underlying3 rfl rfl) ?_
     refine al_mv rfl rfl ?_
     obtain ⟨hc22, h⟩ := req_some h
     refine al_val (ov_shl hc22 rfl rfl rfl) ?_
     refine al_in rfl rfl rfl rfl ?_
     refine al_as rfl rfl ?_
     refine al_nil ?_
     refine aq_block ?_
     exact aq_join (bits .xor .i64 l14i5 (wq ((wq a0) * 2 ^ min (l14i8).toNat (IntKind.bits .i64)))) h (fun w a hm hs => norm hm hs [] [] [(0, (i8 a0)), (1, (i8 a1)), (5, (iq (bits .xor .i64 l14i5 (wq ((wq a0) * 2 ^ min (l14i8).toNat (IntKind.bits .i64)))))), (8, (iq l14i8))] (by decide) ⟨rfl, rfl, rfl, rfl, trivial⟩)
    ·replace h := bif_f hb21 h
     refine aw_skip ?_
     refine aq_block ?_
     exact aq_join l14i5 h (fun w a hm hs => norm hm hs [] [] [(0, (i8 a0)), (1, (i8 a1)), (5, (iq l14i5)), (8, (iq l14i8))] (by decide) ⟨rfl, rfl, rfl, rfl, trivial⟩)
  ·replace h := bif_f hb17 h
   refine aw_exit ?_
   refine aq_then_exit ?_
   refine aq_then_exit ?_
   refine aq_block_exit ?_
   exact aq_join l14i5 h (fun w a hm hs => norm hm hs [] [] [(5, (iq l14i5))] (by decide) ⟨rfl, trivial⟩)
def f_lumref_Inv_L5 (a0 : Int) (kk2 : (Unit → Option Int)) (fu : Nat) : Nat → Int → Option Int
  | 0, _ => none
  | k4 + 1, l3i4 => (bif (decide (l3i4 < (256 : Int))) then (opt (f_lumref_Mul fu a0 (IntKind.u8.wrap l3i4)) fun (r8 : Int) => (bif (r8 == (1 : Int)) then (some (IntKind.u8.wrap l3i4)) else (f_lumref_Inv_L5 a0 kk2 fu k4 (IntKind.i64.wrap (l3i4 + (1 : Int)))))) else (kk2 ()))
def f_lumref_Inv (fu : Nat) (a0 : Int) : Option Int := (lt (fun (_ : Unit) => (some (0 : Int))) fun (kk2 : Unit → Option Int) => (f_lumref_Inv_L5 a0 kk2 fu fu (0 : Int)))
set_option maxHeartbeats 2000000 in
set_option maxRecDepth 100000 in
theorem f_lumref_Inv_ok (fu : Nat) (a0 : Int) {r : Int} (h : f_lumref_Inv fu a0 = some r) : FnOk Try.prog 44 [(int .u8 a0)] [] [] (fun (i : Unit) => { val := (int .u8 r) }) := by
 unfold f_lumref_Inv at h
 refine fn_enter Try.func44 rfl Try.ntmps44 rfl (fun w0 Z0 => ?_)
 refine aw_sr ?_
 refine al_as rfl rfl ?_
 refine al_nt ?_
 obtain ⟨kk2, hkk2, h⟩ := lt_some h
 refine aw_seq_join (ι := Unit) (fun i => (memOf w0 Z0 [] [] [])) (fun i => (tab [])) (fun i => kk2 () = some r) ?_ ?_
 ·rintro _ h
  have h : kk2 () = some r := h
  rw [hkk2] at h
  dsimp only at h
  clear hkk2
  refine aw_show (m := (memOf w0 Z0 [] [] [])) (S := (tab [])) ?_
  refine aw_sr ?_
  refine al_as rfl rfl ?_
  refine al_nt ?_
  refine aw_ret ?_
  obtain rfl := Option.some.inj h
  exact fn_ret () [] [] rfl rfl rfl rfl (res1 rfl rfl) rfl rfl rfl (by decide)
 ·clear hkk2
  refine aw_sr ?_
  refine al_mv rfl rfl ?_
  refine al_nt ?_
  refine aw_block ?_
  refine aw_state (aw_loop (ι := Int) (fun i => (memOf w0 Z0 [] [] [])) (fun i => (tab [(0, (i8 a0)), (4, (iq i))])) (fun q i => f_lumref_Inv_L5 a0 kk2 fu q i = some r) ?_ fu (0 : Int) h) (fun w a hm hs => norm hm hs [] [] [(0, (i8 a0)), (4, (iq (0 : Int)))] (by decide) ⟨rfl, rfl, trivial⟩)
  clear h
  rintro k4 l3i4 h
  have h : f_lumref_Inv_L5 a0 kk2 fu k4 l3i4 = some r := h
  obtain _ | k4 := k4
  · rw [f_lumref_Inv_L5] at h; cases h
  rw [f_lumref_Inv_L5] at h
  refine aw_show (m := (memOf w0 Z0 [] [] [])) (S := (tab [(0, (i8 a0)), (4, (iq l3i4))])) ?_
  refine aw_sr ?_
  refine al_in rfl rfl rfl rfl ?_
  refine al_nt ?_
  refine aw_seq ?_
  refine aw_cond rfl (fun hb6 => ?_) (fun hb6 => ?_)
  ·replace h := bif_t hb6 h
   refine aw_skip ?_
   refine aq_then ?_
   refine aw_seq ?_
   refine aw_block ?_
   refine aw_sr ?_
   refine al_mv rfl rfl ?_
   refine al_as rfl rfl ?_
   refine al_nt ?_
   refine aw_sr ?_
   refine al_mv rfl rfl ?_
   refine al_mv rfl rfl ?_
   refine al_val (ov_convInt (by rw [Try.underlying3]; rfl) Try.underlying5 rfl rfl) ?_
   obtain ⟨r8, hc7, h⟩ := opt_some h
   refine al_call (vs := [(i8 a0), (i8 (w8 l3i4))]) (f_lumref_Mul_ok fu a0 (w8 l3i4) hc7) [] [] [] pre_nil rfl (by simp) (by decide) (.inl rfl) rfl Try.func45 rfl rfl rfl (fun _ => ?_)
   refine al_in rfl rfl rfl rfl ?_
   refine al_nt ?_
   refine aw_cond rfl (fun hb9 => ?_) (fun hb9 => ?_)
   ·replace h := bif_t hb9 h
    refine aw_sr ?_
    refine al_mv rfl rfl ?_
    refine al_val (ov_convInt (by rw [Try.underlying3]; rfl) Try.underlying5 rfl rfl) ?_
    refine al_as rfl rfl ?_
    refine al_nt ?_
    refine aw_ret ?_
    refine aq_block_ret ?_
    refine aq_then_ret ?_
    refine aq_then_ret ?_
    refine aq_block_ret ?_
    refine aq_then_ret ?_
    obtain rfl := Option.some.inj h
    exact fn_ret () [] [] rfl rfl rfl rfl (res1 rfl rfl) rfl rfl rfl (by decide)
   ·replace h := bif_f hb9 h
    refine aw_skip ?_
    refine aq_block ?_
    refine aq_then ?_
    refine aw_region ?_
    refine al_in rfl rfl rfl rfl ?_
    refine al_mv rfl rfl ?_
    refine al_nil ?_
    exact aq_again k4 (wq (l3i4 + (1 : Int))) (Nat.lt_succ_self _) h (fun w a hm hs => norm hm hs [] [] [(0, (i8 a0)), (4, (iq (wq (l3i4 + (1 : Int)))))] (by decide) ⟨rfl, rfl, trivial⟩)
  ·replace h := bif_f hb6 h
   refine aw_exit ?_
   refine aq_then_exit ?_
   refine aq_then_exit ?_
   refine aq_block_exit ?_
   exact aq_join () h (fun w a hm hs => norm hm hs [] [] [] (by decide) trivial)
def f_lumref_ShardOf_L26 (l12x6 : (List UInt8)) (kk18 : ((List UInt8) → Option (List UInt8))) (u19 : (List UInt8)) (r23 : Int) (fu : Nat) : Nat → (List UInt8) → Int → Option (List UInt8)
  | 0, _, _ => none
  | k25 + 1, l24x6, l24i43 => (bif (decide (l24i43 < (l12x6.length : Int))) then (opt (at? l24x6 l24i43) fun (u28 : UInt8) => (req (0 ≤ l24i43 ∧ l24i43 < (u19.length : Int)) (opt (f_lumref_Mul fu r23 (En.bAt u19 l24i43)) fun (r34 : Int) => (opt (at? l24x6 l24i43) fun (u35 : UInt8) => (req (0 ≤ (bits .xor .u8 (u28.toNat : Int) r34) ∧ (bits .xor .u8 (u28.toNat : Int) r34) ≤ 255) (f_lumref_ShardOf_L26 l12x6 kk18 u19 r23 fu k25 (l24x6.set (l24i43).toNat (UInt8.ofNat ((bits .xor .u8 (u28.toNat : Int) r34)).toNat)) (IntKind.i64.wrap (l24i43 + (1 : Int))))))))) else (kk18 l24x6))
def f_lumref_ShardOf_L14 (a0 : (List (List UInt8))) (a1 : Int) (kk11 : ((List UInt8) → Option (List UInt8))) (fu : Nat) : Nat → (List UInt8) → Int → Option (List UInt8)
  | 0, _, _ => none
  | k13 + 1, l12x6, l12i27 => (lt (fun (l12x6 : (List UInt8)) (l12i27 : Int) => (f_lumref_ShardOf_L14 a0 a1 kk11 fu k13 l12x6 l12i27)) fun (kk15 : (List UInt8) → Int → Option (List UInt8)) => (bif (decide (l12i27 < (a0.length : Int))) then (lt (fun (j17x6 : (List UInt8)) => (kk15 j17x6 (IntKind.i64.wrap (l12i27 + (1 : Int))))) fun (kk18 : (List UInt8) → Option (List UInt8)) => (opt (at? a0 l12i27) fun (u19 : (List UInt8)) => (opt (f_lumref_Inv fu (bits .xor .u8 (IntKind.u8.wrap (IntKind.i64.wrap ((IntKind.i64.wrap ((128 : Int) + a1)) - (a0.length : Int)))) (IntKind.u8.wrap l12i27))) fun (r23 : Int) => (f_lumref_ShardOf_L26 l12x6 kk18 u19 r23 fu fu l12x6 (0 : Int))))) else (kk11 l12x6)))
def f_lumref_ShardOf (fu : Nat) (a0 : (List (List UInt8))) (a1 : Int) : Option (List UInt8) := (bif (decide (a1 < (a0.length : Int))) then (opt (at? a0 a1) fun (u2 : (List UInt8)) => (some u2)) else (opt (at? a0 (0 : Int)) fun (u5 : (List UInt8)) => (req (0 ≤ (u5.length : Int) ∧ 1 * (u5.length : Int) ≤ 281474976710656 ∧ (u5.length : Int) ≤ 9223372036854775807) (lt (fun (j10x6 : (List UInt8)) => (some j10x6)) fun (kk11 : (List UInt8) → Option (List UInt8)) => (f_lumref_ShardOf_L14 a0 a1 kk11 fu fu (List.replicate ((u5.length : Int)).toNat (0 : UInt8)) (0 : Int))))))
set_option maxHeartbeats 2000000 in
set_option maxRecDepth 100000 in
theorem f_lumref_ShardOf_ok (fu : Nat) (v0_0 : Value) (a0 : (List (List UInt8))) (a1 : Int) {r : (List UInt8)} (h : f_lumref_ShardOf fu a0 a1 = some r) : FnOk Try.prog 13 [v0_0, (int .i64 a1)] [(fDat (tyList tyStr) [v0_0] a0)] [] (fun (i : Unit) => { val := (str r) }) := by
 unfold f_lumref_ShardOf at h
 refine fn_enter Try.func13 rfl Try.ntmps13 rfl (fun w0 Z0 => ?_)
 refine aw_sr ?_
 refine al_as rfl rfl ?_
 refine al_nt ?_
 refine aw_sr ?_
 refine al_mv rfl rfl ?_
 refine al_val (ov_lenD 0 rfl rfl Try.underlying23 rfl) ?_
 refine al_as rfl rfl ?_
 refine al_nt ?_
 refine aw_seq ?_
 refine aw_sr ?_
 refine al_mv rfl rfl ?_
 refine al_mv rfl rfl ?_
 refine al_in rfl rfl rfl rfl ?_
 refine al_nt ?_
 refine aw_cond rfl (fun hb1 => ?_) (fun hb1 => ?_)
 ·replace h := bif_t hb1 h
  refine aw_sr ?_
  refine al_mv rfl rfl ?_
  refine al_mv rfl rfl ?_
  obtain ⟨u2, hu3, h⟩ := opt_some h
  refine al_idxD 0 hu3 rfl rfl rfl Try.underlying23 sz9 rfl (fun p4 => ?_)
  refine al_val (ov_loadP (ds := [(str u2)]) 0 rfl (fun h => h) rfl Try.underlying9 sz9 rfl rfl rfl) ?_
  refine al_as rfl rfl ?_
  refine al_nt ?_
  refine aw_ret ?_
  refine aq_then_ret ?_
  obtain rfl := Option.some.inj h
  exact fn_ret () [] [] rfl rfl rfl rfl (res1 rfl rfl) rfl rfl rfl (by decide)
 ·replace h := bif_f hb1 h
  refine aw_skip ?_
  refine aq_tr ?_
  refine al_mv rfl rfl ?_
  obtain ⟨u5, hu6, h⟩ := opt_some h
  refine al_idxD 0 hu6 rfl rfl rfl Try.underlying23 sz9 rfl (fun p7 => ?_)
  refine al_val (ov_loadP (ds := [(str u5)]) 0 rfl (fun h => h) rfl Try.underlying9 sz9 rfl rfl rfl) ?_
  refine al_val (ov_strLen Try.underlying9 rfl rfl) ?_
  obtain ⟨hc8, h⟩ := req_some h
  refine al_make (τ := tyU8) (x0 := 0) hc8.1 hc8.2.1 hc8.2.2 rfl rfl Try.underlying94 to5 (fun _ _ => rfl) rfl rfl (fun v9 => ?_)
  refine al_as rfl rfl ?_
  refine al_nt ?_
  obtain ⟨kk11, hkk11, h⟩ := lt_some h
  refine aw_seq_join (ι := (List UInt8)) (fun i => (memOf w0 Z0 [] [(oRow v9 5 tyU8 i)] [(fPtr tyStr p7 u5), (fDat (tyList tyStr) [v0_0] a0)])) (fun i => (tab [(6, v9)])) (fun i => kk11 i = some r) ?_ ?_
  ·rintro j10x6 h
   have h : kk11 j10x6 = some r := h
   rw [hkk11] at h
   dsimp only at h
   clear hkk11
   refine aw_show (m := (memOf w0 Z0 [] [(oRow v9 5 tyU8 j10x6)] [(fPtr tyStr p7 u5), (fDat (tyList tyStr) [v0_0] a0)])) (S := (tab [(6, v9)])) ?_
   refine aw_sr ?_
   refine al_mv rfl rfl ?_
   refine al_val (ov_toStrR 0 rfl rfl Try.underlying94 Try.underlying5 Try.underlying9 rfl) ?_
   refine al_as rfl rfl ?_
   refine al_nt ?_
   refine aw_ret ?_
   obtain rfl := Option.some.inj h
   exact fn_ret () [] [] rfl rfl rfl rfl (res1 rfl rfl) rfl rfl rfl (by decide)
  ·clear hkk11
   refine aw_sr ?_
   refine al_mv rfl rfl ?_
   refine al_val (ov_lenD 1 rfl rfl Try.underlying23 rfl) ?_
   refine al_mv rfl rfl ?_
   refine al_nt ?_
   refine aw_block ?_
   refine aw_state (aw_loop (ι := (List UInt8) × Int) (fun i => (memOf w0 Z0 [] [(oRow v9 5 tyU8 i.1)] [(fDat (tyList tyStr) [v0_0] a0), (fPtr tyStr p7 u5)])) (fun i => (tab [(1, (iq a1)), (5, (iq (a0.length : Int))), (6, v9), (25, v0_0), (26, (iq (a0.length : Int))), (27, (iq i.2))])) (fun q i => f_lumref_ShardOf_L14 a0 a1 kk11 fu q i.1 i.2 = some r) ?_ fu ((List.replicate ((u5.length : Int)).toNat (0 : UInt8)), (0 : Int)) h) (fun w a hm hs => norm hm hs [0] [1, 0] [(1, (iq a1)), (5, (iq (a0.length : Int))), (6, v9), (25, v0_0), (26, (iq (a0.length : Int))), (27, (iq (0 : Int)))] (by decide) ⟨rfl, rfl, rfl, rfl, rfl, rfl, trivial⟩)
   clear h
   rintro k13 ⟨l12x6, l12i27⟩ h
   have h : f_lumref_ShardOf_L14 a0 a1 kk11 fu k13 l12x6 l12i27 = some r := h
   obtain _ | k13 := k13
   · rw [f_lumref_ShardOf_L14] at h; cases h
   rw [f_lumref_ShardOf_L14] at h
   refine aw_show (m := (memOf w0 Z0 [] [(oRow v9 5 tyU8 l12x6)] [(fDat (tyList tyStr) [v0_0] a0), (fPtr tyStr p7 u5)])) (S := (tab [(1, (iq a1)), (5, (iq (a0.length : Int))), (6, v9), (25, v0_0), (26, (iq (a0.length : Int))), (27, (iq l12i27))])) ?_
   obtain ⟨kk15, hkk15, h⟩ := lt_some h
   refine aw_body_join (ι := (List UInt8) × Int) (fun i => (memOf w0 Z0 [] [(oRow v9 5 tyU8 i.1)] [(fDat (tyList tyStr) [v0_0] a0), (fPtr tyStr p7 u5)])) (fun i => (tab [(1, (iq a1)), (5, (iq (a0.length : Int))), (6, v9), (25, v0_0), (26, (iq (a0.length : Int))), (27, (iq i.2))])) (fun i => kk15 i.1 i.2 = some r) (fun i h => aq_again k13 i (Nat.lt_succ_self _) (by rw [hkk15] at h; exact h) (fun w a hm hs => ⟨hm, hs⟩)) ?_
   clear hkk15
   refine aw_sr ?_
   refine al_in rfl rfl rfl rfl ?_
   refine al_nt ?_
   refine aw_seq ?_
   refine aw_cond rfl (fun hb16 => ?_) (fun hb16 => ?_)
   ·replace h := bif_t hb16 h
    refine aw_skip ?_
    refine aq_then ?_
    obtain ⟨kk18, hkk18, h⟩ := lt_some h
    refine aw_seq_join (ι := (List UInt8)) (fun i => (memOf w0 Z0 [] [(oRow v9 5 tyU8 i)] [(fDat (tyList tyStr) [v0_0] a0), (fPtr tyStr p7 u5)])) (fun i => (tab [(1, (iq a1)), (5, (iq (a0.length : Int))), (6, v9), (25, v0_0), (26, (iq (a0.length : Int))), (27, (iq l12i27))])) (fun i => kk18 i = some r) ?_ ?_
    ·rintro j17x6 h
     have h : kk18 j17x6 = some r := h
     rw [hkk18] at h
     dsimp only at h
     clear hkk18
     refine aw_show (m := (memOf w0 Z0 [] [(oRow v9 5 tyU8 j17x6)] [(fDat (tyList tyStr) [v0_0] a0), (fPtr tyStr p7 u5)])) (S := (tab [(1, (iq a1)), (5, (iq (a0.length : Int))), (6, v9), (25, v0_0), (26, (iq (a0.length : Int))), (27, (iq l12i27))])) ?_
     refine aw_region ?_
     refine al_in rfl rfl rfl rfl ?_
     refine al_mv rfl rfl ?_
     refine al_nil ?_
     exact aq_join (j17x6, (wq (l12i27 + (1 : Int)))) h (fun w a hm hs => norm hm hs [0] [0, 1] [(1, (iq a1)), (5, (iq (a0.length : Int))), (6, v9), (25, v0_0), (26, (iq (a0.length : Int))), (27, (iq (wq (l12i27 + (1 : Int)))))] (by decide) ⟨rfl, rfl, rfl, rfl, rfl, rfl, trivial⟩)
    ·clear hkk18
     refine aw_block ?_
     refine aw_sr ?_
     refine al_mv rfl rfl ?_
     obtain ⟨u19, hu20, h⟩ := opt_some h
     refine al_idxD 0 hu20 rfl rfl rfl Try.underlying23 sz9 rfl (fun p21 => ?_)
     refine al_val (ov_loadP (ds := [(str u19)]) 0 rfl (fun h => h) rfl Try.underlying9 sz9 rfl rfl rfl) ?_
     refine al_as rfl rfl ?_
     refine al_as rfl rfl ?_
     refine al_nt ?_
     refine aw_sr ?_
     refine al_mv rfl rfl ?_
     refine al_in rfl rfl rfl rfl ?_
     refine al_mv rfl rfl ?_
     refine al_in rfl rfl rfl rfl ?_
     refine al_val (ov_convInt (by rw [Try.underlying3]; rfl) Try.underlying5 rfl rfl) ?_
     refine al_mv rfl rfl ?_
     refine al_val (ov_convInt (by rw [Try.underlying3]; rfl) Try.underlying5 rfl rfl) ?_
     refine al_in rfl rfl rfl rfl ?_
     obtain ⟨r23, hc22, h⟩ := opt_some h
     refine al_call (vs := [(i8 (bits .xor .u8 (w8 (wq ((wq ((128 : Int) + a1)) - (a0.length : Int)))) (w8 l12i27)))]) (f_lumref_Inv_ok fu (bits .xor .u8 (w8 (wq ((wq ((128 : Int) + a1)) - (a0.length : Int)))) (w8 l12i27)) hc22) [] [] [0] pre_nil rfl (by simp) (by decide) (.inl rfl) rfl Try.func44 rfl rfl rfl (fun _ => ?_)
     refine al_as rfl rfl ?_
     refine al_nt ?_
     refine aw_sr ?_
     refine al_mv rfl rfl ?_
     refine al_val (ov_lenR 0 rfl rfl Try.underlying94 rfl) ?_
     refine al_mv rfl rfl ?_
     refine al_nt ?_
     refine aw_block ?_
     refine aw_state (aw_loop (ι := (List UInt8) × Int) (fun i => (memOf w0 Z0 [] [(oRow v9 5 tyU8 i.1)] [(fDat (tyList tyStr) [v0_0] a0), (fPtr tyStr p21 u19), (fPtr tyStr p7 u5)])) (fun i => (tab [(1, (iq a1)), (5, (iq (a0.length : Int))), (6, v9), (8, (str u19)), (9, (i8 r23)), (25, v0_0), (26, (iq (a0.length : Int))), (27, (iq l12i27)), (42, (iq (l12x6.length : Int))), (43, (iq i.2))])) (fun q i => f_lumref_ShardOf_L26 l12x6 kk18 u19 r23 fu q i.1 i.2 = some r) ?_ fu (l12x6, (0 : Int)) h) (fun w a hm hs => norm hm hs [0] [1, 0, 2] [(1, (iq a1)), (5, (iq (a0.length : Int))), (6, v9), (8, (str u19)), (9, (i8 r23)), (25, v0_0), (26, (iq (a0.length : Int))), (27, (iq l12i27)), (42, (iq (l12x6.length : Int))), (43, (iq (0 : Int)))] (by decide) ⟨rfl, rfl, rfl, rfl, rfl, rfl, rfl, rfl, rfl, rfl, trivial⟩)
     clear h
     rintro k25 ⟨l24x6, l24i43⟩ h
     have h : f_lumref_ShardOf_L26 l12x6 kk18 u19 r23 fu k25 l24x6 l24i43 = some r := h
     obtain _ | k25 := k25
     · rw [f_lumref_ShardOf_L26] at h; cases h
     rw [f_lumref_ShardOf_L26] at h
     refine aw_show (m := (memOf w0 Z0 [] [(oRow v9 5 tyU8 l24x6)] [(fDat (tyList tyStr) [v0_0] a0), (fPtr tyStr p21 u19), (fPtr tyStr p7 u5)])) (S := (tab [(1, (iq a1)), (5, (iq (a0.length : Int))), (6, v9), (8, (str u19)), (9, (i8 r23)), (25, v0_0), (26, (iq (a0.length : Int))), (27, (iq l12i27)), (42, (iq (l12x6.length : Int))), (43, (iq l24i43))])) ?_
     refine aw_sr ?_
     refine al_in rfl rfl rfl rfl ?_
     refine al_nt ?_
     refine aw_seq ?_
     refine aw_cond rfl (fun hb27 => ?_) (fun hb27 => ?_)
     ·replace h := bif_t hb27 h
      refine aw_skip ?_
      refine aq_then ?_
      refine aw_seq ?_
      refine aw_block ?_
      refine aw_sr ?_
      refine al_mv rfl rfl ?_
      refine al_as rfl rfl ?_
      refine al_nt ?_
      obtain ⟨u28, hu29, h⟩ := opt_some h
      obtain ⟨hc32, h⟩ := req_some h
      obtain ⟨r34, hc33, h⟩ := opt_some h
      obtain ⟨u35, hu36, h⟩ := opt_some h
      refine aw_region_draw 11 [(46, (fun u => fEq u v9)), (47, (fun u => fEq u (iq l24i43))), (48, (fun p => fElt v9 p ((l24i43).toNat * Ty.size tyU8))), (49, (fun u => fEq u (i8 (u28.toNat : Int)))), (50, (fun u => fEq u (i8 r23))), (51, (fun u => fEq u (str u19))), (52, (fun u => fEq u (iq l24i43))), (53, (fun u => fEq u (i8 (En.bAt u19 l24i43)))), (54, (fun u => fEq u (i8 r34))), (55, (fun u => fEq u (i8 (bits .xor .u8 (u28.toNat : Int) r34)))), (56, (fun p => fElt v9 p ((l24i43).toNat * Ty.size tyU8)))] (tab [(1, (iq a1)), (5, (iq (a0.length : Int))), (6, v9), (8, (str u19)), (9, (i8 r23)), (10, (iq l24i43)), (25, v0_0), (26, (iq (a0.length : Int))), (27, (iq l12i27)), (42, (iq (l12x6.length : Int))), (43, (iq l24i43))]) mixed (by kernel_rfl) rfl rfl rfl (fun a hs => hs.tab _ (allT_mem ⟨rfl, rfl, rfl, rfl, rfl, rfl, rfl, rfl, rfl, rfl, rfl, trivial⟩)) ⟨⟨rfl, ld_val (ov_move rfl rfl)⟩, ⟨rfl, ld_val (ov_move rfl rfl)⟩, ⟨rfl, ld_eq (j := 0) rfl rfl (ld_eq (j := 1) rfl rfl (ld_of (of_idxR 0 (at_some hu29).1 (at_some hu29).2.1 rfl rfl rfl Try.underlying94 sz5 rfl)))⟩, ⟨rfl, ld_elt (j := 2) rfl rfl (fun p30 hp31 => ld_val (ov_loadR (ds := [(i8 (u28.toNat : Int))]) 0 rfl hp31 (at_some hu29).2.2 (fun h => h) rfl Try.underlying5 sz5 rfl rfl rfl))⟩, ⟨rfl, ld_val (ov_move rfl rfl)⟩, ⟨rfl, ld_val (ov_move rfl rfl)⟩, ⟨rfl, ld_val (ov_move rfl rfl)⟩, ⟨rfl, ld_eq (j := 5) rfl rfl (ld_eq (j := 6) rfl rfl (ld_val (ov_strIdx hc32.1 hc32.2 Try.underlying9 rfl rfl rfl)))⟩, ⟨rfl, ld_eq (j := 4) rfl rfl (ld_eq (j := 7) rfl rfl (ld_callV (vs := [(i8 r23), (i8 (En.bAt u19 l24i43))]) (f_lumref_Mul_ok fu r23 (En.bAt u19 l24i43) hc33) [] pre_nil rfl Try.func45 rfl rfl rfl))⟩, ⟨rfl, ld_eq (j := 3) rfl rfl (ld_eq (j := 8) rfl rfl (ld_val (ov_int rfl rfl rfl rfl)))⟩, ⟨rfl, ld_eq (j := 0) rfl rfl (ld_eq (j := 1) rfl rfl (ld_of (of_idxR 0 (at_some hu36).1 (at_some hu36).2.1 rfl rfl rfl Try.underlying94 sz5 rfl)))⟩, trivial⟩ ?_
      refine tl_eq 9 rfl ?_
      refine tl_elt 10 rfl (fun p37 hp38 => ?_)
      refine tl_done ?_
      obtain ⟨hc39, h⟩ := req_some h
      refine al_storeR (k := (l24i43).toNat) (x := (UInt8.ofNat ((bits .xor .u8 (u28.toNat : Int) r34)).toNat)) (vs := [(i8 (bits .xor .u8 (u28.toNat : Int) r34))]) 0 rfl hp38 (idx_lt hu36) rfl rfl (cv_rfl rfl) (fun _ => u8_rep hc39) sz5 rfl ?_
      refine al_nil ?_
      refine aq_block ?_
      refine aq_then ?_
      refine aw_region ?_
      refine al_in rfl rfl rfl rfl ?_
      refine al_mv rfl rfl ?_
      refine al_nil ?_
      exact aq_again k25 ((l24x6.set (l24i43).toNat (UInt8.ofNat ((bits .xor .u8 (u28.toNat : Int) r34)).toNat)), (wq (l24i43 + (1 : Int)))) (Nat.lt_succ_self _) h (fun w a hm hs => norm hm hs [0] [0, 1, 2] [(1, (iq a1)), (5, (iq (a0.length : Int))), (6, v9), (8, (str u19)), (9, (i8 r23)), (25, v0_0), (26, (iq (a0.length : Int))), (27, (iq l12i27)), (42, (iq (l12x6.length : Int))), (43, (iq (wq (l24i43 + (1 : Int)))))] (by decide) ⟨rfl, rfl, rfl, rfl, rfl, rfl, rfl, rfl, rfl, rfl, trivial⟩)
     ·replace h := bif_f hb27 h
      refine aw_exit ?_
      refine aq_then_exit ?_
      refine aq_then_exit ?_
      refine aq_block_exit ?_
      refine aq_block ?_
      exact aq_join l24x6 h (fun w a hm hs => norm hm hs [0] [0, 2] [(1, (iq a1)), (5, (iq (a0.length : Int))), (6, v9), (25, v0_0), (26, (iq (a0.length : Int))), (27, (iq l12i27))] (by decide) ⟨rfl, rfl, rfl, rfl, rfl, rfl, trivial⟩)
   ·replace h := bif_f hb16 h
    refine aw_exit ?_
    refine aq_then_exit ?_
    refine aq_then_exit ?_
    refine aq_block_exit ?_
    exact aq_join l12x6 h (fun w a hm hs => norm hm hs [0] [1, 0] [(6, v9)] (by decide) ⟨rfl, trivial⟩)
def f_slices_IndexFunc___string_string__F12_L5 (a0 : (List (List UInt8))) (a1_0 : S_api_Shard) (kk2 : (Unit → Option Int)) (fu : Nat) : Nat → Int → Option Int
  | 0, _ => none
  | k4 + 1, l3i8 => (bif (decide (l3i8 < (a0.length : Int))) then (opt (at? a0 l3i8) fun (u7 : (List UInt8)) => (opt (f_lumlaw_ShieldMends_1 fu u7 a1_0) fun (r11 : Bool) => (bif r11 then (some l3i8) else (f_slices_IndexFunc___string_string__F12_L5 a0 a1_0 kk2 fu k4 (IntKind.i64.wrap (l3i8 + (1 : Int))))))) else (kk2 ()))
def f_slices_IndexFunc___string_string__F12 (fu : Nat) (a0 : (List (List UInt8))) (a1_0 : S_api_Shard) : Option Int := (lt (fun (_ : Unit) => (some (-1 : Int))) fun (kk2 : Unit → Option Int) => (f_slices_IndexFunc___string_string__F12_L5 a0 a1_0 kk2 fu fu (0 : Int)))
set_option maxHeartbeats 2000000 in
set_option maxRecDepth 100000 in
theorem f_slices_IndexFunc___string_string__F12_ok (fu : Nat) (v0_0 : Value) (a0 : (List (List UInt8))) (c1_0 : Value) (a1_0 : S_api_Shard) {r : Int} (h : f_slices_IndexFunc___string_string__F12 fu a0 a1_0 = some r) : FnOk Try.prog 43 [v0_0, (Value.func (.func 12) #[] #[c1_0])] [(fDat (tyList tyStr) [v0_0] a0), (fPtr tyS_api_Shard c1_0 a1_0)] [] (fun (i : Unit) => { val := (int .i64 r) }) := by
 unfold f_slices_IndexFunc___string_string__F12 at h
 refine fn_enter Try.func43 rfl Try.ntmps43 rfl (fun w0 Z0 => ?_)
 refine aw_sr ?_
 refine al_as rfl rfl ?_
 refine al_nt ?_
 obtain ⟨kk2, hkk2, h⟩ := lt_some h
 refine aw_seq_join (ι := Unit) (fun i => (memOf w0 Z0 [] [] [(fDat (tyList tyStr) [v0_0] a0), (fPtr tyS_api_Shard c1_0 a1_0)])) (fun i => (tab [])) (fun i => kk2 () = some r) ?_ ?_
 ·rintro _ h
  have h : kk2 () = some r := h
  rw [hkk2] at h
  dsimp only at h
  clear hkk2
  refine aw_show (m := (memOf w0 Z0 [] [] [(fDat (tyList tyStr) [v0_0] a0), (fPtr tyS_api_Shard c1_0 a1_0)])) (S := (tab [])) ?_
  refine aw_sr ?_
  refine al_as rfl rfl ?_
  refine al_nt ?_
  refine aw_ret ?_
  obtain rfl := Option.some.inj h
  exact fn_ret () [] [] rfl rfl rfl rfl (res1 rfl rfl) rfl rfl rfl (by decide)
 ·clear hkk2
  refine aw_sr ?_
  refine al_mv rfl rfl ?_
  refine al_val (ov_lenD 0 rfl rfl Try.underlying23 rfl) ?_
  refine al_mv rfl rfl ?_
  refine al_nt ?_
  refine aw_block ?_
  refine aw_state (aw_loop (ι := Int) (fun i => (memOf w0 Z0 [] [] [(fDat (tyList tyStr) [v0_0] a0), (fPtr tyS_api_Shard c1_0 a1_0)])) (fun i => (tab [(0, v0_0), (1, (Value.func (.func 12) #[] #[c1_0])), (7, (iq (a0.length : Int))), (8, (iq i))])) (fun q i => f_slices_IndexFunc___string_string__F12_L5 a0 a1_0 kk2 fu q i = some r) ?_ fu (0 : Int) h) (fun w a hm hs => norm hm hs [] [0, 1] [(0, v0_0), (1, (Value.func (.func 12) #[] #[c1_0])), (7, (iq (a0.length : Int))), (8, (iq (0 : Int)))] (by decide) ⟨rfl, rfl, rfl, rfl, trivial⟩)
  clear h
  rintro k4 l3i8 h
  have h : f_slices_IndexFunc___string_string__F12_L5 a0 a1_0 kk2 fu k4 l3i8 = some r := h
  obtain _ | k4 := k4
  · rw [f_slices_IndexFunc___string_string__F12_L5] at h; cases h
  rw [f_slices_IndexFunc___string_string__F12_L5] at h
  refine aw_show (m := (memOf w0 Z0 [] [] [(fDat (tyList tyStr) [v0_0] a0), (fPtr tyS_api_Shard c1_0 a1_0)])) (S := (tab [(0, v0_0), (1, (Value.func (.func 12) #[] #[c1_0])), (7, (iq (a0.length : Int))), (8, (iq l3i8))])) ?_
  refine aw_sr ?_
  refine al_in rfl rfl rfl rfl ?_
  refine al_nt ?_
  refine aw_seq ?_
  refine aw_cond rfl (fun hb6 => ?_) (fun hb6 => ?_)
  ·replace h := bif_t hb6 h
   refine aw_skip ?_
   refine aq_then ?_
   refine aw_seq ?_
   refine aw_block ?_
   refine aw_sr ?_
   refine al_mv rfl rfl ?_
   refine al_as rfl rfl ?_
   refine al_nt ?_
   refine aw_sr ?_
   refine al_mv rfl rfl ?_
   refine al_mv rfl rfl ?_
   refine al_mv rfl rfl ?_
   obtain ⟨u7, hu8, h⟩ := opt_some h
   refine al_idxD 0 hu8 rfl rfl rfl Try.underlying23 sz9 rfl (fun p9 => ?_)
   refine al_val (ov_loadP (ds := [(str u7)]) 0 rfl (fun h => h) rfl Try.underlying9 sz9 rfl rfl rfl) ?_
   obtain ⟨r11, hc10, h⟩ := opt_some h
   refine al_callF (vs := [(str u7)]) (caps := [c1_0]) (f_lumlaw_ShieldMends_1_ok fu u7 c1_0 a1_0 hc10) rfl [] [] [] (pre_fz 2 rfl pre_nil) rfl (by simp) (by decide) (.inl rfl) rfl rfl Try.func12 rfl rfl rfl (fun _ => ?_)
   refine al_nt ?_
   refine aw_cond rfl (fun hb12 => ?_) (fun hb12 => ?_)
   ·replace h := bif_t hb12 h
    refine aw_sr ?_
    refine al_mv rfl rfl ?_
    refine al_as rfl rfl ?_
    refine al_nt ?_
    refine aw_ret ?_
    refine aq_block_ret ?_
    refine aq_then_ret ?_
    refine aq_then_ret ?_
    refine aq_block_ret ?_
    refine aq_then_ret ?_
    obtain rfl := Option.some.inj h
    exact fn_ret () [] [] rfl rfl rfl rfl (res1 rfl rfl) rfl rfl rfl (by decide)
   ·replace h := bif_f hb12 h
    refine aw_skip ?_
    refine aq_block ?_
    refine aq_then ?_
    refine aw_region ?_
    refine al_in rfl rfl rfl rfl ?_
    refine al_mv rfl rfl ?_
    refine al_nil ?_
    exact aq_again k4 (wq (l3i8 + (1 : Int))) (Nat.lt_succ_self _) h (fun w a hm hs => norm hm hs [] [1, 2] [(0, v0_0), (1, (Value.func (.func 12) #[] #[c1_0])), (7, (iq (a0.length : Int))), (8, (iq (wq (l3i8 + (1 : Int)))))] (by decide) ⟨rfl, rfl, rfl, rfl, trivial⟩)
  ·replace h := bif_f hb6 h
   refine aw_exit ?_
   refine aq_then_exit ?_
   refine aq_then_exit ?_
   refine aq_block_exit ?_
   exact aq_join () h (fun w a hm hs => norm hm hs [] [0, 1] [] (by decide) trivial)
def f_slices_ContainsFunc___string_string__F12 (fu : Nat) (a0 : (List (List UInt8))) (a1_0 : S_api_Shard) : Option Bool := (opt (f_slices_IndexFunc___string_string__F12 fu a0 a1_0) fun (r2 : Int) => (some (decide (r2 ≥ (0 : Int)))))
set_option maxRecDepth 100000 in
theorem f_slices_ContainsFunc___string_string__F12_ok (fu : Nat) (v0_0 : Value) (a0 : (List (List UInt8))) (c1_0 : Value) (a1_0 : S_api_Shard) {r : Bool} (h : f_slices_ContainsFunc___string_string__F12 fu a0 a1_0 = some r) : FnOk Try.prog 11 [v0_0, (Value.func (.func 12) #[] #[c1_0])] [(fDat (tyList tyStr) [v0_0] a0), (fPtr tyS_api_Shard c1_0 a1_0)] [] (fun (i : Unit) => { val := (bool r) }) := by
 unfold f_slices_ContainsFunc___string_string__F12 at h
 refine fn_enter Try.func11 rfl Try.ntmps11 rfl (fun w0 Z0 => ?_)
 refine aw_sr ?_
 refine al_as rfl rfl ?_
 refine al_nt ?_
 refine aw_sr ?_
 refine al_mv rfl rfl ?_
 refine al_mv rfl rfl ?_
 obtain ⟨r2, hc1, h⟩ := opt_some h
 refine al_call (vs := [v0_0, (Value.func (.func 12) #[] #[c1_0])]) (f_slices_IndexFunc___string_string__F12_ok fu v0_0 a0 c1_0 a1_0 hc1) [] [] [] (pre_fz 0 rfl (pre_fz 1 rfl pre_nil)) rfl (by simp) (by decide) (.inl rfl) rfl Try.func43 rfl rfl rfl (fun _ => ?_)
 refine al_in rfl rfl rfl rfl ?_
 refine al_as rfl rfl ?_
 refine al_nt ?_
 refine aw_ret ?_
 obtain rfl := Option.some.inj h
 exact fn_ret () [] [] rfl rfl rfl rfl (res1 rfl rfl) rfl rfl rfl (by decide)
def f_lumlaw_ShieldMends_L22 (a0 : (List S_api_Shard)) (a1 : Int) (r2 : ((List (List UInt8)) × Int)) (kk17 : (Int → Option Bool)) (fu : Nat) : Nat → Int → Int → Int → Option Bool
  | 0, _, _, _ => none
  | k21 + 1, l20i8, l20i9, l20i48 => (bif (decide (l20i48 < (a0.length : Int))) then (lt (fun (j24i8 : Int) (j24i9 : Int) => (f_lumlaw_ShieldMends_L22 a0 a1 r2 kk17 fu k21 j24i8 j24i9 (IntKind.i64.wrap (l20i48 + (1 : Int))))) fun (kk25 : Int → Int → Option Bool) => (opt (at? a0 l20i48) fun (u26 : S_api_Shard) => (bif (!u26.Has) then (kk25 l20i8 l20i9) else (lt (fun (j31b62 : Bool) => (bif j31b62 then (some false) else (opt (f_lumref_ShardOf fu r2.1 l20i48) fun (r35 : (List UInt8)) => (bif (!(r35 == u26.Bytes)) then (bif (decide ((IntKind.i64.wrap (l20i8 + (1 : Int))) ≤ a1)) then (some false) else (kk25 (IntKind.i64.wrap (l20i8 + (1 : Int))) (6 : Int))) else (kk25 (IntKind.i64.wrap (l20i8 + (1 : Int))) l20i9))))) fun (kk32 : Bool → Option Bool) => (bif (l20i8 == (0 : Int)) then (opt (f_slices_ContainsFunc___string_string__F12 fu r2.1 u26) fun (r40 : Bool) => (kk32 r40)) else (kk32 false)))))) else (kk17 l20i9))
def f_lumlaw_ShieldMends (fu : Nat) (a0 : (List S_api_Shard)) (a1 : Int) : Option Bool := (opt (f_shield_Mend fu a0 a1) fun (r2 : ((List (List UInt8)) × Int)) => (opt (f_lumref_MendErr fu a0 a1) fun (r5 : Int) => (bif (r5 != (0 : Int)) then (lt (fun (j7b4 : Bool) => (some j7b4)) fun (kk8 : Bool → Option Bool) => (bif ((r2.1.length : Int) == (0 : Int)) then (bif (r2.2 == r5) then (opt (f_shield_Check fu a0 a1) fun (r12 : Int) => (kk8 (r12 == r5))) else (kk8 false)) else (kk8 false))) else (lt (fun (j13b45 : Bool) => (bif j13b45 then (some false) else (lt (fun (j16i9 : Int) => (opt (f_shield_Check fu a0 a1) fun (r19 : Int) => (some (r19 == j16i9)))) fun (kk17 : Int → Option Bool) => (f_lumlaw_ShieldMends_L22 a0 a1 r2 kk17 fu fu (0 : Int) (0 : Int) (0 : Int))))) fun (kk14 : Bool → Option Bool) => (bif (r2.2 != (0 : Int)) then (kk14 true) else (kk14 ((r2.1.length : Int) != a1)))))))
set_option maxRecDepth 100000 in
set_option maxHeartbeats 2000000 in
set_option maxHeartbeats 2000000 in
theorem f_lumlaw_ShieldMends_ok (fu : Nat) (v0_0 : Value) (a0 : (List S_api_Shard)) (a1 : Int) {r : Bool} (h : f_lumlaw_ShieldMends fu a0 a1 = some r) : FnOk Try.prog 3 [v0_0, (int .i64 a1)] [(fDat (tyList tyS_api_Shard) [v0_0] a0)] [] (fun (i : Unit) => { val := (bool r) }) := by
 unfold f_lumlaw_ShieldMends at h
 refine fn_enter Try.func3 rfl Try.ntmps3 rfl (fun w0 Z0 => ?_)
 refine aw_sr ?_
 refine al_as rfl rfl ?_
 refine al_nt ?_
 refine aw_sr ?_
 refine al_mv rfl rfl ?_
 refine al_mv rfl rfl ?_
 obtain ⟨r2, hc1, h⟩ := opt_some h
 refine al_call (vs := [v0_0, (iq a1)]) (f_shield_Mend_ok fu v0_0 a0 a1 hc1) [] [] [] (pre_fz 0 rfl pre_nil) rfl (by simp) (by decide) (.inl rfl) rfl Try.func8 rfl rfl rfl (fun v3 => ?_)
 refine al_mv rfl rfl ?_
 refine al_ex rfl rfl rfl ?_
 refine al_ex rfl rfl rfl ?_
 refine al_as rfl rfl ?_
 refine al_as rfl rfl ?_
 refine al_nt ?_
 refine aw_seq ?_
 refine aw_sr ?_
 refine al_mv rfl rfl ?_
 refine al_mv rfl rfl ?_
 obtain ⟨r5, hc4, h⟩ := opt_some h
 refine al_call (vs := [v0_0, (iq a1)]) (f_lumref_MendErr_ok fu v0_0 a0 a1 hc4) [] [] [0] (pre_fz 0 rfl pre_nil) rfl (by simp) (by decide) (.inl rfl) rfl Try.func9 rfl rfl rfl (fun _ => ?_)
 refine al_as rfl rfl ?_
 refine al_nt ?_
 refine aw_sr ?_
 refine al_mv rfl rfl ?_
 refine al_in rfl rfl rfl rfl ?_
 refine al_nt ?_
 refine aw_cond rfl (fun hb6 => ?_) (fun hb6 => ?_)
 ·replace h := bif_t hb6 h
  obtain ⟨kk8, hkk8, h⟩ := lt_some h
  refine aw_seq_join (ι := Bool) (fun i => (memOf w0 Z0 [] [] [(fDat (tyList tyS_api_Shard) [v0_0] a0)])) (fun i => (tab [(4, (bool i))])) (fun i => kk8 i = some r) ?_ ?_
  ·rintro j7b4 h
   have h : kk8 j7b4 = some r := h
   rw [hkk8] at h
   dsimp only at h
   clear hkk8
   refine aw_show (m := (memOf w0 Z0 [] [] [(fDat (tyList tyS_api_Shard) [v0_0] a0)])) (S := (tab [(4, (bool j7b4))])) ?_
   refine aw_ret ?_
   refine aq_then_ret ?_
   obtain rfl := Option.some.inj h
   exact fn_ret () [] [] rfl rfl rfl rfl (res1 rfl rfl) rfl rfl rfl (by decide)
  ·clear hkk8
   refine aw_region ?_
   refine al_mv rfl rfl ?_
   refine al_val (ov_lenR 0 rfl rfl Try.underlying23 rfl) ?_
   refine al_in rfl rfl rfl rfl ?_
   refine al_mv rfl rfl ?_
   refine al_caseB 26 rfl (fun hb9 => ?_) (fun hb9 => ?_)
   ·replace h := bif_t hb9 h
    refine al_mv rfl rfl ?_
    refine al_mv rfl rfl ?_
    refine al_in rfl rfl rfl rfl ?_
    refine al_val (ov_pick_t rfl rfl rfl) ?_
    refine al_mv rfl rfl ?_
    refine al_caseB 31 rfl (fun hb10 => ?_) (fun hb10 => ?_)
    ·replace h := bif_t hb10 h
     refine al_mv rfl rfl ?_
     refine al_mv rfl rfl ?_
     obtain ⟨r12, hc11, h⟩ := opt_some h
     refine al_call (vs := [v0_0, (iq a1)]) (f_shield_Check_ok fu v0_0 a0 a1 hc11) [] [] [0] (pre_fz 0 rfl pre_nil) rfl (by simp) (by decide) (.inl rfl) rfl Try.func10 rfl rfl rfl (fun _ => ?_)
     refine al_mv rfl rfl ?_
     refine al_in rfl rfl rfl rfl ?_
     refine al_val (ov_pick_t rfl rfl rfl) ?_
     refine al_as rfl rfl ?_
     refine al_nil ?_
     exact aq_join (r12 == r5) h (fun w a hm hs => norm hm hs [] [0] [(4, (bool (r12 == r5)))] (by decide) ⟨rfl, trivial⟩)
    ·replace h := bif_f hb10 h
     refine al_skip ?_
     refine al_skip ?_
     refine al_skip ?_
     refine al_skip ?_
     refine al_skip ?_
     refine al_val (ov_pick_f rfl rfl rfl) ?_
     refine al_as rfl rfl ?_
     refine al_nil ?_
     exact aq_join false h (fun w a hm hs => norm hm hs [] [0] [(4, (bool false))] (by decide) ⟨rfl, trivial⟩)
   ·replace h := bif_f hb9 h
    refine al_skip ?_
    refine al_skip ?_
    refine al_skip ?_
    refine al_val (ov_pick_f rfl rfl rfl) ?_
    refine al_mv rfl rfl ?_
    refine al_skip ?_
    refine al_skip ?_
    refine al_skip ?_
    refine al_skip ?_
    refine al_skip ?_
    refine al_val (ov_pick_f rfl rfl rfl) ?_
    refine al_as rfl rfl ?_
    refine al_nil ?_
    exact aq_join false h (fun w a hm hs => norm hm hs [] [0] [(4, (bool false))] (by decide) ⟨rfl, trivial⟩)
 ·replace h := bif_f hb6 h
  refine aw_skip ?_
  refine aq_then ?_
  refine aw_seq ?_
  obtain ⟨kk14, hkk14, h⟩ := lt_some h
  refine aw_seq_join (ι := Bool) (fun i => (memOf w0 Z0 [] [(oRow v3 9 tyStr r2.1)] [(fDat (tyList tyS_api_Shard) [v0_0] a0)])) (fun i => (tab [(0, v0_0), (1, (iq a1)), (5, v3), (45, (bool i))])) (fun i => kk14 i = some r) ?_ ?_
  ·rintro j13b45 h
   have h : kk14 j13b45 = some r := h
   rw [hkk14] at h
   dsimp only at h
   clear hkk14
   refine aw_show (m := (memOf w0 Z0 [] [(oRow v3 9 tyStr r2.1)] [(fDat (tyList tyS_api_Shard) [v0_0] a0)])) (S := (tab [(0, v0_0), (1, (iq a1)), (5, v3), (45, (bool j13b45))])) ?_
   refine aw_cond rfl (fun hb15 => ?_) (fun hb15 => ?_)
   ·replace h := bif_t hb15 h
    refine aw_sr ?_
    refine al_as rfl rfl ?_
    refine al_nt ?_
    refine aw_ret ?_
    refine aq_then_ret ?_
    obtain rfl := Option.some.inj h
    exact fn_ret () [] [] rfl rfl rfl rfl (res1 rfl rfl) rfl rfl rfl (by decide)
   ·replace h := bif_f hb15 h
    refine aw_skip ?_
    refine aq_tr ?_
    refine al_as rfl rfl ?_
    refine al_as rfl rfl ?_
    refine al_nt ?_
    obtain ⟨kk17, hkk17, h⟩ := lt_some h
    refine aw_seq_join (ι := Int) (fun i => (memOf w0 Z0 [] [] [(fDat (tyList tyS_api_Shard) [v0_0] a0)])) (fun i => (tab [(0, v0_0), (1, (iq a1)), (9, (iq i))])) (fun i => kk17 i = some r) ?_ ?_
    ·rintro j16i9 h
     have h : kk17 j16i9 = some r := h
     rw [hkk17] at h
     dsimp only at h
     clear hkk17
     refine aw_show (m := (memOf w0 Z0 [] [] [(fDat (tyList tyS_api_Shard) [v0_0] a0)])) (S := (tab [(0, v0_0), (1, (iq a1)), (9, (iq j16i9))])) ?_
     refine aw_sr ?_
     refine al_mv rfl rfl ?_
     refine al_mv rfl rfl ?_
     obtain ⟨r19, hc18, h⟩ := opt_some h
     refine al_call (vs := [v0_0, (iq a1)]) (f_shield_Check_ok fu v0_0 a0 a1 hc18) [] [] [] (pre_fz 0 rfl pre_nil) rfl (by simp) (by decide) (.inl rfl) rfl Try.func10 rfl rfl rfl (fun _ => ?_)
     refine al_mv rfl rfl ?_
     refine al_in rfl rfl rfl rfl ?_
     refine al_as rfl rfl ?_
     refine al_nt ?_
     refine aw_ret ?_
     obtain rfl := Option.some.inj h
     exact fn_ret () [] [] rfl rfl rfl rfl (res1 rfl rfl) rfl rfl rfl (by decide)
    ·clear hkk17
     refine aw_sr ?_
     refine al_mv rfl rfl ?_
     refine al_val (ov_lenD 0 rfl rfl Try.underlying22 rfl) ?_
     refine al_mv rfl rfl ?_
     refine al_nt ?_
     refine aw_block ?_
     refine aw_state (aw_loop (ι := Int × Int × Int) (fun i => (memOf w0 Z0 [] [(oRow v3 9 tyStr r2.1)] [(fDat (tyList tyS_api_Shard) [v0_0] a0)])) (fun i => (tab [(0, v0_0), (1, (iq a1)), (5, v3), (8, (iq i.1)), (9, (iq i.2.1)), (46, v0_0), (47, (iq (a0.length : Int))), (48, (iq i.2.2))])) (fun q i => f_lumlaw_ShieldMends_L22 a0 a1 r2 kk17 fu q i.1 i.2.1 i.2.2 = some r) ?_ fu ((0 : Int), (0 : Int), (0 : Int)) h) (fun w a hm hs => norm hm hs [0] [0] [(0, v0_0), (1, (iq a1)), (5, v3), (8, (iq (0 : Int))), (9, (iq (0 : Int))), (46, v0_0), (47, (iq (a0.length : Int))), (48, (iq (0 : Int)))] (by decide) ⟨rfl, rfl, rfl, rfl, rfl, rfl, rfl, rfl, trivial⟩)
     clear h
     rintro k21 ⟨l20i8, l20i9, l20i48⟩ h
     have h : f_lumlaw_ShieldMends_L22 a0 a1 r2 kk17 fu k21 l20i8 l20i9 l20i48 = some r := h
     obtain _ | k21 := k21
     · rw [f_lumlaw_ShieldMends_L22] at h; cases h
     rw [f_lumlaw_ShieldMends_L22] at h
     refine aw_show (m := (memOf w0 Z0 [] [(oRow v3 9 tyStr r2.1)] [(fDat (tyList tyS_api_Shard) [v0_0] a0)])) (S := (tab [(0, v0_0), (1, (iq a1)), (5, v3), (8, (iq l20i8)), (9, (iq l20i9)), (46, v0_0), (47, (iq (a0.length : Int))), (48, (iq l20i48))])) ?_
     refine aw_sr ?_
     refine al_in rfl rfl rfl rfl ?_
     refine al_nt ?_
     refine aw_seq ?_
     refine aw_cond rfl (fun hb23 => ?_) (fun hb23 => ?_)
     ·replace h := bif_t hb23 h
      refine aw_skip ?_
      refine aq_then ?_
      obtain ⟨kk25, hkk25, h⟩ := lt_some h
      refine aw_seq_join (ι := Int × Int) (fun i => (memOf w0 Z0 [] [(oRow v3 9 tyStr r2.1)] [(fDat (tyList tyS_api_Shard) [v0_0] a0)])) (fun i => (tab [(0, v0_0), (1, (iq a1)), (5, v3), (8, (iq i.1)), (9, (iq i.2)), (46, v0_0), (47, (iq (a0.length : Int))), (48, (iq l20i48))])) (fun i => kk25 i.1 i.2 = some r) ?_ ?_
      ·rintro ⟨j24i8, j24i9⟩ h
       have h : kk25 j24i8 j24i9 = some r := h
       rw [hkk25] at h
       dsimp only at h
       clear hkk25
       refine aw_show (m := (memOf w0 Z0 [] [(oRow v3 9 tyStr r2.1)] [(fDat (tyList tyS_api_Shard) [v0_0] a0)])) (S := (tab [(0, v0_0), (1, (iq a1)), (5, v3), (8, (iq j24i8)), (9, (iq j24i9)), (46, v0_0), (47, (iq (a0.length : Int))), (48, (iq l20i48))])) ?_
       refine aw_region ?_
       refine al_in rfl rfl rfl rfl ?_
       refine al_mv rfl rfl ?_
       refine al_nil ?_
       exact aq_again k21 (j24i8, j24i9, (wq (l20i48 + (1 : Int)))) (Nat.lt_succ_self _) h (fun w a hm hs => norm hm hs [0] [0] [(0, v0_0), (1, (iq a1)), (5, v3), (8, (iq j24i8)), (9, (iq j24i9)), (46, v0_0), (47, (iq (a0.length : Int))), (48, (iq (wq (l20i48 + (1 : Int)))))] (by decide) ⟨rfl, rfl, rfl, rfl, rfl, rfl, rfl, rfl, trivial⟩)
      ·clear hkk25
       refine aw_block ?_
       refine aw_sr ?_
       refine al_mv rfl rfl ?_
       obtain ⟨u26, hu27, h⟩ := opt_some h
       refine al_idxD 0 hu27 rfl rfl rfl Try.underlying22 sz29 rfl (fun p28 => ?_)
       refine al_val (ov_loadP (ds := [(bool u26.Has), (str u26.Bytes)]) 0 rfl encS_api_Shard rfl Try.underlying29 sz29 rfl rfl rfl) ?_
       refine al_alloc (zs := [(bool false), (str ([] : List UInt8))]) (zeroOf_to to29) rfl rfl (fun g29 => ?_)
       refine al_as rfl rfl ?_
       refine al_store (i := 0) (vs := [(bool u26.Has), (str u26.Bytes)]) (cs' := [(bool u26.Has), (str u26.Bytes)]) rfl rfl rfl sz29 (cv_rfl rfl) rfl (co_val rfl (co_val rfl co_nil)) (Nat.le_of_ble_eq_true rfl) rfl rfl ?_
       refine al_nt ?_
       refine aw_seq ?_
       refine aw_sr ?_
       refine al_val (ov_fieldA (p := 0) rfl Try.underlying29 rfl sz4 rfl rfl rfl) ?_
       refine al_val (ov_load (i := 0) (v := (bool u26.Has)) rfl rfl Try.underlying4 sz4 rfl rfl rfl rfl) ?_
       refine al_val (ov_not rfl rfl) ?_
       refine al_nt ?_
       refine aw_cond rfl (fun hb30 => ?_) (fun hb30 => ?_)
       ·replace h := bif_t hb30 h
        refine aw_exit ?_
        refine aq_then_exit ?_
        refine aq_block_exit ?_
        exact aq_join (l20i8, l20i9) h (fun w a hm hs => norm hm hs [1] [1] [(0, v0_0), (1, (iq a1)), (5, v3), (8, (iq l20i8)), (9, (iq l20i9)), (46, v0_0), (47, (iq (a0.length : Int))), (48, (iq l20i48))] (by decide) ⟨rfl, rfl, rfl, rfl, rfl, rfl, rfl, rfl, trivial⟩)
       ·replace h := bif_f hb30 h
        refine aw_skip ?_
        refine aq_then ?_
        refine aw_seq ?_
        obtain ⟨kk32, hkk32, h⟩ := lt_some h
        refine aw_seq_join (ι := Bool) (fun i => (memOf w0 Z0 [] [(oRow v3 9 tyStr r2.1), (oBox g29 29 [(bool u26.Has), (str u26.Bytes)])] [(fDat (tyList tyS_api_Shard) [v0_0] a0), (fPtr tyS_api_Shard p28 u26)])) (fun i => (tab [(0, v0_0), (1, (iq a1)), (5, v3), (8, (iq l20i8)), (9, (iq l20i9)), (10, (iq l20i48)), (11, (pq g29)), (46, v0_0), (47, (iq (a0.length : Int))), (48, (iq l20i48)), (62, (bool i))])) (fun i => kk32 i = some r) ?_ ?_
        ·rintro j31b62 h
         have h : kk32 j31b62 = some r := h
         rw [hkk32] at h
         dsimp only at h
         clear hkk32
         refine aw_show (m := (memOf w0 Z0 [] [(oRow v3 9 tyStr r2.1), (oBox g29 29 [(bool u26.Has), (str u26.Bytes)])] [(fDat (tyList tyS_api_Shard) [v0_0] a0), (fPtr tyS_api_Shard p28 u26)])) (S := (tab [(0, v0_0), (1, (iq a1)), (5, v3), (8, (iq l20i8)), (9, (iq l20i9)), (10, (iq l20i48)), (11, (pq g29)), (46, v0_0), (47, (iq (a0.length : Int))), (48, (iq l20i48)), (62, (bool j31b62))])) ?_
         refine aw_cond rfl (fun hb33 => ?_) (fun hb33 => ?_)
         ·replace h := bif_t hb33 h
          refine aw_sr ?_
          refine al_as rfl rfl ?_
          refine al_nt ?_
          refine aw_ret ?_
          refine aq_then_ret ?_
          refine aq_block_ret ?_
          refine aq_then_ret ?_
          refine aq_then_ret ?_
          refine aq_block_ret ?_
          refine aq_then_ret ?_
          obtain rfl := Option.some.inj h
          exact fn_ret () [] [] rfl rfl rfl rfl (res1 rfl rfl) rfl rfl rfl (by decide)
         ·replace h := bif_f hb33 h
          refine aw_skip ?_
          refine aq_tr ?_
          refine al_mv rfl rfl ?_
          refine al_in rfl rfl rfl rfl ?_
          refine al_as rfl rfl ?_
          refine al_nt ?_
          refine aw_seq ?_
          obtain ⟨r35, hc34, h⟩ := opt_some h
          refine aw_region_draw 5 [(65, (fun u => fEq u v3)), (66, (fun u => fEq u (iq l20i48))), (67, (fun u => fEq u (str r35))), (68, (fun u => fEq u (ptr g29 1))), (69, (fun u => fEq u (str u26.Bytes)))] (tab [(0, v0_0), (1, (iq a1)), (5, v3), (8, (iq (wq (l20i8 + (1 : Int))))), (9, (iq l20i9)), (10, (iq l20i48)), (11, (pq g29)), (46, v0_0), (47, (iq (a0.length : Int))), (48, (iq l20i48))]) mixed (by kernel_rfl) rfl rfl rfl (fun a hs => hs.tab _ (allT_mem ⟨rfl, rfl, rfl, rfl, rfl, rfl, rfl, rfl, rfl, rfl, trivial⟩)) ⟨⟨rfl, ld_val (ov_move rfl rfl)⟩, ⟨rfl, ld_val (ov_move rfl rfl)⟩, ⟨rfl, ld_eq (j := 0) rfl rfl (ld_eq (j := 1) rfl rfl (ld_callV (vs := [v3, (iq l20i48)]) (f_lumref_ShardOf_ok fu v3 r2.1 l20i48 hc34) [0] (pre_own 0 rfl rfl pre_nil) rfl Try.func13 rfl rfl rfl))⟩, ⟨rfl, ld_val (ov_fieldA (p := 1) rfl Try.underlying29 rfl sz9 rfl rfl rfl)⟩, ⟨rfl, ld_eq (j := 3) rfl rfl (ld_val (ov_load (i := 1) (v := (str u26.Bytes)) rfl rfl Try.underlying9 sz9 rfl rfl rfl rfl))⟩, trivial⟩ ?_
          refine tl_eq 2 rfl ?_
          refine tl_eq 4 rfl ?_
          refine tl_done ?_
          refine al_val (ov_strCmp rfl rfl rfl rfl) ?_
          refine al_nt ?_
          refine aw_cond rfl (fun hb36 => ?_) (fun hb36 => ?_)
          ·replace h := bif_t hb36 h
           refine aw_seq ?_
           refine aw_sr ?_
           refine al_mv rfl rfl ?_
           refine al_mv rfl rfl ?_
           refine al_in rfl rfl rfl rfl ?_
           refine al_nt ?_
           refine aw_cond rfl (fun hb37 => ?_) (fun hb37 => ?_)
           ·replace h := bif_t hb37 h
            refine aw_sr ?_
            refine al_as rfl rfl ?_
            refine al_nt ?_
            refine aw_ret ?_
            refine aq_then_ret ?_
            refine aq_block_ret ?_
            refine aq_then_ret ?_
            refine aq_then_ret ?_
            refine aq_block_ret ?_
            refine aq_then_ret ?_
            obtain rfl := Option.some.inj h
            exact fn_ret () [] [] rfl rfl rfl rfl (res1 rfl rfl) rfl rfl rfl (by decide)
           ·replace h := bif_f hb37 h
            refine aw_skip ?_
            refine aq_then ?_
            refine aw_region ?_
            refine al_as rfl rfl ?_
            refine al_nil ?_
            refine aq_block ?_
            exact aq_join ((wq (l20i8 + (1 : Int))), (6 : Int)) h (fun w a hm hs => norm hm hs [0] [0] [(0, v0_0), (1, (iq a1)), (5, v3), (8, (iq (wq (l20i8 + (1 : Int))))), (9, (iq (6 : Int))), (46, v0_0), (47, (iq (a0.length : Int))), (48, (iq l20i48))] (by decide) ⟨rfl, rfl, rfl, rfl, rfl, rfl, rfl, rfl, trivial⟩)
          ·replace h := bif_f hb36 h
           refine aw_skip ?_
           refine aq_block ?_
           exact aq_join ((wq (l20i8 + (1 : Int))), l20i9) h (fun w a hm hs => norm hm hs [0] [0] [(0, v0_0), (1, (iq a1)), (5, v3), (8, (iq (wq (l20i8 + (1 : Int))))), (9, (iq l20i9)), (46, v0_0), (47, (iq (a0.length : Int))), (48, (iq l20i48))] (by decide) ⟨rfl, rfl, rfl, rfl, rfl, rfl, rfl, rfl, trivial⟩)
        ·clear hkk32
         refine aw_region ?_
         refine al_mv rfl rfl ?_
         refine al_in rfl rfl rfl rfl ?_
         refine al_mv rfl rfl ?_
         refine al_caseB 58 rfl (fun hb38 => ?_) (fun hb38 => ?_)
         ·replace h := bif_t hb38 h
          refine al_mv rfl rfl ?_
          refine al_val (ov_makeFunc2 (vs := [(pq g29)]) rfl rfl) ?_
          obtain ⟨r40, hc39, h⟩ := opt_some h
          refine al_call (vs := [v3, (Value.func (.func 12) #[] #[(pq g29)])]) (f_slices_ContainsFunc___string_string__F12_ok fu v3 r2.1 (pq g29) u26 hc39) [0, 1] [] [0, 1] (pre_own 1 rfl rfl (pre_boxP (x := u26) 0 rfl rfl (fun _ _ => mkS_api_Shard rfl) pre_nil)) rfl (by simp) (by decide) (.inr flat_res0) rfl Try.func11 rfl rfl rfl (fun _ => ?_)
          refine al_val (ov_pick_t rfl rfl rfl) ?_
          refine al_nil ?_
          exact aq_join r40 h (fun w a hm hs => norm hm hs [1, 0] [1, 0] [(0, v0_0), (1, (iq a1)), (5, v3), (8, (iq l20i8)), (9, (iq l20i9)), (10, (iq l20i48)), (11, (pq g29)), (46, v0_0), (47, (iq (a0.length : Int))), (48, (iq l20i48)), (62, (bool r40))] (by decide) ⟨rfl, rfl, rfl, rfl, rfl, rfl, rfl, rfl, rfl, rfl, rfl, trivial⟩)
         ·replace h := bif_f hb38 h
          refine al_skip ?_
          refine al_skip ?_
          refine al_skip ?_
          refine al_val (ov_pick_f rfl rfl rfl) ?_
          refine al_nil ?_
          exact aq_join false h (fun w a hm hs => norm hm hs [1, 0] [1, 0] [(0, v0_0), (1, (iq a1)), (5, v3), (8, (iq l20i8)), (9, (iq l20i9)), (10, (iq l20i48)), (11, (pq g29)), (46, v0_0), (47, (iq (a0.length : Int))), (48, (iq l20i48)), (62, (bool false))] (by decide) ⟨rfl, rfl, rfl, rfl, rfl, rfl, rfl, rfl, rfl, rfl, rfl, trivial⟩)
     ·replace h := bif_f hb23 h
      refine aw_exit ?_
      refine aq_then_exit ?_
      refine aq_then_exit ?_
      refine aq_block_exit ?_
      exact aq_join l20i9 h (fun w a hm hs => norm hm hs [] [0] [(0, v0_0), (1, (iq a1)), (9, (iq l20i9))] (by decide) ⟨rfl, rfl, rfl, trivial⟩)
  ·clear hkk14
   refine aw_region ?_
   refine al_mv rfl rfl ?_
   refine al_in rfl rfl rfl rfl ?_
   refine al_mv rfl rfl ?_
   refine al_caseB 40 rfl (fun hb41 => ?_) (fun hb41 => ?_)
   ·replace h := bif_t hb41 h
    refine al_skip ?_
    refine al_skip ?_
    refine al_skip ?_
    refine al_skip ?_
    refine al_val (ov_pick_t rfl rfl rfl) ?_
    refine al_nil ?_
    exact aq_join true h (fun w a hm hs => norm hm hs [0] [0] [(0, v0_0), (1, (iq a1)), (5, v3), (45, (bool true))] (by decide) ⟨rfl, rfl, rfl, rfl, trivial⟩)
   ·replace h := bif_f hb41 h
    refine al_mv rfl rfl ?_
    refine al_val (ov_lenR 0 rfl rfl Try.underlying23 rfl) ?_
    refine al_mv rfl rfl ?_
    refine al_in rfl rfl rfl rfl ?_
    refine al_val (ov_pick_f rfl rfl rfl) ?_
    refine al_nil ?_
    exact aq_join ((r2.1.length : Int) != a1) h (fun w a hm hs => norm hm hs [0] [0] [(0, v0_0), (1, (iq a1)), (5, v3), (45, (bool ((r2.1.length : Int) != a1)))] (by decide) ⟨rfl, rfl, rfl, rfl, trivial⟩)
end Go.Proofs.Ytpakblkldklbmaa
namespace Go.Proofs.Ytpakblkldklbmaa
open Go.RowKit
theorem i64_keep (n : Int) (h₀ : 0 ≤ n) (h₁ : n < 2 ^ 63) : IntKind.i64.wrap n = n := IntWalk.i64_in n (by omega)
theorem i64_and_nat (a b : Nat) (ha : a < 9223372036854775808) (hb : b < 9223372036854775808) : bits .and .i64 (a : Int) (b : Int) = ((a &&& b : Nat) : Int) := (bits_nat .i64 63 (by decide) i64_keep a b ha hb).1
theorem i64_xor_nat (a b : Nat) (ha : a < 9223372036854775808) (hb : b < 9223372036854775808) : bits .xor .i64 (a : Int) (b : Int) = ((a ^^^ b : Nat) : Int) := by
  have hp : (2 : Nat) ^ IntKind.i64.bits = 18446744073709551616 := rfl
  simp only [bits, BitVec.ofInt_natCast, BitVec.toNat_xor, BitVec.toNat_ofNat]
  rw [hp, Nat.mod_eq_of_lt (show a < 18446744073709551616 by omega), Nat.mod_eq_of_lt (show b < 18446744073709551616 by omega)]
  have hx : a ^^^ b < 2 ^ 63 := Nat.xor_lt_two_pow (n := 63) ha hb
  exact IntWalk.i64_in _ (by omega)
end Go.Proofs.Ytpakblkldklbmaa
namespace Go.Proofs.Ytpakblkldklbmaa
open Go.RowKit Ytpakblkldklbmaa.En
theorem at_nat {α : Type} (xs : List α) (k : Nat) : at? xs (k : Int) = xs[k]? := by unfold at?; rw [if_pos (Int.natCast_nonneg k)]; simp
theorem at_lt {α : Type} {xs : List α} {k : Nat} (h : k < xs.length) : at? xs (k : Int) = some xs[k] := by rw [at_nat, List.getElem?_eq_getElem h]
theorem at_of {α : Type} {xs : List α} {k : Nat} {x : α} (h : xs[k]? = some x) : at? xs (k : Int) = some x := by rw [at_nat, h]
theorem w64 {x : Int} (h0 : -9223372036854775808 ≤ x) (h1 : x ≤ 9223372036854775807) : IntKind.i64.wrap x = x := IntWalk.i64_in x (by omega)
theorem wsucc {k : Nat} (h : k < 9223372036854775807) : IntKind.i64.wrap ((k : Int) + 1) = ((k + 1 : Nat) : Int) := by rw [w64 (by omega) (by omega)]; omega
theorem dlt {a b : Int} (h : a < b) : decide (a < b) = true := decide_eq_true h
theorem dge {a b : Int} (h : b ≤ a) : decide (a < b) = false := decide_eq_false (by omega)
theorem cond_tt {α : Type} {b : Bool} {x y : α} (h : b = true) : (bif b then x else y) = x := by rw [h]; rfl
theorem cond_ff {α : Type} {b : Bool} {x y : α} (h : b = false) : (bif b then x else y) = y := by rw [h]; rfl
end Go.Proofs.Ytpakblkldklbmaa
namespace Go.Proofs.Ytpakblkldklbmaa
open Go.RowKit Ytpakblkldklbmaa.En
theorem shr_nat {x m : Nat} {j : Int} {k : IntKind} (hj : j = (m : Int)) (hm : m ≤ k.bits) : ((x : Int)).fdiv (2 ^ min j.toNat k.bits) = ((x / 2 ^ m : Nat) : Int) := by
  subst hj
  rw [Int.toNat_natCast, Nat.min_eq_left hm, Int.fdiv_eq_ediv_of_nonneg _ (by apply Int.le_of_lt; apply Int.pow_pos; decide)]
  simp
theorem shl_nat {x m : Nat} {j : Int} {k : IntKind} (hj : j = (m : Int)) (hm : m ≤ k.bits) : ((x : Int)) * 2 ^ min j.toNat k.bits = ((x * 2 ^ m : Nat) : Int) := by
  subst hj
  rw [Int.toNat_natCast, Nat.min_eq_left hm]
  simp
theorem u8w (x : Nat) : IntKind.u8.wrap (x : Int) = ((x % 256 : Nat) : Int) := by
  unfold IntKind.wrap
  simp [IntKind.signed, IntKind.bits]
theorem u8w_in {x : Nat} (h : x < 256) : IntKind.u8.wrap (x : Int) = (x : Int) := by rw [u8w, Nat.mod_eq_of_lt h]
theorem byte_of {x : Nat} (h : x < 256) : ((UInt8.ofNat x).toNat : Int) = x := by
  rw [UInt8.toNat_ofNat']; omega
theorem byte_lt (b : UInt8) : b.toNat < 256 := b.toNat_lt
end Go.Proofs.Ytpakblkldklbmaa
namespace Go.Proofs.Ytpakblkldklbmaa.Fld
def xtime (a : Nat) : Nat := 2 * a ^^^ (if a.testBit 7 then 285 else 0)
def xt : Nat → Nat → Nat
  | 0, a => a
  | i + 1, a => xtime (xt i a)
def gmTo (a b : Nat) : Nat → Nat
  | 0 => 0
  | k + 1 => gmTo a b k ^^^ (if b.testBit k then xt k a else 0)
def gm (a b : Nat) : Nat := gmTo a b 8
theorem two_mul_xor (a b : Nat) : 2 * (a ^^^ b) = 2 * a ^^^ 2 * b := by
  apply Nat.eq_of_testBit_eq
  intro i
  rw [Nat.testBit_xor]
  cases i with
  | zero => simp
  | succ i => simp [Nat.testBit_succ]
theorem ite_xor (a b : Bool) (x : Nat) : (if (a != b) then x else 0) = (if a then x else 0) ^^^ (if b then x else 0) := by
  cases a <;> cases b <;> simp
theorem ite_xor2 (a : Bool) (x y : Nat) : (if a then x ^^^ y else 0) = (if a then x else 0) ^^^ (if a then y else 0) := by
  cases a <;> simp
theorem xor4 (a b c d : Nat) : (a ^^^ b) ^^^ (c ^^^ d) = (a ^^^ c) ^^^ (b ^^^ d) := by
  rw [Nat.xor_assoc, Nat.xor_assoc, ← Nat.xor_assoc b c d, ← Nat.xor_assoc c b d, Nat.xor_comm b c]
theorem xtime_xor (a b : Nat) : xtime (a ^^^ b) = xtime a ^^^ xtime b := by
  unfold xtime
  rw [two_mul_xor, Nat.testBit_xor, ite_xor, xor4]
theorem xt_xor (i a b : Nat) : xt i (a ^^^ b) = xt i a ^^^ xt i b := by
  induction i with
  | zero => rfl
  | succ i ih => rw [xt, ih, xtime_xor]; rfl
theorem gmTo_right (a b c k : Nat) : gmTo a (b ^^^ c) k = gmTo a b k ^^^ gmTo a c k := by
  induction k with
  | zero => simp [gmTo]
  | succ k ih => rw [gmTo, ih, Nat.testBit_xor, ite_xor, xor4]; rfl
theorem gmTo_left (a b c k : Nat) : gmTo (a ^^^ b) c k = gmTo a c k ^^^ gmTo b c k := by
  induction k with
  | zero => simp [gmTo]
  | succ k ih => rw [gmTo, ih, xt_xor, ite_xor2, xor4]; rfl
theorem gm_right (a b c : Nat) : gm a (b ^^^ c) = gm a b ^^^ gm a c := gmTo_right a b c 8
theorem gm_left (a b c : Nat) : gm (a ^^^ b) c = gm a c ^^^ gm b c := gmTo_left a b c 8
def Lin (f : Nat → Nat) : Prop := ∀ a b, f (a ^^^ b) = f a ^^^ f b
theorem Lin.zero {f : Nat → Nat} (h : Lin f) : f 0 = 0 := by
  have := h 0 0
  rw [Nat.xor_self, Nat.xor_self] at this
  exact this
theorem low_bit (k a : Nat) (h : a < 2 ^ (k + 1)) (h2 : 2 ^ k ≤ a) : a = (a - 2 ^ k) ^^^ 2 ^ k := by
  have hlt : a - 2 ^ k < 2 ^ k := by rw [Nat.pow_succ] at h; omega
  apply Nat.eq_of_testBit_eq
  intro i
  rw [Nat.testBit_xor, Nat.testBit_two_pow]
  have ha : a = 2 ^ k + (a - 2 ^ k) := by omega
  by_cases hi : i = k
  · subst hi
    have h1 : (a - 2 ^ i).testBit i = false := Nat.testBit_lt_two_pow hlt
    have h3 : a.testBit i = true := by rw [ha, Nat.testBit_two_pow_add_eq, h1]; rfl
    rw [h1, h3]; simp
  · have hki : ¬ k = i := fun e => hi e.symm
    simp only [hki, decide_false, Bool.bne_false]
    rcases Nat.lt_or_gt_of_ne hi with h' | h'
    · conv => lhs; rw [ha]
      rw [Nat.testBit_two_pow_add_gt h']
    · have e1 : a.testBit i = false := Nat.testBit_lt_two_pow (Nat.lt_of_lt_of_le h (Nat.pow_le_pow_right (by omega) h'))
      have e2 : (a - 2 ^ k).testBit i = false := Nat.testBit_lt_two_pow (Nat.lt_of_lt_of_le hlt (Nat.pow_le_pow_right (by omega) (by omega)))
      rw [e1, e2]
theorem lin_ext {f g : Nat → Nat} (hf : Lin f) (hg : Lin g) (n : Nat) (h : ∀ i, i < n → f (2 ^ i) = g (2 ^ i)) : ∀ a, a < 2 ^ n → f a = g a := by
  induction n with
  | zero => intro a ha; have : a = 0 := by simpa using ha
            subst this; rw [hf.zero, hg.zero]
  | succ n ih =>
    intro a ha
    have ih' := ih (fun i hi => h i (by omega))
    by_cases hlt : a < 2 ^ n
    · exact ih' a hlt
    · have hb := low_bit n a ha (by omega)
      rw [hb, hf, hg, ih' _ (by rw [Nat.pow_succ] at ha; omega), h n (by omega)]
theorem lin_gm_left (c : Nat) : Lin (fun a => gm a c) := fun a b => gm_left a b c
theorem lin_gm_right (c : Nat) : Lin (fun a => gm c a) := fun a b => gm_right c a b
theorem lin_comp {f g : Nat → Nat} (hf : Lin f) (hg : Lin g) : Lin (fun a => f (g a)) := fun a b => by show f (g (a ^^^ b)) = _; rw [hg, hf]
theorem gm_comm {a b : Nat} (ha : a < 256) (hb : b < 256) : gm a b = gm b a := by
  have base : ∀ i, i < 8 → ∀ j, j < 8 → gm (2 ^ i) (2 ^ j) = gm (2 ^ j) (2 ^ i) := by decide +kernel
  exact lin_ext (lin_gm_left b) (lin_gm_right b) 8 (fun i hi =>
    lin_ext (lin_gm_right (2 ^ i)) (lin_gm_left (2 ^ i)) 8 (fun j hj => base i hi j hj) b hb) a ha
theorem gm_assoc {a b c : Nat} (ha : a < 256) (hb : b < 256) (hc : c < 256) : gm (gm a b) c = gm a (gm b c) := by
  have base : ∀ i, i < 8 → ∀ j, j < 8 → ∀ k, k < 8 → gm (gm (2 ^ i) (2 ^ j)) (2 ^ k) = gm (2 ^ i) (gm (2 ^ j) (2 ^ k)) := by decide +kernel
  exact lin_ext (lin_comp (lin_gm_left c) (lin_gm_left b)) (lin_gm_left (gm b c)) 8 (fun i hi =>
    lin_ext (lin_comp (lin_gm_left c) (lin_gm_right (2 ^ i))) (lin_comp (lin_gm_right (2 ^ i)) (lin_gm_left c)) 8 (fun j hj =>
      lin_ext (lin_gm_right (gm (2 ^ i) (2 ^ j))) (lin_comp (lin_gm_right (2 ^ i)) (lin_gm_right (2 ^ j))) 8 (fun k hk => base i hi j hj k hk) c hc) b hb) a ha
theorem xtime_lt : ∀ a, a < 256 → xtime a < 256 := by decide +kernel
theorem xt_lt (i a : Nat) (h : a < 256) : xt i a < 256 := by
  induction i with
  | zero => exact h
  | succ i ih => exact xtime_lt _ ih
theorem xor_lt8 {a b : Nat} (ha : a < 256) (hb : b < 256) : a ^^^ b < 256 := Nat.xor_lt_two_pow (n := 8) ha hb
theorem gmTo_lt (a b k : Nat) (h : a < 256) : gmTo a b k < 256 := by
  induction k with
  | zero => simp [gmTo]
  | succ k ih => unfold gmTo; exact xor_lt8 ih (by split; exact xt_lt _ _ h; omega)
theorem gm_lt (a b : Nat) (h : a < 256) : gm a b < 256 := gmTo_lt a b 8 h
theorem gm_one {a : Nat} (ha : a < 256) : gm a 1 = a := (by decide +kernel : ∀ a, a < 256 → gm a 1 = a) a ha
theorem one_gm {a : Nat} (ha : a < 256) : gm 1 a = a := by rw [gm_comm (by omega) ha, gm_one ha]
theorem gm_zero (a : Nat) : gm a 0 = 0 := (lin_gm_right a).zero
theorem zero_gm (a : Nat) : gm 0 a = 0 := (lin_gm_left a).zero
theorem gmTo_end (a b k : Nat) (h : b / 2 ^ k = 0) : ∀ j, k ≤ j → gmTo a b j = gmTo a b k := by
  intro j hj
  induction j with
  | zero => have : k = 0 := by omega
            subst this; rfl
  | succ j ih =>
    by_cases e : k = j + 1
    · subst e; rfl
    · rw [gmTo, ih (by omega)]
      have : b < 2 ^ k := by
        rcases Nat.lt_or_ge b (2 ^ k) with h' | h'
        · exact h'
        · have := Nat.div_pos h' (Nat.two_pow_pos k); omega
      rw [Nat.testBit_lt_two_pow (Nat.lt_of_lt_of_le this (Nat.pow_le_pow_right (by omega) (by omega)))]
      simp
theorem xtime_step : ∀ a, a < 256 → xtime a = if a < 128 then 2 * a else (2 * a % 256) ^^^ 29 := by decide +kernel
def rmTo (a b : Nat) : Nat → Nat
  | 0 => 0
  | k + 1 => rmTo a b k ^^^ (if b.testBit k then a * 2 ^ k else 0)
def rred (n : Nat) : Nat → Nat
  | 0 => n
  | k + 1 => rred n k ^^^ (if (rred n k).testBit (15 - k) then 285 * 2 ^ (7 - k) else 0)
def rmul (a b : Nat) : Nat := rred (rmTo a b 8) 8 % 256
theorem mul_pow_xor (a b k : Nat) : (a ^^^ b) * 2 ^ k = a * 2 ^ k ^^^ b * 2 ^ k := by
  induction k with
  | zero => simp
  | succ k ih =>
    have e : ∀ c : Nat, c * 2 ^ (k + 1) = 2 * (c * 2 ^ k) := by intro c; rw [Nat.pow_succ, ← Nat.mul_assoc, Nat.mul_comm]
    rw [e, e, e, ih, two_mul_xor]
theorem rmTo_right (a b c k : Nat) : rmTo a (b ^^^ c) k = rmTo a b k ^^^ rmTo a c k := by
  induction k with
  | zero => simp [rmTo]
  | succ k ih => rw [rmTo, ih, Nat.testBit_xor, ite_xor, xor4]; rfl
theorem rmTo_left (a b c k : Nat) : rmTo (a ^^^ b) c k = rmTo a c k ^^^ rmTo b c k := by
  induction k with
  | zero => simp [rmTo]
  | succ k ih => rw [rmTo, ih, mul_pow_xor, ite_xor2, xor4]; rfl
theorem rred_xor (a b k : Nat) : rred (a ^^^ b) k = rred a k ^^^ rred b k := by
  induction k with
  | zero => rfl
  | succ k ih => rw [rred, ih, Nat.testBit_xor, ite_xor, xor4]; rfl
theorem mod256_xor (a b : Nat) : (a ^^^ b) % 256 = (a % 256) ^^^ (b % 256) := by
  have h2 : (256 : Nat) = 2 ^ 8 := rfl
  rw [h2]
  apply Nat.eq_of_testBit_eq
  intro i
  simp only [Nat.testBit_mod_two_pow, Nat.testBit_xor]
  by_cases h : i < 8 <;> simp [h]
theorem rmul_gm {a b : Nat} (ha : a < 256) (hb : b < 256) : rmul a b = gm a b := by
  have base : ∀ i, i < 8 → ∀ j, j < 8 → rmul (2 ^ i) (2 ^ j) = gm (2 ^ i) (2 ^ j) := by decide +kernel
  have l1 : ∀ c, Lin (fun a => rmul a c) := fun c a b => by simp only [rmul]; rw [rmTo_left, rred_xor, mod256_xor]
  have l2 : ∀ c, Lin (fun b => rmul c b) := fun c a b => by simp only [rmul]; rw [rmTo_right, rred_xor, mod256_xor]
  exact lin_ext (l1 b) (lin_gm_left b) 8 (fun i hi => lin_ext (l2 (2 ^ i)) (lin_gm_right (2 ^ i)) 8 (fun j hj => base i hi j hj) b hb) a ha
theorem rmTo_lt (a b k : Nat) (ha : a < 256) (hk : k ≤ 8) : rmTo a b k < 65536 := by
  induction k with
  | zero => simp [rmTo]
  | succ k ih =>
    unfold rmTo
    have hp : 2 ^ k ≤ 2 ^ 7 := Nat.pow_le_pow_right (by omega) (by omega)
    have h7 : (2 : Nat) ^ 7 = 128 := rfl
    have : a * 2 ^ k ≤ 255 * 128 := Nat.mul_le_mul (by omega) (by omega)
    exact Nat.xor_lt_two_pow (n := 16) (ih (by omega)) (by split <;> omega)
theorem shl_285 (k : Nat) (hk : k < 8) : 285 * 2 ^ (7 - k) < 65536 := by
  have hp : 2 ^ (7 - k) ≤ 2 ^ 7 := Nat.pow_le_pow_right (by omega) (by omega)
  have h7 : (2 : Nat) ^ 7 = 128 := rfl
  omega
theorem rred_lt (n k : Nat) (hn : n < 65536) (hk : k ≤ 8) : rred n k < 65536 := by
  induction k with
  | zero => exact hn
  | succ k ih =>
    unfold rred
    exact Nat.xor_lt_two_pow (n := 16) (ih (by omega)) (by split; exact shl_285 k (by omega); omega)
def gpow (a : Nat) : Nat → Nat
  | 0 => 1
  | n + 1 => gm (gpow a n) a
theorem gpow_lt (a n : Nat) (ha : a < 256) : gpow a n < 256 := by
  cases n with
  | zero => simp [gpow]
  | succ n =>
    have : ∀ n, gpow a n < 256 := by
      intro n
      induction n with
      | zero => simp [gpow]
      | succ n ih => exact gm_lt _ _ ih
    exact this _
theorem gpow_add {a : Nat} (ha : a < 256) (m n : Nat) : gpow a (m + n) = gm (gpow a m) (gpow a n) := by
  induction n with
  | zero => rw [Nat.add_zero, gpow, gm_one (gpow_lt a m ha)]
  | succ n ih =>
    rw [← Nat.add_assoc, gpow, ih, gpow, gm_assoc (gpow_lt a m ha) (gpow_lt a n ha) ha]
theorem gpow_mul {a : Nat} (ha : a < 256) (m n : Nat) : gpow a (m * n) = gpow (gpow a m) n := by
  induction n with
  | zero => rfl
  | succ n ih => rw [Nat.mul_succ, gpow_add ha, ih]; rfl
theorem gpow_one {a : Nat} (ha : a < 256) : gpow a 1 = a := by show gm 1 a = a; exact one_gm ha
def sq (a : Nat) : Nat := gm a a
theorem gpow_two {a : Nat} (ha : a < 256) (n : Nat) : gpow a (2 * n) = sq (gpow a n) := by rw [Nat.two_mul, gpow_add ha]; rfl
def p255 (a : Nat) : Nat := gm (gm (gm (gm (gm (gm (gm a (sq a)) (sq (sq a))) (sq (sq (sq a)))) (sq (sq (sq (sq a))))) (sq (sq (sq (sq (sq a)))))) (sq (sq (sq (sq (sq (sq a))))))) (sq (sq (sq (sq (sq (sq (sq a)))))))
theorem p255_one : ∀ a, a < 256 → a ≠ 0 → p255 a = 1 := by decide +kernel
theorem gpow_255 {a : Nat} (ha : a < 256) (h0 : a ≠ 0) : gpow a 255 = 1 := by
  rw [← p255_one a ha h0]
  have g1 := gpow_one ha
  have g2 : gpow a 2 = sq a := by rw [show 2 = 2 * 1 from rfl, gpow_two ha, g1]
  have g4 : gpow a 4 = sq (sq a) := by rw [show 4 = 2 * 2 from rfl, gpow_two ha, g2]
  have g8 : gpow a 8 = sq (sq (sq a)) := by rw [show 8 = 2 * 4 from rfl, gpow_two ha, g4]
  have g16 : gpow a 16 = sq (sq (sq (sq a))) := by rw [show 16 = 2 * 8 from rfl, gpow_two ha, g8]
  have g32 : gpow a 32 = sq (sq (sq (sq (sq a)))) := by rw [show 32 = 2 * 16 from rfl, gpow_two ha, g16]
  have g64 : gpow a 64 = sq (sq (sq (sq (sq (sq a))))) := by rw [show 64 = 2 * 32 from rfl, gpow_two ha, g32]
  have g128 : gpow a 128 = sq (sq (sq (sq (sq (sq (sq a)))))) := by rw [show 128 = 2 * 64 from rfl, gpow_two ha, g64]
  unfold p255
  rw [show 255 = 127 + 128 from rfl, gpow_add ha, g128, show 127 = 63 + 64 from rfl, gpow_add ha, g64, show 63 = 31 + 32 from rfl, gpow_add ha, g32, show 31 = 15 + 16 from rfl, gpow_add ha, g16,
    show 15 = 7 + 8 from rfl, gpow_add ha, g8, show 7 = 3 + 4 from rfl, gpow_add ha, g4, show 3 = 1 + 2 from rfl, gpow_add ha, g2, g1]
def ginv (a : Nat) : Nat := gpow a 254
theorem ginv_lt {a : Nat} (ha : a < 256) : ginv a < 256 := gpow_lt a 254 ha
theorem gm_ginv {a : Nat} (ha : a < 256) (h0 : a ≠ 0) : gm a (ginv a) = 1 := by
  rw [gm_comm ha (ginv_lt ha)]
  exact gpow_255 ha h0
theorem ginv_only {a b : Nat} (ha : a < 256) (hb : b < 256) (h : gm a b = 1) : b = ginv a := by
  have h0 : a ≠ 0 := by rintro rfl; rw [zero_gm] at h; cases h
  have h1 : gm (ginv a) (gm a b) = ginv a := by rw [h, gm_one (ginv_lt ha)]
  rw [← gm_assoc (ginv_lt ha) ha hb, gm_comm (ginv_lt ha) ha, gm_ginv ha h0, one_gm hb] at h1
  exact h1
end Go.Proofs.Ytpakblkldklbmaa.Fld
namespace Go.Proofs.Ytpakblkldklbmaa.SmGf
open Go.RowKit Ytpakblkldklbmaa.En Ytpakblkldklbmaa Fld
set_option linter.unusedVariables false
set_option linter.unusedSimpArgs false
theorem u8_bit {y : Nat} (hy : y < 256) : bits BinOp.and IntKind.u8 (y : Int) 1 = ((y % 2 : Nat) : Int) := by
  have := u8_and_nat y 1 hy (by omega)
  rw [Nat.and_one_is_mod] at this
  exact this
theorem and128 : ∀ c, c < 256 → c &&& 128 = if c < 128 then 0 else 128 := by decide +kernel
theorem u8_high {c : Nat} (hc : c < 256) : bits BinOp.and IntKind.u8 (c : Int) 128 = ((if c < 128 then 0 else 128 : Nat) : Int) := by
  have := u8_and_nat c 128 hc (by omega)
  rw [and128 c hc] at this
  exact this
theorem dbl (c : Nat) : IntKind.u8.wrap ((c : Int) * 2 ^ min ((1 : Int)).toNat (IntKind.bits .u8)) = ((2 * c % 256 : Nat) : Int) := by
  rw [shl_nat (m := 1) (j := 1) rfl (by decide), u8w]; congr 2; omega
theorem mul_loop (a b : Nat) (ha : a < 256) (hb : b < 256) (kk : Int → Option Int) : ∀ (fuel k : Nat), k ≤ 8 → 8 - k < fuel →
    f_field_Mul_L5 kk fuel (xt k a : Nat) (b / 2 ^ k : Nat) (gmTo a b k : Nat) = kk (gm a b : Nat)
  | 0, k, _, hf => absurd hf (Nat.not_lt_zero _)
  | fuel + 1, k, hk, hf => by
    rw [f_field_Mul_L5]
    have hend : b / 2 ^ 8 = 0 := Nat.div_eq_of_lt (by omega)
    by_cases h0 : b / 2 ^ k = 0
    · rw [cond_ff (by rw [h0]; rfl)]
      have hg : gm a b = gmTo a b k := gmTo_end a b k h0 8 hk
      rw [hg]
    · have hk8 : k + 1 ≤ 8 := by
        by_cases e : k = 8
        · subst e; exact absurd hend h0
        · omega
      have ih := mul_loop a b ha hb kk fuel (k + 1) hk8 (by omega)
      have hgo : gmTo a b (k + 1) = gmTo a b k ^^^ (if b.testBit k then xt k a else 0) := rfl
      have hxo : xt (k + 1) a = xtime (xt k a) := rfl
      have hyo : b / 2 ^ (k + 1) = b / 2 ^ k / 2 := by rw [Nat.pow_succ, Nat.div_div_eq_div_mul]
      rw [Nat.testBit_eq_decide_div_mod_eq] at hgo
      have hcl := xt_lt k a ha
      have hol := gmTo_lt a b k ha
      have hyl : b / 2 ^ k < 256 := Nat.lt_of_le_of_lt (Nat.div_le_self _ _) hb
      rw [hxo, hyo, hgo] at ih
      obtain ⟨c, hc⟩ : ∃ q, q = xt k a := ⟨_, rfl⟩
      obtain ⟨y, hy⟩ : ∃ q, q = b / 2 ^ k := ⟨_, rfl⟩
      obtain ⟨o, ho⟩ : ∃ q, q = gmTo a b k := ⟨_, rfl⟩
      rw [← hc, ← hy, ← ho] at ih ⊢
      rw [← hc] at hcl
      rw [← hy] at hyl h0
      rw [← ho] at hol
      rw [cond_tt (by rw [bne_iff_ne]; omega), lt_of, lt_of, shr_nat (m := 1) (j := 1) rfl (by decide), dbl, u8_bit hyl, u8_high hcl, u8_xor_nat o c hol hcl]
      have hx2 : (bits .xor .u8 ((2 * c % 256 : Nat) : Int) 29) = (((2 * c % 256) ^^^ 29 : Nat) : Int) := u8_xor_nat (2 * c % 256) 29 (Nat.mod_lt _ (by omega)) (by omega)
      rw [hx2, show y / 2 ^ 1 = y / 2 by simp]
      rw [xtime_step c hcl] at ih
      by_cases hlow : y % 2 = 1
      all_goals by_cases hhi : c < 128
      · rw [if_pos hhi, if_pos (decide_eq_true hlow)] at ih
        rw [hlow, if_pos hhi, cond_tt (by rfl)]; dsimp only; rw [cond_ff (by rfl), show 2 * c % 256 = 2 * c by omega]; exact ih
      · rw [if_neg hhi, if_pos (decide_eq_true hlow)] at ih
        rw [hlow, if_neg hhi, cond_tt (by rfl)]; dsimp only; rw [cond_tt (by rfl)]; exact ih
      · rw [if_pos hhi, if_neg (by simpa using hlow), Nat.xor_zero] at ih
        rw [show y % 2 = 0 by omega, if_pos hhi, cond_ff (by rfl)]; dsimp only; rw [cond_ff (by rfl), show 2 * c % 256 = 2 * c by omega]; exact ih
      · rw [if_neg hhi, if_neg (by simpa using hlow), Nat.xor_zero] at ih
        rw [show y % 2 = 0 by omega, if_neg hhi, cond_ff (by rfl)]; dsimp only; rw [cond_tt (by rfl)]; exact ih
theorem mul {a b : Nat} (ha : a < 256) (hb : b < 256) (fu : Nat) (hf : 10 ≤ fu) : f_field_Mul fu a b = some ((gm a b : Nat) : Int) := by
  unfold f_field_Mul
  rw [lt_of]
  have := mul_loop a b ha hb (fun j1i5 => some j1i5) fu 0 (by omega) (by omega)
  simpa [xt, gmTo] using this
theorem power_loop (n a : Nat) (fu : Nat) (hf : 10 ≤ fu) (kk : Int → Option Int) : ∀ (fuel b m q : Nat), b < 256 → q < 256 → m < 9223372036854775808 → m < 2 ^ (fuel - 1) → 0 < fuel → gm q (gpow b m) = n →
    f_field_power_L5 kk fu fuel (b : Nat) (m : Nat) (q : Nat) = kk (n : Nat)
  | 0, _, _, _, _, _, _, _, h, _ => absurd h (Nat.lt_irrefl 0)
  | fuel + 1, b, m, q, hb, hq, hm, hmf, _, hv => by
    rw [f_field_power_L5]
    by_cases h0 : m = 0
    · subst h0
      rw [cond_ff (by rfl), ← hv, show gpow b 0 = 1 from rfl, gm_one hq]
    · have hfu : 0 < fuel := by
        rcases Nat.eq_zero_or_pos fuel with h | h
        · subst h; simp at hmf; omega
        · exact h
      have hmf' : m / 2 < 2 ^ (fuel - 1) := by
        have : 2 ^ (fuel + 1 - 1) = 2 * 2 ^ (fuel - 1) := by rw [show fuel + 1 - 1 = (fuel - 1) + 1 by omega, Nat.pow_succ]; omega
        omega
      have ht := i64_and_nat m 1 hm (by omega)
      rw [Nat.and_one_is_mod] at ht
      have hbb : gpow (gm b b) (m / 2) = gpow b (2 * (m / 2)) := by
        rw [gpow_mul hb]; congr 1
        rw [show 2 = 1 + 1 from rfl, gpow_add hb, gpow_one hb]
      have hgb := gm_lt b b hb
      have hgq := gm_lt q b hq
      rw [cond_tt (decide_eq_true (by omega)), lt_of, shr_nat (m := 1) (j := 1) rfl (by decide), show m / 2 ^ 1 = m / 2 by simp]
      rw [show (bits BinOp.and IntKind.i64 (m : Int) 1) = ((m % 2 : Nat) : Int) from ht]
      by_cases hc : m % 2 = 1
      · rw [hc, cond_tt (by rfl), mul hq hb fu hf, opt_of]
        dsimp only
        rw [mul hb hb fu hf, opt_of]
        refine power_loop n a fu hf kk fuel _ _ _ hgb hgq (by omega) hmf' hfu ?_
        rw [← hv, hbb, gm_assoc hq hb (gpow_lt _ _ hb)]
        congr 1
        have e : m = 1 + 2 * (m / 2) := by omega
        conv => rhs; rw [e]
        rw [gpow_add hb, gpow_one hb]
      · rw [show m % 2 = 0 by omega, cond_ff (by rfl)]
        dsimp only
        rw [mul hb hb fu hf, opt_of]
        refine power_loop n a fu hf kk fuel _ _ _ hgb hq (by omega) hmf' hfu ?_
        rw [← hv, hbb, show 2 * (m / 2) = m from by omega]
theorem power {a n : Nat} (ha : a < 256) (hn : n < 2 ^ 60) (fu : Nat) (hf : 100 ≤ fu) : f_field_power fu a n = some ((gpow a n : Nat) : Int) := by
  unfold f_field_power
  rw [lt_of]
  have hp : 2 ^ 60 ≤ 2 ^ (fu - 1) := Nat.pow_le_pow_right (by decide) (by omega)
  exact power_loop (gpow a n) a fu (by omega) (fun j => some j) fu a n 1 ha (by omega) (by omega) (by omega) (by omega) (one_gm (gpow_lt a n ha))
theorem inv {a : Nat} (ha : a < 256) (fu : Nat) (hf : 100 ≤ fu) : f_field_Inv fu a = some (if a = 0 then ((0 : Int), (1 : Int)) else (((ginv a : Nat) : Int), (0 : Int))) := by
  unfold f_field_Inv
  by_cases h : a = 0
  · subst h; rfl
  · rw [cond_ff (by simpa using h), show (254 : Int) = ((254 : Nat) : Int) from rfl, power ha (by omega) fu hf, opt_of, if_neg h]; rfl
theorem rm_loop (a b : Nat) (ha : a < 256) (hb : b < 256) (kk : Int → Option Int) : ∀ (fuel k : Nat), k ≤ 8 → 8 - k < fuel →
    f_lumref_Mul_L16 (a : Int) (b : Int) kk fuel (rmTo a b k : Nat) (k : Int) = kk (rmTo a b 8 : Nat)
  | 0, k, _, hf => absurd hf (Nat.not_lt_zero _)
  | fuel + 1, k, hk, hf => by
    rw [f_lumref_Mul_L16]
    by_cases hlt : k < 8
    · have ih := rm_loop a b ha hb kk fuel (k + 1) (by omega) (by omega)
      have hol := rmTo_lt a b k ha hk
      have hs : rmTo a b (k + 1) = rmTo a b k ^^^ (if b.testBit k then a * 2 ^ k else 0) := rfl
      rw [Nat.testBit_eq_decide_div_mod_eq] at hs
      rw [hs] at ih
      have hp : 2 ^ k ≤ 2 ^ 7 := Nat.pow_le_pow_right (by omega) (by omega)
      have h7 : (2 : Nat) ^ 7 = 128 := rfl
      have hal : a * 2 ^ k ≤ 255 * 128 := Nat.mul_le_mul (by omega) (by omega)
      have hyl : b / 2 ^ k < 256 := Nat.lt_of_le_of_lt (Nat.div_le_self _ _) hb
      rw [cond_tt (dlt (by omega)), lt_of, req_pos (by omega), shr_nat (m := k) rfl (by show k ≤ 8; omega), u8_bit hyl, wsucc (by omega), w64 (x := (a : Int)) (by omega) (by omega), shl_nat (m := k) rfl (by show k ≤ 64; omega), w64 (by omega) (by omega), i64_xor_nat _ _ (by omega) (by omega)]
      by_cases hc : b / 2 ^ k % 2 = 1
      · rw [if_pos (decide_eq_true hc)] at ih
        rw [hc, cond_tt (by rfl), req_pos (by omega)]; exact ih
      · rw [if_neg (by simpa using hc), Nat.xor_zero] at ih
        rw [show b / 2 ^ k % 2 = 0 by omega, cond_ff (by rfl)]; exact ih
    · obtain rfl : k = 8 := by omega
      rw [cond_ff (dge (by omega))]
theorem rred_loop (n : Nat) (hn : n < 65536) (kk : Int → Option Int) : ∀ (fuel k : Nat), k ≤ 8 → 8 - k < fuel →
    f_lumref_Mul_L7 kk fuel (rred n k : Nat) ((15 - k : Nat) : Int) = kk (rred n 8 : Nat)
  | 0, k, _, hf => absurd hf (Nat.not_lt_zero _)
  | fuel + 1, k, hk, hf => by
    rw [f_lumref_Mul_L7]
    by_cases hlt : k < 8
    · have ih := rred_loop n hn kk fuel (k + 1) (by omega) (by omega)
      have hrl := rred_lt n k hn hk
      have hs : rred n (k + 1) = rred n k ^^^ (if (rred n k).testBit (15 - k) then 285 * 2 ^ (7 - k) else 0) := rfl
      rw [Nat.testBit_eq_decide_div_mod_eq] at hs
      rw [hs] at ih
      have hsl := shl_285 k hlt
      have hyl : rred n k / 2 ^ (15 - k) < 9223372036854775808 := Nat.lt_of_le_of_lt (Nat.div_le_self _ _) (by omega)
      have ht := i64_and_nat (rred n k / 2 ^ (15 - k)) 1 hyl (by omega)
      rw [Nat.and_one_is_mod] at ht
      have hw1 : IntKind.i64.wrap (((15 - k : Nat) : Int) - 1) = ((15 - (k + 1) : Nat) : Int) := by rw [w64 (by omega) (by omega)]; omega
      have hw2 : IntKind.i64.wrap (((15 - k : Nat) : Int) - 8) = ((7 - k : Nat) : Int) := by rw [w64 (by omega) (by omega)]; omega
      rw [cond_tt (decide_eq_true (by omega)), lt_of, req_pos (by omega), shr_nat (m := 15 - k) rfl (by show 15 - k ≤ 64; omega), show (bits BinOp.and IntKind.i64 ((rred n k / 2 ^ (15 - k) : Nat) : Int) 1) = _ from ht, hw1, hw2,
        show (285 : Int) = ((285 : Nat) : Int) from rfl, shl_nat (m := 7 - k) rfl (by show 7 - k ≤ 64; omega), w64 (by omega) (by omega), i64_xor_nat _ _ (by omega) (by omega)]
      by_cases hc : rred n k / 2 ^ (15 - k) % 2 = 1
      · rw [if_pos (decide_eq_true hc)] at ih
        rw [hc, cond_tt (by rfl), req_pos (by omega)]; exact ih
      · rw [if_neg (by simpa using hc), Nat.xor_zero] at ih
        rw [show rred n k / 2 ^ (15 - k) % 2 = 0 by omega, cond_ff (by rfl)]; exact ih
    · obtain rfl : k = 8 := by omega
      rw [cond_ff (decide_eq_false (by omega))]
theorem rmul {a b : Nat} (ha : a < 256) (hb : b < 256) (fu : Nat) (hf : 10 ≤ fu) : f_lumref_Mul fu a b = some ((gm a b : Nat) : Int) := by
  unfold f_lumref_Mul
  have h1 := rm_loop a b ha hb (fun (j1i5 : Int) => (lt (fun (j3i5 : Int) => (some (IntKind.u8.wrap j3i5))) fun (kk4 : Int → Option Int) => (f_lumref_Mul_L7 kk4 fu j1i5 (15 : Int)))) fu 0 (by omega) (by omega)
  rw [lt_of]
  rw [show ((rmTo a b 0 : Nat) : Int) = 0 from rfl, show ((0 : Nat) : Int) = 0 from rfl] at h1
  rw [h1, lt_of]
  have h2 := rred_loop (rmTo a b 8) (rmTo_lt a b 8 ha (by omega)) (fun (j3i5 : Int) => (some (IntKind.u8.wrap j3i5))) fu 0 (by omega) (by omega)
  rw [show rred (rmTo a b 8) 0 = rmTo a b 8 from rfl, show ((15 - 0 : Nat) : Int) = 15 from rfl] at h2
  rw [h2, u8w]
  have hg : Fld.rmul a b = gm a b := rmul_gm ha hb
  unfold Fld.rmul at hg
  rw [hg]
theorem rinv_loop {a : Nat} (ha : a < 256) (h0 : a ≠ 0) (fu : Nat) (hf : 10 ≤ fu) (kk : Unit → Option Int) : ∀ (fuel k : Nat), k ≤ ginv a → 256 - k < fuel →
    f_lumref_Inv_L5 (a : Int) kk fu fuel (k : Int) = some ((ginv a : Nat) : Int)
  | 0, k, _, hfu => absurd hfu (Nat.not_lt_zero _)
  | fuel + 1, k, hk, hfu => by
    have hgl := ginv_lt ha
    rw [f_lumref_Inv_L5, cond_tt (dlt (by omega)), u8w_in (by omega), rmul ha (by omega) fu hf, opt_of, wsucc (by omega)]
    by_cases he : gm a k = 1
    · rw [he, cond_tt (by rfl), ginv_only ha (by omega) he]
    · rw [cond_ff (by simp; omega)]
      have hne : k ≠ ginv a := fun e => he (by rw [e]; exact gm_ginv ha h0)
      exact rinv_loop ha h0 fu hf kk fuel (k + 1) (by omega) (by omega)
theorem rinv0_loop (fu : Nat) (hf : 10 ≤ fu) (kk : Unit → Option Int) : ∀ (fuel k : Nat), k ≤ 256 → 256 - k < fuel →
    f_lumref_Inv_L5 0 kk fu fuel (k : Int) = kk ()
  | 0, k, _, hfu => absurd hfu (Nat.not_lt_zero _)
  | fuel + 1, k, hk, hfu => by
    rw [f_lumref_Inv_L5]
    by_cases hlt : k < 256
    · rw [cond_tt (dlt (by omega)), u8w_in hlt, show (0 : Int) = ((0 : Nat) : Int) from rfl, rmul (by omega) hlt fu hf, opt_of, zero_gm, cond_ff (by rfl), wsucc (by omega)]
      exact rinv0_loop fu hf kk fuel (k + 1) (by omega) (by omega)
    · rw [cond_ff (dge (by omega))]
theorem rinv {a : Nat} (ha : a < 256) (fu : Nat) (hf : 300 ≤ fu) : f_lumref_Inv fu a = some (if a = 0 then (0 : Int) else ((ginv a : Nat) : Int)) := by
  unfold f_lumref_Inv
  rw [lt_of]
  by_cases h : a = 0
  · subst h; rw [if_pos rfl]; exact rinv0_loop fu (by omega) (fun _ => some 0) fu 0 (by omega) (by omega)
  · rw [if_neg h]; exact rinv_loop ha h fu (by omega) (fun _ => some 0) fu 0 (Nat.zero_le _) (by omega)
end Go.Proofs.Ytpakblkldklbmaa.SmGf
namespace Go.Proofs.Ytpakblkldklbmaa.Shm
open Fld
set_option linter.unusedVariables false
set_option linter.unusedSimpArgs false
def sx (f : Nat → Nat) : List Nat → Nat
  | [] => 0
  | a :: l => f a ^^^ sx f l
theorem sx_congr {f g : Nat → Nat} : ∀ {l : List Nat}, (∀ a ∈ l, f a = g a) → sx f l = sx g l
  | [], _ => rfl
  | a :: l, h => by unfold sx; rw [h a (.head _), sx_congr fun b hb => h b (.tail _ hb)]
theorem xor4' (a b c d : Nat) : (a ^^^ b) ^^^ (c ^^^ d) = (a ^^^ c) ^^^ (b ^^^ d) := by
  rw [Nat.xor_assoc, Nat.xor_assoc, ← Nat.xor_assoc b, ← Nat.xor_assoc c, Nat.xor_comm b c]
theorem sx_xor (f g : Nat → Nat) : ∀ l : List Nat, sx (fun a => f a ^^^ g a) l = sx f l ^^^ sx g l
  | [] => by simp [sx]
  | a :: l => by unfold sx; rw [sx_xor f g l, xor4']
theorem sx_lt {f : Nat → Nat} : ∀ {l : List Nat}, (∀ a ∈ l, f a < 256) → sx f l < 256
  | [], _ => by simp [sx]
  | a :: l, h => xor_lt8 (h a (.head _)) (sx_lt fun b hb => h b (.tail _ hb))
theorem gm_sx (c : Nat) (f : Nat → Nat) : ∀ l : List Nat, gm c (sx f l) = sx (fun a => gm c (f a)) l
  | [] => gm_zero c
  | a :: l => by unfold sx; rw [gm_right, gm_sx c f l]
theorem sx_zero {f : Nat → Nat} : ∀ {l : List Nat}, (∀ a ∈ l, f a = 0) → sx f l = 0
  | [], _ => rfl
  | a :: l, h => by unfold sx; rw [h a (.head _), sx_zero fun b hb => h b (.tail _ hb)]; rfl
theorem sx_append (f : Nat → Nat) : ∀ l m : List Nat, sx f (l ++ m) = sx f l ^^^ sx f m
  | [], m => by simp [sx]
  | a :: l, m => by show f a ^^^ sx f (l ++ m) = (f a ^^^ sx f l) ^^^ sx f m; rw [sx_append f l m, Nat.xor_assoc]
theorem sx_one {f : Nat → Nat} {b : Nat} : ∀ {l : List Nat}, l.Nodup → b ∈ l → (∀ a ∈ l, a ≠ b → f a = 0) → sx f l = f b
  | [], _, h, _ => by simp at h
  | a :: l, hn, h, hz => by
    obtain ⟨h1, h2⟩ := List.nodup_cons.1 hn
    unfold sx
    by_cases e : a = b
    · subst e; rw [sx_zero fun c hc => hz c (.tail _ hc) (fun e => h1 (e ▸ hc)), Nat.xor_zero]
    · rw [hz a (.head _) e, Nat.zero_xor]
      rcases List.mem_cons.1 h with h | h
      · exact absurd h.symm e
      · exact sx_one h2 h fun c hc => hz c (.tail _ hc)
theorem sx_filter (f : Nat → Nat) (p : Nat → Bool) : ∀ {l : List Nat}, (∀ a ∈ l, p a = false → f a = 0) → sx f (l.filter p) = sx f l
  | [], _ => rfl
  | a :: l, h => by
    rw [List.filter_cons]
    by_cases e : p a = true
    · rw [if_pos e]; unfold sx; rw [sx_filter f p fun b hb => h b (.tail _ hb)]
    · rw [if_neg e, sx_filter f p fun b hb => h b (.tail _ hb)]
      show _ = f a ^^^ sx f l
      rw [h a (.head _) (by simpa using e), Nat.zero_xor]
theorem gm_ne {a b : Nat} (ha : a < 256) (hb : b < 256) (h0 : a ≠ 0) (h1 : b ≠ 0) : gm a b ≠ 0 := fun h => by
  have h2 : gm (ginv a) (gm a b) = 0 := by rw [h, gm_zero]
  rw [← gm_assoc (ginv_lt ha) ha hb, gm_comm (ginv_lt ha) ha, gm_ginv ha h0, one_gm hb] at h2
  exact h1 h2
theorem gm_eq_zero {a b : Nat} (ha : a < 256) (hb : b < 256) (h0 : a ≠ 0) (h : gm a b = 0) : b = 0 := Classical.byContradiction fun h1 => gm_ne ha hb h0 h1 h
theorem ginv_ne {a : Nat} (ha : a < 256) (h0 : a ≠ 0) : ginv a ≠ 0 := fun h => by
  have := gm_ginv ha h0
  rw [h, gm_zero] at this; cases this
theorem xor_eq {a b : Nat} (h : a ^^^ b = 0) : a = b := by
  have h1 : (a ^^^ b) ^^^ b = b := by rw [h, Nat.zero_xor]
  rwa [Nat.xor_assoc, Nat.xor_self, Nat.xor_zero] at h1
theorem frac1 {a b y : Nat} (ha : a < 256) (hb : b < 256) (hy : y < 256) (hya : y ^^^ a ≠ 0) : gm (y ^^^ b) (ginv (y ^^^ a)) = 1 ^^^ gm (a ^^^ b) (ginv (y ^^^ a)) := by
  have e : y ^^^ b = (y ^^^ a) ^^^ (a ^^^ b) := by
    rw [Nat.xor_assoc, ← Nat.xor_assoc a, Nat.xor_self, Nat.zero_xor]
  rw [e, gm_left, gm_ginv (xor_lt8 hy ha) hya]
theorem frac2 {a y z : Nat} (ha : a < 256) (hy : y < 256) (hz : z < 256) (hya : y ^^^ a ≠ 0) (hza : z ^^^ a ≠ 0) : ginv (y ^^^ a) ^^^ ginv (z ^^^ a) = gm (y ^^^ z) (gm (ginv (z ^^^ a)) (ginv (y ^^^ a))) := by
  have hu := xor_lt8 hy ha
  have hv := xor_lt8 hz ha
  obtain ⟨u, hu'⟩ : ∃ u, u = y ^^^ a := ⟨_, rfl⟩
  obtain ⟨v, hv'⟩ : ∃ v, v = z ^^^ a := ⟨_, rfl⟩
  have e : y ^^^ z = u ^^^ v := by rw [hu', hv', Nat.xor_comm z a, Nat.xor_assoc, ← Nat.xor_assoc a, Nat.xor_self, Nat.zero_xor]
  rw [← hu'] at hu hya; rw [← hv'] at hv hza
  rw [← hu', ← hv', e, gm_left]
  have iu := ginv_lt hu
  have iv := ginv_lt hv
  have h1 : gm u (gm (ginv v) (ginv u)) = ginv v := by
    rw [gm_comm iv iu, ← gm_assoc hu iu iv, gm_ginv hu hya, one_gm iv]
  have h2 : gm v (gm (ginv v) (ginv u)) = ginv u := by
    rw [← gm_assoc hv iv iu, gm_ginv hv hza, one_gm iu]
  rw [h1, h2, Nat.xor_comm]
theorem cauchy : ∀ (vs ys : List Nat) (x : Nat → Nat), vs.length ≤ ys.length → vs.Nodup → ys.Nodup → (∀ a ∈ vs, a < 256) → (∀ y ∈ ys, y < 256) → (∀ a ∈ vs, ∀ y ∈ ys, y ^^^ a ≠ 0) → (∀ a ∈ vs, x a < 256) →
    (∀ y ∈ ys, sx (fun a => gm (x a) (ginv (y ^^^ a))) vs = 0) → ∀ a ∈ vs, x a = 0
  | [], _, _, _, _, _, _, _, _, _, _ => by simp
  | b :: vs, [], _, h, _, _, _, _, _, _, _ => by simp at h
  | b :: vs, z :: ys, x, hl, hna, hny, hA, hY, hne, hx, hs => by
    obtain ⟨hb1, hna'⟩ := List.nodup_cons.1 hna
    obtain ⟨hz1, hny'⟩ := List.nodup_cons.1 hny
    have hb := hA b (.head _)
    have hz := hY z (.head _)
    have hxb := hx b (.head _)
    -- multiplied by (y + b)
    have key : ∀ y ∈ z :: ys, x b ^^^ sx x vs ^^^ sx (fun a => gm (gm (x a) (a ^^^ b)) (ginv (y ^^^ a))) vs = 0 := fun y hy => by
      have hyl := hY y hy
      have h1 : gm (y ^^^ b) (sx (fun a => gm (x a) (ginv (y ^^^ a))) (b :: vs)) = 0 := by rw [hs y hy, gm_zero]
      rw [gm_sx] at h1
      have hyb := xor_lt8 hyl hb
      have term : ∀ a ∈ b :: vs, gm (y ^^^ b) (gm (x a) (ginv (y ^^^ a))) = x a ^^^ gm (gm (x a) (a ^^^ b)) (ginv (y ^^^ a)) := fun a ha => by
        have hal := hA a ha
        have hxa := hx a ha
        have hya := xor_lt8 hyl hal
        have hi := ginv_lt hya
        rw [← gm_assoc hyb hxa hi, gm_comm hyb hxa, gm_assoc hxa hyb hi, frac1 hal hb hyl (hne a ha y hy), gm_right, gm_one hxa, gm_assoc hxa (xor_lt8 hal hb) hi]
      rw [sx_congr term, sx_xor] at h1
      have e0 : sx (fun a => gm (gm (x a) (a ^^^ b)) (ginv (y ^^^ a))) (b :: vs) = sx (fun a => gm (gm (x a) (a ^^^ b)) (ginv (y ^^^ a))) vs := by
        show gm (gm (x b) (b ^^^ b)) _ ^^^ _ = _
        rw [Nat.xor_self, gm_zero, zero_gm, Nat.zero_xor]
      rw [e0] at h1
      exact h1
    -- the first one away
    have kz := key z (.head _)
    have ih := cauchy vs ys (fun a => gm (gm (x a) (a ^^^ b)) (ginv (z ^^^ a))) (by simpa using hl) hna' hny' (fun a ha => hA a (.tail _ ha)) (fun y hy => hY y (.tail _ hy)) (fun a ha y hy => hne a (.tail _ ha) y (.tail _ hy))
      (fun a ha => gm_lt _ _ (gm_lt _ _ (hx a (.tail _ ha)))) (fun y hy => by
        have ky := key y (.tail _ hy)
        have hyl := hY y (.tail _ hy)
        have hyz : y ^^^ z ≠ 0 := fun e => hz1 (xor_eq e ▸ hy)
        have h2 : sx (fun a => gm (gm (x a) (a ^^^ b)) (ginv (y ^^^ a))) vs ^^^ sx (fun a => gm (gm (x a) (a ^^^ b)) (ginv (z ^^^ a))) vs = 0 := by
          have e1 := xor_eq ky
          have e2 := xor_eq kz
          rw [← e1, ← e2, Nat.xor_self]
        rw [← sx_xor] at h2
        have term : ∀ a ∈ vs, gm (gm (x a) (a ^^^ b)) (ginv (y ^^^ a)) ^^^ gm (gm (x a) (a ^^^ b)) (ginv (z ^^^ a)) = gm (y ^^^ z) (gm (gm (gm (x a) (a ^^^ b)) (ginv (z ^^^ a))) (ginv (y ^^^ a))) := fun a ha => by
          have ha' : a ∈ b :: vs := .tail _ ha
          have hal := hA a ha'
          have hp := gm_lt (x a) (a ^^^ b) (hx a ha')
          have iy := ginv_lt (xor_lt8 hyl hal)
          have iz := ginv_lt (xor_lt8 hz hal)
          have hyzl := xor_lt8 hyl hz
          rw [← gm_right, frac2 hal hyl hz (hne a ha' y (.tail _ hy)) (hne a ha' z (.head _)), ← gm_assoc hp hyzl (gm_lt _ _ iz), gm_comm hp hyzl, gm_assoc hyzl hp (gm_lt _ _ iz), gm_assoc hp iz iy]
        rw [sx_congr term, ← gm_sx] at h2
        exact gm_eq_zero (xor_lt8 hyl hz) (sx_lt fun a ha => gm_lt _ _ (gm_lt _ _ (gm_lt _ _ (hx a (.tail _ ha))))) hyz h2)
    have hrest : ∀ a ∈ vs, x a = 0 := fun a ha => by
      have h3 := ih a ha
      have ha' : a ∈ b :: vs := .tail _ ha
      have hal := hA a ha'
      have hab : a ^^^ b ≠ 0 := fun e => hb1 (xor_eq e ▸ ha)
      refine Classical.byContradiction fun hxa => ?_
      have hzl := xor_lt8 hz hal
      exact gm_ne (gm_lt _ _ (hx a ha')) (ginv_lt hzl) (gm_ne (hx a ha') (xor_lt8 hal hb) hxa hab) (ginv_ne hzl (hne a ha' z (.head _))) h3
    intro a ha
    rcases List.mem_cons.1 ha with rfl | ha
    · have h0 := hs z (.head _)
      have e : sx (fun c => gm (x c) (ginv (z ^^^ c))) vs = 0 := sx_zero fun c hc => by rw [hrest c hc, zero_gm]
      unfold sx at h0
      rw [e, Nat.xor_zero] at h0
      refine Classical.byContradiction fun hxa => ?_
      have hzl := xor_lt8 hz hb
      exact gm_ne hxb (ginv_lt hzl) hxa (ginv_ne hzl (hne _ (.head _) z (.head _))) h0
    · exact hrest a ha
def mv (n : Nat) (A : Nat → Nat → Nat) (x : Nat → Nat) (i : Nat) : Nat := sx (fun k => gm (A i k) (x k)) (List.range n)
def Sys (n : Nat) (A B : Nat → Nat → Nat) (x y : Nat → Nat) : Prop := ∀ i, i < n → mv n A x i = mv n B y i
def Bd (n : Nat) (A : Nat → Nat → Nat) : Prop := ∀ i k, i < n → k < n → A i k < 256
def Vd (n : Nat) (x : Nat → Nat) : Prop := ∀ k, k < n → x k < 256
def swapM (A : Nat → Nat → Nat) (c p : Nat) : Nat → Nat → Nat := fun i k => A (if i = c then p else if i = p then c else i) k
def scaleM (A : Nat → Nat → Nat) (f c : Nat) : Nat → Nat → Nat := fun i k => if i = c then gm f (A c k) else A i k
def elimM (A : Nat → Nat → Nat) (F : Nat → Nat) (c : Nat) : Nat → Nat → Nat := fun i k => if i = c then A c k else A i k ^^^ gm (F i) (A c k)
theorem mv_lt {n : Nat} {A : Nat → Nat → Nat} {x : Nat → Nat} (hA : Bd n A) {i : Nat} (hi : i < n) : mv n A x i < 256 := sx_lt fun k hk => gm_lt _ _ (hA i k hi (by simpa using hk))
theorem mv_congr {n : Nat} {A B : Nat → Nat → Nat} {x y : Nat → Nat} {i j : Nat} (h : ∀ k, k < n → A i k = B j k) (hx : ∀ k, k < n → x k = y k) : mv n A x i = mv n B y j := sx_congr fun k hk => by
  have := List.mem_range.1 hk
  rw [h k this, hx k this]
theorem sys_swap {n c p : Nat} {A B : Nat → Nat → Nat} {x y : Nat → Nat} (hc : c < n) (hp : p < n) (h : Sys n (swapM A c p) (swapM B c p) x y) : Sys n A B x y := fun i hi => by
  have e : ∀ (M : Nat → Nat → Nat) (v : Nat → Nat) (j : Nat), mv n (swapM M c p) v j = mv n M v (if j = c then p else if j = p then c else j) := fun M v j => rfl
  by_cases h1 : i = p
  · subst h1; have := h c hc; rw [e, e, if_pos rfl] at this; exact this
  · by_cases h2 : i = c
    · subst h2; have := h p hp; rw [e, e, if_neg (fun e => h1 e.symm), if_pos rfl] at this; exact this
    · have := h i hi; rw [e, e, if_neg h2, if_neg h1] at this; exact this
theorem mv_scale {n f c : Nat} {A : Nat → Nat → Nat} {x : Nat → Nat} (hf : f < 256) (hA : Bd n A) (hc : c < n) (hx : Vd n x) : mv n (scaleM A f c) x c = gm f (mv n A x c) := by
  unfold mv
  rw [gm_sx]
  refine sx_congr fun k hk => ?_
  have hk' := List.mem_range.1 hk
  show gm (if c = c then gm f (A c k) else _) (x k) = _
  rw [if_pos rfl, gm_assoc hf (hA c k hc hk') (hx k hk')]
theorem sys_scale {n f c : Nat} {A B : Nat → Nat → Nat} {x y : Nat → Nat} (hf : f < 256) (hf0 : f ≠ 0) (hA : Bd n A) (hB : Bd n B) (hc : c < n) (hx : Vd n x) (hy : Vd n y) (h : Sys n (scaleM A f c) (scaleM B f c) x y) : Sys n A B x y := fun i hi => by
  by_cases e : i = c
  · subst e
    have h1 := h i hi
    rw [mv_scale hf hA hc hx, mv_scale hf hB hc hy] at h1
    have h2 : gm f (mv n A x i ^^^ mv n B y i) = 0 := by rw [gm_right, h1, Nat.xor_self]
    exact xor_eq (gm_eq_zero hf (xor_lt8 (mv_lt hA hc) (mv_lt hB hc)) hf0 h2)
  · have h1 := h i hi
    have e2 : ∀ (M : Nat → Nat → Nat) (v : Nat → Nat), mv n (scaleM M f c) v i = mv n M v i := fun M v => mv_congr (fun k _ => by unfold scaleM; rw [if_neg e]) (fun _ _ => rfl)
    rw [e2, e2] at h1; exact h1
theorem mv_elim {n c i : Nat} {F : Nat → Nat} {A : Nat → Nat → Nat} {x : Nat → Nat} (hF : F i < 256) (hA : Bd n A) (hc : c < n) (hi : i ≠ c) (hx : Vd n x) : mv n (elimM A F c) x i = mv n A x i ^^^ gm (F i) (mv n A x c) := by
  unfold mv
  rw [gm_sx, ← sx_xor]
  refine sx_congr fun k hk => ?_
  have hk' := List.mem_range.1 hk
  show gm (if i = c then A c k else _) (x k) = _
  rw [if_neg hi, gm_left, gm_assoc hF (hA c k hc hk') (hx k hk')]
theorem sys_elim {n c : Nat} {F : Nat → Nat} {A B : Nat → Nat → Nat} {x y : Nat → Nat} (hF : ∀ i, i < n → F i < 256) (hA : Bd n A) (hB : Bd n B) (hc : c < n) (hx : Vd n x) (hy : Vd n y) (h : Sys n (elimM A F c) (elimM B F c) x y) : Sys n A B x y := by
  have ec : ∀ (M : Nat → Nat → Nat) (v : Nat → Nat), mv n (elimM M F c) v c = mv n M v c := fun M v => mv_congr (fun k _ => by unfold elimM; rw [if_pos rfl]) (fun _ _ => rfl)
  have hcc : mv n A x c = mv n B y c := by have := h c hc; rw [ec, ec] at this; exact this
  intro i hi
  by_cases e : i = c
  · subst e; exact hcc
  · have h1 := h i hi
    rw [mv_elim (hF i hi) hA hc e hx, mv_elim (hF i hi) hB hc e hy, hcc] at h1
    have h2 : (mv n A x i ^^^ gm (F i) (mv n B y c)) ^^^ gm (F i) (mv n B y c) = (mv n B y i ^^^ gm (F i) (mv n B y c)) ^^^ gm (F i) (mv n B y c) := by rw [h1]
    rwa [Nat.xor_assoc, Nat.xor_assoc, Nat.xor_self, Nat.xor_zero, Nat.xor_zero] at h2
theorem bd_swap {n c p : Nat} {A : Nat → Nat → Nat} (hc : c < n) (hp : p < n) (h : Bd n A) : Bd n (swapM A c p) := fun i k hi hk => by
  unfold swapM
  by_cases h1 : i = c
  · rw [if_pos h1]; exact h p k hp hk
  · rw [if_neg h1]; by_cases h2 : i = p
    · rw [if_pos h2]; exact h c k hc hk
    · rw [if_neg h2]; exact h i k hi hk
theorem bd_scale {n f c : Nat} {A : Nat → Nat → Nat} (hf : f < 256) (h : Bd n A) : Bd n (scaleM A f c) := fun i k hi hk => by
  unfold scaleM
  split
  · exact gm_lt _ _ hf
  · exact h i k hi hk
def UC (n c : Nat) (A : Nat → Nat → Nat) : Prop := ∀ i j, i < n → j < c → A i j = if i = j then 1 else 0
theorem uc_step {n c p : Nat} {A : Nat → Nat → Nat} (hA : Bd n A) (hc : c < n) (hcp : c ≤ p) (hp : p < n) (hu : UC n c A) (hne : A p c ≠ 0) :
    UC n (c + 1) (elimM (scaleM (swapM A c p) (ginv (A p c)) c) (fun i => scaleM (swapM A c p) (ginv (A p c)) c i c) c) := by
  have hs : UC n c (swapM A c p) := fun i j hi hj => by
    unfold swapM
    by_cases h1 : i = c
    · rw [if_pos h1, hu p j hp hj, if_neg (by omega), if_neg (by omega)]
    · rw [if_neg h1]; by_cases h2 : i = p
      · rw [if_pos h2, hu c j hc hj, if_neg (by omega), if_neg (by omega)]
      · rw [if_neg h2]; exact hu i j hi hj
  have hcc : swapM A c p c c = A p c := by unfold swapM; rw [if_pos rfl]
  have hpl := hA p c hp hc
  intro i j hi hj
  have hone : gm (ginv (A p c)) (swapM A c p c c) = 1 := by rw [hcc, gm_comm (ginv_lt hpl) hpl, gm_ginv hpl hne]
  by_cases hjc : j = c
  · subst hjc
    show (if i = j then scaleM (swapM A j p) (ginv (A p j)) j j j else scaleM (swapM A j p) (ginv (A p j)) j i j ^^^ gm (scaleM (swapM A j p) (ginv (A p j)) j i j) (scaleM (swapM A j p) (ginv (A p j)) j j j)) = _
    have h1 : scaleM (swapM A j p) (ginv (A p j)) j j j = 1 := by unfold scaleM; rw [if_pos rfl]; exact hone
    rw [h1]
    by_cases e : i = j
    · rw [if_pos e, if_pos e]
    · rw [if_neg e, if_neg e, gm_one (bd_scale (ginv_lt hpl) (bd_swap hc hp hA) i j hi hc), Nat.xor_self]
  · have hjl : j < c := by omega
    have hrow : scaleM (swapM A c p) (ginv (A p c)) c c j = 0 := by
      unfold scaleM; rw [if_pos rfl, hs c j hc hjl, if_neg (by omega), gm_zero]
    show (if i = c then scaleM (swapM A c p) (ginv (A p c)) c c j else scaleM (swapM A c p) (ginv (A p c)) c i j ^^^ gm _ (scaleM (swapM A c p) (ginv (A p c)) c c j)) = _
    rw [hrow, gm_zero, Nat.xor_zero]
    by_cases e : i = c
    · rw [if_pos e, if_neg (by omega)]
    · rw [if_neg e]; unfold scaleM; rw [if_neg e]; exact hs i j hi hjl
theorem pivot {n c : Nat} {A B G : Nat → Nat → Nat} (hc : c < n) (hA : Bd n A) (hu : UC n c A) (hsys : ∀ x y, Vd n x → Vd n y → Sys n A B x y → ∀ i, i < n → mv n G x i = y i) (hG : ∀ x, Vd n x → (∀ i, i < n → mv n G x i = 0) → ∀ k, k < n → x k = 0)
    (hz : ∀ i, c ≤ i → i < n → A i c = 0) : False := by
  have hV : Vd n (fun k => if k = c then 1 else if k < c then A k c else 0) := fun k hk => by
    show (if k = c then 1 else if k < c then A k c else 0) < 256
    split
    · omega
    · split
      · exact hA k c hk hc
      · omega
  have h0 := hG _ hV (hsys _ (fun _ => 0) hV (fun _ _ => by show (0 : Nat) < 256; omega) (fun i hi => by
    have e0 : mv n B (fun _ => 0) i = 0 := sx_zero fun k _ => gm_zero _
    rw [e0]
    have hil : A i c < 256 := hA i c hi hc
    -- the row splits
    have hsplit : ∀ k, k < n → gm (A i k) (if k = c then 1 else if k < c then A k c else 0) = (if k = c then A i c else 0) ^^^ (if k = i then (if i < c then A i c else 0) else 0) := fun k hk => by
      by_cases h1 : k = c
      · subst h1
        rw [if_pos rfl, if_pos rfl, gm_one hil]
        by_cases h2 : k = i
        · subst h2; rw [if_pos rfl, if_neg (by omega), Nat.xor_zero]
        · rw [if_neg h2, Nat.xor_zero]
      · rw [if_neg h1, if_neg h1, Nat.zero_xor]
        by_cases h3 : k < c
        · rw [if_pos h3, hu i k hi h3]
          by_cases h4 : i = k
          · subst h4; rw [if_pos rfl, if_pos rfl, if_pos h3, one_gm hil]
          · rw [if_neg h4, if_neg (fun e => h4 e.symm), zero_gm]
        · rw [if_neg h3, gm_zero]
          by_cases h4 : k = i
          · rw [if_pos h4, if_neg (by omega)]
          · rw [if_neg h4]
    unfold mv
    rw [sx_congr fun k hk => hsplit k (List.mem_range.1 hk), sx_xor]
    have e1 : sx (fun k => if k = c then A i c else 0) (List.range n) = A i c := by
      rw [sx_one (b := c) List.nodup_range (List.mem_range.2 hc) (fun a _ h => if_neg h), if_pos rfl]
    have e2 : sx (fun k => if k = i then (if i < c then A i c else 0) else 0) (List.range n) = if i < c then A i c else 0 := by
      rw [sx_one (b := i) List.nodup_range (List.mem_range.2 hi) (fun a _ h => if_neg h), if_pos rfl]
    rw [e1, e2]
    by_cases h : i < c
    · rw [if_pos h, Nat.xor_self]
    · rw [if_neg h, Nat.xor_zero, hz i (by omega) hi])) c hc
  have h1 : (if c = c then 1 else if c < c then A c c else 0) = 0 := h0
  rw [if_pos rfl] at h1; cases h1
end Go.Proofs.Ytpakblkldklbmaa.Shm
namespace Go.Proofs.Ytpakblkldklbmaa.SmC
open Go.RowKit Ytpakblkldklbmaa.En Ytpakblkldklbmaa Fld Shm
set_option linter.unusedVariables false
set_option linter.unusedSimpArgs false
def Vec (L : List UInt8) (n : Nat) (F : Nat → Nat) : Prop := L.length = n ∧ ∀ k, k < n → ∃ u : UInt8, L[k]? = some u ∧ u.toNat = F k
theorem Vec.set {L : List UInt8} {n k : Nat} {F : Nat → Nat} (h : Vec L n F) (hk : k < n) (y : UInt8) : Vec (L.set k y) n (fun j => if j = k then y.toNat else F j) := by
  refine ⟨by rw [List.length_set]; exact h.1, fun j hj => ?_⟩
  by_cases e : j = k
  · subst e; exact ⟨y, by rw [List.getElem?_set_self (by rw [h.1]; exact hk)], (if_pos rfl).symm⟩
  · obtain ⟨u, h1, h2⟩ := h.2 j hj
    exact ⟨u, by rw [List.getElem?_set_ne (fun e' => e e'.symm)]; exact h1, h2.trans (if_neg e).symm⟩
theorem Vec.congr {L : List UInt8} {n : Nat} {F G : Nat → Nat} (h : Vec L n F) (e : ∀ k, k < n → F k = G k) : Vec L n G := ⟨h.1, fun k hk => by obtain ⟨u, h1, h2⟩ := h.2 k hk; exact ⟨u, h1, h2.trans (e k hk)⟩⟩
theorem Vec.ext {L M : List UInt8} {n : Nat} {F G : Nat → Nat} (h : Vec L n F) (h' : Vec M n G) (e : ∀ k, k < n → F k = G k) : L = M := by
  apply List.ext_getElem?
  intro k
  by_cases hk : k < n
  · obtain ⟨u, h1, h2⟩ := h.2 k hk
    obtain ⟨v, h3, h4⟩ := h'.2 k hk
    rw [h1, h3, UInt8.toNat_inj.1 (h2.trans ((e k hk).trans h4.symm))]
  · rw [List.getElem?_eq_none (by rw [h.1]; omega), List.getElem?_eq_none (by rw [h'.1]; omega)]
theorem Vec.zero (n : Nat) : Vec (List.replicate n (0 : UInt8)) n (fun _ => 0) := ⟨by simp, fun k hk => ⟨0, by simp [hk], rfl⟩⟩
theorem Vec.lt {L : List UInt8} {n : Nat} {F : Nat → Nat} (h : Vec L n F) {k : Nat} (hk : k < n) : F k < 256 := by
  obtain ⟨u, _, h2⟩ := h.2 k hk
  rw [← h2]; exact byte_lt u
def by_ (ts : List (List UInt8)) (i k : Nat) : Nat := ((ts.getD i []).getD k 0).toNat
theorem by_lt (ts : List (List UInt8)) (i k : Nat) : by_ ts i k < 256 := byte_lt _
def Txts (ts : List (List UInt8)) (n sz : Nat) : Prop := ts.length = n ∧ ∀ i, i < n → ∃ t, ts[i]? = some t ∧ t.length = sz ∧ ∀ k, k < sz → En.bAt t (k : Int) = ((by_ ts i k : Nat) : Int)
theorem txts_of {ts : List (List UInt8)} {n sz : Nat} (h : ts.length = n) (hs : ∀ t ∈ ts, t.length = sz) : Txts ts n sz := ⟨h, fun i hi => by
  have hi' : i < ts.length := by omega
  refine ⟨ts[i], List.getElem?_eq_getElem hi', hs _ (List.getElem_mem hi'), fun k hk => ?_⟩
  have e : ts.getD i [] = ts[i] := by rw [List.getD_eq_getElem?_getD, List.getElem?_eq_getElem hi']; rfl
  unfold by_; rw [e]; unfold En.bAt; simp [List.getD_eq_getElem?_getD]⟩
theorem txts_vec {ts : List (List UInt8)} {n sz : Nat} (h : Txts ts n sz) {i : Nat} (hi : i < n) : ∃ t, ts[i]? = some t ∧ Vec t sz (by_ ts i) := by
  obtain ⟨t, h1, h2, _⟩ := h.2 i hi
  refine ⟨t, h1, h2, fun k hk => ?_⟩
  have hk' : k < t.length := by omega
  refine ⟨t[k], List.getElem?_eq_getElem hk', ?_⟩
  have e : ts.getD i [] = t := by rw [List.getD_eq_getElem?_getD, h1]; rfl
  unfold by_; rw [e, List.getD_eq_getElem?_getD, List.getElem?_eq_getElem hk']; rfl
theorem toNat_of {x : Nat} (h : x < 256) : (UInt8.ofNat x).toNat = x := by have := byte_of h; omega
def coef (j i : Nat) : Nat := ginv ((128 + j) ^^^ i)
def gen (n k i : Nat) : Nat := if k < n then (if i = k then 1 else 0) else coef (k - n) i
theorem xor_ne {j i : Nat} (hj : j < 8) (hi : i < 16) : (128 + j) ^^^ i ≠ 0 ∧ (128 + j) ^^^ i < 256 := by
  have : ∀ j, j < 8 → ∀ i, i < 16 → (128 + j) ^^^ i ≠ 0 ∧ (128 + j) ^^^ i < 256 := by decide +kernel
  exact this j hj i hi
theorem coef_lt {j i : Nat} (hj : j < 8) (hi : i < 16) : coef j i < 256 := ginv_lt (xor_ne hj hi).2
theorem point {n k i : Nat} (hn : n ≤ 16) (hk : n ≤ k) (hk8 : k < n + 8) (hi : i < 16) : bits .xor .u8 (IntKind.u8.wrap (IntKind.i64.wrap ((IntKind.i64.wrap ((128 : Int) + (k : Int))) - (n : Int)))) (IntKind.u8.wrap (i : Int)) = (((128 + (k - n)) ^^^ i : Nat) : Int) := by
  rw [w64 (x := (128 : Int) + (k : Int)) (by omega) (by omega), w64 (by omega) (by omega), show (128 : Int) + (k : Int) - (n : Int) = ((128 + (k - n) : Nat) : Int) by omega, u8w_in (by omega), u8w_in (by omega)]
  exact u8_xor_nat _ _ (by omega) (by omega)
theorem row_loop (n k : Nat) (hn : n ≤ 16) (hk : n ≤ k) (hk8 : k < n + 8) (kk : List UInt8 → Option (List UInt8)) (fu : Nat) (hf : 100 ≤ fu) : ∀ (fuel i : Nat) (L : List UInt8), i ≤ n → n - i < fuel → Vec L n (fun j => if j < i then coef (k - n) j else 0) →
    ∃ L', Vec L' n (coef (k - n)) ∧ f_shield_row_L13 (k : Int) (n : Int) kk fu fuel L (i : Int) = kk L'
  | 0, i, _, _, hfu, _ => absurd hfu (Nat.not_lt_zero _)
  | fuel + 1, i, L, hi, hfu, hL => by
    rw [f_shield_row_L13]
    by_cases hlt : i < n
    · have hcl := coef_lt (show k - n < 8 by omega) (show i < 16 by omega)
      have hml : i < L.length := by rw [hL.1]; exact hlt
      rw [cond_tt (dlt (by simp; omega)), point hn hk hk8 (by omega), SmGf.inv (xor_ne (show k - n < 8 by omega) (by omega)).2 fu hf, opt_of, if_neg (xor_ne (show k - n < 8 by omega) (by omega)).1, at_lt hml, opt_of]
      dsimp only
      rw [req_pos (by unfold coef at hcl; omega), wsucc (by omega), Int.toNat_natCast, Int.toNat_natCast]
      refine row_loop n k hn hk hk8 kk fu hf fuel (i + 1) _ (by omega) (by omega) ((hL.set hlt _).congr fun j hj => ?_)
      by_cases e : j = i
      · subst e; rw [if_pos rfl, if_pos (by omega)]; exact toNat_of hcl
      · rw [if_neg e]; by_cases h1 : j < i
        · rw [if_pos h1, if_pos (by omega)]
        · rw [if_neg h1, if_neg (by omega)]
    · obtain rfl : i = n := by omega
      rw [cond_ff (dge (by simp))]
      exact ⟨L, hL.congr fun j hj => if_pos hj, rfl⟩
theorem row (n k : Nat) (hn : n ≤ 16) (hk8 : k < n + 8) (fu : Nat) (hf : 100 ≤ fu) : ∃ r, Vec r n (gen n k) ∧ f_shield_row fu (k : Int) (n : Int) = some r := by
  unfold f_shield_row
  rw [req_pos (by omega), Int.toNat_natCast]
  by_cases h : k < n
  · rw [cond_tt (dlt (by omega)), at_of (k := k) (x := (0 : UInt8)) (by simp [h]), opt_of, req_pos (by omega)]
    refine ⟨_, ((Vec.zero n).set h (UInt8.ofNat ((1 : Int)).toNat)).congr fun j hj => ?_, rfl⟩
    unfold gen; rw [if_pos h]; by_cases e : j = k
    · rw [if_pos e, if_pos e]; rfl
    · rw [if_neg e, if_neg e]
  · rw [cond_ff (dge (by omega)), lt_of]
    obtain ⟨L', h1, h2⟩ := row_loop n k hn (by omega) hk8 (fun j => some j) fu hf fu 0 _ (by omega) (by omega) ((Vec.zero n).congr fun j _ => (if_neg (by omega)).symm)
    exact ⟨L', h1.congr fun j hj => by unfold gen; rw [if_neg h], h2⟩
theorem comb_in (ts : List (List UInt8)) (n sz i : Nat) (ht : Txts ts n sz) (hi : i < n) (hsz : sz ≤ 4096) (c : UInt8) (kk : List UInt8 → Option (List UInt8)) (fu : Nat) (hf : 10 ≤ fu) (F : Nat → Nat) : ∀ (fuel k : Nat) (L : List UInt8), k ≤ sz → sz - k < fuel → Vec L sz (fun j => if j < k then F j ^^^ gm c.toNat (by_ ts i j) else F j) →
    ∃ L', Vec L' sz (fun j => F j ^^^ gm c.toNat (by_ ts i j)) ∧ f_shield_combine_L18 ts (sz : Int) (i : Int) kk c fu fuel L (k : Int) = kk L'
  | 0, k, _, _, hfu, _ => absurd hfu (Nat.not_lt_zero _)
  | fuel + 1, k, L, hk, hfu, hL => by
    rw [f_shield_combine_L18]
    by_cases hlt : k < sz
    · obtain ⟨t, ht1, ht2, ht3⟩ := ht.2 i hi
      obtain ⟨u, hu1, hu2⟩ := hL.2 k hlt
      dsimp only at hu2
      rw [if_neg (Nat.lt_irrefl k)] at hu2
      have hgl := gm_lt c.toNat (by_ ts i k) (byte_lt c)
      rw [cond_tt (dlt (by omega)), at_of hu1, opt_of, at_of ht1, opt_of, req_pos (by omega), ht3 k hlt, SmGf.mul (byte_lt c) (by_lt _ _ _) fu hf, opt_of, opt_of,
        u8_xor_nat _ _ (byte_lt _) hgl, req_pos (by have := xor_lt8 (byte_lt u) hgl; omega), wsucc (by omega), Int.toNat_natCast, Int.toNat_natCast]
      refine comb_in ts n sz i ht hi hsz c kk fu hf F fuel (k + 1) _ (by omega) (by omega) ((hL.set hlt _).congr fun j hj => ?_)
      by_cases e : j = k
      · subst e; rw [if_pos rfl, if_pos (by omega), toNat_of (xor_lt8 (byte_lt u) hgl), hu2]
      · rw [if_neg e]; by_cases h1 : j < k
        · rw [if_pos h1, if_pos (by omega)]
        · rw [if_neg h1, if_neg (by omega)]
    · obtain rfl : k = sz := by omega
      rw [cond_ff (dge (by omega))]
      exact ⟨L, hL.congr fun j hj => if_pos hj, rfl⟩
theorem sx_succ (f : Nat → Nat) (i : Nat) : sx f (List.range (i + 1)) = sx f (List.range i) ^^^ f i := by
  rw [List.range_succ, sx_append]; unfold sx; unfold sx; rw [Nat.xor_zero]
theorem comb_loop (fs : List UInt8) (ts : List (List UInt8)) (n sz : Nat) (C : Nat → Nat) (hfs : Vec fs n C) (ht : Txts ts n sz) (hn : n ≤ 16) (hsz : sz ≤ 4096) (kk : List UInt8 → Option (List UInt8)) (fu : Nat) (hf : 5000 ≤ fu) : ∀ (fuel i : Nat) (L : List UInt8), i ≤ n → n - i < fuel → Vec L sz (fun k => sx (fun q => gm (C q) (by_ ts q k)) (List.range i)) →
    ∃ L', Vec L' sz (fun k => sx (fun q => gm (C q) (by_ ts q k)) (List.range n)) ∧ f_shield_combine_L7 fs ts (sz : Int) kk fu fuel L (i : Int) = kk L'
  | 0, i, _, _, hfu, _ => absurd hfu (Nat.not_lt_zero _)
  | fuel + 1, i, L, hi, hfu, hL => by
    rw [f_shield_combine_L7, lt_of]
    by_cases hlt : i < n
    · obtain ⟨u, hu1, hu2⟩ := hfs.2 i hlt
      rw [cond_tt (dlt (by rw [hfs.1]; omega)), lt_of, at_of hu1, opt_of, wsucc (by omega)]
      by_cases h0 : u.toNat = 0
      · rw [cond_tt (by rw [h0]; rfl)]
        refine comb_loop fs ts n sz C hfs ht hn hsz kk fu hf fuel (i + 1) L (by omega) (by omega) (hL.congr fun k _ => ?_)
        rw [sx_succ, ← hu2, h0, zero_gm, Nat.xor_zero]
      · rw [cond_ff (by simpa using h0)]
        obtain ⟨L1, h1, h2⟩ := comb_in ts n sz i ht hlt hsz u (fun j10x7 => f_shield_combine_L7 fs ts (sz : Int) kk fu fuel j10x7 ((i + 1 : Nat) : Int)) fu (by omega) _ fu 0 L (by omega) (by omega) (hL.congr fun k _ => (if_neg (by omega)).symm)
        refine Exists.imp ?_ (comb_loop fs ts n sz C hfs ht hn hsz kk fu hf fuel (i + 1) L1 (by omega) (by omega) (h1.congr fun k _ => by rw [sx_succ, hu2]))
        rintro L' ⟨h3, h4⟩
        exact ⟨h3, Eq.trans h2 h4⟩
    · obtain rfl : i = n := by omega
      rw [cond_ff (dge (by rw [hfs.1]; omega))]
      exact ⟨L, hL, rfl⟩
theorem comb (fs : List UInt8) (ts : List (List UInt8)) (n sz : Nat) (C : Nat → Nat) (hfs : Vec fs n C) (ht : Txts ts n sz) (hn : n ≤ 16) (hsz : sz ≤ 4096) (fu : Nat) (hf : 5000 ≤ fu) :
    ∃ L', Vec L' sz (fun k => sx (fun q => gm (C q) (by_ ts q k)) (List.range n)) ∧ f_shield_combine fu fs ts (sz : Int) = some L' := by
  unfold f_shield_combine
  rw [req_pos (by omega), lt_of, Int.toNat_natCast]
  exact comb_loop fs ts n sz C hfs ht hn hsz (fun j => some j) fu hf fu 0 _ (by omega) (by omega) (Vec.zero sz)
theorem ref_in (ts : List (List UInt8)) (n sz i : Nat) (ht : Txts ts n sz) (hi : i < n) (hsz : sz ≤ 4096) (t : List UInt8) (ht1 : ts[i]? = some t) (c : Nat) (hc : c < 256) (out : List UInt8) (ho : out.length = sz) (kk : List UInt8 → Option (List UInt8)) (fu : Nat) (hf : 10 ≤ fu) (F : Nat → Nat) : ∀ (fuel k : Nat) (L : List UInt8), k ≤ sz → sz - k < fuel → Vec L sz (fun j => if j < k then F j ^^^ gm c (by_ ts i j) else F j) →
    ∃ L', Vec L' sz (fun j => F j ^^^ gm c (by_ ts i j)) ∧ f_lumref_ShardOf_L26 out kk t (c : Int) fu fuel L (k : Int) = kk L'
  | 0, k, _, _, hfu, _ => absurd hfu (Nat.not_lt_zero _)
  | fuel + 1, k, L, hk, hfu, hL => by
    rw [f_lumref_ShardOf_L26]
    by_cases hlt : k < sz
    · obtain ⟨t', ht1', ht2, ht3⟩ := ht.2 i hi
      obtain rfl : t = t' := Option.some.inj (ht1.symm.trans ht1')
      obtain ⟨u, hu1, hu2⟩ := hL.2 k hlt
      dsimp only at hu2
      rw [if_neg (Nat.lt_irrefl k)] at hu2
      have hgl := gm_lt c (by_ ts i k) hc
      rw [cond_tt (dlt (by omega)), at_of hu1, opt_of, req_pos (by omega), ht3 k hlt, SmGf.rmul hc (by_lt _ _ _) fu hf, opt_of, opt_of,
        u8_xor_nat _ _ (byte_lt _) hgl, req_pos (by have := xor_lt8 (byte_lt u) hgl; omega), wsucc (by omega), Int.toNat_natCast, Int.toNat_natCast]
      refine ref_in ts n sz i ht hi hsz t ht1 c hc out ho kk fu hf F fuel (k + 1) _ (by omega) (by omega) ((hL.set hlt _).congr fun j hj => ?_)
      by_cases e : j = k
      · subst e; rw [if_pos rfl, if_pos (by omega), toNat_of (xor_lt8 (byte_lt u) hgl), hu2]
      · rw [if_neg e]; by_cases h1 : j < k
        · rw [if_pos h1, if_pos (by omega)]
        · rw [if_neg h1, if_neg (by omega)]
    · obtain rfl : k = sz := by omega
      rw [cond_ff (dge (by omega))]
      exact ⟨L, hL.congr fun j hj => if_pos hj, rfl⟩
theorem ref_loop (ts : List (List UInt8)) (n sz k : Nat) (ht : Txts ts n sz) (hn : n ≤ 16) (hk : n ≤ k) (hk8 : k < n + 8) (hsz : sz ≤ 4096) (kk : List UInt8 → Option (List UInt8)) (fu : Nat) (hf : 5000 ≤ fu) : ∀ (fuel i : Nat) (L : List UInt8), i ≤ n → n - i < fuel → Vec L sz (fun q => sx (fun j => gm (coef (k - n) j) (by_ ts j q)) (List.range i)) →
    ∃ L', Vec L' sz (fun q => sx (fun j => gm (coef (k - n) j) (by_ ts j q)) (List.range n)) ∧ f_lumref_ShardOf_L14 ts (k : Int) kk fu fuel L (i : Int) = kk L'
  | 0, i, _, _, hfu, _ => absurd hfu (Nat.not_lt_zero _)
  | fuel + 1, i, L, hi, hfu, hL => by
    have hl := ht.1
    rw [f_lumref_ShardOf_L14, lt_of]
    by_cases hlt : i < n
    · have hcl := coef_lt (show k - n < 8 by omega) (show i < 16 by omega)
      obtain ⟨t, ht1, ht2, ht3⟩ := ht.2 i hlt
      have hp := point hn hk hk8 (show i < 16 by omega)
      rw [cond_tt (dlt (by omega)), lt_of, at_of ht1, opt_of, hl, hp, SmGf.rinv (xor_ne (show k - n < 8 by omega) (by omega)).2 fu (by omega), opt_of, if_neg (xor_ne (show k - n < 8 by omega) (by omega)).1, wsucc (by omega)]
      obtain ⟨L1, h1, h2⟩ := ref_in ts n sz i ht hlt hsz t ht1 (coef (k - n) i) hcl L hL.1 (fun j17x6 => f_lumref_ShardOf_L14 ts (k : Int) kk fu fuel j17x6 ((i + 1 : Nat) : Int)) fu (by omega) _ fu 0 L (by omega) (by omega) (hL.congr fun k _ => (if_neg (by omega)).symm)
      refine Exists.imp ?_ (ref_loop ts n sz k ht hn hk hk8 hsz kk fu hf fuel (i + 1) L1 (by omega) (by omega) (h1.congr fun k _ => by rw [sx_succ]))
      rintro L' ⟨h3, h4⟩
      exact ⟨h3, Eq.trans h2 h4⟩
    · obtain rfl : i = n := by omega
      rw [cond_ff (dge (by omega))]
      exact ⟨L, hL, rfl⟩
theorem shard (ts : List (List UInt8)) (n sz k : Nat) (ht : Txts ts n sz) (hn : n ≤ 16) (hn1 : 1 ≤ n) (hk8 : k < n + 8) (hsz : sz ≤ 4096) (fu : Nat) (hf : 5000 ≤ fu) :
    ∃ L', Vec L' sz (fun q => sx (fun j => gm (gen n k j) (by_ ts j q)) (List.range n)) ∧ f_lumref_ShardOf fu ts (k : Int) = some L' := by
  have hl := ht.1
  unfold f_lumref_ShardOf
  by_cases h : k < n
  · obtain ⟨t, h1, h2⟩ := txts_vec ht h
    rw [cond_tt (dlt (by omega)), at_of h1, opt_of]
    refine ⟨t, h2.congr fun q hq => ?_, rfl⟩
    rw [sx_one (b := k) List.nodup_range (List.mem_range.2 h) (fun a ha hne => by unfold gen; rw [if_pos h, if_neg hne, zero_gm])]
    unfold gen; rw [if_pos h, if_pos rfl, one_gm (by_lt _ _ _)]
  · obtain ⟨t, h1, h2, _⟩ := ht.2 0 (by omega)
    rw [cond_ff (dge (by omega)), show at? ts 0 = some t from at_of (k := 0) h1, opt_of, h2, req_pos (by omega), lt_of, Int.toNat_natCast]
    obtain ⟨L', h3, h4⟩ := ref_loop ts n sz k ht hn (by omega) hk8 hsz (fun j => some j) fu hf fu 0 _ (by omega) (by omega) (Vec.zero sz)
    exact ⟨L', h3.congr fun q _ => sx_congr fun j _ => by unfold gen; rw [if_neg h], h4⟩
end Go.Proofs.Ytpakblkldklbmaa.SmC
namespace Go.Proofs.Ytpakblkldklbmaa.SmI
open Go.RowKit Ytpakblkldklbmaa.En Ytpakblkldklbmaa Fld Shm SmC
set_option linter.unusedVariables false
set_option linter.unusedSimpArgs false
abbrev Bag := List (Option (List UInt8))
theorem bget_same {b : Bag} {h : Int} {r r' : List UInt8} (e : bget b h = some r) : bget (bset b h (some r')) h = some r' := by
  obtain ⟨h0, hb⟩ := bget_some e
  have hlt := (List.getElem?_eq_some_iff.1 hb).1
  unfold bget bset at?
  rw [if_pos h0, List.getElem?_set_self hlt]; rfl
theorem bget_other {b : Bag} {h h' : Int} {x : Option (List UInt8)} {r : List UInt8} (e : bget b h = some r) (h0 : 0 ≤ h') (hne : h ≠ h') : bget (bset b h' x) h = some r := by
  obtain ⟨h1, hb⟩ := bget_some e
  unfold bget bset at?
  rw [if_pos h1, List.getElem?_set_ne (by omega), hb]; rfl
theorem bget_of {b : Bag} {k : Nat} {r : List UInt8} (e : b[k]? = some (some r)) : bget b (k : Int) = some r := by
  unfold bget; rw [at_of e]; rfl
structure MatR (n : Nat) (hs : List Int) (b : Bag) (A : Nat → Nat → Nat) : Prop where
  len : hs.length = n
  inj : ∀ i j h, i < n → j < n → hs[i]? = some h → hs[j]? = some h → i = j
  row : ∀ i, i < n → ∃ h r, hs[i]? = some h ∧ bget b h = some r ∧ Vec r n (A i)
theorem MatR.congr {n : Nat} {hs : List Int} {b : Bag} {A B : Nat → Nat → Nat} (h : MatR n hs b A) (e : ∀ i k, i < n → k < n → A i k = B i k) : MatR n hs b B :=
  ⟨h.len, h.inj, fun i hi => by obtain ⟨q, r, h1, h2, h3⟩ := h.row i hi; exact ⟨q, r, h1, h2, h3.congr fun k hk => e i k hi hk⟩⟩
theorem MatR.bd {n : Nat} {hs : List Int} {b : Bag} {A : Nat → Nat → Nat} (h : MatR n hs b A) : Bd n A := fun i k hi hk => by
  obtain ⟨q, r, h1, h2, h3⟩ := h.row i hi
  exact h3.lt hk
theorem MatR.upd {n : Nat} {hs : List Int} {b : Bag} {A : Nat → Nat → Nat} (hM : MatR n hs b A) {i k : Nat} (hi : i < n) (hk : k < n) {h : Int} {r : List UInt8} (h1 : hs[i]? = some h) (h2 : bget b h = some r) (y : UInt8) :
    MatR n hs (bset b h (some (r.set k y))) (fun i' k' => if i' = i ∧ k' = k then y.toNat else A i' k') := by
  refine ⟨hM.len, hM.inj, fun j hj => ?_⟩
  obtain ⟨q, s, g1, g2, g3⟩ := hM.row j hj
  by_cases e : j = i
  · subst e
    obtain rfl : h = q := Option.some.inj (h1.symm.trans g1)
    obtain rfl : r = s := Option.some.inj (h2.symm.trans g2)
    refine ⟨h, _, h1, bget_same h2, (g3.set hk y).congr fun c _ => ?_⟩
    by_cases e : c = k
    · rw [if_pos e, if_pos ⟨rfl, e⟩]
    · rw [if_neg e, if_neg fun hh => e hh.2]
  · refine ⟨q, s, g1, bget_other g2 (bget_some h2).1 (fun hq => e (hM.inj j i q hj hi g1 (hq ▸ h1))), g3.congr fun c _ => ?_⟩
    rw [if_neg fun hh => e hh.1]
theorem MatR.swap {n : Nat} {hs : List Int} {b : Bag} {A : Nat → Nat → Nat} (hM : MatR n hs b A) {c p : Nat} (hc : c < n) (hp : p < n) {x y : Int} (hx : hs[p]? = some x) (hy : hs[c]? = some y) : MatR n ((hs.set c x).set p y) b (swapM A c p) := by
  have hl := hM.len
  have key : ∀ i, i < n → ((hs.set c x).set p y)[i]? = hs[if i = c then p else if i = p then c else i]? := fun i hi => by
    rw [List.getElem?_set]
    by_cases e1 : p = i
    · subst e1
      rw [if_pos rfl, if_pos (by rw [List.length_set]; omega)]
      by_cases e2 : p = c
      · subst e2; rw [if_pos rfl, hy]
      · rw [if_neg e2, if_pos rfl, hy]
    · rw [if_neg e1, List.getElem?_set]
      by_cases e2 : c = i
      · subst e2; rw [if_pos rfl, if_pos (by omega), if_pos rfl, hx]
      · rw [if_neg e2, if_neg (fun e => e2 e.symm), if_neg (fun e => e1 e.symm)]
  have hlt : ∀ i, i < n → (if i = c then p else if i = p then c else i) < n := fun i hi => by split; exact hp; split; exact hc; exact hi
  refine ⟨by rw [List.length_set, List.length_set]; exact hl, fun i j h hi hj h1 h2 => ?_, fun i hi => ?_⟩
  · rw [key i hi] at h1; rw [key j hj] at h2
    have := hM.inj _ _ h (hlt i hi) (hlt j hj) h1 h2
    (repeat' split at this) <;> omega
  · obtain ⟨q, s, g1, g2, g3⟩ := hM.row _ (hlt i hi)
    exact ⟨q, s, by rw [key i hi]; exact g1, g2, g3⟩
theorem xor_byte {a b : Nat} (ha : a < 256) (hb : b < 256) : (UInt8.ofNat ((((a ^^^ b : Nat) : Int)).toNat)).toNat = a ^^^ b := by
  rw [Int.toNat_natCast]; exact toNat_of (xor_lt8 ha hb)
theorem elim_in (n : Nat) (a0 : List Int) (ha : a0.length = n) (x0 x4 : List Int) (c p : Nat) (u16 u21 u34 u39 : Int) (r : Nat) (hn : n ≤ 16) (hr : r < n) (hc : c < n) (hrc : r ≠ c) (u81 : UInt8) (A B : Nat → Nat → Nat)
    (kk : Bag → Bag → Option (List Int × Bag)) (fu : Nat) (hf : 10 ≤ fu) : ∀ (fuel k : Nat) (b b4 : Bag), k ≤ n → n - k < fuel →
    MatR n ((x0.set c u16).set p u21) b (fun i j => if i = r ∧ j < k then A r j ^^^ gm u81.toNat (A c j) else A i j) → MatR n ((x4.set c u34).set p u39) b4 (fun i j => if i = r ∧ j < k then B r j ^^^ gm u81.toNat (B c j) else B i j) →
    ∃ b' b4', MatR n ((x0.set c u16).set p u21) b' (fun i j => if i = r then A r j ^^^ gm u81.toNat (A c j) else A i j) ∧ MatR n ((x4.set c u34).set p u39) b4' (fun i j => if i = r then B r j ^^^ gm u81.toNat (B c j) else B i j) ∧
      f_shield_inverse_ownd_L90 a0 x0 x4 (c : Int) (p : Int) u16 u21 u34 u39 (r : Int) kk u81 fu fuel b b4 (k : Int) = kk b' b4'
  | 0, k, _, _, _, hfu, _, _ => absurd hfu (Nat.not_lt_zero _)
  | fuel + 1, k, b, b4, hk, hfu, hA, hB => by
    rw [f_shield_inverse_ownd_L90]
    by_cases hlt : k < n
    · obtain ⟨h1, s1, a1, a2, a3⟩ := hA.row r hr
      obtain ⟨h2, s2, b1, b2, b3⟩ := hA.row c hc
      obtain ⟨h3, s3, c1, c2, c3⟩ := hB.row r hr
      obtain ⟨h4, s4, d1, d2, d3⟩ := hB.row c hc
      obtain ⟨e1, p1, q1⟩ := a3.2 k hlt
      obtain ⟨e2, p2, q2⟩ := b3.2 k hlt
      obtain ⟨e3, p3, q3⟩ := c3.2 k hlt
      obtain ⟨e4, p4, q4⟩ := d3.2 k hlt
      dsimp only at q1 q2 q3 q4
      rw [if_neg (by omega)] at q1 q2 q3 q4
      have g1 := gm_lt u81.toNat e2.toNat (byte_lt u81)
      have g2 := gm_lt u81.toNat e4.toNat (byte_lt u81)
      have l1 := xor_lt8 (byte_lt e1) g1
      have l2 := xor_lt8 (byte_lt e3) g2
      have hA' := hA.upd hr hlt a1 a2 (UInt8.ofNat ((((e1.toNat ^^^ gm u81.toNat e2.toNat : Nat) : Int)).toNat))
      have hB' := hB.upd hr hlt c1 c2 (UInt8.ofNat ((((e3.toNat ^^^ gm u81.toNat e4.toNat : Nat) : Int)).toNat))
      rw [xor_byte (byte_lt e1) g1] at hA'
      rw [xor_byte (byte_lt e3) g2] at hB'
      rw [cond_tt (dlt (by omega)), Int.toNat_natCast, Int.toNat_natCast, at_of a1, opt_of, a2, opt_of, at_of p1, opt_of, at_of b1, opt_of, b2, opt_of, at_of p2, opt_of, SmGf.mul (byte_lt u81) (byte_lt e2) fu hf, opt_of, opt_of, at_of p1, opt_of,
        u8_xor_nat _ _ (byte_lt _) g1, req_pos (by omega), at_of c1, opt_of, c2, opt_of, at_of p3, opt_of, at_of d1, opt_of, d2, opt_of, at_of p4, opt_of, SmGf.mul (byte_lt u81) (byte_lt e4) fu hf, opt_of, opt_of, at_of p3, opt_of,
        u8_xor_nat _ _ (byte_lt _) g2, req_pos (by omega), wsucc (by omega), Int.toNat_natCast]
      refine elim_in n a0 ha x0 x4 c p u16 u21 u34 u39 r hn hr hc hrc u81 A B kk fu hf fuel (k + 1) _ _ (by omega) (by omega) (hA'.congr fun i j hi hj => ?_) (hB'.congr fun i j hi hj => ?_)
      · by_cases t1 : i = r
        · subst t1
          by_cases t2 : j = k
          · subst t2; rw [if_pos ⟨rfl, rfl⟩, if_pos ⟨rfl, by omega⟩, q1, q2]
          · rw [if_neg (fun h => t2 h.2)]
            by_cases t3 : j < k
            · rw [if_pos ⟨rfl, t3⟩, if_pos ⟨rfl, by omega⟩]
            · rw [if_neg (fun h => t3 h.2), if_neg (fun h => t3 (by omega))]
        · rw [if_neg (fun h => t1 h.1), if_neg (fun h => t1 h.1), if_neg (fun h => t1 h.1)]
      · by_cases t1 : i = r
        · subst t1
          by_cases t2 : j = k
          · subst t2; rw [if_pos ⟨rfl, rfl⟩, if_pos ⟨rfl, by omega⟩, q3, q4]
          · rw [if_neg (fun h => t2 h.2)]
            by_cases t3 : j < k
            · rw [if_pos ⟨rfl, t3⟩, if_pos ⟨rfl, by omega⟩]
            · rw [if_neg (fun h => t3 h.2), if_neg (fun h => t3 (by omega))]
        · rw [if_neg (fun h => t1 h.1), if_neg (fun h => t1 h.1), if_neg (fun h => t1 h.1)]
    · obtain rfl : k = n := by omega
      rw [cond_ff (dge (by omega))]
      refine ⟨b, b4, hA.congr fun i j hi hj => ?_, hB.congr fun i j hi hj => ?_, rfl⟩
      · by_cases t1 : i = r
        · rw [if_pos ⟨t1, hj⟩, if_pos t1]
        · rw [if_neg (fun h => t1 h.1), if_neg t1]
      · by_cases t1 : i = r
        · rw [if_pos ⟨t1, hj⟩, if_pos t1]
        · rw [if_neg (fun h => t1 h.1), if_neg t1]
theorem elim_all (n : Nat) (a0 : List Int) (ha : a0.length = n) (x0 x4 : List Int) (c p : Nat) (u16 u21 u34 u39 : Int) (hn : n ≤ 16) (hc : c < n) (A B : Nat → Nat → Nat)
    (kk : Bag → List Int → Bag → List Int → Option (List Int × Bag)) (fu : Nat) (hf : 100 ≤ fu) : ∀ (fuel r : Nat) (b b4 : Bag), r ≤ n → n - r < fuel →
    MatR n ((x0.set c u16).set p u21) b (fun i j => if i < r then elimM A (fun i => A i c) c i j else A i j) → MatR n ((x4.set c u34).set p u39) b4 (fun i j => if i < r then elimM B (fun i => A i c) c i j else B i j) →
    ∃ b' b4', MatR n ((x0.set c u16).set p u21) b' (elimM A (fun i => A i c) c) ∧ MatR n ((x4.set c u34).set p u39) b4' (elimM B (fun i => A i c) c) ∧
      f_shield_inverse_ownd_L69 a0 x0 x4 (c : Int) kk (p : Int) u16 u21 u34 u39 fu fuel b b4 (r : Int) = kk b' ((x0.set c u16).set p u21) b4' ((x4.set c u34).set p u39)
  | 0, r, _, _, _, hfu, _, _ => absurd hfu (Nat.not_lt_zero _)
  | fuel + 1, r, b, b4, hr, hfu, hA, hB => by
    rw [f_shield_inverse_ownd_L69, lt_of]
    by_cases hlt : r < n
    · obtain ⟨h1, s1, a1, a2, a3⟩ := hA.row r hlt
      obtain ⟨e1, p1, q1⟩ := a3.2 c hc
      dsimp only at q1
      rw [if_neg (Nat.lt_irrefl r)] at q1
      rw [cond_tt (dlt (by omega)), lt_of, Int.toNat_natCast, Int.toNat_natCast, at_of a1, opt_of, a2, opt_of, at_of p1, opt_of, lt_of, wsucc (by omega)]
      have same : ∀ (X : Nat → Nat → Nat), (r = c ∨ A r c = 0) → ∀ i j, i < n → j < n → (if i < r then elimM X (fun i => A i c) c i j else X i j) = if i < r + 1 then elimM X (fun i => A i c) c i j else X i j := fun X h i j _ _ => by
        by_cases t1 : i < r
        · rw [if_pos t1, if_pos (by omega)]
        · rw [if_neg t1]
          by_cases t2 : i = r
          · subst t2; rw [if_pos (by omega)]; unfold elimM
            by_cases t3 : i = c
            · subst t3; rw [if_pos rfl]
            · rw [if_neg t3]; dsimp only; rw [h.resolve_left t3, zero_gm, Nat.xor_zero]
          · rw [if_neg (by omega)]
      by_cases hrc : r = c
      · subst hrc
        rw [cond_ff (by simp)]; dsimp only; rw [cond_ff (by rfl)]
        exact elim_all n a0 ha x0 x4 r p u16 u21 u34 u39 hn hc A B kk fu hf fuel (r + 1) b b4 (by omega) (by omega) (hA.congr (same A (.inl rfl))) (hB.congr (same B (.inl rfl)))
      · rw [cond_tt (by simp; omega)]; dsimp only
        by_cases h0 : A r c = 0
        · rw [cond_ff (by rw [q1, h0]; rfl)]
          exact elim_all n a0 ha x0 x4 c p u16 u21 u34 u39 hn hc A B kk fu hf fuel (r + 1) b b4 (by omega) (by omega) (hA.congr (same A (.inr h0))) (hB.congr (same B (.inr h0)))
        · rw [cond_tt (by rw [q1]; simpa using h0)]
          have step : ∀ (X : Nat → Nat → Nat) i j, i < n → j < n → (if i = r then (if r < r then elimM X (fun i => A i c) c r j else X r j) ^^^ gm e1.toNat (if c < r then elimM X (fun i => A i c) c c j else X c j) else if i < r then elimM X (fun i => A i c) c i j else X i j) = if i < r + 1 then elimM X (fun i => A i c) c i j else X i j := fun X i j _ _ => by
            have hcc : (if c < r then elimM X (fun i => A i c) c c j else X c j) = X c j := by
              split
              · unfold elimM; rw [if_pos rfl]
              · rfl
            rw [if_neg (Nat.lt_irrefl r), hcc]
            by_cases t1 : i = r
            · subst t1; rw [if_pos rfl, if_pos (by omega)]; unfold elimM; rw [if_neg hrc, q1]
            · rw [if_neg t1]; by_cases t2 : i < r
              · rw [if_pos t2, if_pos (by omega)]
              · rw [if_neg t2, if_neg (by omega)]
          obtain ⟨b', b4', m1, m2, m3⟩ := elim_in n a0 ha x0 x4 c p u16 u21 u34 u39 r hn hlt hc hrc e1 (fun i j => if i < r then elimM A (fun i => A i c) c i j else A i j) (fun i j => if i < r then elimM B (fun i => A i c) c i j else B i j)
            (fun j72xb0 j72xb4 => f_shield_inverse_ownd_L69 a0 x0 x4 (c : Int) kk (p : Int) u16 u21 u34 u39 fu fuel j72xb0 j72xb4 ((r + 1 : Nat) : Int)) fu (by omega) fu 0 b b4 (by omega) (by omega)
            (hA.congr fun i j _ _ => (if_neg (fun h => Nat.not_lt_zero _ h.2)).symm) (hB.congr fun i j _ _ => (if_neg (fun h => Nat.not_lt_zero _ h.2)).symm)
          obtain ⟨b'', b4'', m4, m5, m6⟩ := elim_all n a0 ha x0 x4 c p u16 u21 u34 u39 hn hc A B kk fu hf fuel (r + 1) b' b4' (by omega) (by omega) (m1.congr (step A)) (m2.congr (step B))
          exact ⟨b'', b4'', m4, m5, Eq.trans m3 m6⟩
    · obtain rfl : r = n := by omega
      rw [cond_ff (dge (by omega)), Int.toNat_natCast, Int.toNat_natCast]
      exact ⟨b, b4, hA.congr fun i j hi _ => by rw [if_pos hi], hB.congr fun i j hi _ => by rw [if_pos hi], rfl⟩
theorem scale_in (n : Nat) (a0 : List Int) (ha : a0.length = n) (x0 x4 : List Int) (c p : Nat) (u16 u21 u34 u39 : Int) (hn : n ≤ 16) (hc : c < n) (f : Nat) (hf8 : f < 256) (e : Int) (A B : Nat → Nat → Nat)
    (kk : Bag → Bag → Option (List Int × Bag)) (fu : Nat) (hf : 10 ≤ fu) : ∀ (fuel k : Nat) (b b4 : Bag), k ≤ n → n - k < fuel →
    MatR n ((x0.set c u16).set p u21) b (fun i j => if i = c ∧ j < k then gm f (A c j) else A i j) → MatR n ((x4.set c u34).set p u39) b4 (fun i j => if i = c ∧ j < k then gm f (B c j) else B i j) →
    ∃ b' b4', MatR n ((x0.set c u16).set p u21) b' (scaleM A f c) ∧ MatR n ((x4.set c u34).set p u39) b4' (scaleM B f c) ∧
      f_shield_inverse_ownd_L157 a0 x0 x4 (c : Int) (p : Int) u16 u21 u34 u39 ((f : Int), e) kk fu fuel b b4 (k : Int) = kk b' b4'
  | 0, k, _, _, _, hfu, _, _ => absurd hfu (Nat.not_lt_zero _)
  | fuel + 1, k, b, b4, hk, hfu, hA, hB => by
    rw [f_shield_inverse_ownd_L157]
    by_cases hlt : k < n
    · obtain ⟨h2, s2, b1, b2, b3⟩ := hA.row c hc
      obtain ⟨h4, s4, d1, d2, d3⟩ := hB.row c hc
      obtain ⟨e2, p2, q2⟩ := b3.2 k hlt
      obtain ⟨e4, p4, q4⟩ := d3.2 k hlt
      dsimp only at q2 q4
      rw [if_neg (by omega)] at q2 q4
      have g1 := gm_lt f e2.toNat hf8
      have g2 := gm_lt f e4.toNat hf8
      have hA' := hA.upd hc hlt b1 b2 (UInt8.ofNat ((((gm f e2.toNat : Nat) : Int)).toNat))
      have hB' := hB.upd hc hlt d1 d2 (UInt8.ofNat ((((gm f e4.toNat : Nat) : Int)).toNat))
      rw [Int.toNat_natCast, toNat_of g1] at hA'
      rw [Int.toNat_natCast, toNat_of g2] at hB'
      dsimp only
      rw [cond_tt (dlt (by omega)), Int.toNat_natCast, Int.toNat_natCast, at_of b1, opt_of, at_of d1, opt_of, opt_of, b2, opt_of, at_of p2, opt_of, opt_of, d2, opt_of, at_of p4, opt_of, SmGf.mul hf8 (byte_lt e2) fu hf, opt_of, SmGf.mul hf8 (byte_lt e4) fu hf, opt_of,
        opt_of, at_of p2, opt_of, req_pos (by omega), opt_of, at_of p4, opt_of, req_pos (by omega), wsucc (by omega), Int.toNat_natCast]
      refine scale_in n a0 ha x0 x4 c p u16 u21 u34 u39 hn hc f hf8 e A B kk fu hf fuel (k + 1) _ _ (by omega) (by omega) (hA'.congr fun i j hi hj => ?_) (hB'.congr fun i j hi hj => ?_)
      · by_cases t1 : i = c
        · subst t1
          by_cases t2 : j = k
          · subst t2; rw [if_pos ⟨rfl, rfl⟩, if_pos ⟨rfl, by omega⟩, q2]
          · rw [if_neg (fun h => t2 h.2)]
            by_cases t3 : j < k
            · rw [if_pos ⟨rfl, t3⟩, if_pos ⟨rfl, by omega⟩]
            · rw [if_neg (fun h => t3 h.2), if_neg (fun h => t3 (by omega))]
        · rw [if_neg (fun h => t1 h.1), if_neg (fun h => t1 h.1), if_neg (fun h => t1 h.1)]
      · by_cases t1 : i = c
        · subst t1
          by_cases t2 : j = k
          · subst t2; rw [if_pos ⟨rfl, rfl⟩, if_pos ⟨rfl, by omega⟩, q4]
          · rw [if_neg (fun h => t2 h.2)]
            by_cases t3 : j < k
            · rw [if_pos ⟨rfl, t3⟩, if_pos ⟨rfl, by omega⟩]
            · rw [if_neg (fun h => t3 h.2), if_neg (fun h => t3 (by omega))]
        · rw [if_neg (fun h => t1 h.1), if_neg (fun h => t1 h.1), if_neg (fun h => t1 h.1)]
    · obtain rfl : k = n := by omega
      rw [cond_ff (dge (by omega))]
      refine ⟨b, b4, hA.congr fun i j hi hj => ?_, hB.congr fun i j hi hj => ?_, rfl⟩
      · unfold scaleM; by_cases t1 : i = c
        · rw [if_pos ⟨t1, hj⟩, if_pos t1]
        · rw [if_neg (fun h => t1 h.1), if_neg t1]
      · unfold scaleM; by_cases t1 : i = c
        · rw [if_pos ⟨t1, hj⟩, if_pos t1]
        · rw [if_neg (fun h => t1 h.1), if_neg t1]
theorem piv (n : Nat) (a0 : List Int) (ha : a0.length = n) (b : Bag) (x0 : List Int) (c : Nat) (hn : n ≤ 16) (hc : c < n) (A : Nat → Nat → Nat) (hA : MatR n x0 b A) (hex : ∃ i, c ≤ i ∧ i < n ∧ A i c ≠ 0) : ∀ (fuel p : Nat), c ≤ p → p < n → n - p < fuel → (∀ i, c ≤ i → i < p → A i c = 0) →
    ∃ p', c ≤ p' ∧ p' < n ∧ A p' c ≠ 0 ∧ ∀ kk : Int → Option (List Int × Bag), f_shield_inverse_ownd_L211 a0 b x0 (c : Int) kk fuel (p : Int) = kk (p' : Int)
  | 0, _, _, _, hfu, _ => absurd hfu (Nat.not_lt_zero _)
  | fuel + 1, p, hcp, hp, hfu, hz => by
    by_cases hl : p + 1 < n
    · obtain ⟨h1, s1, a1, a2, a3⟩ := hA.row p hp
      obtain ⟨e1, p1, q1⟩ := a3.2 c hc
      by_cases h0 : A p c = 0
      · obtain ⟨p', g1, g2, g3, g4⟩ := piv n a0 ha b x0 c hn hc A hA hex fuel (p + 1) (by omega) (by omega) (by omega) (fun i h1 h2 => by
          by_cases e : i = p
          · subst e; exact h0
          · exact hz i h1 (by omega))
        refine ⟨p', g1, g2, g3, fun kk => ?_⟩
        rw [f_shield_inverse_ownd_L211, lt_of, cond_tt (by rw [w64 (by omega) (by omega)]; exact dlt (by omega)), at_of a1, opt_of, a2, opt_of, at_of p1, opt_of]; dsimp only
        rw [cond_tt (by rw [q1, h0]; rfl), wsucc (by omega)]
        exact g4 kk
      · refine ⟨p, hcp, hp, h0, fun kk => ?_⟩
        rw [f_shield_inverse_ownd_L211, lt_of, cond_tt (by rw [w64 (by omega) (by omega)]; exact dlt (by omega)), at_of a1, opt_of, a2, opt_of, at_of p1, opt_of]; dsimp only
        rw [cond_ff (by rw [q1]; simpa using h0)]
    · refine ⟨p, hcp, hp, fun h0 => ?_, fun kk => ?_⟩
      rotate_left
      · rw [f_shield_inverse_ownd_L211, lt_of, cond_ff (by rw [w64 (by omega) (by omega)]; exact dge (by omega))]
        dsimp only
        rw [cond_ff (by rfl)]
      obtain ⟨i, h1, h2, h3⟩ := hex
      by_cases e : i = p
      · subst e; exact h3 h0
      · exact h3 (hz i h1 (by omega))
theorem cols (n : Nat) (a0 : List Int) (ha : a0.length = n) (hn : n ≤ 16) (G : Nat → Nat → Nat) (hG : ∀ x, Vd n x → (∀ i, i < n → mv n G x i = 0) → ∀ k, k < n → x k = 0)
    (kk : Bag → List Int → Option (List Int × Bag)) (fu : Nat) (hf : 200 ≤ fu) : ∀ (fuel c : Nat) (b : Bag) (x0 : List Int) (b4 : Bag) (x4 : List Int) (A B : Nat → Nat → Nat), c ≤ n → n - c < fuel → MatR n x0 b A → MatR n x4 b4 B → UC n c A →
    (∀ x y, Vd n x → Vd n y → Shm.Sys n A B x y → ∀ i, i < n → mv n G x i = y i) →
    ∃ b4' x4' B', MatR n x4' b4' B' ∧ (∀ x y, Vd n x → Vd n y → (∀ i, i < n → x i = mv n B' y i) → ∀ i, i < n → mv n G x i = y i) ∧
      f_shield_inverse_ownd_L9 a0 kk fu fuel b x0 b4 x4 (c : Int) = kk b4' x4'
  | 0, _, _, _, _, _, _, _, _, hfu, _, _, _, _ => absurd hfu (Nat.not_lt_zero _)
  | fuel + 1, c, b, x0, b4, x4, A, B, hcn, hfu, hA, hB, hu, hsys => by
    rw [f_shield_inverse_ownd_L9, lt_of]
    by_cases hc : c < n
    · have hbA := hA.bd
      have hbB := hB.bd
      have hex : ∃ i, c ≤ i ∧ i < n ∧ A i c ≠ 0 := Classical.byContradiction fun hne => pivot hc hbA hu hsys hG fun i h1 h2 => Classical.byContradiction fun h3 => hne ⟨i, h1, h2, h3⟩
      rw [cond_tt (dlt (by omega)), lt_of, lt_of, wsucc (by omega)]
      obtain ⟨p, hcp, hp, hne, hpe⟩ := piv n a0 ha b x0 c hn hc A hA hex fu c (Nat.le_refl _) hc (by omega) (fun i h1 h2 => absurd h1 (by omega))
      rw [hpe]
      dsimp only
      obtain ⟨hp1, sp1, a1, a2, a3⟩ := hA.row p hp
      obtain ⟨hc1, sc1, b1, b2, b3⟩ := hA.row c hc
      obtain ⟨hp4, sp4, c1, c2, c3⟩ := hB.row p hp
      obtain ⟨hc4, sc4, d1, d2, d3⟩ := hB.row c hc
      have hA1 := hA.swap hc hp a1 b1
      have hB1 := hB.swap hc hp c1 d1
      obtain ⟨hh, ss, m1, m2, m3⟩ := hA1.row c hc
      obtain ⟨u, n1, n2⟩ := m3.2 c hc
      have hcc : swapM A c p c c = A p c := by unfold swapM; rw [if_pos rfl]
      rw [hcc] at n2
      have hpl := hbA p c hp hc
      obtain ⟨z1, k1⟩ : ∃ z, (x0.set c hp1)[p]? = some z := ⟨_, List.getElem?_eq_getElem (by rw [List.length_set, hA.len]; exact hp)⟩
      obtain ⟨z2, k2⟩ : ∃ z, (x4.set c hp4)[p]? = some z := ⟨_, List.getElem?_eq_getElem (by rw [List.length_set, hB.len]; exact hp)⟩
      rw [Int.toNat_natCast, Int.toNat_natCast, at_of a1, opt_of, at_of b1, opt_of, opt_of, at_of k1, opt_of, at_of c1, opt_of, at_of d1, opt_of, opt_of, at_of k2, opt_of, at_of m1, opt_of, m2, opt_of, at_of n1, opt_of, n2, SmGf.inv hpl fu (by omega), opt_of, if_neg hne, lt_of]
      obtain ⟨b', b4', s1, s2, s3⟩ := scale_in n a0 ha x0 x4 c p hp1 hc1 hp4 hc4 hn hc (ginv (A p c)) (ginv_lt hpl) 0 (swapM A c p) (swapM B c p)
        (fun j65xb0 j65xb4 => f_shield_inverse_ownd_L69 a0 x0 x4 (c : Int) (fun j12xb0 j12x0 j12xb4 j12x4 => f_shield_inverse_ownd_L9 a0 kk fu fuel j12xb0 j12x0 j12xb4 j12x4 ((c + 1 : Nat) : Int)) (p : Int) hp1 hc1 hp4 hc4 fu fu j65xb0 j65xb4 (0 : Int)) fu (by omega) fu 0 b b4 (by omega) (by omega)
        (hA1.congr fun i j _ _ => (if_neg (fun h => Nat.not_lt_zero _ h.2)).symm) (hB1.congr fun i j _ _ => (if_neg (fun h => Nat.not_lt_zero _ h.2)).symm)
      obtain ⟨b'', b4'', t1, t2, t3⟩ := elim_all n a0 ha x0 x4 c p hp1 hc1 hp4 hc4 hn hc (scaleM (swapM A c p) (ginv (A p c)) c) (scaleM (swapM B c p) (ginv (A p c)) c)
        (fun j12xb0 j12x0 j12xb4 j12x4 => f_shield_inverse_ownd_L9 a0 kk fu fuel j12xb0 j12x0 j12xb4 j12x4 ((c + 1 : Nat) : Int)) fu (by omega) fu 0 b' b4' (by omega) (by omega)
        (s1.congr fun i j _ _ => (if_neg (Nat.not_lt_zero _)).symm) (s2.congr fun i j _ _ => (if_neg (Nat.not_lt_zero _)).symm)
      have hbs := bd_scale (f := ginv (A p c)) (c := c) (ginv_lt hpl) (bd_swap hc hp hbA)
      have hbs' := bd_scale (f := ginv (A p c)) (c := c) (ginv_lt hpl) (bd_swap hc hp hbB)
      obtain ⟨b4''', x4', B', v1, v2, v3⟩ := cols n a0 ha hn G hG kk fu hf fuel (c + 1) b'' _ b4'' _ _ _ (by omega) (by omega) t1 t2 (uc_step hbA hc hcp hp hu hne) (fun x y hx hy hs =>
        hsys x y hx hy (sys_swap hc hp (sys_scale (ginv_lt hpl) (ginv_ne hpl hne) (bd_swap hc hp hbA) (bd_swap hc hp hbB) hc hx hy (sys_elim (fun i hi => hbs i c hi hc) hbs hbs' hc hx hy hs))))
      exact ⟨b4''', x4', B', v1, v2, s3.trans (t3.trans v3)⟩
    · obtain rfl : c = n := by omega
      rw [cond_ff (dge (by omega))]
      refine ⟨b4, x4, B, hB, fun x y hx hy h => hsys x y hx hy fun i hi => ?_, rfl⟩
      rw [← h i hi]
      unfold mv
      rw [sx_one (b := i) List.nodup_range (List.mem_range.2 hi) (fun a ha hne => by rw [hu i a hi (List.mem_range.1 ha), if_neg (fun e => hne e.symm), zero_gm]), hu i i hi hi, if_pos rfl, one_gm (hx i hi)]
def OutS (n i : Nat) (hs : List Int) (b : Bag) : Prop := hs.length = n ∧ b.length = i + 1 ∧ ∀ j, j < i → hs[j]? = some ((j + 1 : Nat) : Int) ∧ ∃ r, b[j + 1]? = some (some r) ∧ Vec r n (fun k => if j = k then 1 else 0)
theorem ones (n : Nat) (a0 : List Int) (ha : a0.length = n) (hn : n ≤ 16) (kk : Bag → List Int → Option (List Int × Bag)) : ∀ (fuel i : Nat) (b : Bag) (hs : List Int), i ≤ n → n - i < fuel → OutS n i hs b →
    ∃ b' hs', OutS n n hs' b' ∧ f_shield_inverse_ownd_L229 a0 kk fuel b hs (i : Int) = kk b' hs'
  | 0, _, _, _, _, hfu, _ => absurd hfu (Nat.not_lt_zero _)
  | fuel + 1, i, b, hs, hi, hfu, ho => by
    obtain ⟨h1, h2, h3⟩ := ho
    rw [f_shield_inverse_ownd_L229]
    by_cases hlt : i < n
    · have hil : i < hs.length := by omega
      have hz := Vec.zero n
      obtain ⟨u, hu1, hu2⟩ := hz.2 i hlt
      have e1 : (hs.set i (b.length : Int))[i]? = some ((b.length : Nat) : Int) := List.getElem?_set_self hil
      have e2 : bget (b ++ [some (List.replicate n (0 : UInt8))]) ((b.length : Nat) : Int) = some (List.replicate n 0) := bget_of (by simp)
      rw [cond_tt (dlt (by simp; omega)), ha, Int.toNat_natCast, Int.toNat_natCast, req_pos (by omega), at_lt hil, opt_of, at_of e1, opt_of, e2, opt_of, at_of hu1, opt_of, req_pos (by omega), wsucc (by omega)]
      refine ones n a0 ha hn kk fuel (i + 1) _ _ (by omega) (by omega) ⟨by rw [List.length_set]; exact h1, by simp [bset]; omega, fun j hj => ?_⟩
      have eb : bset (b ++ [some (List.replicate n (0 : UInt8))]) ((b.length : Nat) : Int) (some ((List.replicate n (0 : UInt8)).set i (UInt8.ofNat ((1 : Int)).toNat))) = b ++ [some ((List.replicate n (0 : UInt8)).set i (UInt8.ofNat ((1 : Int)).toNat))] := by
        unfold bset; rw [Int.toNat_natCast]; simp
      rw [eb]
      by_cases e : j = i
      · subst e
        refine ⟨by rw [e1, h2], _, by rw [← h2, List.getElem?_append_right (Nat.le_refl _), Nat.sub_self]; rfl, (hz.set hlt _).congr fun k _ => ?_⟩
        by_cases e : k = j
        · rw [if_pos e, if_pos e.symm]; rfl
        · rw [if_neg e, if_neg (fun h => e h.symm)]
      · obtain ⟨g1, r, g2, g3⟩ := h3 j (by omega)
        exact ⟨by rw [List.getElem?_set_ne (fun h => e h.symm)]; exact g1, r, by rw [List.getElem?_append_left (by omega)]; exact g2, g3⟩
    · obtain rfl : i = n := by omega
      rw [cond_ff (dge (by simp [ha]))]
      exact ⟨b, hs, ⟨h1, h2, h3⟩, rfl⟩
theorem outS_mat {n : Nat} {hs : List Int} {b : Bag} (h : OutS n n hs b) : MatR n hs b (fun i k => if i = k then 1 else 0) := by
  refine ⟨h.1, fun i j q hi hj h1 h2 => ?_, fun i hi => ?_⟩
  · have a1 := (h.2.2 i hi).1
    have a2 := (h.2.2 j hj).1
    rw [h1] at a1; rw [h2] at a2
    have := (Option.some.inj a1).symm.trans (Option.some.inj a2)
    omega
  · obtain ⟨h1, r, h2, h3⟩ := h.2.2 i hi
    exact ⟨_, r, h1, bget_of h2, h3⟩
theorem inverse (n : Nat) (a0 : List Int) (b0 : Bag) (hn : n ≤ 16) (G : Nat → Nat → Nat) (hM : MatR n a0 b0 G) (hG : ∀ x, Vd n x → (∀ i, i < n → mv n G x i = 0) → ∀ k, k < n → x k = 0) (fu : Nat) (hf : 200 ≤ fu) :
    ∃ x4 b4 B, MatR n x4 b4 B ∧ (∀ x y, Vd n x → Vd n y → (∀ i, i < n → x i = mv n B y i) → ∀ i, i < n → mv n G x i = y i) ∧ f_shield_inverse_ownd fu a0 b0 = some (x4, b4) := by
  have ha := hM.len
  unfold f_shield_inverse_ownd
  rw [req_pos (by omega), lt_of, ha, Int.toNat_natCast]
  obtain ⟨b', hs', h1, h2⟩ := ones n a0 ha hn (fun j3xb4 j3x4 => f_shield_inverse_ownd_L9 a0 (fun j5xb4 j5x4 => some (j5x4, j5xb4)) fu fu b0 a0 j3xb4 j3x4 (0 : Int)) fu 0 [some []] (List.replicate n 0) (by omega) (by omega) ⟨by simp, rfl, fun j hj => absurd hj (Nat.not_lt_zero _)⟩
  obtain ⟨b4, x4, B, g1, g2, g3⟩ := cols n a0 ha hn G hG (fun j5xb4 j5x4 => some (j5x4, j5xb4)) fu hf fu 0 b0 a0 b' hs' G _ (by omega) (by omega) hM (outS_mat h1) (fun i j _ hj => absurd hj (Nat.not_lt_zero _)) (fun x y hx hy hs i hi => by
    rw [hs i hi]
    unfold mv
    rw [sx_one (b := i) List.nodup_range (List.mem_range.2 hi) (fun a ha hne => by dsimp only; rw [if_neg (fun e => hne e.symm), zero_gm])]
    dsimp only
    rw [if_pos rfl, one_gm (hy i hi)])
  exact ⟨x4, b4, B, g1, g2, h2.trans g3⟩
theorem frz_mat {n : Nat} {hs : List Int} {b : Bag} {A : Nat → Nat → Nat} (h : MatR n hs b A) : ∃ l, frzH b hs = some l ∧ l.length = n ∧ ∀ i, i < n → ∃ r, l[i]? = some r ∧ Vec r n (A i) := by
  have gen : ∀ (hs : List Int) (F : Nat → List UInt8 → Prop), (∀ i, i < hs.length → ∃ q r, hs[i]? = some q ∧ bget b q = some r ∧ F i r) → ∃ l, frzH b hs = some l ∧ l.length = hs.length ∧ ∀ i, i < hs.length → ∃ r, l[i]? = some r ∧ F i r := by
    intro hs
    induction hs with
    | nil => exact fun F _ => ⟨[], rfl, rfl, fun i hi => absurd hi (Nat.not_lt_zero _)⟩
    | cons q hs ih =>
      intro F hh
      obtain ⟨q', r, h1, h2, h3⟩ := hh 0 (by simp)
      obtain rfl : q = q' := by simpa using h1
      obtain ⟨l, g1, g2, g3⟩ := ih (fun i => F (i + 1)) (fun i hi => by
        obtain ⟨q', r', k1, k2, k3⟩ := hh (i + 1) (by simpa using hi)
        exact ⟨q', r', by simpa using k1, k2, k3⟩)
      refine ⟨r :: l, by unfold frzH; rw [h2, opt_of, g1, opt_of], by simp [g2], fun i hi => ?_⟩
      cases i with
      | zero => exact ⟨r, rfl, h3⟩
      | succ i => exact g3 i (by simpa using hi)
  obtain ⟨l, h1, h2, h3⟩ := gen hs (fun i r => Vec r n (A i)) (fun i hi => h.row i (by rw [← h.len]; exact hi))
  exact ⟨l, h1, h2.trans h.len, fun i hi => h3 i (by rw [h.len]; exact hi)⟩
end Go.Proofs.Ytpakblkldklbmaa.SmI
namespace Go.Proofs.Ytpakblkldklbmaa.PShieldMends
open Go.RowKit Ytpakblkldklbmaa.En Ytpakblkldklbmaa Fld Shm SmC SmI
set_option linter.unusedVariables false
set_option linter.unusedSimpArgs false
def gs (l : List S_api_Shard) (k : Nat) : S_api_Shard := l.getD k ⟨false, []⟩
theorem gs_at {l : List S_api_Shard} {k : Nat} (h : k < l.length) : at? l (k : Int) = some (gs l k) := by
  rw [at_lt h]; unfold gs; rw [List.getD_eq_getElem?_getD, List.getElem?_eq_getElem h]; rfl
def pres (l : List S_api_Shard) : Nat → List Nat
  | 0 => []
  | k + 1 => if (gs l k).Has then pres l k ++ [k] else pres l k
def ints (l : List Nat) : List Int := l.map fun (k : Nat) => (k : Int)
theorem pres_mem {l : List S_api_Shard} : ∀ {k a : Nat}, a ∈ pres l k → a < k ∧ (gs l a).Has = true
  | 0, a, h => by simp [pres] at h
  | k + 1, a, h => by
    unfold pres at h
    split at h
    · rename_i hh
      rcases List.mem_append.1 h with h | h
      · have := pres_mem h; exact ⟨by omega, this.2⟩
      · obtain rfl := List.mem_singleton.1 h; exact ⟨by omega, hh⟩
    · have := pres_mem h; exact ⟨by omega, this.2⟩
theorem pres_nodup (l : List S_api_Shard) : ∀ k, (pres l k).Nodup
  | 0 => by simp [pres]
  | k + 1 => by
    unfold pres
    split
    · rw [List.nodup_append]
      refine ⟨pres_nodup l k, by simp, fun a ha b hb e => ?_⟩
      have := (pres_mem ha).1
      have := List.mem_singleton.1 hb
      omega
    · exact pres_nodup l k
theorem pres_pre (l : List S_api_Shard) (i : Nat) : ∀ k, i ≤ k → ∃ t, pres l k = pres l i ++ t
  | 0, h => ⟨[], by obtain rfl : i = 0 := by omega
                    simp⟩
  | k + 1, h => by
    by_cases e : i = k + 1
    · subst e; exact ⟨[], by simp⟩
    · obtain ⟨t, ht⟩ := pres_pre l i k (by omega)
      by_cases hh : (gs l k).Has
      · exact ⟨t ++ [k], by rw [← List.append_assoc, ← ht]; show (if (gs l k).Has then _ else _) = _; rw [if_pos hh]⟩
      · exact ⟨t, by rw [← ht]; show (if (gs l k).Has then _ else _) = _; rw [if_neg hh]⟩
def Good (l : List S_api_Shard) (k : Nat) : Prop := ∀ i, i ∈ pres l k → (gs l i).Bytes.length ≤ 4096 ∧ ∀ j, j ∈ pres l k → (gs l i).Bytes.length = (gs l j).Bytes.length
def firstI (l : List S_api_Shard) (k : Nat) : Int := match pres l k with | [] => -1 | a :: _ => (a : Int)
theorem chk (l : List S_api_Shard) (hL : l.length ≤ 24) (kk : List Int → Option (List Int × Int)) (kk' : Int → Option Int) : ∀ (fuel k : Nat), k ≤ l.length → l.length - k < fuel → Good l k →
    (∃ e : Int, e ≠ 0 ∧ f_shield_check_L9 l kk fuel (ints (pres l k)) (k : Int) = some ([], e) ∧ f_lumref_MendErr_L9 l kk' fuel (firstI l k) ((pres l k).length : Int) (k : Int) = some e) ∨
    (Good l l.length ∧ f_shield_check_L9 l kk fuel (ints (pres l k)) (k : Int) = kk (ints (pres l l.length)) ∧ f_lumref_MendErr_L9 l kk' fuel (firstI l k) ((pres l k).length : Int) (k : Int) = kk' ((pres l l.length).length : Int))
  | 0, k, _, hfu, _ => absurd hfu (Nat.not_lt_zero _)
  | fuel + 1, k, hk, hfu, hg => by
    rw [f_shield_check_L9, f_lumref_MendErr_L9]
    by_cases hlt : k < l.length
    · rw [cond_tt (dlt (by omega)), cond_tt (dlt (by omega)), lt_of, lt_of, gs_at hlt, opt_of, opt_of, wsucc (by omega)]
      have ih := chk l hL kk kk' fuel (k + 1) (by omega) (by omega)
      cases hh : (gs l k).Has with
      | false =>
        simp only [Bool.not_false, cond_true]
        have e : pres l (k + 1) = pres l k := by show (if _ then _ else _) = _; rw [hh]; rfl
        have e2 : firstI l (k + 1) = firstI l k := by unfold firstI; rw [e]
        have hg' : Good l (k + 1) := by unfold Good; rw [e]; exact hg
        have h := ih hg'
        rw [e, e2] at h
        exact h
      | true =>
        simp only [Bool.not_true, cond_false]
        have e : pres l (k + 1) = pres l k ++ [k] := by show (if _ then _ else _) = _; rw [hh]; rfl
        have hlen : (pres l k).length ≤ k := by
          have h1 : ∀ k, (pres l k).length ≤ k := by
            intro k
            induction k with
            | zero => simp [pres]
            | succ k ih => unfold pres; split <;> (try simp) <;> omega
          exact h1 k
        have hil : (ints (pres l k)).length = (pres l k).length := by simp [ints]
        rw [req_pos (by simp only [hil, List.length_singleton]; omega)]
        by_cases hb : (gs l k).Bytes.length > 4096
        · rw [cond_tt (decide_eq_true (by omega)), cond_tt (decide_eq_true (by omega))]
          exact .inl ⟨2, by decide, rfl, rfl⟩
        · rw [cond_ff (decide_eq_false (by omega)), cond_ff (decide_eq_false (by omega)), lt_of]
          -- the first one
          obtain ⟨f, hf, hfl, hf1, hf2, hf3⟩ : ∃ f : Nat, f ∈ pres l (k + 1) ∧ f < l.length ∧ at? (ints (pres l k) ++ [(k : Int)]) 0 = some (f : Int) ∧ firstI l (k + 1) = f ∧ (∀ K : Int → Option Int, (bif decide (firstI l k < 0) then K k else K (firstI l k)) = K f) := by
            rw [e]
            cases hp : pres l k with
            | nil => exact ⟨k, by simp, hlt, rfl, by unfold firstI; rw [e, hp]; rfl, fun K => by unfold firstI; rw [hp]; rfl⟩
            | cons a t =>
              have ha : a ∈ pres l k := by rw [hp]; simp
              refine ⟨a, by simp, by have := (pres_mem ha).1; omega, rfl, by unfold firstI; rw [e, hp]; rfl, fun K => ?_⟩
              unfold firstI; rw [hp]
              show (bif decide ((a : Int) < 0) then _ else _) = _
              rw [cond_ff (decide_eq_false (by omega))]
          rw [hf1, opt_of, gs_at hfl, opt_of]
          dsimp only
          rw [hf3 (fun (j19i5 : Int) => opt (at? l j19i5) fun u21 => bif ((gs l k).Bytes.length : Int) != (u21.Bytes.length : Int) then some 4 else f_lumref_MendErr_L9 l kk' fuel j19i5 (IntKind.i64.wrap (((pres l k).length : Int) + 1)) ((k + 1 : Nat) : Int)), gs_at hfl, opt_of]
          by_cases hne : (gs l k).Bytes.length = (gs l f).Bytes.length
          · rw [cond_ff (by rw [hne]; simp), cond_ff (by rw [hne]; simp), w64 (by omega) (by omega)]
            have hg' : Good l (k + 1) := by
              unfold Good; rw [e]
              have hbase : ∀ j, j ∈ pres l k ++ [k] → (gs l j).Bytes.length = (gs l f).Bytes.length := fun j hj => by
                rw [e] at hf
                rcases List.mem_append.1 hj with hj | hj
                · rcases List.mem_append.1 hf with hf | hf
                  · exact (hg j hj).2 f hf
                  · obtain rfl := List.mem_singleton.1 hf
                    cases hp : pres l f with
                    | nil => rw [hp] at hj; simp at hj
                    | cons a t =>
                      have ha : a ∈ pres l f := by rw [hp]; simp
                      have : (f : Int) = a := by
                        have h9 := hf1
                        rw [hp] at h9
                        simpa [ints, at?] using h9.symm
                      have := (pres_mem ha).1
                      omega
                · obtain rfl := List.mem_singleton.1 hj; exact hne
              intro i hi
              refine ⟨?_, fun j hj => (hbase i hi).trans (hbase j hj).symm⟩
              have hk1 := hbase k (by simp)
              have := hbase i hi
              omega
            have h := ih hg'
            have e3 : ints (pres l (k + 1)) = ints (pres l k) ++ [(k : Int)] := by rw [e]; simp [ints]
            have e4 : ((pres l (k + 1)).length : Int) = ((pres l k).length : Int) + 1 := by rw [e]; simp
            rw [e3, hf2, e4] at h
            exact h
          · rw [cond_tt (by rw [bne_iff_ne]; omega), cond_tt (by rw [bne_iff_ne]; omega)]
            exact .inl ⟨4, by decide, rfl, rfl⟩
    · obtain rfl : k = l.length := by omega
      rw [cond_ff (dge (by omega)), cond_ff (dge (by omega))]
      exact .inr ⟨hg, rfl, rfl⟩
theorem check_ok (l : List S_api_Shard) (n : Int) (fu : Nat) (hf : 100 ≤ fu) :
    (∃ e : Int, e ≠ 0 ∧ f_shield_check fu l n = some ([], e) ∧ f_lumref_MendErr fu l n = some e) ∨
    (∃ m : Nat, n = m ∧ 1 ≤ m ∧ m ≤ 16 ∧ m + 1 ≤ l.length ∧ l.length ≤ m + 8 ∧ Good l l.length ∧ m ≤ (pres l l.length).length ∧ f_shield_check fu l n = some (ints (pres l l.length), 0) ∧ f_lumref_MendErr fu l n = some 0) := by
  unfold f_shield_check f_lumref_MendErr
  simp only [lt_of]
  by_cases h1 : n < 1
  · simp only [decide_eq_true h1, cond_true]; exact .inl ⟨1, by decide, rfl, rfl⟩
  simp only [decide_eq_false h1, cond_false]
  by_cases h2 : n > 16
  · simp only [decide_eq_true h2, cond_true]; exact .inl ⟨1, by decide, rfl, rfl⟩
  rw [w64 (x := n + 1) (by omega) (by omega), w64 (x := n + 8) (by omega) (by omega)]
  simp only [decide_eq_false h2, cond_false]
  by_cases h3 : (l.length : Int) < n + 1
  · simp only [decide_eq_true h3, decide_eq_true (show (l.length : Int) ≤ n by omega), cond_true]; exact .inl ⟨1, by decide, rfl, rfl⟩
  simp only [decide_eq_false h3, decide_eq_false (show ¬ (l.length : Int) ≤ n by omega), cond_false]
  by_cases h4 : (l.length : Int) > n + 8
  · simp only [decide_eq_true h4, cond_true]; exact .inl ⟨1, by decide, rfl, rfl⟩
  simp only [decide_eq_false h4, cond_false]
  obtain ⟨m, rfl⟩ : ∃ m : Nat, n = m := ⟨n.toNat, by omega⟩
  have h := chk l (by omega) (fun j4x6 => (bif (decide ((j4x6.length : Int) < (m : Int))) then (some (([] : List Int), (7 : Int))) else (some (j4x6, (0 : Int))))) (fun j4i6 => (bif (decide (j4i6 < (m : Int))) then (some (7 : Int)) else (some (0 : Int)))) fu 0 (Nat.zero_le _) (by omega) (fun i hi => by simp [pres] at hi)
  rcases h with ⟨e, he, a1, a2⟩ | ⟨hg, a1, a2⟩
  · exact .inl ⟨e, he, a1, a2⟩
  · have hil : (ints (pres l l.length)).length = (pres l l.length).length := by simp [ints]
    rw [hil] at a1
    by_cases h5 : (pres l l.length).length < m
    · rw [cond_tt (decide_eq_true (by omega))] at a1 a2
      exact .inl ⟨7, by decide, a1, a2⟩
    · rw [cond_ff (decide_eq_false (by omega))] at a1 a2
      exact .inr ⟨m, rfl, by omega, by omega, by omega, by omega, hg, by omega, a1, a2⟩
theorem sub_len : ∀ (l m : List Nat), l.Nodup → (∀ a ∈ l, a ∈ m) → l.length ≤ m.length
  | [], _, _, _ => Nat.zero_le _
  | a :: l, m, hn, h => by
    obtain ⟨h1, h2⟩ := List.nodup_cons.1 hn
    have ham := h a (.head _)
    have := sub_len l (m.erase a) h2 (fun b hb => (List.mem_erase_of_ne (fun (e : b = a) => h1 (e ▸ hb))).2 (h b (.tail _ hb)))
    rw [List.length_erase_of_mem ham] at this
    have := List.length_pos_of_mem ham
    rw [List.length_cons]; omega
theorem filter_len (p : Nat → Bool) : ∀ l : List Nat, (l.filter p).length + (l.filter fun a => !p a).length = l.length
  | [] => rfl
  | a :: l => by
    have := filter_len p l
    by_cases h : p a = true
    · simp [List.filter_cons, h]; omega
    · simp [List.filter_cons, h]; omega
theorem gen_inj (m : Nat) (hm : m ≤ 16) (ks : List Nat) (hl : ks.length = m) (hn : ks.Nodup) (hk : ∀ k ∈ ks, k < m + 8) (x : Nat → Nat) (hx : Vd m x) (hz : ∀ i, i < m → mv m (fun i k => gen m (ks.getD i 0) k) x i = 0) : ∀ k, k < m → x k = 0 := by
  have hrow : ∀ k ∈ ks, sx (fun i => gm (gen m k i) (x i)) (List.range m) = 0 := fun k hk' => by
    obtain ⟨i, hi, e⟩ := List.getElem_of_mem hk'
    have := hz i (by omega)
    unfold mv at this
    dsimp only at this
    rw [List.getD_eq_getElem?_getD, List.getElem?_eq_getElem hi, Option.getD_some, e] at this
    exact this
  have hdat : ∀ k ∈ ks, k < m → x k = 0 := fun k hk' hkm => by
    have h := hrow k hk'
    rw [sx_one (b := k) List.nodup_range (List.mem_range.2 hkm) (fun a ha hne => by unfold gen; rw [if_pos hkm, if_neg hne, zero_gm])] at h
    unfold gen at h
    rw [if_pos hkm, if_pos rfl, one_gm (hx k hkm)] at h
    exact h
  let us := (List.range m).filter fun a => !decide (a ∈ ks)
  let gk := ks.filter fun k => !decide (k < m)
  let ys := gk.map fun k => 128 + (k - m)
  have hgk : ∀ k ∈ gk, k ∈ ks ∧ m ≤ k := fun k h => by
    obtain ⟨h1, h2⟩ := List.mem_filter.1 h
    exact ⟨h1, by simpa using h2⟩
  have has : ∀ a ∈ us, a < m ∧ a ∉ ks := fun a h => by
    obtain ⟨h1, h2⟩ := List.mem_filter.1 h
    exact ⟨List.mem_range.1 h1, by simpa using h2⟩
  have hlen : us.length ≤ ys.length := by
    have h1 := filter_len (fun a => decide (a ∈ ks)) (List.range m)
    have h2 := filter_len (fun k => decide (k < m)) ks
    have h3 := sub_len (ks.filter fun k => decide (k < m)) ((List.range m).filter fun a => decide (a ∈ ks)) (hn.filter _) (fun a ha => by
      obtain ⟨g1, g2⟩ := List.mem_filter.1 ha
      exact List.mem_filter.2 ⟨List.mem_range.2 (by simpa using g2), by simpa using g1⟩)
    rw [List.length_range] at h1
    show ((List.range m).filter fun a => !decide (a ∈ ks)).length ≤ ((ks.filter fun k => !decide (k < m)).map fun k => 128 + (k - m)).length
    rw [List.length_map]
    omega
  have hny : ys.Nodup := by
    have h0 : gk.Nodup := hn.filter _
    show (gk.map fun k => 128 + (k - m)).Nodup
    rw [List.nodup_iff_pairwise_ne, List.pairwise_map] at *
    exact List.Pairwise.imp_of_mem (fun ha hb hne e => hne (by have := (hgk _ ha).2; have := (hgk _ hb).2; omega)) h0
  have hc := cauchy us ys x hlen (List.nodup_range.filter _) hny (fun a ha => by have := (has a ha).1; omega)
    (fun y hy => by obtain ⟨k, h1, rfl⟩ := List.mem_map.1 hy; have := hk k (hgk k h1).1; omega)
    (fun a ha y hy => by
      obtain ⟨k, h1, rfl⟩ := List.mem_map.1 hy
      exact (xor_ne (by have := hk k (hgk k h1).1; have := (hgk k h1).2; omega) (by have := (has a ha).1; omega)).1)
    (fun a ha => hx a (has a ha).1)
    (fun y hy => by
      obtain ⟨k, h1, rfl⟩ := List.mem_map.1 hy
      obtain ⟨h2, h3⟩ := hgk k h1
      have h := hrow k h2
      rw [← sx_filter _ (fun a => !decide (a ∈ ks)) (fun a ha hp => by rw [hdat a (by simpa using hp) (List.mem_range.1 ha), gm_zero])] at h
      rw [← h]
      refine sx_congr fun a ha => ?_
      have ha' := has a ha
      unfold gen coef
      rw [if_neg (by omega), gm_comm (hx a ha'.1) (ginv_lt (xor_ne (show k - m < 8 by have := hk k h2; omega) (show a < 16 by omega)).2)])
  intro k hkm
  by_cases e : k ∈ ks
  · exact hdat k e hkm
  · exact hc k (List.mem_filter.2 ⟨List.mem_range.2 hkm, by simpa using e⟩)
theorem ints_take (l : List Nat) (m : Nat) : (ints l).take m = ints (l.take m) := by unfold ints; rw [List.map_take]
theorem ints_at {l : List Nat} {i : Nat} (h : i < l.length) : at? (ints l) (i : Int) = some ((l.getD i 0 : Nat) : Int) := by
  refine at_of ?_
  unfold ints; rw [List.getElem?_map, List.getElem?_eq_getElem h, List.getD_eq_getElem?_getD, List.getElem?_eq_getElem h]; rfl
theorem ints_succ (i : Nat) : ints (List.range (i + 1)) = ints (List.range i) ++ [(i : Int)] := by unfold ints; rw [List.range_succ, List.map_append]; rfl
theorem rows (l : List S_api_Shard) (m : Nat) (hm : m ≤ 16) (P : List Nat) (e : Int) (hP : m ≤ P.length) (hk : ∀ k ∈ P.take m, k < m + 8 ∧ k < l.length) (kk : SmI.Bag → List Int → List (List UInt8) → Option (List (List UInt8) × Int)) (fu : Nat) (hf : 100 ≤ fu) : ∀ (fuel i : Nat) (R : List (List UInt8)), i ≤ m → m - i < fuel → R.length = i → (∀ j, j < i → ∃ r, R[j]? = some r ∧ Vec r m (gen m ((P.take m).getD j 0))) →
    ∃ R' : List (List UInt8), R'.length = m ∧ (∀ j, j < m → ∃ r, R'[j]? = some r ∧ Vec r m (gen m ((P.take m).getD j 0))) ∧
      f_shield_Mend_L36 l (m : Int) (ints P, e) kk fu fuel (R.map some) (ints (List.range i)) (((P.take m).take i).map fun k => (gs l k).Bytes) (i : Int) = kk (R'.map some) (ints (List.range m)) ((P.take m).map fun k => (gs l k).Bytes)
  | 0, i, _, _, hfu, _, _ => absurd hfu (Nat.not_lt_zero _)
  | fuel + 1, i, R, hi, hfu, hR, hrow => by
    have hks : (P.take m).length = m := by rw [List.length_take]; omega
    rw [f_shield_Mend_L36]
    dsimp only
    rw [Int.toNat_natCast, ints_take]
    have hil : (ints (P.take m)).length = m := by simp [ints]; omega
    by_cases hlt : i < m
    · have hmem : (P.take m).getD i 0 ∈ P.take m := by
        rw [List.getD_eq_getElem?_getD, List.getElem?_eq_getElem (by omega)]; exact List.getElem_mem _
      obtain ⟨hk1, hk2⟩ := hk _ hmem
      obtain ⟨r, hr1, hr2⟩ := row m ((P.take m).getD i 0) hm hk1 fu (by omega)
      have hRl : (R.map some).length = i := by rw [List.length_map]; exact hR
      have hxl : (ints (List.range i)).length = i := by simp [ints]
      have htl : (((P.take m).take i).map fun k => (gs l k).Bytes).length = i := by rw [List.length_map, List.length_take]; omega
      rw [cond_tt (dlt (by omega)), ints_at (by omega), opt_of, hr2, opt_of, req_pos (by simp only [hxl, List.length_singleton]; omega), gs_at hk2, opt_of, req_pos (by simp only [htl, List.length_singleton]; omega), wsucc (by omega), hRl, ← ints_succ]
      have e1 : R.map some ++ [some r] = (R ++ [r]).map some := by simp
      have e2 : ((P.take m).take i).map (fun k => (gs l k).Bytes) ++ [(gs l ((P.take m).getD i 0)).Bytes] = ((P.take m).take (i + 1)).map fun k => (gs l k).Bytes := by
        rw [List.take_add_one, List.map_append, List.getD_eq_getElem?_getD, List.getElem?_eq_getElem (show i < (P.take m).length by omega)]; rfl
      rw [e1, e2]
      refine rows l m hm P e hP hk kk fu hf fuel (i + 1) (R ++ [r]) (by omega) (by omega) (by simp [hR]) (fun j hj => ?_)
      by_cases h : j = i
      · subst h; exact ⟨r, by rw [List.getElem?_append_right (by omega), hR, Nat.sub_self]; rfl, hr1⟩
      · obtain ⟨r', g1, g2⟩ := hrow j (by omega)
        exact ⟨r', by rw [List.getElem?_append_left (by omega)]; exact g1, g2⟩
    · obtain rfl : i = m := by omega
      rw [cond_ff (dge (by omega))]
      refine ⟨R, hR, hrow, ?_⟩
      rw [List.take_take, Nat.min_self]
theorem combs (ts : List (List UInt8)) (m sz : Nat) (hm : m ≤ 16) (hm1 : 1 ≤ m) (hsz : sz ≤ 4096) (ht : Txts ts m sz) (B : Nat → Nat → Nat) (L : List (List UInt8)) (hL : L.length = m) (hrow : ∀ i, i < m → ∃ r, L[i]? = some r ∧ Vec r m (B i)) (kk : List (List UInt8) → Option (List (List UInt8) × Int)) (fu : Nat) (hf : 5000 ≤ fu) : ∀ (fuel i : Nat) (R : List (List UInt8)), i ≤ m → m - i < fuel → R.length = i → (∀ j, j < i → ∃ r, R[j]? = some r ∧ Vec r sz (fun q => mv m B (fun k => by_ ts k q) j)) →
    ∃ R' : List (List UInt8), R'.length = m ∧ (∀ j, j < m → ∃ r, R'[j]? = some r ∧ Vec r sz (fun q => mv m B (fun k => by_ ts k q) j)) ∧ f_shield_Mend_L17 ts kk L fu fuel R (i : Int) = kk R'
  | 0, i, _, _, hfu, _, _ => absurd hfu (Nat.not_lt_zero _)
  | fuel + 1, i, R, hi, hfu, hR, hr => by
    rw [f_shield_Mend_L17]
    by_cases hlt : i < m
    · obtain ⟨f, hf1, hf2⟩ := hrow i hlt
      obtain ⟨t, ht1, ht2, _⟩ := ht.2 0 (by omega)
      obtain ⟨out, ho1, ho2⟩ := comb f ts m sz (B i) hf2 ht hm hsz fu hf
      rw [cond_tt (dlt (by omega)), at_of hf1, opt_of, show at? ts 0 = some t from at_of (k := 0) ht1, opt_of, ht2, ho2, opt_of, req_pos (by simp only [List.length_singleton]; omega), wsucc (by omega)]
      refine combs ts m sz hm hm1 hsz ht B L hL hrow kk fu hf fuel (i + 1) (R ++ [out]) (by omega) (by omega) (by simp [hR]) (fun j hj => ?_)
      by_cases h : j = i
      · subst h; exact ⟨out, by rw [List.getElem?_append_right (by omega), hR, Nat.sub_self]; rfl, ho1⟩
      · obtain ⟨r', g1, g2⟩ := hr j (by omega)
        exact ⟨r', by rw [List.getElem?_append_left (by omega)]; exact g1, g2⟩
    · obtain rfl : i = m := by omega
      rw [cond_ff (dge (by omega))]
      exact ⟨R, hR, hr, rfl⟩
theorem mend_ok (l : List S_api_Shard) (m : Nat) (fu : Nat) (hf : 5000 ≤ fu) (hm1 : 1 ≤ m) (hm : m ≤ 16) (hl8 : l.length ≤ m + 8) (hg : Good l l.length) (hP : m ≤ (pres l l.length).length) (hc : f_shield_check fu l (m : Int) = some (ints (pres l l.length), 0)) :
    ∃ parts sz, f_shield_Mend fu l (m : Int) = some (parts, 0) ∧ parts.length = m ∧ sz ≤ 4096 ∧ (∀ t ∈ parts, t.length = sz) ∧ (∀ k ∈ pres l l.length, (gs l k).Bytes.length = sz) ∧
      ∀ j, j < m → f_lumref_ShardOf fu parts (((pres l l.length).getD j 0 : Nat) : Int) = some (gs l ((pres l l.length).getD j 0)).Bytes := by
  obtain ⟨P, hPe⟩ : ∃ P, P = pres l l.length := ⟨_, rfl⟩
  have hmem : ∀ k ∈ P, k < l.length := fun k hk => (pres_mem (hPe ▸ hk)).1
  have hks : (P.take m).length = m := by rw [List.length_take, hPe]; omega
  have hkin : ∀ k ∈ P.take m, k ∈ P := fun k hk => List.mem_of_mem_take hk
  have hgd : ∀ j, j < m → (P.take m).getD j 0 ∈ P.take m ∧ P.getD j 0 = (P.take m).getD j 0 := fun j hj => by
    refine ⟨by rw [List.getD_eq_getElem?_getD, List.getElem?_eq_getElem (by omega)]; exact List.getElem_mem _, ?_⟩
    rw [List.getD_eq_getElem?_getD, List.getD_eq_getElem?_getD, List.getElem?_take_of_lt hj]
  obtain ⟨sz, hsze⟩ : ∃ sz, sz = (gs l ((P.take m).getD 0 0)).Bytes.length := ⟨_, rfl⟩
  have hp0 := hkin _ (hgd 0 (by omega)).1
  have hall : ∀ k ∈ P, (gs l k).Bytes.length = sz := fun k hk => by rw [hsze]; exact (hg k (hPe ▸ hk)).2 _ (hPe ▸ hp0)
  have hsz : sz ≤ 4096 := by rw [hsze]; exact (hg _ (hPe ▸ hp0)).1
  rw [← hPe] at hc hP ⊢
  obtain ⟨R, hR1, hR2, hR3⟩ := rows l m hm P 0 hP (fun k hk => ⟨by have := hmem k (hkin k hk); omega, hmem k (hkin k hk)⟩)
    (fun j5xb8 j5x8 j5x9 => (lt (fun (j7x12 : (List (List UInt8))) => (some (j7x12, (0 : Int)))) fun (kk8 : (List (List UInt8)) → Option ((List (List UInt8)) × Int)) => (opt (f_shield_inverse_ownd fu j5x8 j5xb8) fun (r10 : ((List Int) × (List (Option (List UInt8))))) => (opt (frzH r10.2 r10.1) fun (l13 : (List (List UInt8))) => (f_shield_Mend_L17 j5x9 kk8 l13 fu fu ([] : List (List UInt8)) (0 : Int)))))) fu (by omega) fu 0 [] (by omega) (by omega) rfl (fun j hj => absurd hj (Nat.not_lt_zero _))
  have hmat : MatR m (ints (List.range m)) (R.map some) (fun i k => gen m ((P.take m).getD i 0) k) := by
    refine ⟨by simp [ints], fun i j h hi hj h1 h2 => ?_, fun i hi => ?_⟩
    · unfold ints at h1 h2
      rw [List.getElem?_map, List.getElem?_range hi] at h1
      rw [List.getElem?_map, List.getElem?_range hj] at h2
      simp at h1 h2
      omega
    · obtain ⟨r, g1, g2⟩ := hR2 i hi
      exact ⟨(i : Int), r, by unfold ints; rw [List.getElem?_map, List.getElem?_range hi]; rfl, bget_of (by rw [List.getElem?_map, g1]; rfl), g2⟩
  obtain ⟨x4, b4, B, hB1, hB2, hB3⟩ := inverse m _ _ hm _ hmat (fun x hx hz => gen_inj m hm (P.take m) hks ((hPe ▸ pres_nodup l l.length).sublist (List.take_sublist _ _)) (fun k hk => by have := hmem k (hkin k hk); omega) x hx hz) fu (by omega)
  obtain ⟨L, hL1, hL2, hL3⟩ := frz_mat hB1
  obtain ⟨ts, hts⟩ : ∃ ts, ts = (P.take m).map fun k => (gs l k).Bytes := ⟨_, rfl⟩
  have htx : Txts ts m sz := txts_of (by rw [hts, List.length_map]; exact hks) (fun t ht => by
    rw [hts] at ht
    obtain ⟨k, hk, rfl⟩ := List.mem_map.1 ht
    exact hall k (hkin k hk))
  obtain ⟨parts, hp1, hp2, hp3⟩ := combs ts m sz hm hm1 hsz htx B L hL2 hL3 (fun j7x12 => some (j7x12, (0 : Int))) fu hf fu 0 [] (by omega) (by omega) rfl (fun j hj => absurd hj (Nat.not_lt_zero _))
  have hpl : ∀ t ∈ parts, t.length = sz := fun t ht => by
    obtain ⟨i, hi, rfl⟩ := List.getElem_of_mem ht
    obtain ⟨r, g1, g2⟩ := hp2 i (by omega)
    rw [List.getElem?_eq_getElem hi] at g1
    rw [Option.some.inj g1]; exact g2.1
  have hpt := txts_of hp1 hpl
  refine ⟨parts, sz, ?_, hp1, hsz, hpl, hall, fun j hj => ?_⟩
  · unfold f_shield_Mend
    rw [hc, opt_of]
    dsimp only
    have hil : (ints P).length = P.length := by simp [ints]
    rw [cond_ff (by rfl), lt_of, req_pos (by omega)]
    refine Eq.trans hR3 ?_
    rw [lt_of, hB3, opt_of, hL1, opt_of, ← hts]
    exact hp3
  · obtain ⟨g1, g2⟩ := hgd j hj
    have hkP := hkin _ g1
    have hk8 : (P.take m).getD j 0 < m + 8 := by have := hmem _ hkP; omega
    obtain ⟨out, ho1, ho2⟩ := shard parts m sz ((P.take m).getD j 0) hpt hm hm1 hk8 hsz fu hf
    rw [g2, ho2]
    -- as the system says
    have hby : ∀ i q, i < m → q < sz → by_ parts i q = mv m B (fun k => by_ ts k q) i := fun i q hi hq => by
      obtain ⟨r, a1, a2⟩ := hp2 i hi
      obtain ⟨u, b1, b2⟩ := a2.2 q hq
      refine Eq.trans ?_ b2
      unfold by_
      rw [List.getD_eq_getElem?_getD, List.getD_eq_getElem?_getD, a1, Option.getD_some, b1]; rfl
    obtain ⟨t, ht1, ht2⟩ := txts_vec htx hj
    have hte : t = (gs l ((P.take m).getD j 0)).Bytes := by
      rw [hts, List.getElem?_map, List.getElem?_eq_getElem (by omega)] at ht1
      rw [← Option.some.inj ht1, List.getD_eq_getElem?_getD, List.getElem?_eq_getElem (show j < (P.take m).length by omega)]; rfl
    rw [← hte]
    refine congrArg some (ho1.ext ht2 fun q hq => ?_)
    exact hB2 (fun i => by_ parts i q) (fun k => by_ ts k q) (fun k _ => by_lt _ _ _) (fun k _ => by_lt _ _ _) (fun i hi => hby i q hi hq) j hj
theorem all_len (parts : List (List UInt8)) (x : S_api_Shard) (hn : parts.length ≤ 16) (h : ∀ t ∈ parts, t.length = x.Bytes.length) (kk : Unit → Option Int) (fu : Nat) : ∀ (fuel i : Nat), i ≤ parts.length → parts.length - i < fuel →
    f_slices_IndexFunc___string_string__F12_L5 parts x kk fu fuel (i : Int) = kk ()
  | 0, i, _, hfu => absurd hfu (Nat.not_lt_zero _)
  | fuel + 1, i, hi, hfu => by
    rw [f_slices_IndexFunc___string_string__F12_L5]
    by_cases hlt : i < parts.length
    · rw [cond_tt (dlt (by omega)), at_lt hlt, opt_of]
      unfold f_lumlaw_ShieldMends_1
      rw [opt_of, h _ (List.getElem_mem hlt), cond_ff (by simp), wsucc (by omega)]
      exact all_len parts x hn h kk fu fuel (i + 1) (by omega) (by omega)
    · rw [cond_ff (dge (by omega))]
def S (fu : Nat) (parts : List (List UInt8)) (k : Nat) : List UInt8 := (f_lumref_ShardOf fu parts (k : Int)).getD []
def mm (fu : Nat) (l : List S_api_Shard) (parts : List (List UInt8)) (k : Nat) : Bool := (gs l k).Has && !(S fu parts k == (gs l k).Bytes)
theorem any_succ (f : Nat → Bool) (i : Nat) : (List.range (i + 1)).any f = ((List.range i).any f || f i) := by rw [List.range_succ, List.any_append]; simp
section
variable (l : List S_api_Shard) (m sz : Nat) (parts : List (List UInt8)) (fu : Nat) (hf : 5000 ≤ fu) (hm1 : 1 ≤ m) (hm : m ≤ 16) (hl8 : l.length ≤ m + 8) (hpn : parts.length = m) (hsz : sz ≤ 4096) (hpl : ∀ t ∈ parts, t.length = sz)
include hf hm1 hm hl8 hpn hsz hpl
omit hl8 in
theorem S_at {k : Nat} (hk : k < m + 8) : f_lumref_ShardOf fu parts (k : Int) = some (S fu parts k) ∧ Vec (S fu parts k) sz (fun q => sx (fun j => gm (gen m k j) (by_ parts j q)) (List.range m)) := by
  obtain ⟨out, h1, h2⟩ := shard parts m sz k (txts_of hpn hpl) hm hm1 hk hsz fu hf
  have : S fu parts k = out := by unfold S; rw [h2]; rfl
  rw [this]; exact ⟨h2, h1⟩
theorem check_loop (kk : Unit → Option Int) : ∀ (fuel i : Nat), i ≤ l.length → l.length - i < fuel → (List.range i).any (mm fu l parts) = false →
    f_shield_Check_L9 l (m : Int) (parts, 0) kk fu fuel (i : Int) = if (List.range l.length).any (mm fu l parts) = true then some 6 else kk ()
  | 0, i, _, hfu, _ => absurd hfu (Nat.not_lt_zero _)
  | fuel + 1, i, hi, hfu, ha => by
    rw [f_shield_Check_L9]
    by_cases hlt : i < l.length
    · have ih := check_loop kk fuel (i + 1) (by omega) (by omega)
      obtain ⟨s1, s2⟩ := S_at m sz parts fu hf hm1 hm hpn hsz hpl (show i < m + 8 by omega)
      rw [cond_tt (dlt (by omega)), gs_at hlt, opt_of, lt_of, wsucc (by omega)]
      have hstep : (List.range (i + 1)).any (mm fu l parts) = mm fu l parts i := by rw [any_succ, ha, Bool.false_or]
      rw [hstep] at ih
      cases hh : (gs l i).Has with
      | false =>
        rw [cond_ff (by rfl)]
        dsimp only
        rw [cond_ff (by rfl)]
        exact ih (by unfold mm; rw [hh]; rfl)
      | true =>
        obtain ⟨r, hr1, hr2⟩ := row m i hm (by omega) fu (by omega)
        have hpt := txts_of hpn hpl
        obtain ⟨t, ht1, ht2, _⟩ := hpt.2 0 (by omega)
        obtain ⟨out, ho1, ho2⟩ := comb r parts m sz (gen m i) hr1 hpt hm hsz fu hf
        have hos : out = S fu parts i := ho1.ext s2 fun _ _ => rfl
        rw [cond_tt (by rfl), hr2, opt_of, show at? parts 0 = some t from at_of (k := 0) ht1, opt_of, ht2, ho2, opt_of, hos]
        dsimp only
        have hmm : mm fu l parts i = !(S fu parts i == (gs l i).Bytes) := by unfold mm; rw [hh]; rfl
        by_cases e : (gs l i).Bytes = S fu parts i
        · rw [cond_ff (by rw [e]; simp)]
          exact ih (by rw [hmm, e]; simp)
        · have hb : ((gs l i).Bytes == S fu parts i) = false := by simpa using e
          rw [hb, cond_tt (by rfl), if_pos]
          rw [List.any_eq_true]
          exact ⟨i, List.mem_range.2 hlt, by rw [hmm]; simpa using fun h => e h.symm⟩
    · obtain rfl : i = l.length := by omega
      rw [cond_ff (dge (by omega)), ha]; rfl
theorem law_loop (hgood : ∀ k ∈ pres l l.length, (gs l k).Bytes.length = sz) (hfirst : ∀ j, j < m → f_lumref_ShardOf fu parts (((pres l l.length).getD j 0 : Nat) : Int) = some (gs l ((pres l l.length).getD j 0)).Bytes) (kk : Int → Option Bool) : ∀ (fuel i : Nat), i ≤ l.length → l.length - i < fuel →
    f_lumlaw_ShieldMends_L22 l (m : Int) (parts, 0) kk fu fuel ((pres l i).length : Int) (if (List.range i).any (mm fu l parts) = true then 6 else 0) (i : Int) = kk (if (List.range l.length).any (mm fu l parts) = true then 6 else 0)
  | 0, i, _, hfu => absurd hfu (Nat.not_lt_zero _)
  | fuel + 1, i, hi, hfu => by
    rw [f_lumlaw_ShieldMends_L22]
    by_cases hlt : i < l.length
    · have ih := law_loop hgood hfirst kk fuel (i + 1) (by omega) (by omega)
      obtain ⟨s1, s2⟩ := S_at m sz parts fu hf hm1 hm hpn hsz hpl (show i < m + 8 by omega)
      rw [cond_tt (dlt (by omega)), lt_of, gs_at hlt, opt_of, wsucc (by omega)]
      rw [any_succ] at ih
      cases hh : (gs l i).Has with
      | false =>
        have hmm : mm fu l parts i = false := by unfold mm; rw [hh]; rfl
        have e : pres l (i + 1) = pres l i := by show (if _ then _ else _) = _; rw [hh]; rfl
        rw [hmm, Bool.or_false, e] at ih
        rw [cond_tt (by rfl)]
        exact ih
      | true =>
        have e : pres l (i + 1) = pres l i ++ [i] := by show (if _ then _ else _) = _; rw [hh]; rfl
        have hlen : (pres l i).length ≤ 24 := by
          have h1 : ∀ k, (pres l k).length ≤ k := by
            intro k
            induction k with
            | zero => simp [pres]
            | succ k ih => unfold pres; split <;> (try simp) <;> omega
          have := h1 i; omega
        rw [e] at ih
        rw [cond_ff (by rfl), lt_of, w64 (x := ((pres l i).length : Int) + 1) (by omega) (by omega)]
        have e1 : ((pres l i ++ [i]).length : Int) = ((pres l i).length : Int) + 1 := by simp
        rw [e1] at ih
        have hmem : i ∈ pres l l.length := by
          obtain ⟨t, ht⟩ := pres_pre l (i + 1) l.length (by omega)
          rw [ht, e]; simp
        have go : (opt (f_lumref_ShardOf fu parts (i : Int)) fun (r35 : (List UInt8)) => (bif (!(r35 == (gs l i).Bytes)) then (bif (decide (((pres l i).length : Int) + 1 ≤ (m : Int))) then (some false) else (f_lumlaw_ShieldMends_L22 l (m : Int) (parts, 0) kk fu fuel (((pres l i).length : Int) + 1) 6 ((i + 1 : Nat) : Int))) else (f_lumlaw_ShieldMends_L22 l (m : Int) (parts, 0) kk fu fuel (((pres l i).length : Int) + 1) (if (List.range i).any (mm fu l parts) = true then 6 else 0) ((i + 1 : Nat) : Int)))) = kk (if (List.range l.length).any (mm fu l parts) = true then 6 else 0) := by
          rw [s1, opt_of]
          have hmm : mm fu l parts i = !(S fu parts i == (gs l i).Bytes) := by unfold mm; rw [hh]; rfl
          by_cases h : S fu parts i = (gs l i).Bytes
          · rw [hmm, show (S fu parts i == (gs l i).Bytes) = true from by simpa using h] at ih
            rw [show (S fu parts i == (gs l i).Bytes) = true from by simpa using h, cond_ff (by rfl)]
            simpa using ih
          · have hb : (S fu parts i == (gs l i).Bytes) = false := by simpa using h
            rw [hmm, hb] at ih
            rw [hb, cond_tt (by rfl)]
            have hbig : ¬ (((pres l i).length : Int) + 1 ≤ (m : Int)) := fun hle => by
              refine h ?_
              obtain ⟨t, ht⟩ := pres_pre l (i + 1) l.length (by omega)
              have hd : (pres l l.length).getD (pres l i).length 0 = i := by
                rw [ht, e, List.getD_eq_getElem?_getD, List.append_assoc, List.getElem?_append_right (Nat.le_refl _), Nat.sub_self]; rfl
              have := hfirst (pres l i).length (by omega)
              rw [hd, s1] at this
              exact Option.some.inj this
            rw [cond_ff (decide_eq_false hbig)]
            simpa using ih
        by_cases h0 : (pres l i).length = 0
        · rw [cond_tt (by rw [h0]; rfl)]
          unfold f_slices_ContainsFunc___string_string__F12 f_slices_IndexFunc___string_string__F12
          rw [lt_of]
          dsimp only
          rw [show f_slices_IndexFunc___string_string__F12_L5 parts (gs l i) (fun _ => some (-1)) fu fu 0 = some (-1) from all_len parts (gs l i) (by omega) (fun t ht => by rw [hpl t ht, hgood i hmem]) (fun _ => some (-1)) fu fu 0 (Nat.zero_le _) (by omega), opt_of, opt_of]
          try dsimp only
          rw [cond_ff (by rfl)]
          exact go
        · rw [cond_ff (by simpa using h0)]
          dsimp only
          rw [cond_ff (by rfl)]
          exact go
    · obtain rfl : i = l.length := by omega
      rw [cond_ff (dge (by omega))]
end
def fuel (x0 : List S_api_Shard) (x1 : Int) : Nat := 10000
theorem says (x0 : List S_api_Shard) (x1 : Int) (h0 : okL (fun y => okS_api_Shard y) x0) (h1 : (Lit.int .i64 x1).wf = true) : f_lumlaw_ShieldMends (fuel x0 x1) x0 x1 = some true := by
  unfold f_lumlaw_ShieldMends fuel
  rcases check_ok x0 x1 10000 (by omega) with ⟨e, he, a1, a2⟩ | ⟨m, rfl, b1, b2, b3, b4, b5, b6, b7, b8⟩
  · have hM : f_shield_Mend 10000 x0 x1 = some ([], e) := by
      unfold f_shield_Mend
      rw [a1, opt_of]; dsimp only
      rw [cond_tt (by simpa using he)]
    have hC : f_shield_Check 10000 x0 x1 = some e := by
      unfold f_shield_Check
      rw [hM, opt_of]; dsimp only
      rw [cond_tt (by simpa using he)]
    rw [hM, opt_of, a2, opt_of, cond_tt (by simpa using he), lt_of]
    dsimp only
    rw [cond_tt (by rfl), cond_tt (by simp), hC, opt_of]
    simp
  · obtain ⟨parts, sz, c1, c2, c3, c4, c5, c6⟩ := mend_ok x0 m 10000 (by omega) b1 b2 b4 b5 b6 b7
    have hC : f_shield_Check 10000 x0 (m : Int) = some (if (List.range x0.length).any (mm 10000 x0 parts) = true then 6 else 0) := by
      unfold f_shield_Check
      rw [c1, opt_of]; dsimp only
      rw [cond_ff (by rfl), lt_of]
      have := check_loop x0 m sz parts 10000 (by omega) b1 b2 b4 c2 c3 c4 (fun _ => some 0) 10000 0 (Nat.zero_le _) (by omega) rfl
      refine Eq.trans this ?_
      split <;> rfl
    rw [c1, opt_of, b8, opt_of, cond_ff (by rfl), lt_of]
    dsimp only
    rw [cond_ff (by rfl), c2, cond_ff (by simp), lt_of]
    have := law_loop x0 m sz parts 10000 (by omega) b1 b2 b4 c2 c3 c4 c5 c6 (fun j16i9 => (opt (f_shield_Check 10000 x0 (m : Int)) fun (r19 : Int) => (some (r19 == j16i9)))) 10000 0 (Nat.zero_le _) (by omega)
    refine Eq.trans this ?_
    try dsimp only
    rw [hC, opt_of]
    simp
end Go.Proofs.Ytpakblkldklbmaa.PShieldMends
