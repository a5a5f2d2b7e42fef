/- What ChunkRanges leans on, part 2. No condition. -/
import Derived.Test.YtpakblkldklbmaaQChunkRangesa
import Derived.Test.YtpakblkldklbmaaChecked
import Derived.WalkKit
import Derived.Lib.Hide
import Derived.IntWalk
namespace Go.Proofs.Ytpakblkldklbmaa
open Go.RowKit Ytpakblkldklbmaa.En
set_option linter.unusedVariables false
set_option linter.unusedSimpArgs false
open Go.Value (int bool)
structure S_api_Cut where
  Min : Int
  Max : Int
  Bits : Int
  deriving DecidableEq
def tyS_api_Cut : Ty S_api_Cut := tyVia (fun x => (x.Min, (x.Max, x.Bits))) (tyPair (tyInt .i64) (tyPair (tyInt .i64) (tyInt .i64)))
theorem encS_api_Cut {Z w cs} {x : S_api_Cut} (h : tyS_api_Cut.rep Z w cs x) : cs = [(int .i64 x.Min), (int .i64 x.Max), (int .i64 x.Bits)] := by
  obtain ⟨c0, d0, rfl, p0, q0⟩ := h
  obtain ⟨c1, d1, rfl, p1, q1⟩ := q0
  rw [show _ = _ from p0]
  rw [show _ = _ from p1]
  rw [show _ = _ from q1]
  rfl
structure A16u8 where
  e0 : UInt8
  e1 : UInt8
  e2 : UInt8
  e3 : UInt8
  e4 : UInt8
  e5 : UInt8
  e6 : UInt8
  e7 : UInt8
  e8 : UInt8
  e9 : UInt8
  e10 : UInt8
  e11 : UInt8
  e12 : UInt8
  e13 : UInt8
  e14 : UInt8
  e15 : UInt8
  deriving DecidableEq
def cA16u8 (x : A16u8) : List Value := [(int .u8 (x.e0.toNat : Int)), (int .u8 (x.e1.toNat : Int)), (int .u8 (x.e2.toNat : Int)), (int .u8 (x.e3.toNat : Int)), (int .u8 (x.e4.toNat : Int)), (int .u8 (x.e5.toNat : Int)), (int .u8 (x.e6.toNat : Int)), (int .u8 (x.e7.toNat : Int)), (int .u8 (x.e8.toNat : Int)), (int .u8 (x.e9.toNat : Int)), (int .u8 (x.e10.toNat : Int)), (int .u8 (x.e11.toNat : Int)), (int .u8 (x.e12.toNat : Int)), (int .u8 (x.e13.toNat : Int)), (int .u8 (x.e14.toNat : Int)), (int .u8 (x.e15.toNat : Int))]
def lA16u8 (x : A16u8) : List UInt8 := [x.e0, x.e1, x.e2, x.e3, x.e4, x.e5, x.e6, x.e7, x.e8, x.e9, x.e10, x.e11, x.e12, x.e13, x.e14, x.e15]
def vA16u8 (y : UInt8) : Value := (int .u8 (y.toNat : Int))
def setA16u8 (x : A16u8) (j : Int) (y : UInt8) : A16u8 := ⟨if j = 0 then y else x.e0, if j = 1 then y else x.e1, if j = 2 then y else x.e2, if j = 3 then y else x.e3, if j = 4 then y else x.e4, if j = 5 then y else x.e5, if j = 6 then y else x.e6, if j = 7 then y else x.e7, if j = 8 then y else x.e8, if j = 9 then y else x.e9, if j = 10 then y else x.e10, if j = 11 then y else x.e11, if j = 12 then y else x.e12, if j = 13 then y else x.e13, if j = 14 then y else x.e14, if j = 15 then y else x.e15⟩
theorem oneA16u8 (x : A16u8) : ∀ u ∈ cA16u8 x, u.oneCell' = true := ones_map (enc := vA16u8) (xs := lA16u8 x) (fun _ => rfl)
theorem lsetA16u8 {x : A16u8} {j : Int} {y : UInt8} (h0 : 0 ≤ j) (h1 : j < 16) : lA16u8 (setA16u8 x j y) = (lA16u8 x).set j.toNat y := by
  obtain ⟨q, rfl⟩ : ∃ q : Nat, j = q := ⟨j.toNat, by omega⟩
  match q, h1 with
  | 0, _ => rfl
  | 1, _ => rfl
  | 2, _ => rfl
  | 3, _ => rfl
  | 4, _ => rfl
  | 5, _ => rfl
  | 6, _ => rfl
  | 7, _ => rfl
  | 8, _ => rfl
  | 9, _ => rfl
  | 10, _ => rfl
  | 11, _ => rfl
  | 12, _ => rfl
  | 13, _ => rfl
  | 14, _ => rfl
  | 15, _ => rfl
  | n + 16, h => omega
theorem csetA16u8 {x : A16u8} {j : Int} {y : UInt8} (h0 : 0 ≤ j) (h1 : j < 16) (pre post : List Value) : pre ++ (cA16u8 (setA16u8 x j y) ++ post) = (pre ++ (cA16u8 x ++ post)).set (pre.length + j.toNat) (vA16u8 y) := by
  have h : cA16u8 (setA16u8 x j y) = (cA16u8 x).set j.toNat (vA16u8 y) := by
    have e : ∀ z : A16u8, cA16u8 z = (lA16u8 z).map vA16u8 := fun _ => rfl
    rw [e, e, lsetA16u8 h0 h1, List.map_set]
  rw [h, List.set_append_right _ _ (by omega), Nat.add_sub_cancel_left, List.set_append_left _ _ (by show j.toNat < 16; omega)]
structure S_api_Roll where
  Win : A16u8
  At : Int
  Sum : Int
  deriving DecidableEq
theorem sz3 : szOf Try.prog 3 = some 1 := by kernel_rfl
theorem to3 : tyOf Try.prog 3 = some (1, 8, some (int .i64 (0 : Int))) := by kernel_rfl
theorem sz4 : szOf Try.prog 4 = some 1 := by kernel_rfl
theorem to4 : tyOf Try.prog 4 = some (1, 1, some (bool false)) := by kernel_rfl
theorem sz5 : szOf Try.prog 5 = some 1 := by kernel_rfl
theorem sz9 : szOf Try.prog 9 = some 1 := by kernel_rfl
theorem to9 : tyOf Try.prog 9 = some (1, 16, some (str ([] : List UInt8))) := by kernel_rfl
theorem sz23 : szOf Try.prog 23 = some 1 := by kernel_rfl
theorem to23 : tyOf Try.prog 23 = some (1, 24, some (Value.slice none 0 0)) := by kernel_rfl
theorem sz35 : szOf Try.prog 35 = some 3 := by kernel_rfl
theorem sz190 : szOf Try.prog 190 = some 1 := by kernel_rfl
theorem sz205 : szOf Try.prog 205 = some 16 := by kernel_rfl
theorem sz207 : szOf Try.prog 207 = some 18 := by kernel_rfl
theorem to207 : tyOf Try.prog 207 = some (18, 32, some (ag [(int .u8 (0 : Int)), (int .u8 (0 : Int)), (int .u8 (0 : Int)), (int .u8 (0 : Int)), (int .u8 (0 : Int)), (int .u8 (0 : Int)), (int .u8 (0 : Int)), (int .u8 (0 : Int)), (int .u8 (0 : Int)), (int .u8 (0 : Int)), (int .u8 (0 : Int)), (int .u8 (0 : Int)), (int .u8 (0 : Int)), (int .u8 (0 : Int)), (int .u8 (0 : Int)), (int .u8 (0 : Int)), (int .i64 (0 : Int)), (int .u32 (0 : Int))])) := by kernel_rfl
theorem mixed : Try.prog.follows .mixedOrders = true := by kernel_rfl
def okS_api_Cut (x : S_api_Cut) : Prop := ((Lit.int .i64 x.Min).wf = true) ∧ ((Lit.int .i64 x.Max).wf = true) ∧ ((Lit.int .i64 x.Bits).wf = true)
set_option maxRecDepth 100000 in
theorem opnS_api_Cut {H : Type} : Opn H Try.prog 35 tyS_api_Cut okS_api_Cut := opn_struct (fun x => (x.Min, (x.Max, x.Bits))) (fun y => S_api_Cut.mk y.1 y.2.1 y.2.2) (fun _ => rfl) Try.underlying35 sz35 (fields_cons sz3 (opn_int Try.underlying3) (fields_cons sz3 (opn_int Try.underlying3) (fields_one sz3 (opn_int Try.underlying3))))
def f_lumref_CutOK (fu : Nat) (a0 : S_api_Cut) : Option Int := (lt (fun (j2b27 : Bool) => (bif j2b27 then (some (0 : Int)) else (some (1 : Int)))) fun (kk3 : Bool → Option Int) => (bif (decide ((16 : Int) ≤ a0.Min)) then (bif (decide (a0.Min ≤ a0.Max)) then (bif (decide (a0.Max ≤ (1024 : Int))) then (bif (decide ((1 : Int) ≤ a0.Bits)) then (kk3 (decide (a0.Bits ≤ (12 : Int)))) else (kk3 false)) else (kk3 false)) else (kk3 false)) else (kk3 false)))
set_option maxHeartbeats 2000000 in
set_option maxRecDepth 100000 in
theorem f_lumref_CutOK_ok (fu : Nat) (a0 : S_api_Cut) {r : Int} (h : f_lumref_CutOK fu a0 = some r) : FnOk Try.prog 46 [(ag [(int .i64 a0.Min), (int .i64 a0.Max), (int .i64 a0.Bits)])] [] [] (fun (i : Unit) => { val := (int .i64 r) }) := by
 unfold f_lumref_CutOK at h
 refine fn_enter Try.func46 rfl Try.ntmps46 rfl (fun w0 Z0 => ?_)
 refine aw_sr ?_
 refine al_box (vs := [(iq a0.Min), (iq a0.Max), (iq a0.Bits)]) rfl (cv_rfl rfl) rfl (fun g1 => ?_)
 refine al_as rfl rfl ?_
 refine al_nt ?_
 refine aw_seq ?_
 obtain ⟨kk3, hkk3, h⟩ := lt_some h
 refine aw_seq_join (ι := Bool) (fun i => (memOf w0 Z0 [] [] [])) (fun i => (tab [(27, (bool i))])) (fun i => kk3 i = some r) ?_ ?_
 ·rintro j2b27 h
  have h : kk3 j2b27 = some r := h
  rw [hkk3] at h
  dsimp only at h
  clear hkk3
  refine aw_show (m := (memOf w0 Z0 [] [] [])) (S := (tab [(27, (bool j2b27))])) ?_
  refine aw_cond rfl (fun hb4 => ?_) (fun hb4 => ?_)
  ·replace h := bif_t hb4 h
   refine aw_sr ?_
   refine al_as rfl rfl ?_
   refine al_nt ?_
   refine aw_ret ?_
   refine aq_then_ret ?_
   obtain rfl := Option.some.inj h
   exact fn_ret () [] [] rfl rfl rfl rfl (res1 rfl rfl) rfl rfl rfl (by decide)
  ·replace h := bif_f hb4 h
   refine aw_skip ?_
   refine aq_tr ?_
   refine al_as rfl rfl ?_
   refine al_nt ?_
   refine aw_ret ?_
   obtain rfl := Option.some.inj h
   exact fn_ret () [] [] rfl rfl rfl rfl (res1 rfl rfl) rfl rfl rfl (by decide)
 ·clear hkk3
  refine aw_region ?_
  refine al_val (ov_fieldA (p := 0) rfl Try.underlying35 rfl sz3 rfl rfl rfl) ?_
  refine al_val (ov_load (i := 0) (v := (iq a0.Min)) rfl rfl Try.underlying3 sz3 rfl rfl rfl rfl) ?_
  refine al_in rfl rfl rfl rfl ?_
  refine al_mv rfl rfl ?_
  refine al_caseB 6 rfl (fun hb5 => ?_) (fun hb5 => ?_)
  ·replace h := bif_t hb5 h
   refine al_val (ov_fieldA (p := 0) rfl Try.underlying35 rfl sz3 rfl rfl rfl) ?_
   refine al_val (ov_load (i := 0) (v := (iq a0.Min)) rfl rfl Try.underlying3 sz3 rfl rfl rfl rfl) ?_
   refine al_val (ov_fieldA (p := 1) rfl Try.underlying35 rfl sz3 rfl rfl rfl) ?_
   refine al_val (ov_load (i := 0) (v := (iq a0.Max)) rfl rfl Try.underlying3 sz3 rfl rfl rfl rfl) ?_
   refine al_in rfl rfl rfl rfl ?_
   refine al_val (ov_pick_t rfl rfl rfl) ?_
   refine al_mv rfl rfl ?_
   refine al_caseB 13 rfl (fun hb6 => ?_) (fun hb6 => ?_)
   ·replace h := bif_t hb6 h
    refine al_val (ov_fieldA (p := 1) rfl Try.underlying35 rfl sz3 rfl rfl rfl) ?_
    refine al_val (ov_load (i := 0) (v := (iq a0.Max)) rfl rfl Try.underlying3 sz3 rfl rfl rfl rfl) ?_
    refine al_in rfl rfl rfl rfl ?_
    refine al_val (ov_pick_t rfl rfl rfl) ?_
    refine al_mv rfl rfl ?_
    refine al_caseB 18 rfl (fun hb7 => ?_) (fun hb7 => ?_)
    ·replace h := bif_t hb7 h
     refine al_val (ov_fieldA (p := 2) rfl Try.underlying35 rfl sz3 rfl rfl rfl) ?_
     refine al_val (ov_load (i := 0) (v := (iq a0.Bits)) rfl rfl Try.underlying3 sz3 rfl rfl rfl rfl) ?_
     refine al_in rfl rfl rfl rfl ?_
     refine al_val (ov_pick_t rfl rfl rfl) ?_
     refine al_mv rfl rfl ?_
     refine al_caseB 23 rfl (fun hb8 => ?_) (fun hb8 => ?_)
     ·replace h := bif_t hb8 h
      refine al_val (ov_fieldA (p := 2) rfl Try.underlying35 rfl sz3 rfl rfl rfl) ?_
      refine al_val (ov_load (i := 0) (v := (iq a0.Bits)) rfl rfl Try.underlying3 sz3 rfl rfl rfl rfl) ?_
      refine al_in rfl rfl rfl rfl ?_
      refine al_val (ov_pick_t rfl rfl rfl) ?_
      refine al_nil ?_
      exact aq_join (decide (a0.Bits ≤ (12 : Int))) h (fun w a hm hs => norm hm hs [] [] [(27, (bool (decide (a0.Bits ≤ (12 : Int)))))] (by decide) ⟨rfl, trivial⟩)
     ·replace h := bif_f hb8 h
      refine al_skip ?_
      refine al_skip ?_
      refine al_skip ?_
      refine al_val (ov_pick_f rfl rfl rfl) ?_
      refine al_nil ?_
      exact aq_join false h (fun w a hm hs => norm hm hs [] [] [(27, (bool false))] (by decide) ⟨rfl, trivial⟩)
    ·replace h := bif_f hb7 h
     refine al_skip ?_
     refine al_skip ?_
     refine al_skip ?_
     refine al_val (ov_pick_f rfl rfl rfl) ?_
     refine al_mv rfl rfl ?_
     refine al_skip ?_
     refine al_skip ?_
     refine al_skip ?_
     refine al_val (ov_pick_f rfl rfl rfl) ?_
     refine al_nil ?_
     exact aq_join false h (fun w a hm hs => norm hm hs [] [] [(27, (bool false))] (by decide) ⟨rfl, trivial⟩)
   ·replace h := bif_f hb6 h
    refine al_skip ?_
    refine al_skip ?_
    refine al_skip ?_
    refine al_val (ov_pick_f rfl rfl rfl) ?_
    refine al_mv rfl rfl ?_
    refine al_skip ?_
    refine al_skip ?_
    refine al_skip ?_
    refine al_val (ov_pick_f rfl rfl rfl) ?_
    refine al_mv rfl rfl ?_
    refine al_skip ?_
    refine al_skip ?_
    refine al_skip ?_
    refine al_val (ov_pick_f rfl rfl rfl) ?_
    refine al_nil ?_
    exact aq_join false h (fun w a hm hs => norm hm hs [] [] [(27, (bool false))] (by decide) ⟨rfl, trivial⟩)
  ·replace h := bif_f hb5 h
   refine al_skip ?_
   refine al_skip ?_
   refine al_skip ?_
   refine al_skip ?_
   refine al_skip ?_
   refine al_val (ov_pick_f rfl rfl rfl) ?_
   refine al_mv rfl rfl ?_
   refine al_skip ?_
   refine al_skip ?_
   refine al_skip ?_
   refine al_val (ov_pick_f rfl rfl rfl) ?_
   refine al_mv rfl rfl ?_
   refine al_skip ?_
   refine al_skip ?_
   refine al_skip ?_
   refine al_val (ov_pick_f rfl rfl rfl) ?_
   refine al_mv rfl rfl ?_
   refine al_skip ?_
   refine al_skip ?_
   refine al_skip ?_
   refine al_val (ov_pick_f rfl rfl rfl) ?_
   refine al_nil ?_
   exact aq_join false h (fun w a hm hs => norm hm hs [] [] [(27, (bool false))] (by decide) ⟨rfl, trivial⟩)
def f_lumref_rest_L5 (kk2 : (Int → Option Int)) : Nat → Int → Int → Option Int
  | 0, _, _ => none
  | k4 + 1, l3i0, l3i3 => (bif (decide (l3i3 ≥ (31 : Int))) then (lt (fun (j7i0 : Int) => (f_lumref_rest_L5 kk2 k4 j7i0 (IntKind.i64.wrap (l3i3 - (1 : Int))))) fun (kk8 : Int → Option Int) => (req (0 ≤ l3i3) (bif ((bits .and .u64 ((l3i0).fdiv (2 ^ min (l3i3).toNat (IntKind.bits .u64))) (1 : Int)) == (1 : Int)) then (req (0 ≤ (IntKind.i64.wrap (l3i3 - (31 : Int)))) (kk8 (bits .xor .u64 l3i0 (IntKind.u64.wrap ((2147483657 : Int) * 2 ^ min ((IntKind.i64.wrap (l3i3 - (31 : Int)))).toNat (IntKind.bits .u64)))))) else (kk8 l3i0)))) else (kk2 l3i0))
def f_lumref_rest (fu : Nat) (a0 : Int) : Option Int := (lt (fun (j1i0 : Int) => (some (IntKind.u32.wrap j1i0))) fun (kk2 : Int → Option Int) => (f_lumref_rest_L5 kk2 fu a0 (63 : Int)))
set_option maxHeartbeats 2000000 in
set_option maxRecDepth 100000 in
theorem f_lumref_rest_ok (fu : Nat) (a0 : Int) {r : Int} (h : f_lumref_rest fu a0 = some r) : FnOk Try.prog 137 [(int .u64 a0)] [] [] (fun (i : Unit) => { val := (int .u32 r) }) := by
 unfold f_lumref_rest at h
 refine fn_enter Try.func137 rfl Try.ntmps137 rfl (fun w0 Z0 => ?_)
 refine aw_sr ?_
 refine al_as rfl rfl ?_
 refine al_nt ?_
 obtain ⟨kk2, hkk2, h⟩ := lt_some h
 refine aw_seq_join (ι := Int) (fun i => (memOf w0 Z0 [] [] [])) (fun i => (tab [(0, (uq i))])) (fun i => kk2 i = some r) ?_ ?_
 ·rintro j1i0 h
  have h : kk2 j1i0 = some r := h
  rw [hkk2] at h
  dsimp only at h
  clear hkk2
  refine aw_show (m := (memOf w0 Z0 [] [] [])) (S := (tab [(0, (uq j1i0))])) ?_
  refine aw_sr ?_
  refine al_mv rfl rfl ?_
  refine al_val (ov_convInt (by rw [Try.underlying198]; rfl) Try.underlying190 rfl rfl) ?_
  refine al_as rfl rfl ?_
  refine al_nt ?_
  refine aw_ret ?_
  obtain rfl := Option.some.inj h
  exact fn_ret () [] [] rfl rfl rfl rfl (res1 rfl rfl) rfl rfl rfl (by decide)
 ·clear hkk2
  refine aw_sr ?_
  refine al_as rfl rfl ?_
  refine al_nt ?_
  refine aw_block ?_
  refine aw_state (aw_loop (ι := Int × Int) (fun i => (memOf w0 Z0 [] [] [])) (fun i => (tab [(0, (uq i.1)), (3, (iq i.2))])) (fun q i => f_lumref_rest_L5 kk2 q i.1 i.2 = some r) ?_ fu (a0, (63 : Int)) h) (fun w a hm hs => norm hm hs [] [] [(0, (uq a0)), (3, (iq (63 : Int)))] (by decide) ⟨rfl, rfl, trivial⟩)
  clear h
  rintro k4 ⟨l3i0, l3i3⟩ h
  have h : f_lumref_rest_L5 kk2 k4 l3i0 l3i3 = some r := h
  obtain _ | k4 := k4
  · rw [f_lumref_rest_L5] at h; cases h
  rw [f_lumref_rest_L5] at h
  refine aw_show (m := (memOf w0 Z0 [] [] [])) (S := (tab [(0, (uq l3i0)), (3, (iq l3i3))])) ?_
  refine aw_seq ?_
  refine aw_sr ?_
  refine al_mv rfl rfl ?_
  refine al_in rfl rfl rfl rfl ?_
  refine al_nt ?_
  refine aw_cond rfl (fun hb6 => ?_) (fun hb6 => ?_)
  ·replace h := bif_t hb6 h
   refine aw_skip ?_
   refine aq_then ?_
   obtain ⟨kk8, hkk8, h⟩ := lt_some h
   refine aw_seq_join (ι := Int) (fun i => (memOf w0 Z0 [] [] [])) (fun i => (tab [(0, (uq i)), (3, (iq l3i3))])) (fun i => kk8 i = some r) ?_ ?_
   ·rintro j7i0 h
    have h : kk8 j7i0 = some r := h
    rw [hkk8] at h
    dsimp only at h
    clear hkk8
    refine aw_show (m := (memOf w0 Z0 [] [] [])) (S := (tab [(0, (uq j7i0)), (3, (iq l3i3))])) ?_
    refine aw_region ?_
    refine al_mv rfl rfl ?_
    refine al_in rfl rfl rfl rfl ?_
    refine al_as rfl rfl ?_
    refine al_nil ?_
    exact aq_again k4 (j7i0, (wq (l3i3 - (1 : Int)))) (Nat.lt_succ_self _) h (fun w a hm hs => norm hm hs [] [] [(0, (uq j7i0)), (3, (iq (wq (l3i3 - (1 : Int)))))] (by decide) ⟨rfl, rfl, trivial⟩)
   ·clear hkk8
    refine aw_block ?_
    refine aw_sr ?_
    refine al_mv rfl rfl ?_
    refine al_mv rfl rfl ?_
    obtain ⟨hc9, h⟩ := req_some h
    refine al_val (ov_shr hc9 rfl rfl rfl) ?_
    refine al_in rfl rfl rfl rfl ?_
    refine al_in rfl rfl rfl rfl ?_
    refine al_nt ?_
    refine aw_cond rfl (fun hb10 => ?_) (fun hb10 => ?_)
    ·replace h := bif_t hb10 h
     refine aw_region ?_
     refine al_mv rfl rfl ?_
     refine al_mv rfl rfl ?_
     refine al_in rfl rfl rfl rfl ?_
     obtain ⟨hc11, h⟩ := req_some h
     refine al_val (ov_shl hc11 rfl rfl rfl) ?_
     refine al_in rfl rfl rfl rfl ?_
     refine al_as rfl rfl ?_
     refine al_nil ?_
     refine aq_block ?_
     exact aq_join (bits .xor .u64 l3i0 (wu ((2147483657 : Int) * 2 ^ min ((wq (l3i3 - (31 : Int)))).toNat (IntKind.bits .u64)))) h (fun w a hm hs => norm hm hs [] [] [(0, (uq (bits .xor .u64 l3i0 (wu ((2147483657 : Int) * 2 ^ min ((wq (l3i3 - (31 : Int)))).toNat (IntKind.bits .u64)))))), (3, (iq l3i3))] (by decide) ⟨rfl, rfl, trivial⟩)
    ·replace h := bif_f hb10 h
     refine aw_skip ?_
     refine aq_block ?_
     exact aq_join l3i0 h (fun w a hm hs => norm hm hs [] [] [(0, (uq l3i0)), (3, (iq l3i3))] (by decide) ⟨rfl, rfl, trivial⟩)
  ·replace h := bif_f hb6 h
   refine aw_exit ?_
   refine aq_then_exit ?_
   refine aq_then_exit ?_
   refine aq_block_exit ?_
   exact aq_join l3i0 h (fun w a hm hs => norm hm hs [] [] [(0, (uq l3i0))] (by decide) ⟨rfl, trivial⟩)
def f_lumref_Of_L9 (j1s0 : (List UInt8)) (kk4 : (Int → Option Int)) (fu : Nat) : Nat → Int → Int → Option Int
  | 0, _, _ => none
  | k8 + 1, l7i3, l7i17 => (bif (decide (l7i17 < (j1s0.length : Int))) then (opt (at? j1s0 l7i17) fun (u11 : UInt8) => (opt (f_lumref_rest fu (bits .xor .u64 (IntKind.u64.wrap ((IntKind.u64.wrap l7i3) * 2 ^ min ((8 : Int)).toNat (IntKind.bits .u64))) (IntKind.u64.wrap (u11.toNat : Int)))) fun (r15 : Int) => (f_lumref_Of_L9 j1s0 kk4 fu k8 r15 (IntKind.i64.wrap (l7i17 + (1 : Int)))))) else (kk4 l7i3))
def f_lumref_Of (fu : Nat) (a0 : (List UInt8)) : Option Int := (lt (fun (j1s0 : (List UInt8)) => (lt (fun (j3i3 : Int) => (some j3i3)) fun (kk4 : Int → Option Int) => (req (j1s0.length ≤ 9223372036854775807) (f_lumref_Of_L9 j1s0 kk4 fu fu (0 : Int) (0 : Int))))) fun (kk2 : (List UInt8) → Option Int) => (bif (decide ((a0.length : Int) > (16 : Int))) then (req (0 ≤ (IntKind.i64.wrap ((a0.length : Int) - (16 : Int))) ∧ (IntKind.i64.wrap ((a0.length : Int) - (16 : Int))) ≤ (a0.length : Int)) (kk2 (a0.drop ((IntKind.i64.wrap ((a0.length : Int) - (16 : Int)))).toNat))) else (kk2 a0)))
set_option maxHeartbeats 2000000 in
set_option maxRecDepth 100000 in
theorem f_lumref_Of_ok (fu : Nat) (a0 : (List UInt8)) {r : Int} (h : f_lumref_Of fu a0 = some r) : FnOk Try.prog 125 [(str a0)] [] [] (fun (i : Unit) => { val := (int .u32 r) }) := by
 unfold f_lumref_Of at h
 refine fn_enter Try.func125 rfl Try.ntmps125 rfl (fun w0 Z0 => ?_)
 refine aw_sr ?_
 refine al_as rfl rfl ?_
 refine al_nt ?_
 obtain ⟨kk2, hkk2, h⟩ := lt_some h
 refine aw_seq_join (ι := (List UInt8)) (fun i => (memOf w0 Z0 [] [] [])) (fun i => (tab [(0, (str i))])) (fun i => kk2 i = some r) ?_ ?_
 ·rintro j1s0 h
  have h : kk2 j1s0 = some r := h
  rw [hkk2] at h
  dsimp only at h
  clear hkk2
  refine aw_show (m := (memOf w0 Z0 [] [] [])) (S := (tab [(0, (str j1s0))])) ?_
  refine aw_sr ?_
  refine al_as rfl rfl ?_
  refine al_nt ?_
  obtain ⟨kk4, hkk4, h⟩ := lt_some h
  refine aw_seq_join (ι := Int) (fun i => (memOf w0 Z0 [] [] [])) (fun i => (tab [(3, (int .u32 i))])) (fun i => kk4 i = some r) ?_ ?_
  ·rintro j3i3 h
   have h : kk4 j3i3 = some r := h
   rw [hkk4] at h
   dsimp only at h
   clear hkk4
   refine aw_show (m := (memOf w0 Z0 [] [] [])) (S := (tab [(3, (int .u32 j3i3))])) ?_
   refine aw_sr ?_
   refine al_mv rfl rfl ?_
   refine al_as rfl rfl ?_
   refine al_nt ?_
   refine aw_ret ?_
   obtain rfl := Option.some.inj h
   exact fn_ret () [] [] rfl rfl rfl rfl (res1 rfl rfl) rfl rfl rfl (by decide)
  ·clear hkk4
   refine aw_sr ?_
   refine al_mv rfl rfl ?_
   obtain ⟨hc5, h⟩ := req_some h
   refine al_bytes hc5 rfl Try.underlying9 Try.underlying94 Try.underlying5 rfl (fun s6 => ?_)
   refine al_val (ov_lenD 0 rfl rfl Try.underlying94 rfl) ?_
   refine al_mv rfl rfl ?_
   refine al_nt ?_
   refine aw_block ?_
   refine aw_state (aw_loop (ι := Int × Int) (fun i => (memOf w0 Z0 [] [] [(fDat (tyList tyU8) [s6] j1s0)])) (fun i => (tab [(3, (int .u32 i.1)), (15, s6), (16, (iq (j1s0.length : Int))), (17, (iq i.2))])) (fun q i => f_lumref_Of_L9 j1s0 kk4 fu q i.1 i.2 = some r) ?_ fu ((0 : Int), (0 : Int)) h) (fun w a hm hs => norm hm hs [] [0] [(3, (int .u32 (0 : Int))), (15, s6), (16, (iq (j1s0.length : Int))), (17, (iq (0 : Int)))] (by decide) ⟨rfl, rfl, rfl, rfl, trivial⟩)
   clear h
   rintro k8 ⟨l7i3, l7i17⟩ h
   have h : f_lumref_Of_L9 j1s0 kk4 fu k8 l7i3 l7i17 = some r := h
   obtain _ | k8 := k8
   · rw [f_lumref_Of_L9] at h; cases h
   rw [f_lumref_Of_L9] at h
   refine aw_show (m := (memOf w0 Z0 [] [] [(fDat (tyList tyU8) [s6] j1s0)])) (S := (tab [(3, (int .u32 l7i3)), (15, s6), (16, (iq (j1s0.length : Int))), (17, (iq l7i17))])) ?_
   refine aw_sr ?_
   refine al_in rfl rfl rfl rfl ?_
   refine al_nt ?_
   refine aw_seq ?_
   refine aw_cond rfl (fun hb10 => ?_) (fun hb10 => ?_)
   ·replace h := bif_t hb10 h
    refine aw_skip ?_
    refine aq_then ?_
    refine aw_seq ?_
    refine aw_block ?_
    refine aw_sr ?_
    obtain ⟨u11, hu12, h⟩ := opt_some h
    refine al_idxD 0 hu12 rfl rfl rfl Try.underlying94 sz5 rfl (fun p13 => ?_)
    refine al_val (ov_loadP (ds := [(i8 (u11.toNat : Int))]) 0 rfl (fun h => h) rfl Try.underlying5 sz5 rfl rfl rfl) ?_
    refine al_as rfl rfl ?_
    refine al_nt ?_
    refine aw_region ?_
    refine al_mv rfl rfl ?_
    refine al_val (ov_convInt (by rw [Try.underlying190]; rfl) Try.underlying198 rfl rfl) ?_
    refine al_val (ov_shl (by decide) rfl rfl rfl) ?_
    refine al_mv rfl rfl ?_
    refine al_val (ov_convInt (by rw [Try.underlying5]; rfl) Try.underlying198 rfl rfl) ?_
    refine al_in rfl rfl rfl rfl ?_
    obtain ⟨r15, hc14, h⟩ := opt_some h
    refine al_call (vs := [(uq (bits .xor .u64 (wu ((wu l7i3) * 2 ^ min ((8 : Int)).toNat (IntKind.bits .u64))) (wu (u11.toNat : Int))))]) (f_lumref_rest_ok fu (bits .xor .u64 (wu ((wu l7i3) * 2 ^ min ((8 : Int)).toNat (IntKind.bits .u64))) (wu (u11.toNat : Int))) hc14) [] [] [] pre_nil rfl (by simp) (by decide) (.inl rfl) rfl Try.func137 rfl rfl rfl (fun _ => ?_)
    refine al_as rfl rfl ?_
    refine al_nil ?_
    refine aq_block ?_
    refine aq_then ?_
    refine aw_region ?_
    refine al_in rfl rfl rfl rfl ?_
    refine al_mv rfl rfl ?_
    refine al_nil ?_
    exact aq_again k8 (r15, (wq (l7i17 + (1 : Int)))) (Nat.lt_succ_self _) h (fun w a hm hs => norm hm hs [] [1] [(3, (int .u32 r15)), (15, s6), (16, (iq (j1s0.length : Int))), (17, (iq (wq (l7i17 + (1 : Int)))))] (by decide) ⟨rfl, rfl, rfl, rfl, trivial⟩)
   ·replace h := bif_f hb10 h
    refine aw_exit ?_
    refine aq_then_exit ?_
    refine aq_then_exit ?_
    refine aq_block_exit ?_
    exact aq_join l7i3 h (fun w a hm hs => norm hm hs [] [] [(3, (int .u32 l7i3))] (by decide) ⟨rfl, trivial⟩)
 ·clear hkk2
  refine aw_sr ?_
  refine al_mv rfl rfl ?_
  refine al_val (ov_strLen Try.underlying9 rfl rfl) ?_
  refine al_in rfl rfl rfl rfl ?_
  refine al_nt ?_
  refine aw_cond rfl (fun hb16 => ?_) (fun hb16 => ?_)
  ·replace h := bif_t hb16 h
   refine aw_region ?_
   refine al_mv rfl rfl ?_
   refine al_mv rfl rfl ?_
   refine al_val (ov_strLen Try.underlying9 rfl rfl) ?_
   refine al_in rfl rfl rfl rfl ?_
   obtain ⟨hc17, h⟩ := req_some h
   refine al_val (ov_strFrom hc17.1 hc17.2 Try.underlying9 rfl rfl rfl) ?_
   refine al_as rfl rfl ?_
   refine al_nil ?_
   exact aq_join (a0.drop ((wq ((a0.length : Int) - (16 : Int)))).toNat) h (fun w a hm hs => norm hm hs [] [] [(0, (str (a0.drop ((wq ((a0.length : Int) - (16 : Int)))).toNat)))] (by decide) ⟨rfl, trivial⟩)
  ·replace h := bif_f hb16 h
   refine aw_skip ?_
   exact aq_join a0 h (fun w a hm hs => norm hm hs [] [] [(0, (str a0))] (by decide) ⟨rfl, trivial⟩)
def f_lumref_ends (fu : Nat) (a0 : S_api_Cut) (a1 : (List UInt8)) : Option Bool := (lt (fun (j2b4 : Bool) => (some j2b4)) fun (kk3 : Bool → Option Bool) => (bif ((a1.length : Int) == a0.Max) then (kk3 true) else (bif (decide ((a1.length : Int) ≥ a0.Min)) then (opt (f_lumref_Of fu a1) fun (r7 : Int) => (req (0 ≤ a0.Bits) (req ((IntKind.u32.wrap ((1 : Int) * 2 ^ min (a0.Bits).toNat (IntKind.bits .u32))) ≠ 0) (kk3 (((r7).tmod (IntKind.u32.wrap ((1 : Int) * 2 ^ min (a0.Bits).toNat (IntKind.bits .u32)))) == (0 : Int)))))) else (kk3 false))))
set_option maxHeartbeats 2000000 in
set_option maxRecDepth 100000 in
theorem f_lumref_ends_ok (fu : Nat) (a0 : S_api_Cut) (a1 : (List UInt8)) {r : Bool} (h : f_lumref_ends fu a0 a1 = some r) : FnOk Try.prog 96 [(ag [(int .i64 a0.Min), (int .i64 a0.Max), (int .i64 a0.Bits)]), (str a1)] [] [] (fun (i : Unit) => { val := (bool r) }) := by
 unfold f_lumref_ends at h
 refine fn_enter Try.func96 rfl Try.ntmps96 rfl (fun w0 Z0 => ?_)
 refine aw_sr ?_
 refine al_box (vs := [(iq a0.Min), (iq a0.Max), (iq a0.Bits)]) rfl (cv_rfl rfl) rfl (fun g1 => ?_)
 refine al_as rfl rfl ?_
 refine al_nt ?_
 obtain ⟨kk3, hkk3, h⟩ := lt_some h
 refine aw_seq_join (ι := Bool) (fun i => (memOf w0 Z0 [] [] [])) (fun i => (tab [(4, (bool i))])) (fun i => kk3 i = some r) ?_ ?_
 ·rintro j2b4 h
  have h : kk3 j2b4 = some r := h
  rw [hkk3] at h
  dsimp only at h
  clear hkk3
  refine aw_show (m := (memOf w0 Z0 [] [] [])) (S := (tab [(4, (bool j2b4))])) ?_
  refine aw_ret ?_
  obtain rfl := Option.some.inj h
  exact fn_ret () [] [] rfl rfl rfl rfl (res1 rfl rfl) rfl rfl rfl (by decide)
 ·clear hkk3
  rcases Bool.eq_false_or_eq_true ((a1.length : Int) == a0.Max) with hb4 | hb4
  ·replace h := bif_t hb4 h
   refine aw_region_draw 21 [(5, (fun u => fEq u (str a1))), (6, (fun u => fEq u (iq (a1.length : Int)))), (7, (fun u => fEq u (ptr g1 1))), (8, (fun u => fEq u (iq a0.Max))), (9, (fun u => fEq u (bool true))), (10, (fun u => fEq u (bool true))), (11, (fun u => fEq u undef)), (12, (fun u => fEq u undef)), (13, (fun u => fEq u undef)), (14, (fun u => fEq u undef)), (15, (fun u => fEq u undef)), (16, (fun u => fEq u undef)), (17, (fun u => fEq u undef)), (18, (fun u => fEq u undef)), (19, (fun u => fEq u undef)), (20, (fun u => fEq u undef)), (21, (fun u => fEq u undef)), (22, (fun u => fEq u undef)), (23, (fun u => fEq u undef)), (24, (fun u => fEq u undef)), (25, (fun u => fEq u (bool true)))] (tab [(1, (str a1)), (2, (pq g1)), (4, (bool false))]) mixed (by kernel_rfl) rfl rfl rfl (fun a hs => hs.tab _ (allT_mem ⟨rfl, rfl, rfl, trivial⟩)) ⟨⟨rfl, ld_val (ov_move rfl rfl)⟩, ⟨rfl, ld_eq (j := 0) rfl rfl (ld_val (ov_strLen Try.underlying9 rfl rfl))⟩, ⟨rfl, ld_val (ov_fieldA (p := 1) rfl Try.underlying35 rfl sz3 rfl rfl rfl)⟩, ⟨rfl, ld_eq (j := 2) rfl rfl (ld_val (ov_load (i := 0) (v := (iq a0.Max)) rfl rfl Try.underlying3 sz3 rfl rfl rfl rfl))⟩, ⟨rfl, ld_eq (j := 1) rfl rfl (ld_eq (j := 3) rfl rfl (ld_val (ov_cast (by first | rw [hb4] | rfl) (ov_int rfl rfl rfl rfl))))⟩, ⟨rfl, ld_eq (j := 4) rfl rfl (ld_val (ov_cast (by first | rw [hb4] | rfl) (ov_move rfl rfl)))⟩, ⟨rfl, ld_eq (j := 5) rfl rfl (ld_skip)⟩, ⟨rfl, ld_eq (j := 5) rfl rfl (ld_skip)⟩, ⟨rfl, ld_eq (j := 5) rfl rfl (ld_skip)⟩, ⟨rfl, ld_eq (j := 5) rfl rfl (ld_skip)⟩, ⟨rfl, ld_eq (j := 5) rfl rfl (ld_skip)⟩, ⟨rfl, ld_eq (j := 5) rfl rfl (ld_skip)⟩, ⟨rfl, ld_eq (j := 11) rfl rfl (ld_skip)⟩, ⟨rfl, ld_eq (j := 11) rfl rfl (ld_skip)⟩, ⟨rfl, ld_eq (j := 11) rfl rfl (ld_skip)⟩, ⟨rfl, ld_eq (j := 11) rfl rfl (ld_skip)⟩, ⟨rfl, ld_eq (j := 11) rfl rfl (ld_skip)⟩, ⟨rfl, ld_eq (j := 11) rfl rfl (ld_skip)⟩, ⟨rfl, ld_eq (j := 11) rfl rfl (ld_skip)⟩, ⟨rfl, ld_eq (j := 5) rfl rfl (ld_skip)⟩, ⟨rfl, ld_eq (j := 5) rfl rfl (ld_eq (j := 19) rfl rfl (ld_val (ov_pick_t rfl rfl rfl)))⟩, trivial⟩ ?_
   refine tl_eq 20 rfl ?_
   refine tl_done ?_
   refine al_as rfl rfl ?_
   refine al_nil ?_
   exact aq_join true h (fun w a hm hs => norm hm hs [] [] [(4, (bool true))] (by decide) ⟨rfl, trivial⟩)
  ·replace h := bif_f hb4 h
   rcases Bool.eq_false_or_eq_true (decide ((a1.length : Int) ≥ a0.Min)) with hb5 | hb5
   ·replace h := bif_t hb5 h
    obtain ⟨r7, hc6, h⟩ := opt_some h
    obtain ⟨hc8, h⟩ := req_some h
    obtain ⟨hc9, h⟩ := req_some h
    refine aw_region_draw 21 [(5, (fun u => fEq u (str a1))), (6, (fun u => fEq u (iq (a1.length : Int)))), (7, (fun u => fEq u (ptr g1 1))), (8, (fun u => fEq u (iq a0.Max))), (9, (fun u => fEq u (bool false))), (10, (fun u => fEq u (bool false))), (11, (fun u => fEq u (str a1))), (12, (fun u => fEq u (iq (a1.length : Int)))), (13, (fun u => fEq u (pq g1))), (14, (fun u => fEq u (iq a0.Min))), (15, (fun u => fEq u (bool true))), (16, (fun u => fEq u (bool true))), (17, (fun u => fEq u (str a1))), (18, (fun u => fEq u (int .u32 r7))), (19, (fun u => fEq u (ptr g1 2))), (20, (fun u => fEq u (iq a0.Bits))), (21, (fun u => fEq u (int .u32 (IntKind.u32.wrap ((1 : Int) * 2 ^ min (a0.Bits).toNat (IntKind.bits .u32)))))), (22, (fun u => fEq u (int .u32 ((r7).tmod (IntKind.u32.wrap ((1 : Int) * 2 ^ min (a0.Bits).toNat (IntKind.bits .u32))))))), (23, (fun u => fEq u (bool (((r7).tmod (IntKind.u32.wrap ((1 : Int) * 2 ^ min (a0.Bits).toNat (IntKind.bits .u32)))) == (0 : Int))))), (24, (fun u => fEq u (bool (((r7).tmod (IntKind.u32.wrap ((1 : Int) * 2 ^ min (a0.Bits).toNat (IntKind.bits .u32)))) == (0 : Int))))), (25, (fun u => fEq u (bool (((r7).tmod (IntKind.u32.wrap ((1 : Int) * 2 ^ min (a0.Bits).toNat (IntKind.bits .u32)))) == (0 : Int)))))] (tab [(1, (str a1)), (2, (pq g1)), (4, (bool false))]) mixed (by kernel_rfl) rfl rfl rfl (fun a hs => hs.tab _ (allT_mem ⟨rfl, rfl, rfl, trivial⟩)) ⟨⟨rfl, ld_val (ov_move rfl rfl)⟩, ⟨rfl, ld_eq (j := 0) rfl rfl (ld_val (ov_strLen Try.underlying9 rfl rfl))⟩, ⟨rfl, ld_val (ov_fieldA (p := 1) rfl Try.underlying35 rfl sz3 rfl rfl rfl)⟩, ⟨rfl, ld_eq (j := 2) rfl rfl (ld_val (ov_load (i := 0) (v := (iq a0.Max)) rfl rfl Try.underlying3 sz3 rfl rfl rfl rfl))⟩, ⟨rfl, ld_eq (j := 1) rfl rfl (ld_eq (j := 3) rfl rfl (ld_val (ov_cast (by first | rw [hb4] | rfl) (ov_int rfl rfl rfl rfl))))⟩, ⟨rfl, ld_eq (j := 4) rfl rfl (ld_val (ov_cast (by first | rw [hb4] | rfl) (ov_move rfl rfl)))⟩, ⟨rfl, ld_eq (j := 5) rfl rfl (ld_val (ov_move rfl rfl))⟩, ⟨rfl, ld_eq (j := 5) rfl rfl (ld_eq (j := 6) rfl rfl (ld_val (ov_strLen Try.underlying9 rfl rfl)))⟩, ⟨rfl, ld_eq (j := 5) rfl rfl (ld_val (ov_fieldA (p := 0) rfl Try.underlying35 rfl sz3 rfl rfl rfl))⟩, ⟨rfl, ld_eq (j := 5) rfl rfl (ld_eq (j := 8) rfl rfl (ld_val (ov_load (i := 0) (v := (iq a0.Min)) rfl rfl Try.underlying3 sz3 rfl rfl rfl rfl)))⟩, ⟨rfl, ld_eq (j := 5) rfl rfl (ld_eq (j := 7) rfl rfl (ld_eq (j := 9) rfl rfl (ld_val (ov_cast (by first | rw [hb5] | rfl) (ov_int rfl rfl rfl rfl)))))⟩, ⟨rfl, ld_eq (j := 5) rfl rfl (ld_eq (j := 10) rfl rfl (ld_val (ov_cast (by first | rw [hb5] | rfl) (ov_move rfl rfl))))⟩, ⟨rfl, ld_eq (j := 11) rfl rfl (ld_val (ov_move rfl rfl))⟩, ⟨rfl, ld_eq (j := 11) rfl rfl (ld_eq (j := 12) rfl rfl (ld_callV (vs := [(str a1)]) (f_lumref_Of_ok fu a1 hc6) [] pre_nil rfl Try.func125 rfl rfl rfl))⟩, ⟨rfl, ld_eq (j := 11) rfl rfl (ld_val (ov_fieldA (p := 2) rfl Try.underlying35 rfl sz3 rfl rfl rfl))⟩, ⟨rfl, ld_eq (j := 11) rfl rfl (ld_eq (j := 14) rfl rfl (ld_val (ov_load (i := 0) (v := (iq a0.Bits)) rfl rfl Try.underlying3 sz3 rfl rfl rfl rfl)))⟩, ⟨rfl, ld_eq (j := 11) rfl rfl (ld_eq (j := 15) rfl rfl (ld_val (ov_shl hc8 rfl rfl rfl)))⟩, ⟨rfl, ld_eq (j := 11) rfl rfl (ld_eq (j := 13) rfl rfl (ld_eq (j := 16) rfl rfl (ld_val (ov_rem hc9 rfl rfl rfl))))⟩, ⟨rfl, ld_eq (j := 11) rfl rfl (ld_eq (j := 17) rfl rfl (ld_val (ov_int rfl rfl rfl rfl)))⟩, ⟨rfl, ld_eq (j := 5) rfl rfl (ld_eq (j := 11) rfl rfl (ld_eq (j := 18) rfl rfl (ld_val (ov_pick_t rfl rfl rfl))))⟩, ⟨rfl, ld_eq (j := 5) rfl rfl (ld_eq (j := 19) rfl rfl (ld_val (ov_pick_f rfl rfl rfl)))⟩, trivial⟩ ?_
    refine tl_eq 20 rfl ?_
    refine tl_done ?_
    refine al_as rfl rfl ?_
    refine al_nil ?_
    exact aq_join (((r7).tmod (IntKind.u32.wrap ((1 : Int) * 2 ^ min (a0.Bits).toNat (IntKind.bits .u32)))) == (0 : Int)) h (fun w a hm hs => norm hm hs [] [] [(4, (bool (((r7).tmod (IntKind.u32.wrap ((1 : Int) * 2 ^ min (a0.Bits).toNat (IntKind.bits .u32)))) == (0 : Int))))] (by decide) ⟨rfl, trivial⟩)
   ·replace h := bif_f hb5 h
    refine aw_region_draw 21 [(5, (fun u => fEq u (str a1))), (6, (fun u => fEq u (iq (a1.length : Int)))), (7, (fun u => fEq u (ptr g1 1))), (8, (fun u => fEq u (iq a0.Max))), (9, (fun u => fEq u (bool false))), (10, (fun u => fEq u (bool false))), (11, (fun u => fEq u (str a1))), (12, (fun u => fEq u (iq (a1.length : Int)))), (13, (fun u => fEq u (pq g1))), (14, (fun u => fEq u (iq a0.Min))), (15, (fun u => fEq u (bool false))), (16, (fun u => fEq u (bool false))), (17, (fun u => fEq u undef)), (18, (fun u => fEq u undef)), (19, (fun u => fEq u undef)), (20, (fun u => fEq u undef)), (21, (fun u => fEq u undef)), (22, (fun u => fEq u undef)), (23, (fun u => fEq u undef)), (24, (fun u => fEq u (bool false))), (25, (fun u => fEq u (bool false)))] (tab [(1, (str a1)), (2, (pq g1)), (4, (bool false))]) mixed (by kernel_rfl) rfl rfl rfl (fun a hs => hs.tab _ (allT_mem ⟨rfl, rfl, rfl, trivial⟩)) ⟨⟨rfl, ld_val (ov_move rfl rfl)⟩, ⟨rfl, ld_eq (j := 0) rfl rfl (ld_val (ov_strLen Try.underlying9 rfl rfl))⟩, ⟨rfl, ld_val (ov_fieldA (p := 1) rfl Try.underlying35 rfl sz3 rfl rfl rfl)⟩, ⟨rfl, ld_eq (j := 2) rfl rfl (ld_val (ov_load (i := 0) (v := (iq a0.Max)) rfl rfl Try.underlying3 sz3 rfl rfl rfl rfl))⟩, ⟨rfl, ld_eq (j := 1) rfl rfl (ld_eq (j := 3) rfl rfl (ld_val (ov_cast (by first | rw [hb4] | rfl) (ov_int rfl rfl rfl rfl))))⟩, ⟨rfl, ld_eq (j := 4) rfl rfl (ld_val (ov_cast (by first | rw [hb4] | rfl) (ov_move rfl rfl)))⟩, ⟨rfl, ld_eq (j := 5) rfl rfl (ld_val (ov_move rfl rfl))⟩, ⟨rfl, ld_eq (j := 5) rfl rfl (ld_eq (j := 6) rfl rfl (ld_val (ov_strLen Try.underlying9 rfl rfl)))⟩, ⟨rfl, ld_eq (j := 5) rfl rfl (ld_val (ov_fieldA (p := 0) rfl Try.underlying35 rfl sz3 rfl rfl rfl))⟩, ⟨rfl, ld_eq (j := 5) rfl rfl (ld_eq (j := 8) rfl rfl (ld_val (ov_load (i := 0) (v := (iq a0.Min)) rfl rfl Try.underlying3 sz3 rfl rfl rfl rfl)))⟩, ⟨rfl, ld_eq (j := 5) rfl rfl (ld_eq (j := 7) rfl rfl (ld_eq (j := 9) rfl rfl (ld_val (ov_cast (by first | rw [hb5] | rfl) (ov_int rfl rfl rfl rfl)))))⟩, ⟨rfl, ld_eq (j := 5) rfl rfl (ld_eq (j := 10) rfl rfl (ld_val (ov_cast (by first | rw [hb5] | rfl) (ov_move rfl rfl))))⟩, ⟨rfl, ld_eq (j := 11) rfl rfl (ld_skip)⟩, ⟨rfl, ld_eq (j := 11) rfl rfl (ld_skip)⟩, ⟨rfl, ld_eq (j := 11) rfl rfl (ld_skip)⟩, ⟨rfl, ld_eq (j := 11) rfl rfl (ld_skip)⟩, ⟨rfl, ld_eq (j := 11) rfl rfl (ld_skip)⟩, ⟨rfl, ld_eq (j := 11) rfl rfl (ld_skip)⟩, ⟨rfl, ld_eq (j := 11) rfl rfl (ld_skip)⟩, ⟨rfl, ld_eq (j := 5) rfl rfl (ld_eq (j := 11) rfl rfl (ld_eq (j := 18) rfl rfl (ld_val (ov_pick_f rfl rfl rfl))))⟩, ⟨rfl, ld_eq (j := 5) rfl rfl (ld_eq (j := 19) rfl rfl (ld_val (ov_pick_f rfl rfl rfl)))⟩, trivial⟩ ?_
    refine tl_eq 20 rfl ?_
    refine tl_done ?_
    refine al_as rfl rfl ?_
    refine al_nil ?_
    exact aq_join false h (fun w a hm hs => norm hm hs [] [] [(4, (bool false))] (by decide) ⟨rfl, trivial⟩)
def f_lumref_Pieces_L7 (a0 : S_api_Cut) (a1 : (List UInt8)) (kk3 : ((List (List UInt8)) → Int → Option ((List (List UInt8)) × (List UInt8)))) (fu : Nat) : Nat → (List (List UInt8)) → Int → Int → Option ((List (List UInt8)) × (List UInt8))
  | 0, _, _, _ => none
  | k6 + 1, l5x6, l5i7, l5i11 => (bif (decide (l5i11 < (a1.length : Int))) then (lt (fun (j9x6 : (List (List UInt8))) (j9i7 : Int) => (f_lumref_Pieces_L7 a0 a1 kk3 fu k6 j9x6 j9i7 (IntKind.i64.wrap (l5i11 + (1 : Int))))) fun (kk10 : (List (List UInt8)) → Int → Option ((List (List UInt8)) × (List UInt8))) => (req (0 ≤ l5i7 ∧ l5i7 ≤ (IntKind.i64.wrap (l5i11 + (1 : Int))) ∧ (IntKind.i64.wrap (l5i11 + (1 : Int))) ≤ (a1.length : Int)) (opt (f_lumref_ends fu a0 (cut a1 l5i7 (IntKind.i64.wrap (l5i11 + (1 : Int))))) fun (r13 : Bool) => (bif r13 then (req (0 ≤ l5i7 ∧ l5i7 ≤ (IntKind.i64.wrap (l5i11 + (1 : Int))) ∧ (IntKind.i64.wrap (l5i11 + (1 : Int))) ≤ (a1.length : Int)) (req (((l5x6.length + ([(cut a1 l5i7 (IntKind.i64.wrap (l5i11 + (1 : Int))))]).length) * 16 : Nat) ≤ 140737488355328 ∧ l5x6.length + ([(cut a1 l5i7 (IntKind.i64.wrap (l5i11 + (1 : Int))))]).length ≤ 9223372036854775807) (kk10 (l5x6 ++ ([(cut a1 l5i7 (IntKind.i64.wrap (l5i11 + (1 : Int))))])) (IntKind.i64.wrap (l5i11 + (1 : Int)))))) else (kk10 l5x6 l5i7))))) else (kk3 l5x6 l5i7))
def f_lumref_Pieces (fu : Nat) (a0 : S_api_Cut) (a1 : (List UInt8)) : Option ((List (List UInt8)) × (List UInt8)) := (lt (fun (j2x6 : (List (List UInt8))) (j2i7 : Int) => (req (0 ≤ j2i7 ∧ j2i7 ≤ (a1.length : Int)) (some (j2x6, (a1.drop (j2i7).toNat))))) fun (kk3 : (List (List UInt8)) → Int → Option ((List (List UInt8)) × (List UInt8))) => (f_lumref_Pieces_L7 a0 a1 kk3 fu fu ([] : List (List UInt8)) (0 : Int) (0 : Int)))
set_option maxHeartbeats 2000000 in
set_option maxRecDepth 100000 in
theorem f_lumref_Pieces_ok (fu : Nat) (a0 : S_api_Cut) (a1 : (List UInt8)) {r : ((List (List UInt8)) × (List UInt8))} (h : f_lumref_Pieces fu a0 a1 = some r) : FnOk Try.prog 47 [(ag [(int .i64 a0.Min), (int .i64 a0.Max), (int .i64 a0.Bits)]), (str a1)] [] [] (fun (i : Value) => { val := (Value.tuple #[i, (str r.2)]), own := [(oRow i 9 tyStr r.1)] }) := by
 unfold f_lumref_Pieces at h
 refine fn_enter Try.func47 rfl Try.ntmps47 rfl (fun w0 Z0 => ?_)
 refine aw_sr ?_
 refine al_box (vs := [(iq a0.Min), (iq a0.Max), (iq a0.Bits)]) rfl (cv_rfl rfl) rfl (fun g1 => ?_)
 refine al_as rfl rfl ?_
 refine al_as rfl rfl ?_
 refine al_nt ?_
 refine aw_sr ?_
 refine al_as rfl rfl ?_
 refine al_nt ?_
 refine aw_sr ?_
 refine al_as rfl rfl ?_
 refine al_nt ?_
 obtain ⟨kk3, hkk3, h⟩ := lt_some h
 refine aw_seq_join (ι := Value × (List (List UInt8)) × Int) (fun i => (memOf w0 Z0 [] [(oRow i.1 9 tyStr i.2.1)] [])) (fun i => (tab [(1, (str a1)), (6, i.1), (7, (iq i.2.2))])) (fun i => kk3 i.2.1 i.2.2 = some r) ?_ ?_
 ·rintro ⟨j2v6, j2x6, j2i7⟩ h
  have h : kk3 j2x6 j2i7 = some r := h
  rw [hkk3] at h
  dsimp only at h
  clear hkk3
  refine aw_show (m := (memOf w0 Z0 [] [(oRow j2v6 9 tyStr j2x6)] [])) (S := (tab [(1, (str a1)), (6, j2v6), (7, (iq j2i7))])) ?_
  refine aw_seq ?_
  obtain ⟨hc4, h⟩ := req_some h
  refine aw_region_draw 5 [(32, (fun u => fEq u j2v6)), (33, (fun u => fEq u (str a1))), (34, (fun u => fEq u (iq j2i7))), (35, (fun u => fEq u (str (a1.drop (j2i7).toNat)))), (4, (fun u => fEq u j2v6))] (tab [(1, (str a1)), (6, j2v6), (7, (iq j2i7))]) mixed (by kernel_rfl) rfl rfl rfl (fun a hs => hs.tab _ (allT_mem ⟨rfl, rfl, rfl, trivial⟩)) ⟨⟨rfl, ld_val (ov_move rfl rfl)⟩, ⟨rfl, ld_val (ov_move rfl rfl)⟩, ⟨rfl, ld_val (ov_move rfl rfl)⟩, ⟨rfl, ld_eq (j := 1) rfl rfl (ld_eq (j := 2) rfl rfl (ld_val (ov_strFrom hc4.1 hc4.2 Try.underlying9 rfl rfl rfl)))⟩, ⟨rfl, ld_eq (j := 0) rfl rfl (ld_val (ov_assign rfl rfl))⟩, trivial⟩ ?_
  refine tl_eq 3 rfl ?_
  refine tl_eq 4 rfl ?_
  refine tl_done ?_
  refine al_as rfl rfl ?_
  refine al_nt ?_
  refine aw_ret ?_
  obtain rfl := Option.some.inj h
  exact fn_ret j2v6 [0] [] rfl rfl rfl rfl (res2 rfl rfl rfl) rfl rfl rfl (by decide)
 ·clear hkk3
  refine aw_sr ?_
  refine al_mv rfl rfl ?_
  refine al_val (ov_strLen Try.underlying9 rfl rfl) ?_
  refine al_mv rfl rfl ?_
  refine al_nt ?_
  refine aw_block ?_
  refine aw_nilR 9 tyStr ?_
  refine aw_state (aw_loop (ι := Value × (List (List UInt8)) × Int × Int) (fun i => (memOf w0 Z0 [] [(oBox g1 35 [(iq a0.Min), (iq a0.Max), (iq a0.Bits)]), (oRow i.1 9 tyStr i.2.1)] [])) (fun i => (tab [(1, (str a1)), (2, (pq g1)), (6, i.1), (7, (iq i.2.2.1)), (10, (iq (a1.length : Int))), (11, (iq i.2.2.2))])) (fun q i => f_lumref_Pieces_L7 a0 a1 kk3 fu q i.2.1 i.2.2.1 i.2.2.2 = some r) ?_ fu (nS, ([] : List (List UInt8)), (0 : Int), (0 : Int)) h) (fun w a hm hs => norm hm hs [1, 0] [] [(1, (str a1)), (2, (pq g1)), (6, nS), (7, (iq (0 : Int))), (10, (iq (a1.length : Int))), (11, (iq (0 : Int)))] (by decide) ⟨rfl, rfl, rfl, rfl, rfl, rfl, trivial⟩)
  clear h
  rintro k6 ⟨l5v6, l5x6, l5i7, l5i11⟩ h
  have h : f_lumref_Pieces_L7 a0 a1 kk3 fu k6 l5x6 l5i7 l5i11 = some r := h
  obtain _ | k6 := k6
  · rw [f_lumref_Pieces_L7] at h; cases h
  rw [f_lumref_Pieces_L7] at h
  refine aw_show (m := (memOf w0 Z0 [] [(oBox g1 35 [(iq a0.Min), (iq a0.Max), (iq a0.Bits)]), (oRow l5v6 9 tyStr l5x6)] [])) (S := (tab [(1, (str a1)), (2, (pq g1)), (6, l5v6), (7, (iq l5i7)), (10, (iq (a1.length : Int))), (11, (iq l5i11))])) ?_
  refine aw_sr ?_
  refine al_in rfl rfl rfl rfl ?_
  refine al_nt ?_
  refine aw_seq ?_
  refine aw_cond rfl (fun hb8 => ?_) (fun hb8 => ?_)
  ·replace h := bif_t hb8 h
   refine aw_skip ?_
   refine aq_then ?_
   obtain ⟨kk10, hkk10, h⟩ := lt_some h
   refine aw_seq_join (ι := Value × (List (List UInt8)) × Int) (fun i => (memOf w0 Z0 [] [(oBox g1 35 [(iq a0.Min), (iq a0.Max), (iq a0.Bits)]), (oRow i.1 9 tyStr i.2.1)] [])) (fun i => (tab [(1, (str a1)), (2, (pq g1)), (6, i.1), (7, (iq i.2.2)), (10, (iq (a1.length : Int))), (11, (iq l5i11))])) (fun i => kk10 i.2.1 i.2.2 = some r) ?_ ?_
   ·rintro ⟨j9v6, j9x6, j9i7⟩ h
    have h : kk10 j9x6 j9i7 = some r := h
    rw [hkk10] at h
    dsimp only at h
    clear hkk10
    refine aw_show (m := (memOf w0 Z0 [] [(oBox g1 35 [(iq a0.Min), (iq a0.Max), (iq a0.Bits)]), (oRow j9v6 9 tyStr j9x6)] [])) (S := (tab [(1, (str a1)), (2, (pq g1)), (6, j9v6), (7, (iq j9i7)), (10, (iq (a1.length : Int))), (11, (iq l5i11))])) ?_
    refine aw_region ?_
    refine al_in rfl rfl rfl rfl ?_
    refine al_mv rfl rfl ?_
    refine al_nil ?_
    exact aq_again k6 (j9v6, j9x6, j9i7, (wq (l5i11 + (1 : Int)))) (Nat.lt_succ_self _) h (fun w a hm hs => norm hm hs [0, 1] [] [(1, (str a1)), (2, (pq g1)), (6, j9v6), (7, (iq j9i7)), (10, (iq (a1.length : Int))), (11, (iq (wq (l5i11 + (1 : Int)))))] (by decide) ⟨rfl, rfl, rfl, rfl, rfl, rfl, trivial⟩)
   ·clear hkk10
    refine aw_block ?_
    refine aw_sr ?_
    refine al_mv rfl rfl ?_
    refine al_as rfl rfl ?_
    refine al_nt ?_
    refine aw_seq ?_
    obtain ⟨hc11, h⟩ := req_some h
    refine aw_region_draw 6 [(14, (fun u => fEq u (ag [(iq a0.Min), (iq a0.Max), (iq a0.Bits)]))), (15, (fun u => fEq u (str a1))), (16, (fun u => fEq u (iq l5i7))), (17, (fun u => fEq u (iq l5i11))), (18, (fun u => fEq u (iq (wq (l5i11 + (1 : Int)))))), (19, (fun u => fEq u (str (cut a1 l5i7 (wq (l5i11 + (1 : Int)))))))] (tab [(1, (str a1)), (2, (pq g1)), (6, l5v6), (7, (iq l5i7)), (8, (iq l5i11)), (10, (iq (a1.length : Int))), (11, (iq l5i11))]) mixed (by kernel_rfl) rfl rfl rfl (fun a hs => hs.tab _ (allT_mem ⟨rfl, rfl, rfl, rfl, rfl, rfl, rfl, trivial⟩)) ⟨⟨rfl, ld_val (ov_load (i := 0) (v := (ag [(iq a0.Min), (iq a0.Max), (iq a0.Bits)])) rfl rfl Try.underlying35 sz35 rfl rfl rfl rfl)⟩, ⟨rfl, ld_val (ov_move rfl rfl)⟩, ⟨rfl, ld_val (ov_move rfl rfl)⟩, ⟨rfl, ld_val (ov_move rfl rfl)⟩, ⟨rfl, ld_eq (j := 3) rfl rfl (ld_val (ov_int rfl rfl rfl rfl))⟩, ⟨rfl, ld_eq (j := 1) rfl rfl (ld_eq (j := 2) rfl rfl (ld_eq (j := 4) rfl rfl (ld_val (ov_strCut hc11.1 hc11.2.1 hc11.2.2 Try.underlying9 rfl rfl rfl rfl))))⟩, trivial⟩ ?_
    refine tl_eq 0 rfl ?_
    refine tl_eq 5 rfl ?_
    refine tl_done ?_
    obtain ⟨r13, hc12, h⟩ := opt_some h
    refine al_call (vs := [(ag [(iq a0.Min), (iq a0.Max), (iq a0.Bits)]), (str (cut a1 l5i7 (wq (l5i11 + (1 : Int)))))]) (f_lumref_ends_ok fu a0 (cut a1 l5i7 (wq (l5i11 + (1 : Int)))) hc12) [] [] [0, 1] pre_nil rfl (by simp) (by decide) (.inl rfl) rfl Try.func96 rfl rfl rfl (fun _ => ?_)
    refine al_nt ?_
    refine aw_cond rfl (fun hb14 => ?_) (fun hb14 => ?_)
    ·replace h := bif_t hb14 h
     refine aw_sr ?_
     refine al_mv rfl rfl ?_
     refine al_mv rfl rfl ?_
     refine al_mv rfl rfl ?_
     refine al_mv rfl rfl ?_
     refine al_in rfl rfl rfl rfl ?_
     obtain ⟨hc15, h⟩ := req_some h
     refine al_val (ov_strCut hc15.1 hc15.2.1 hc15.2.2 Try.underlying9 rfl rfl rfl rfl) ?_
     refine al_buildSlice (τ := tyStr) (e := 9) (k := 1) (sz := 0) (by_ := 0) (z := undef) (cs := [(str (cut a1 l5i7 (wq (l5i11 + (1 : Int)))))]) (xs := [(cut a1 l5i7 (wq (l5i11 + (1 : Int))))]) rfl (by decide) (fun w a hm hs => ⟨([(str (cut a1 l5i7 (wq (l5i11 + (1 : Int)))))]).toArray, rfl, by simp only [List.map_toArray, List.map_cons, List.map_nil, hs.ev (x := .tmp 26) rfl]; exact run_bs [(str (cut a1 l5i7 (wq (l5i11 + (1 : Int)))))] [(str (cut a1 l5i7 (wq (l5i11 + (1 : Int)))))] Try.underlying23 to9 rfl rfl (bs_cons (l := [(str (cut a1 l5i7 (wq (l5i11 + (1 : Int)))))]) (cs := []) (cv_rfl rfl) rfl bs_nil) hm⟩) (fun hm => ⟨_, _, rfl, (fun _ => rfl) hm, rfl⟩) rfl (fun v16 => ?_)
     obtain ⟨hc17, h⟩ := req_some h
     refine al_append 2 hc17.1 hc17.2 rfl (src_own (i := 2) 0 rfl) rfl rfl Try.underlying23 to9 rfl rfl rfl (fun v18 => ?_)
     refine al_as rfl rfl ?_
     refine al_nt ?_
     refine aw_region ?_
     refine al_mv rfl rfl ?_
     refine al_in rfl rfl rfl rfl ?_
     refine al_as rfl rfl ?_
     refine al_nil ?_
     refine aq_block ?_
     exact aq_join (v18, (l5x6 ++ ([(cut a1 l5i7 (wq (l5i11 + (1 : Int))))])), (wq (l5i11 + (1 : Int)))) h (fun w a hm hs => norm hm hs [1, 2] [] [(1, (str a1)), (2, (pq g1)), (6, v18), (7, (iq (wq (l5i11 + (1 : Int))))), (10, (iq (a1.length : Int))), (11, (iq l5i11))] (by decide) ⟨rfl, rfl, rfl, rfl, rfl, rfl, trivial⟩)
    ·replace h := bif_f hb14 h
     refine aw_skip ?_
     refine aq_block ?_
     exact aq_join (l5v6, l5x6, l5i7) h (fun w a hm hs => norm hm hs [0, 1] [] [(1, (str a1)), (2, (pq g1)), (6, l5v6), (7, (iq l5i7)), (10, (iq (a1.length : Int))), (11, (iq l5i11))] (by decide) ⟨rfl, rfl, rfl, rfl, rfl, rfl, trivial⟩)
  ·replace h := bif_f hb8 h
   refine aw_exit ?_
   refine aq_then_exit ?_
   refine aq_then_exit ?_
   refine aq_block_exit ?_
   exact aq_join (l5v6, l5x6, l5i7) h (fun w a hm hs => norm hm hs [1] [] [(1, (str a1)), (6, l5v6), (7, (iq l5i7))] (by decide) ⟨rfl, rfl, rfl, trivial⟩)
def f_lumref_Cut (fu : Nat) (a0 : S_api_Cut) (a1 : (List UInt8)) : Option ((List (List UInt8)) × Int) := (opt (f_lumref_CutOK fu a0) fun (r3 : Int) => (bif (r3 != (0 : Int)) then (some (([] : List (List UInt8)), (1 : Int))) else (bif (decide ((a1.length : Int) > (4096 : Int))) then (some (([] : List (List UInt8)), (2 : Int))) else (opt (f_lumref_Pieces fu a0 a1) fun (r7 : ((List (List UInt8)) × (List UInt8))) => (lt (fun (j9x6 : (List (List UInt8))) => (some (j9x6, (0 : Int)))) fun (kk10 : (List (List UInt8)) → Option ((List (List UInt8)) × Int)) => (bif (!(r7.2 == ([] : List UInt8))) then (req (((r7.1.length + ([r7.2]).length) * 16 : Nat) ≤ 140737488355328 ∧ r7.1.length + ([r7.2]).length ≤ 9223372036854775807) (kk10 (r7.1 ++ ([r7.2])))) else (kk10 r7.1)))))))
set_option maxHeartbeats 2000000 in
set_option maxRecDepth 100000 in
theorem f_lumref_Cut_ok (fu : Nat) (a0 : S_api_Cut) (a1 : (List UInt8)) {r : ((List (List UInt8)) × Int)} (h : f_lumref_Cut fu a0 a1 = some r) : FnOk Try.prog 14 [(ag [(int .i64 a0.Min), (int .i64 a0.Max), (int .i64 a0.Bits)]), (str a1)] [] [] (fun (i : Value) => { val := (Value.tuple #[i, (int .i64 r.2)]), own := [(oRow i 9 tyStr r.1)] }) := by
 unfold f_lumref_Cut at h
 refine fn_enter Try.func14 rfl Try.ntmps14 rfl (fun w0 Z0 => ?_)
 refine aw_sr ?_
 refine al_box (vs := [(iq a0.Min), (iq a0.Max), (iq a0.Bits)]) rfl (cv_rfl rfl) rfl (fun g1 => ?_)
 refine al_as rfl rfl ?_
 refine al_as rfl rfl ?_
 refine al_nt ?_
 refine aw_seq ?_
 refine aw_sr ?_
 refine al_val (ov_load (i := 0) (v := (ag [(iq a0.Min), (iq a0.Max), (iq a0.Bits)])) rfl rfl Try.underlying35 sz35 rfl rfl rfl rfl) ?_
 obtain ⟨r3, hc2, h⟩ := opt_some h
 refine al_call (vs := [(ag [(iq a0.Min), (iq a0.Max), (iq a0.Bits)])]) (f_lumref_CutOK_ok fu a0 hc2) [] [] [0] pre_nil rfl (by simp) (by decide) (.inl rfl) rfl Try.func46 rfl rfl rfl (fun _ => ?_)
 refine al_in rfl rfl rfl rfl ?_
 refine al_nt ?_
 refine aw_cond rfl (fun hb4 => ?_) (fun hb4 => ?_)
 ·replace h := bif_t hb4 h
  refine aw_sr ?_
  refine al_as rfl rfl ?_
  refine al_as rfl rfl ?_
  refine al_nt ?_
  refine aw_ret ?_
  refine aq_then_ret ?_
  refine aq_nilR 9 tyStr ?_
  obtain rfl := Option.some.inj h
  exact fn_ret nS [0] [] rfl rfl rfl rfl (res2 rfl rfl rfl) rfl rfl rfl (by decide)
 ·replace h := bif_f hb4 h
  refine aw_skip ?_
  refine aq_then ?_
  refine aw_seq ?_
  refine aw_sr ?_
  refine al_mv rfl rfl ?_
  refine al_val (ov_strLen Try.underlying9 rfl rfl) ?_
  refine al_in rfl rfl rfl rfl ?_
  refine al_nt ?_
  refine aw_cond rfl (fun hb5 => ?_) (fun hb5 => ?_)
  ·replace h := bif_t hb5 h
   refine aw_sr ?_
   refine al_as rfl rfl ?_
   refine al_as rfl rfl ?_
   refine al_nt ?_
   refine aw_ret ?_
   refine aq_then_ret ?_
   refine aq_nilR 9 tyStr ?_
   obtain rfl := Option.some.inj h
   exact fn_ret nS [0] [] rfl rfl rfl rfl (res2 rfl rfl rfl) rfl rfl rfl (by decide)
  ·replace h := bif_f hb5 h
   refine aw_skip ?_
   refine aq_tr ?_
   refine al_val (ov_load (i := 0) (v := (ag [(iq a0.Min), (iq a0.Max), (iq a0.Bits)])) rfl rfl Try.underlying35 sz35 rfl rfl rfl rfl) ?_
   refine al_mv rfl rfl ?_
   obtain ⟨r7, hc6, h⟩ := opt_some h
   refine al_call (vs := [(ag [(iq a0.Min), (iq a0.Max), (iq a0.Bits)]), (str a1)]) (f_lumref_Pieces_ok fu a0 a1 hc6) [] [] [0] pre_nil rfl (by simp) (by decide) (.inl rfl) rfl Try.func47 rfl rfl rfl (fun v8 => ?_)
   refine al_mv rfl rfl ?_
   refine al_ex rfl rfl rfl ?_
   refine al_ex rfl rfl rfl ?_
   refine al_as rfl rfl ?_
   refine al_as rfl rfl ?_
   refine al_nt ?_
   obtain ⟨kk10, hkk10, h⟩ := lt_some h
   refine aw_seq_join (ι := Value × (List (List UInt8))) (fun i => (memOf w0 Z0 [] [(oRow i.1 9 tyStr i.2)] [])) (fun i => (tab [(6, i.1)])) (fun i => kk10 i.2 = some r) ?_ ?_
   ·rintro ⟨j9v6, j9x6⟩ h
    have h : kk10 j9x6 = some r := h
    rw [hkk10] at h
    dsimp only at h
    clear hkk10
    refine aw_show (m := (memOf w0 Z0 [] [(oRow j9v6 9 tyStr j9x6)] [])) (S := (tab [(6, j9v6)])) ?_
    refine aw_sr ?_
    refine al_mv rfl rfl ?_
    refine al_as rfl rfl ?_
    refine al_as rfl rfl ?_
    refine al_nt ?_
    refine aw_ret ?_
    obtain rfl := Option.some.inj h
    exact fn_ret j9v6 [0] [] rfl rfl rfl rfl (res2 rfl rfl rfl) rfl rfl rfl (by decide)
   ·clear hkk10
    refine aw_sr ?_
    refine al_mv rfl rfl ?_
    refine al_val (ov_strCmp rfl rfl rfl rfl) ?_
    refine al_nt ?_
    refine aw_cond rfl (fun hb11 => ?_) (fun hb11 => ?_)
    ·replace h := bif_t hb11 h
     refine aw_region ?_
     refine al_mv rfl rfl ?_
     refine al_mv rfl rfl ?_
     refine al_buildSlice (τ := tyStr) (e := 9) (k := 1) (sz := 0) (by_ := 0) (z := undef) (cs := [(str r7.2)]) (xs := [r7.2]) rfl (by decide) (fun w a hm hs => ⟨([(str r7.2)]).toArray, rfl, by simp only [List.map_toArray, List.map_cons, List.map_nil, hs.ev (x := .tmp 23) rfl]; exact run_bs [(str r7.2)] [(str r7.2)] Try.underlying23 to9 rfl rfl (bs_cons (l := [(str r7.2)]) (cs := []) (cv_rfl rfl) rfl bs_nil) hm⟩) (fun hm => ⟨_, _, rfl, (fun _ => rfl) hm, rfl⟩) rfl (fun v12 => ?_)
     obtain ⟨hc13, h⟩ := req_some h
     refine al_append 1 hc13.1 hc13.2 rfl (src_own (i := 1) 0 rfl) rfl rfl Try.underlying23 to9 rfl rfl rfl (fun v14 => ?_)
     refine al_as rfl rfl ?_
     refine al_nil ?_
     exact aq_join (v14, (r7.1 ++ ([r7.2]))) h (fun w a hm hs => norm hm hs [1] [] [(6, v14)] (by decide) ⟨rfl, trivial⟩)
    ·replace h := bif_f hb11 h
     refine aw_skip ?_
     exact aq_join (v8, r7.1) h (fun w a hm hs => norm hm hs [0] [] [(6, v8)] (by decide) ⟨rfl, trivial⟩)
def f_chunk_Check (fu : Nat) (a0 : S_api_Cut) : Option Int := (lt (fun (j2b27 : Bool) => (bif j2b27 then (some (1 : Int)) else (some (0 : Int)))) fun (kk3 : Bool → Option Int) => (bif (decide (a0.Min < (16 : Int))) then (kk3 true) else (bif (decide (a0.Max < a0.Min)) then (kk3 true) else (bif (decide (a0.Max > (1024 : Int))) then (kk3 true) else (bif (decide (a0.Bits < (1 : Int))) then (kk3 true) else (kk3 (decide (a0.Bits > (12 : Int)))))))))
set_option maxHeartbeats 2000000 in
set_option maxRecDepth 100000 in
theorem f_chunk_Check_ok (fu : Nat) (a0 : S_api_Cut) {r : Int} (h : f_chunk_Check fu a0 = some r) : FnOk Try.prog 126 [(ag [(int .i64 a0.Min), (int .i64 a0.Max), (int .i64 a0.Bits)])] [] [] (fun (i : Unit) => { val := (int .i64 r) }) := by
 unfold f_chunk_Check at h
 refine fn_enter Try.func126 rfl Try.ntmps126 rfl (fun w0 Z0 => ?_)
 refine aw_sr ?_
 refine al_box (vs := [(iq a0.Min), (iq a0.Max), (iq a0.Bits)]) rfl (cv_rfl rfl) rfl (fun g1 => ?_)
 refine al_as rfl rfl ?_
 refine al_nt ?_
 refine aw_seq ?_
 obtain ⟨kk3, hkk3, h⟩ := lt_some h
 refine aw_seq_join (ι := Bool) (fun i => (memOf w0 Z0 [] [] [])) (fun i => (tab [(27, (bool i))])) (fun i => kk3 i = some r) ?_ ?_
 ·rintro j2b27 h
  have h : kk3 j2b27 = some r := h
  rw [hkk3] at h
  dsimp only at h
  clear hkk3
  refine aw_show (m := (memOf w0 Z0 [] [] [])) (S := (tab [(27, (bool j2b27))])) ?_
  refine aw_cond rfl (fun hb4 => ?_) (fun hb4 => ?_)
  ·replace h := bif_t hb4 h
   refine aw_sr ?_
   refine al_as rfl rfl ?_
   refine al_nt ?_
   refine aw_ret ?_
   refine aq_then_ret ?_
   obtain rfl := Option.some.inj h
   exact fn_ret () [] [] rfl rfl rfl rfl (res1 rfl rfl) rfl rfl rfl (by decide)
  ·replace h := bif_f hb4 h
   refine aw_skip ?_
   refine aq_tr ?_
   refine al_as rfl rfl ?_
   refine al_nt ?_
   refine aw_ret ?_
   obtain rfl := Option.some.inj h
   exact fn_ret () [] [] rfl rfl rfl rfl (res1 rfl rfl) rfl rfl rfl (by decide)
 ·clear hkk3
  refine aw_region ?_
  refine al_val (ov_fieldA (p := 0) rfl Try.underlying35 rfl sz3 rfl rfl rfl) ?_
  refine al_val (ov_load (i := 0) (v := (iq a0.Min)) rfl rfl Try.underlying3 sz3 rfl rfl rfl rfl) ?_
  refine al_in rfl rfl rfl rfl ?_
  refine al_mv rfl rfl ?_
  refine al_caseB 6 rfl (fun hb5 => ?_) (fun hb5 => ?_)
  ·replace h := bif_t hb5 h
   refine al_skip ?_
   refine al_skip ?_
   refine al_skip ?_
   refine al_skip ?_
   refine al_skip ?_
   refine al_val (ov_pick_t rfl rfl rfl) ?_
   refine al_mv rfl rfl ?_
   refine al_skip ?_
   refine al_skip ?_
   refine al_skip ?_
   refine al_val (ov_pick_t rfl rfl rfl) ?_
   refine al_mv rfl rfl ?_
   refine al_skip ?_
   refine al_skip ?_
   refine al_skip ?_
   refine al_val (ov_pick_t rfl rfl rfl) ?_
   refine al_mv rfl rfl ?_
   refine al_skip ?_
   refine al_skip ?_
   refine al_skip ?_
   refine al_val (ov_pick_t rfl rfl rfl) ?_
   refine al_nil ?_
   exact aq_join true h (fun w a hm hs => norm hm hs [] [] [(27, (bool true))] (by decide) ⟨rfl, trivial⟩)
  ·replace h := bif_f hb5 h
   refine al_val (ov_fieldA (p := 1) rfl Try.underlying35 rfl sz3 rfl rfl rfl) ?_
   refine al_val (ov_load (i := 0) (v := (iq a0.Max)) rfl rfl Try.underlying3 sz3 rfl rfl rfl rfl) ?_
   refine al_val (ov_fieldA (p := 0) rfl Try.underlying35 rfl sz3 rfl rfl rfl) ?_
   refine al_val (ov_load (i := 0) (v := (iq a0.Min)) rfl rfl Try.underlying3 sz3 rfl rfl rfl rfl) ?_
   refine al_in rfl rfl rfl rfl ?_
   refine al_val (ov_pick_f rfl rfl rfl) ?_
   refine al_mv rfl rfl ?_
   refine al_caseB 13 rfl (fun hb6 => ?_) (fun hb6 => ?_)
   ·replace h := bif_t hb6 h
    refine al_skip ?_
    refine al_skip ?_
    refine al_skip ?_
    refine al_val (ov_pick_t rfl rfl rfl) ?_
    refine al_mv rfl rfl ?_
    refine al_skip ?_
    refine al_skip ?_
    refine al_skip ?_
    refine al_val (ov_pick_t rfl rfl rfl) ?_
    refine al_mv rfl rfl ?_
    refine al_skip ?_
    refine al_skip ?_
    refine al_skip ?_
    refine al_val (ov_pick_t rfl rfl rfl) ?_
    refine al_nil ?_
    exact aq_join true h (fun w a hm hs => norm hm hs [] [] [(27, (bool true))] (by decide) ⟨rfl, trivial⟩)
   ·replace h := bif_f hb6 h
    refine al_val (ov_fieldA (p := 1) rfl Try.underlying35 rfl sz3 rfl rfl rfl) ?_
    refine al_val (ov_load (i := 0) (v := (iq a0.Max)) rfl rfl Try.underlying3 sz3 rfl rfl rfl rfl) ?_
    refine al_in rfl rfl rfl rfl ?_
    refine al_val (ov_pick_f rfl rfl rfl) ?_
    refine al_mv rfl rfl ?_
    refine al_caseB 18 rfl (fun hb7 => ?_) (fun hb7 => ?_)
    ·replace h := bif_t hb7 h
     refine al_skip ?_
     refine al_skip ?_
     refine al_skip ?_
     refine al_val (ov_pick_t rfl rfl rfl) ?_
     refine al_mv rfl rfl ?_
     refine al_skip ?_
     refine al_skip ?_
     refine al_skip ?_
     refine al_val (ov_pick_t rfl rfl rfl) ?_
     refine al_nil ?_
     exact aq_join true h (fun w a hm hs => norm hm hs [] [] [(27, (bool true))] (by decide) ⟨rfl, trivial⟩)
    ·replace h := bif_f hb7 h
     refine al_val (ov_fieldA (p := 2) rfl Try.underlying35 rfl sz3 rfl rfl rfl) ?_
     refine al_val (ov_load (i := 0) (v := (iq a0.Bits)) rfl rfl Try.underlying3 sz3 rfl rfl rfl rfl) ?_
     refine al_in rfl rfl rfl rfl ?_
     refine al_val (ov_pick_f rfl rfl rfl) ?_
     refine al_mv rfl rfl ?_
     refine al_caseB 23 rfl (fun hb8 => ?_) (fun hb8 => ?_)
     ·replace h := bif_t hb8 h
      refine al_skip ?_
      refine al_skip ?_
      refine al_skip ?_
      refine al_val (ov_pick_t rfl rfl rfl) ?_
      refine al_nil ?_
      exact aq_join true h (fun w a hm hs => norm hm hs [] [] [(27, (bool true))] (by decide) ⟨rfl, trivial⟩)
     ·replace h := bif_f hb8 h
      refine al_val (ov_fieldA (p := 2) rfl Try.underlying35 rfl sz3 rfl rfl rfl) ?_
      refine al_val (ov_load (i := 0) (v := (iq a0.Bits)) rfl rfl Try.underlying3 sz3 rfl rfl rfl rfl) ?_
      refine al_in rfl rfl rfl rfl ?_
      refine al_val (ov_pick_f rfl rfl rfl) ?_
      refine al_nil ?_
      exact aq_join (decide (a0.Bits > (12 : Int))) h (fun w a hm hs => norm hm hs [] [] [(27, (bool (decide (a0.Bits > (12 : Int)))))] (by decide) ⟨rfl, trivial⟩)
def f_roll_reduce_L5 (kk2 : (Int → Option Int)) : Nat → Int → Int → Option Int
  | 0, _, _ => none
  | k4 + 1, l3i0, l3i3 => (bif (decide (l3i3 ≥ (31 : Int))) then (lt (fun (j7i0 : Int) => (f_roll_reduce_L5 kk2 k4 j7i0 (IntKind.i64.wrap (l3i3 - (1 : Int))))) fun (kk8 : Int → Option Int) => (req (0 ≤ l3i3) (bif ((bits .and .u64 ((l3i0).fdiv (2 ^ min (l3i3).toNat (IntKind.bits .u64))) (1 : Int)) == (1 : Int)) then (req (0 ≤ (IntKind.i64.wrap (l3i3 - (31 : Int)))) (kk8 (bits .xor .u64 l3i0 (IntKind.u64.wrap ((2147483657 : Int) * 2 ^ min ((IntKind.i64.wrap (l3i3 - (31 : Int)))).toNat (IntKind.bits .u64)))))) else (kk8 l3i0)))) else (kk2 l3i0))
def f_roll_reduce (fu : Nat) (a0 : Int) : Option Int := (lt (fun (j1i0 : Int) => (some (IntKind.u32.wrap j1i0))) fun (kk2 : Int → Option Int) => (f_roll_reduce_L5 kk2 fu a0 (63 : Int)))
set_option maxHeartbeats 2000000 in
set_option maxRecDepth 100000 in
theorem f_roll_reduce_ok (fu : Nat) (a0 : Int) {r : Int} (h : f_roll_reduce fu a0 = some r) : FnOk Try.prog 167 [(int .u64 a0)] [] [] (fun (i : Unit) => { val := (int .u32 r) }) := by
 unfold f_roll_reduce at h
 refine fn_enter Try.func167 rfl Try.ntmps167 rfl (fun w0 Z0 => ?_)
 refine aw_sr ?_
 refine al_as rfl rfl ?_
 refine al_nt ?_
 obtain ⟨kk2, hkk2, h⟩ := lt_some h
 refine aw_seq_join (ι := Int) (fun i => (memOf w0 Z0 [] [] [])) (fun i => (tab [(0, (uq i))])) (fun i => kk2 i = some r) ?_ ?_
 ·rintro j1i0 h
  have h : kk2 j1i0 = some r := h
  rw [hkk2] at h
  dsimp only at h
  clear hkk2
  refine aw_show (m := (memOf w0 Z0 [] [] [])) (S := (tab [(0, (uq j1i0))])) ?_
  refine aw_sr ?_
  refine al_mv rfl rfl ?_
  refine al_val (ov_convInt (by rw [Try.underlying198]; rfl) Try.underlying190 rfl rfl) ?_
  refine al_as rfl rfl ?_
  refine al_nt ?_
  refine aw_ret ?_
  obtain rfl := Option.some.inj h
  exact fn_ret () [] [] rfl rfl rfl rfl (res1 rfl rfl) rfl rfl rfl (by decide)
 ·clear hkk2
  refine aw_sr ?_
  refine al_as rfl rfl ?_
  refine al_nt ?_
  refine aw_block ?_
  refine aw_state (aw_loop (ι := Int × Int) (fun i => (memOf w0 Z0 [] [] [])) (fun i => (tab [(0, (uq i.1)), (3, (iq i.2))])) (fun q i => f_roll_reduce_L5 kk2 q i.1 i.2 = some r) ?_ fu (a0, (63 : Int)) h) (fun w a hm hs => norm hm hs [] [] [(0, (uq a0)), (3, (iq (63 : Int)))] (by decide) ⟨rfl, rfl, trivial⟩)
  clear h
  rintro k4 ⟨l3i0, l3i3⟩ h
  have h : f_roll_reduce_L5 kk2 k4 l3i0 l3i3 = some r := h
  obtain _ | k4 := k4
  · rw [f_roll_reduce_L5] at h; cases h
  rw [f_roll_reduce_L5] at h
  refine aw_show (m := (memOf w0 Z0 [] [] [])) (S := (tab [(0, (uq l3i0)), (3, (iq l3i3))])) ?_
  refine aw_seq ?_
  refine aw_sr ?_
  refine al_mv rfl rfl ?_
  refine al_in rfl rfl rfl rfl ?_
  refine al_nt ?_
  refine aw_cond rfl (fun hb6 => ?_) (fun hb6 => ?_)
  ·replace h := bif_t hb6 h
   refine aw_skip ?_
   refine aq_then ?_
   obtain ⟨kk8, hkk8, h⟩ := lt_some h
   refine aw_seq_join (ι := Int) (fun i => (memOf w0 Z0 [] [] [])) (fun i => (tab [(0, (uq i)), (3, (iq l3i3))])) (fun i => kk8 i = some r) ?_ ?_
   ·rintro j7i0 h
    have h : kk8 j7i0 = some r := h
    rw [hkk8] at h
    dsimp only at h
    clear hkk8
    refine aw_show (m := (memOf w0 Z0 [] [] [])) (S := (tab [(0, (uq j7i0)), (3, (iq l3i3))])) ?_
    refine aw_region ?_
    refine al_mv rfl rfl ?_
    refine al_in rfl rfl rfl rfl ?_
    refine al_as rfl rfl ?_
    refine al_nil ?_
    exact aq_again k4 (j7i0, (wq (l3i3 - (1 : Int)))) (Nat.lt_succ_self _) h (fun w a hm hs => norm hm hs [] [] [(0, (uq j7i0)), (3, (iq (wq (l3i3 - (1 : Int)))))] (by decide) ⟨rfl, rfl, trivial⟩)
   ·clear hkk8
    refine aw_block ?_
    refine aw_sr ?_
    refine al_mv rfl rfl ?_
    refine al_mv rfl rfl ?_
    obtain ⟨hc9, h⟩ := req_some h
    refine al_val (ov_shr hc9 rfl rfl rfl) ?_
    refine al_in rfl rfl rfl rfl ?_
    refine al_in rfl rfl rfl rfl ?_
    refine al_nt ?_
    refine aw_cond rfl (fun hb10 => ?_) (fun hb10 => ?_)
    ·replace h := bif_t hb10 h
     refine aw_region ?_
     refine al_mv rfl rfl ?_
     refine al_mv rfl rfl ?_
     refine al_in rfl rfl rfl rfl ?_
     obtain ⟨hc11, h⟩ := req_some h
     refine al_val (ov_shl hc11 rfl rfl rfl) ?_
     refine al_in rfl rfl rfl rfl ?_
     refine al_as rfl rfl ?_
     refine al_nil ?_
     refine aq_block ?_
     exact aq_join (bits .xor .u64 l3i0 (wu ((2147483657 : Int) * 2 ^ min ((wq (l3i3 - (31 : Int)))).toNat (IntKind.bits .u64)))) h (fun w a hm hs => norm hm hs [] [] [(0, (uq (bits .xor .u64 l3i0 (wu ((2147483657 : Int) * 2 ^ min ((wq (l3i3 - (31 : Int)))).toNat (IntKind.bits .u64)))))), (3, (iq l3i3))] (by decide) ⟨rfl, rfl, trivial⟩)
    ·replace h := bif_f hb10 h
     refine aw_skip ?_
     refine aq_block ?_
     exact aq_join l3i0 h (fun w a hm hs => norm hm hs [] [] [(0, (uq l3i0)), (3, (iq l3i3))] (by decide) ⟨rfl, rfl, trivial⟩)
  ·replace h := bif_f hb6 h
   refine aw_exit ?_
   refine aq_then_exit ?_
   refine aq_then_exit ?_
   refine aq_block_exit ?_
   exact aq_join l3i0 h (fun w a hm hs => norm hm hs [] [] [(0, (uq l3i0))] (by decide) ⟨rfl, trivial⟩)
def f_roll_shift (fu : Nat) (a0 : Int) : Option Int := (opt (f_roll_reduce fu (IntKind.u64.wrap ((IntKind.u64.wrap a0) * 2 ^ min ((8 : Int)).toNat (IntKind.bits .u64)))) fun (r2 : Int) => (some r2))
set_option maxRecDepth 100000 in
theorem f_roll_shift_ok (fu : Nat) (a0 : Int) {r : Int} (h : f_roll_shift fu a0 = some r) : FnOk Try.prog 159 [(int .u32 a0)] [] [] (fun (i : Unit) => { val := (int .u32 r) }) := by
 unfold f_roll_shift at h
 refine fn_enter Try.func159 rfl Try.ntmps159 rfl (fun w0 Z0 => ?_)
 refine aw_sr ?_
 refine al_as rfl rfl ?_
 refine al_nt ?_
 refine aw_sr ?_
 refine al_mv rfl rfl ?_
 refine al_val (ov_convInt (by rw [Try.underlying190]; rfl) Try.underlying198 rfl rfl) ?_
 refine al_val (ov_shl (by decide) rfl rfl rfl) ?_
 obtain ⟨r2, hc1, h⟩ := opt_some h
 refine al_call (vs := [(uq (wu ((wu a0) * 2 ^ min ((8 : Int)).toNat (IntKind.bits .u64))))]) (f_roll_reduce_ok fu (wu ((wu a0) * 2 ^ min ((8 : Int)).toNat (IntKind.bits .u64))) hc1) [] [] [] pre_nil rfl (by simp) (by decide) (.inl rfl) rfl Try.func167 rfl rfl rfl (fun _ => ?_)
 refine al_as rfl rfl ?_
 refine al_nt ?_
 refine aw_ret ?_
 obtain rfl := Option.some.inj h
 exact fn_ret () [] [] rfl rfl rfl rfl (res1 rfl rfl) rfl rfl rfl (by decide)
def f_roll_last_L5 (kk2 : (Int → Option Int)) (fu : Nat) : Nat → Int → Int → Option Int
  | 0, _, _ => none
  | k4 + 1, l3i3, l3i6 => (bif (decide (l3i6 < (15 : Int))) then (opt (f_roll_shift fu l3i3) fun (r8 : Int) => (f_roll_last_L5 kk2 fu k4 r8 (IntKind.i64.wrap (l3i6 + (1 : Int))))) else (kk2 l3i3))
def f_roll_last (fu : Nat) (a0 : Int) : Option Int := (lt (fun (j1i3 : Int) => (some j1i3)) fun (kk2 : Int → Option Int) => (f_roll_last_L5 kk2 fu fu (IntKind.u32.wrap a0) (0 : Int)))
set_option maxHeartbeats 2000000 in
set_option maxRecDepth 100000 in
theorem f_roll_last_ok (fu : Nat) (a0 : Int) {r : Int} (h : f_roll_last fu a0 = some r) : FnOk Try.prog 158 [(int .u8 a0)] [] [] (fun (i : Unit) => { val := (int .u32 r) }) := by
 unfold f_roll_last at h
 refine fn_enter Try.func158 rfl Try.ntmps158 rfl (fun w0 Z0 => ?_)
 refine aw_sr ?_
 refine al_as rfl rfl ?_
 refine al_nt ?_
 refine aw_sr ?_
 refine al_mv rfl rfl ?_
 refine al_val (ov_convInt (by rw [Try.underlying5]; rfl) Try.underlying190 rfl rfl) ?_
 refine al_as rfl rfl ?_
 refine al_nt ?_
 obtain ⟨kk2, hkk2, h⟩ := lt_some h
 refine aw_seq_join (ι := Int) (fun i => (memOf w0 Z0 [] [] [])) (fun i => (tab [(3, (int .u32 i))])) (fun i => kk2 i = some r) ?_ ?_
 ·rintro j1i3 h
  have h : kk2 j1i3 = some r := h
  rw [hkk2] at h
  dsimp only at h
  clear hkk2
  refine aw_show (m := (memOf w0 Z0 [] [] [])) (S := (tab [(3, (int .u32 j1i3))])) ?_
  refine aw_sr ?_
  refine al_mv rfl rfl ?_
  refine al_as rfl rfl ?_
  refine al_nt ?_
  refine aw_ret ?_
  obtain rfl := Option.some.inj h
  exact fn_ret () [] [] rfl rfl rfl rfl (res1 rfl rfl) rfl rfl rfl (by decide)
 ·clear hkk2
  refine aw_sr ?_
  refine al_mv rfl rfl ?_
  refine al_nt ?_
  refine aw_block ?_
  refine aw_state (aw_loop (ι := Int × Int) (fun i => (memOf w0 Z0 [] [] [])) (fun i => (tab [(3, (int .u32 i.1)), (6, (iq i.2))])) (fun q i => f_roll_last_L5 kk2 fu q i.1 i.2 = some r) ?_ fu ((IntKind.u32.wrap a0), (0 : Int)) h) (fun w a hm hs => norm hm hs [] [] [(3, (int .u32 (IntKind.u32.wrap a0))), (6, (iq (0 : Int)))] (by decide) ⟨rfl, rfl, trivial⟩)
  clear h
  rintro k4 ⟨l3i3, l3i6⟩ h
  have h : f_roll_last_L5 kk2 fu k4 l3i3 l3i6 = some r := h
  obtain _ | k4 := k4
  · rw [f_roll_last_L5] at h; cases h
  rw [f_roll_last_L5] at h
  refine aw_show (m := (memOf w0 Z0 [] [] [])) (S := (tab [(3, (int .u32 l3i3)), (6, (iq l3i6))])) ?_
  refine aw_sr ?_
  refine al_in rfl rfl rfl rfl ?_
  refine al_nt ?_
  refine aw_seq ?_
  refine aw_cond rfl (fun hb6 => ?_) (fun hb6 => ?_)
  ·replace h := bif_t hb6 h
   refine aw_skip ?_
   refine aq_then ?_
   refine aw_seq ?_
   refine aw_block ?_
   refine aw_region ?_
   refine al_mv rfl rfl ?_
   obtain ⟨r8, hc7, h⟩ := opt_some h
   refine al_call (vs := [(int .u32 l3i3)]) (f_roll_shift_ok fu l3i3 hc7) [] [] [] pre_nil rfl (by simp) (by decide) (.inl rfl) rfl Try.func159 rfl rfl rfl (fun _ => ?_)
   refine al_as rfl rfl ?_
   refine al_nil ?_
   refine aq_block ?_
   refine aq_then ?_
   refine aw_region ?_
   refine al_in rfl rfl rfl rfl ?_
   refine al_mv rfl rfl ?_
   refine al_nil ?_
   exact aq_again k4 (r8, (wq (l3i6 + (1 : Int)))) (Nat.lt_succ_self _) h (fun w a hm hs => norm hm hs [] [] [(3, (int .u32 r8)), (6, (iq (wq (l3i6 + (1 : Int)))))] (by decide) ⟨rfl, rfl, trivial⟩)
  ·replace h := bif_f hb6 h
   refine aw_exit ?_
   refine aq_then_exit ?_
   refine aq_then_exit ?_
   refine aq_block_exit ?_
   exact aq_join l3i3 h (fun w a hm hs => norm hm hs [] [] [(3, (int .u32 l3i3))] (by decide) ⟨rfl, trivial⟩)
def f_roll_Push (fu : Nat) (a0 : S_api_Roll) (a1 : Int) : Option (S_api_Roll × Int) := (lt (fun (j3b20 : Bool) => (bif j3b20 then (some ((S_api_Roll.mk (A16u8.mk (0 : UInt8) (0 : UInt8) (0 : UInt8) (0 : UInt8) (0 : UInt8) (0 : UInt8) (0 : UInt8) (0 : UInt8) (0 : UInt8) (0 : UInt8) (0 : UInt8) (0 : UInt8) (0 : UInt8) (0 : UInt8) (0 : UInt8) (0 : UInt8)) (0 : Int) (0 : Int)), (1 : Int))) else (lt (fun (j6i2_2 : Int) => (opt (f_roll_shift fu j6i2_2) fun (r9 : Int) => (opt (at? (lA16u8 a0.Win) a0.At) fun (u10 : UInt8) => (req (0 ≤ a1 ∧ a1 ≤ 255) (some ((S_api_Roll.mk (setA16u8 a0.Win a0.At (UInt8.ofNat (a1).toNat)) (((IntKind.i64.wrap (a0.At + (1 : Int)))).tmod (16 : Int)) (bits .xor .u32 r9 (IntKind.u32.wrap a1))), (0 : Int))))))) fun (kk7 : Int → Option (S_api_Roll × Int)) => (opt (at? (lA16u8 a0.Win) a0.At) fun (u13 : UInt8) => (bif ((u13.toNat : Int) != (0 : Int)) then (opt (f_roll_last fu (u13.toNat : Int)) fun (r17 : Int) => (kk7 (bits .xor .u32 a0.Sum r17))) else (kk7 a0.Sum)))))) fun (kk4 : Bool → Option (S_api_Roll × Int)) => (bif (decide (a0.At < (0 : Int))) then (kk4 true) else (bif (decide (a0.At ≥ (16 : Int))) then (kk4 true) else (kk4 ((bits .and .u32 a0.Sum (2147483648 : Int)) != (0 : Int))))))
set_option maxHeartbeats 2000000 in
set_option maxRecDepth 100000 in
theorem f_roll_Push_ok (fu : Nat) (a0 : S_api_Roll) (a1 : Int) {r : (S_api_Roll × Int)} (h : f_roll_Push fu a0 a1 = some r) : FnOk Try.prog 144 [(ag ((cA16u8 a0.Win) ++ [(int .i64 a0.At), (int .u32 a0.Sum)])), (int .u8 a1)] [] [] (fun (i : Unit) => { val := (Value.tuple #[(ag ((cA16u8 r.1.Win) ++ [(int .i64 r.1.At), (int .u32 r.1.Sum)])), (int .i64 r.2)]) }) := by
 unfold f_roll_Push at h
 refine fn_enter Try.func144 rfl Try.ntmps144 rfl (fun w0 Z0 => ?_)
 refine aw_sr ?_
 refine al_box (vs := ((cA16u8 a0.Win) ++ [(iq a0.At), (int .u32 a0.Sum)])) rfl (cv_rfl rfl) rfl (fun g1 => ?_)
 refine al_alloc (zs := ((cA16u8 (A16u8.mk (0 : UInt8) (0 : UInt8) (0 : UInt8) (0 : UInt8) (0 : UInt8) (0 : UInt8) (0 : UInt8) (0 : UInt8) (0 : UInt8) (0 : UInt8) (0 : UInt8) (0 : UInt8) (0 : UInt8) (0 : UInt8) (0 : UInt8) (0 : UInt8))) ++ [(iq (0 : Int)), (int .u32 (0 : Int))])) (zeroOf_to to207) rfl rfl (fun g2 => ?_)
 refine al_as rfl rfl ?_
 refine al_nt ?_
 refine aw_seq ?_
 obtain ⟨kk4, hkk4, h⟩ := lt_some h
 refine aw_seq_join (ι := Bool) (fun i => (memOf w0 Z0 [] [(oBox g1 207 ((cA16u8 a0.Win) ++ [(iq a0.At), (int .u32 a0.Sum)])), (oBox g2 207 ((cA16u8 (A16u8.mk (0 : UInt8) (0 : UInt8) (0 : UInt8) (0 : UInt8) (0 : UInt8) (0 : UInt8) (0 : UInt8) (0 : UInt8) (0 : UInt8) (0 : UInt8) (0 : UInt8) (0 : UInt8) (0 : UInt8) (0 : UInt8) (0 : UInt8) (0 : UInt8))) ++ [(iq (0 : Int)), (int .u32 (0 : Int))]))] [])) (fun i => (tab [(1, (i8 a1)), (2, (pq g1)), (4, (pq g2)), (20, (bool i))])) (fun i => kk4 i = some r) ?_ ?_
 ·rintro j3b20 h
  have h : kk4 j3b20 = some r := h
  rw [hkk4] at h
  dsimp only at h
  clear hkk4
  refine aw_show (m := (memOf w0 Z0 [] [(oBox g1 207 ((cA16u8 a0.Win) ++ [(iq a0.At), (int .u32 a0.Sum)])), (oBox g2 207 ((cA16u8 (A16u8.mk (0 : UInt8) (0 : UInt8) (0 : UInt8) (0 : UInt8) (0 : UInt8) (0 : UInt8) (0 : UInt8) (0 : UInt8) (0 : UInt8) (0 : UInt8) (0 : UInt8) (0 : UInt8) (0 : UInt8) (0 : UInt8) (0 : UInt8) (0 : UInt8))) ++ [(iq (0 : Int)), (int .u32 (0 : Int))]))] [])) (S := (tab [(1, (i8 a1)), (2, (pq g1)), (4, (pq g2)), (20, (bool j3b20))])) ?_
  refine aw_cond rfl (fun hb5 => ?_) (fun hb5 => ?_)
  ·replace h := bif_t hb5 h
   refine aw_sr ?_
   refine al_val (ov_build (cells := (((cA16u8 (A16u8.mk (0 : UInt8) (0 : UInt8) (0 : UInt8) (0 : UInt8) (0 : UInt8) (0 : UInt8) (0 : UInt8) (0 : UInt8) (0 : UInt8) (0 : UInt8) (0 : UInt8) (0 : UInt8) (0 : UInt8) (0 : UInt8) (0 : UInt8) (0 : UInt8))) ++ [(iq (0 : Int)), (int .u32 (0 : Int))])).toArray) (cs := ((cA16u8 (A16u8.mk (0 : UInt8) (0 : UInt8) (0 : UInt8) (0 : UInt8) (0 : UInt8) (0 : UInt8) (0 : UInt8) (0 : UInt8) (0 : UInt8) (0 : UInt8) (0 : UInt8) (0 : UInt8) (0 : UInt8) (0 : UInt8) (0 : UInt8) (0 : UInt8))) ++ [(iq (0 : Int)), (int .u32 (0 : Int))])) rfl (fun w a hm hs => by simp only [List.map_toArray, List.map_cons, List.map_nil, List.toList_toArray]; kernel_rfl)) ?_
   refine al_store (i := 1) (vs := ((cA16u8 (A16u8.mk (0 : UInt8) (0 : UInt8) (0 : UInt8) (0 : UInt8) (0 : UInt8) (0 : UInt8) (0 : UInt8) (0 : UInt8) (0 : UInt8) (0 : UInt8) (0 : UInt8) (0 : UInt8) (0 : UInt8) (0 : UInt8) (0 : UInt8) (0 : UInt8))) ++ [(iq (0 : Int)), (int .u32 (0 : Int))])) (cs' := ((cA16u8 (A16u8.mk (0 : UInt8) (0 : UInt8) (0 : UInt8) (0 : UInt8) (0 : UInt8) (0 : UInt8) (0 : UInt8) (0 : UInt8) (0 : UInt8) (0 : UInt8) (0 : UInt8) (0 : UInt8) (0 : UInt8) (0 : UInt8) (0 : UInt8) (0 : UInt8))) ++ [(iq (0 : Int)), (int .u32 (0 : Int))])) rfl rfl rfl sz207 (cv_rfl rfl) rfl (co_app (oneA16u8 (A16u8.mk (0 : UInt8) (0 : UInt8) (0 : UInt8) (0 : UInt8) (0 : UInt8) (0 : UInt8) (0 : UInt8) (0 : UInt8) (0 : UInt8) (0 : UInt8) (0 : UInt8) (0 : UInt8) (0 : UInt8) (0 : UInt8) (0 : UInt8) (0 : UInt8))) (co_val rfl (co_val rfl co_nil))) (Nat.le_of_ble_eq_true rfl) rfl rfl ?_
   refine al_as rfl rfl ?_
   refine al_nt ?_
   refine aw_ret ?_
   refine aq_then_ret ?_
   obtain rfl := Option.some.inj h
   exact fn_ret () [] [] rfl rfl rfl rfl (resC rfl (resB (i := 1) rfl rfl Try.underlying207 sz207 rfl rfl rfl (resT rfl (resN))) rfl) rfl rfl rfl (by decide)
  ·replace h := bif_f hb5 h
   refine aw_skip ?_
   refine aq_then ?_
   obtain ⟨kk7, hkk7, h⟩ := lt_some h
   refine aw_seq_join (ι := Int) (fun i => (memOf w0 Z0 [] [(oBox g1 207 ((cA16u8 a0.Win) ++ [(iq a0.At), (int .u32 i)])), (oBox g2 207 ((cA16u8 (A16u8.mk (0 : UInt8) (0 : UInt8) (0 : UInt8) (0 : UInt8) (0 : UInt8) (0 : UInt8) (0 : UInt8) (0 : UInt8) (0 : UInt8) (0 : UInt8) (0 : UInt8) (0 : UInt8) (0 : UInt8) (0 : UInt8) (0 : UInt8) (0 : UInt8))) ++ [(iq (0 : Int)), (int .u32 (0 : Int))]))] [])) (fun i => (tab [(1, (i8 a1)), (2, (pq g1)), (4, (pq g2))])) (fun i => kk7 i = some r) ?_ ?_
   ·rintro j6i2_2 h
    have h : kk7 j6i2_2 = some r := h
    rw [hkk7] at h
    dsimp only at h
    clear hkk7
    refine aw_show (m := (memOf w0 Z0 [] [(oBox g1 207 ((cA16u8 a0.Win) ++ [(iq a0.At), (int .u32 j6i2_2)])), (oBox g2 207 ((cA16u8 (A16u8.mk (0 : UInt8) (0 : UInt8) (0 : UInt8) (0 : UInt8) (0 : UInt8) (0 : UInt8) (0 : UInt8) (0 : UInt8) (0 : UInt8) (0 : UInt8) (0 : UInt8) (0 : UInt8) (0 : UInt8) (0 : UInt8) (0 : UInt8) (0 : UInt8))) ++ [(iq (0 : Int)), (int .u32 (0 : Int))]))] [])) (S := (tab [(1, (i8 a1)), (2, (pq g1)), (4, (pq g2))])) ?_
    refine aw_sr ?_
    refine al_val (ov_fieldA (p := 17) rfl Try.underlying207 rfl sz190 rfl rfl rfl) ?_
    refine al_val (ov_load (i := 0) (v := (int .u32 j6i2_2)) rfl rfl Try.underlying190 sz190 rfl rfl rfl rfl) ?_
    obtain ⟨r9, hc8, h⟩ := opt_some h
    refine al_call (vs := [(int .u32 j6i2_2)]) (f_roll_shift_ok fu j6i2_2 hc8) [] [] [0, 1] pre_nil rfl (by simp) (by decide) (.inl rfl) rfl Try.func159 rfl rfl rfl (fun _ => ?_)
    refine al_mv rfl rfl ?_
    refine al_val (ov_convInt (by rw [Try.underlying5]; rfl) Try.underlying190 rfl rfl) ?_
    refine al_in rfl rfl rfl rfl ?_
    refine al_val (ov_fieldA (p := 17) rfl Try.underlying207 rfl sz190 rfl rfl rfl) ?_
    refine al_store (i := 0) (vs := [(int .u32 (bits .xor .u32 r9 (IntKind.u32.wrap a1)))]) (cs' := ((cA16u8 a0.Win) ++ [(iq a0.At), (int .u32 (bits .xor .u32 r9 (IntKind.u32.wrap a1)))])) rfl rfl rfl sz190 (cv_rfl rfl) rfl (co_val rfl co_nil) (Nat.le_of_ble_eq_true rfl) rfl rfl ?_
    refine al_nt ?_
    refine aw_sr ?_
    refine al_val (ov_fieldA (p := 16) rfl Try.underlying207 rfl sz3 rfl rfl rfl) ?_
    refine al_val (ov_load (i := 0) (v := (iq a0.At)) rfl rfl Try.underlying3 sz3 rfl rfl rfl rfl) ?_
    refine al_mv rfl rfl ?_
    refine al_val (ov_fieldA (p := 0) rfl Try.underlying207 rfl sz205 rfl rfl rfl) ?_
    obtain ⟨u10, hu11, h⟩ := opt_some h
    refine al_val (ov_idxArrV hu11 rfl rfl rfl Try.underlying205 sz5 rfl) ?_
    obtain ⟨hc12, h⟩ := req_some h
    refine al_storeV (cs := ((cA16u8 a0.Win) ++ [(iq a0.At), (int .u32 (bits .xor .u32 r9 (IntKind.u32.wrap a1)))])) (cs' := ((cA16u8 (setA16u8 a0.Win a0.At (UInt8.ofNat (a1).toNat))) ++ [(iq a0.At), (int .u32 (bits .xor .u32 r9 (IntKind.u32.wrap a1)))])) 0 rfl rfl rfl sz5 rfl (by have h1 := (at_some hu11).2.1; have h0 := (at_some hu11).1; have h2 : ((lA16u8 a0.Win).length : Int) = 16 := rfl; show 0 + (a0.At).toNat < 18; omega) (by (try unfold i8); rw [u8_val hc12]; exact csetA16u8 (at_some hu11).1 (at_some hu11).2.1 [] [(iq a0.At), (int .u32 (bits .xor .u32 r9 (IntKind.u32.wrap a1)))]) rfl ?_
    refine al_nt ?_
    refine aw_sr ?_
    refine al_val (ov_fieldA (p := 16) rfl Try.underlying207 rfl sz3 rfl rfl rfl) ?_
    refine al_val (ov_load (i := 0) (v := (iq a0.At)) rfl rfl Try.underlying3 sz3 rfl rfl rfl rfl) ?_
    refine al_in rfl rfl rfl rfl ?_
    refine al_val (ov_rem (by decide) rfl rfl rfl) ?_
    refine al_val (ov_fieldA (p := 16) rfl Try.underlying207 rfl sz3 rfl rfl rfl) ?_
    refine al_store (i := 0) (vs := [(iq (((wq (a0.At + (1 : Int)))).tmod (16 : Int)))]) (cs' := ((cA16u8 (setA16u8 a0.Win a0.At (UInt8.ofNat (a1).toNat))) ++ [(iq (((wq (a0.At + (1 : Int)))).tmod (16 : Int))), (int .u32 (bits .xor .u32 r9 (IntKind.u32.wrap a1)))])) rfl rfl rfl sz3 (cv_rfl rfl) rfl (co_val rfl co_nil) (Nat.le_of_ble_eq_true rfl) rfl rfl ?_
    refine al_nt ?_
    refine aw_sr ?_
    refine al_val (ov_load (i := 0) (v := (ag ((cA16u8 (setA16u8 a0.Win a0.At (UInt8.ofNat (a1).toNat))) ++ [(iq (((wq (a0.At + (1 : Int)))).tmod (16 : Int))), (int .u32 (bits .xor .u32 r9 (IntKind.u32.wrap a1)))]))) rfl rfl Try.underlying207 sz207 rfl rfl rfl rfl) ?_
    refine al_store (i := 1) (vs := ((cA16u8 (setA16u8 a0.Win a0.At (UInt8.ofNat (a1).toNat))) ++ [(iq (((wq (a0.At + (1 : Int)))).tmod (16 : Int))), (int .u32 (bits .xor .u32 r9 (IntKind.u32.wrap a1)))])) (cs' := ((cA16u8 (setA16u8 a0.Win a0.At (UInt8.ofNat (a1).toNat))) ++ [(iq (((wq (a0.At + (1 : Int)))).tmod (16 : Int))), (int .u32 (bits .xor .u32 r9 (IntKind.u32.wrap a1)))])) rfl rfl rfl sz207 (cv_rfl rfl) rfl (co_app (oneA16u8 (setA16u8 a0.Win a0.At (UInt8.ofNat (a1).toNat))) (co_val rfl (co_val rfl co_nil))) (Nat.le_of_ble_eq_true rfl) rfl rfl ?_
    refine al_as rfl rfl ?_
    refine al_nt ?_
    refine aw_ret ?_
    obtain rfl := Option.some.inj h
    exact fn_ret () [] [] rfl rfl rfl rfl (resC rfl (resB (i := 1) rfl rfl Try.underlying207 sz207 rfl rfl rfl (resT rfl (resN))) rfl) rfl rfl rfl (by decide)
   ·clear hkk7
    refine aw_sr ?_
    refine al_val (ov_fieldA (p := 16) rfl Try.underlying207 rfl sz3 rfl rfl rfl) ?_
    refine al_val (ov_load (i := 0) (v := (iq a0.At)) rfl rfl Try.underlying3 sz3 rfl rfl rfl rfl) ?_
    refine al_val (ov_fieldA (p := 0) rfl Try.underlying207 rfl sz205 rfl rfl rfl) ?_
    obtain ⟨u13, hu14, h⟩ := opt_some h
    refine al_val (ov_idxArrV hu14 rfl rfl rfl Try.underlying205 sz5 rfl) ?_
    refine al_val (v := (i8 (u13.toNat : Int))) (ov_loadV (enc := vA16u8) (xs := lA16u8 a0.Win) 0 rfl rfl Try.underlying5 sz5 rfl rfl hu14 rfl) ?_
    refine al_as rfl rfl ?_
    refine al_nt ?_
    refine aw_sr ?_
    refine al_mv rfl rfl ?_
    refine al_in rfl rfl rfl rfl ?_
    refine al_nt ?_
    refine aw_cond rfl (fun hb15 => ?_) (fun hb15 => ?_)
    ·replace h := bif_t hb15 h
     obtain ⟨r17, hc16, h⟩ := opt_some h
     refine aw_region_draw 6 [(29, (fun u => fEq u (ptr g1 17))), (30, (fun u => fEq u (int .u32 a0.Sum))), (31, (fun u => fEq u (i8 (u13.toNat : Int)))), (32, (fun u => fEq u (int .u32 r17))), (33, (fun u => fEq u (int .u32 (bits .xor .u32 a0.Sum r17)))), (34, (fun u => fEq u (ptr g1 17)))] (tab [(1, (i8 a1)), (2, (pq g1)), (4, (pq g2)), (6, (i8 (u13.toNat : Int)))]) mixed (by kernel_rfl) rfl rfl rfl (fun a hs => hs.tab _ (allT_mem ⟨rfl, rfl, rfl, rfl, trivial⟩)) ⟨⟨rfl, ld_val (ov_fieldA (p := 17) rfl Try.underlying207 rfl sz190 rfl rfl rfl)⟩, ⟨rfl, ld_eq (j := 0) rfl rfl (ld_val (ov_load (i := 0) (v := (int .u32 a0.Sum)) rfl rfl Try.underlying190 sz190 rfl rfl rfl rfl))⟩, ⟨rfl, ld_val (ov_move rfl rfl)⟩, ⟨rfl, ld_eq (j := 2) rfl rfl (ld_callV (vs := [(i8 (u13.toNat : Int))]) (f_roll_last_ok fu (u13.toNat : Int) hc16) [] pre_nil rfl Try.func158 rfl rfl rfl)⟩, ⟨rfl, ld_eq (j := 1) rfl rfl (ld_eq (j := 3) rfl rfl (ld_val (ov_int rfl rfl rfl rfl)))⟩, ⟨rfl, ld_val (ov_fieldA (p := 17) rfl Try.underlying207 rfl sz190 rfl rfl rfl)⟩, trivial⟩ ?_
     refine tl_eq 4 rfl ?_
     refine tl_eq 5 rfl ?_
     refine tl_done ?_
     refine al_store (i := 0) (vs := [(int .u32 (bits .xor .u32 a0.Sum r17))]) (cs' := ((cA16u8 a0.Win) ++ [(iq a0.At), (int .u32 (bits .xor .u32 a0.Sum r17))])) rfl rfl rfl sz190 (cv_rfl rfl) rfl (co_val rfl co_nil) (Nat.le_of_ble_eq_true rfl) rfl rfl ?_
     refine al_nil ?_
     exact aq_join (bits .xor .u32 a0.Sum r17) h (fun w a hm hs => norm hm hs [0, 1] [] [(1, (i8 a1)), (2, (pq g1)), (4, (pq g2))] (by decide) ⟨rfl, rfl, rfl, trivial⟩)
    ·replace h := bif_f hb15 h
     refine aw_skip ?_
     exact aq_join a0.Sum h (fun w a hm hs => norm hm hs [0, 1] [] [(1, (i8 a1)), (2, (pq g1)), (4, (pq g2))] (by decide) ⟨rfl, rfl, rfl, trivial⟩)
 ·clear hkk4
  refine aw_region ?_
  refine al_val (ov_fieldA (p := 16) rfl Try.underlying207 rfl sz3 rfl rfl rfl) ?_
  refine al_val (ov_load (i := 1) (v := (iq a0.At)) rfl rfl Try.underlying3 sz3 rfl rfl rfl rfl) ?_
  refine al_in rfl rfl rfl rfl ?_
  refine al_mv rfl rfl ?_
  refine al_caseB 10 rfl (fun hb18 => ?_) (fun hb18 => ?_)
  ·replace h := bif_t hb18 h
   refine al_skip ?_
   refine al_skip ?_
   refine al_skip ?_
   refine al_val (ov_pick_t rfl rfl rfl) ?_
   refine al_mv rfl rfl ?_
   refine al_skip ?_
   refine al_skip ?_
   refine al_skip ?_
   refine al_skip ?_
   refine al_val (ov_pick_t rfl rfl rfl) ?_
   refine al_nil ?_
   exact aq_join true h (fun w a hm hs => norm hm hs [1, 0] [] [(1, (i8 a1)), (2, (pq g1)), (4, (pq g2)), (20, (bool true))] (by decide) ⟨rfl, rfl, rfl, rfl, trivial⟩)
  ·replace h := bif_f hb18 h
   refine al_val (ov_fieldA (p := 16) rfl Try.underlying207 rfl sz3 rfl rfl rfl) ?_
   refine al_val (ov_load (i := 1) (v := (iq a0.At)) rfl rfl Try.underlying3 sz3 rfl rfl rfl rfl) ?_
   refine al_in rfl rfl rfl rfl ?_
   refine al_val (ov_pick_f rfl rfl rfl) ?_
   refine al_mv rfl rfl ?_
   refine al_caseB 15 rfl (fun hb19 => ?_) (fun hb19 => ?_)
   ·replace h := bif_t hb19 h
    refine al_skip ?_
    refine al_skip ?_
    refine al_skip ?_
    refine al_skip ?_
    refine al_val (ov_pick_t rfl rfl rfl) ?_
    refine al_nil ?_
    exact aq_join true h (fun w a hm hs => norm hm hs [1, 0] [] [(1, (i8 a1)), (2, (pq g1)), (4, (pq g2)), (20, (bool true))] (by decide) ⟨rfl, rfl, rfl, rfl, trivial⟩)
   ·replace h := bif_f hb19 h
    refine al_val (ov_fieldA (p := 17) rfl Try.underlying207 rfl sz190 rfl rfl rfl) ?_
    refine al_val (ov_load (i := 1) (v := (int .u32 a0.Sum)) rfl rfl Try.underlying190 sz190 rfl rfl rfl rfl) ?_
    refine al_in rfl rfl rfl rfl ?_
    refine al_in rfl rfl rfl rfl ?_
    refine al_val (ov_pick_f rfl rfl rfl) ?_
    refine al_nil ?_
    exact aq_join ((bits .and .u32 a0.Sum (2147483648 : Int)) != (0 : Int)) h (fun w a hm hs => norm hm hs [1, 0] [] [(1, (i8 a1)), (2, (pq g1)), (4, (pq g2)), (20, (bool ((bits .and .u32 a0.Sum (2147483648 : Int)) != (0 : Int))))] (by decide) ⟨rfl, rfl, rfl, rfl, trivial⟩)
def f_chunk_end_L7 (a0 : S_api_Cut) (a1 : (List UInt8)) (kk4 : (Unit → Option Int)) (fu : Nat) : Nat → A16u8 → Int → Int → Int → Option Int
  | 0, _, _, _, _ => none
  | k6 + 1, l5A5_0, l5i5_1, l5i5_2, l5i10 => (bif (decide (l5i10 < (a1.length : Int))) then (req (0 ≤ l5i10 ∧ l5i10 < (a1.length : Int)) (opt (f_roll_Push fu (S_api_Roll.mk l5A5_0 l5i5_1 l5i5_2) (En.bAt a1 l5i10)) fun (r11 : (S_api_Roll × Int)) => (lt (fun (j12b42 : Bool) => (bif j12b42 then (some (IntKind.i64.wrap (l5i10 + (1 : Int)))) else (f_chunk_end_L7 a0 a1 kk4 fu k6 r11.1.Win r11.1.At r11.1.Sum (IntKind.i64.wrap (l5i10 + (1 : Int)))))) fun (kk13 : Bool → Option Int) => (bif ((IntKind.i64.wrap (l5i10 + (1 : Int))) == a0.Max) then (kk13 true) else (bif (decide ((IntKind.i64.wrap (l5i10 + (1 : Int))) ≥ a0.Min)) then (req (0 ≤ a0.Bits) (kk13 ((bits .and .u32 r11.1.Sum (IntKind.u32.wrap ((IntKind.u32.wrap ((1 : Int) * 2 ^ min (a0.Bits).toNat (IntKind.bits .u32))) - (1 : Int)))) == (0 : Int)))) else (kk13 false)))))) else (kk4 ()))
def f_chunk_end (fu : Nat) (a0 : S_api_Cut) (a1 : (List UInt8)) : Option Int := (lt (fun (_ : Unit) => (some (0 : Int))) fun (kk4 : Unit → Option Int) => (f_chunk_end_L7 a0 a1 kk4 fu fu (A16u8.mk (0 : UInt8) (0 : UInt8) (0 : UInt8) (0 : UInt8) (0 : UInt8) (0 : UInt8) (0 : UInt8) (0 : UInt8) (0 : UInt8) (0 : UInt8) (0 : UInt8) (0 : UInt8) (0 : UInt8) (0 : UInt8) (0 : UInt8) (0 : UInt8)) (0 : Int) (0 : Int) (0 : Int)))
set_option maxHeartbeats 2000000 in
set_option maxRecDepth 100000 in
theorem f_chunk_end_ok (fu : Nat) (a0 : S_api_Cut) (a1 : (List UInt8)) {r : Int} (h : f_chunk_end fu a0 a1 = some r) : FnOk Try.prog 138 [(ag [(int .i64 a0.Min), (int .i64 a0.Max), (int .i64 a0.Bits)]), (str a1)] [] [] (fun (i : Unit) => { val := (int .i64 r) }) := by
 unfold f_chunk_end at h
 refine fn_enter Try.func138 rfl Try.ntmps138 rfl (fun w0 Z0 => ?_)
 refine aw_sr ?_
 refine al_box (vs := [(iq a0.Min), (iq a0.Max), (iq a0.Bits)]) rfl (cv_rfl rfl) rfl (fun g1 => ?_)
 refine al_as rfl rfl ?_
 refine al_nt ?_
 refine aw_sr ?_
 refine al_alloc (zs := ((cA16u8 (A16u8.mk (0 : UInt8) (0 : UInt8) (0 : UInt8) (0 : UInt8) (0 : UInt8) (0 : UInt8) (0 : UInt8) (0 : UInt8) (0 : UInt8) (0 : UInt8) (0 : UInt8) (0 : UInt8) (0 : UInt8) (0 : UInt8) (0 : UInt8) (0 : UInt8))) ++ [(iq (0 : Int)), (int .u32 (0 : Int))])) (zeroOf_to to207) rfl rfl (fun g2 => ?_)
 refine al_nt ?_
 obtain ⟨kk4, hkk4, h⟩ := lt_some h
 refine aw_seq_join (ι := Unit) (fun i => (memOf w0 Z0 [] [] [])) (fun i => (tab [])) (fun i => kk4 () = some r) ?_ ?_
 ·rintro _ h
  have h : kk4 () = some r := h
  rw [hkk4] at h
  dsimp only at h
  clear hkk4
  refine aw_show (m := (memOf w0 Z0 [] [] [])) (S := (tab [])) ?_
  refine aw_sr ?_
  refine al_as rfl rfl ?_
  refine al_nt ?_
  refine aw_ret ?_
  obtain rfl := Option.some.inj h
  exact fn_ret () [] [] rfl rfl rfl rfl (res1 rfl rfl) rfl rfl rfl (by decide)
 ·clear hkk4
  refine aw_sr ?_
  refine al_mv rfl rfl ?_
  refine al_val (ov_strLen Try.underlying9 rfl rfl) ?_
  refine al_mv rfl rfl ?_
  refine al_nt ?_
  refine aw_block ?_
  refine aw_state (aw_loop (ι := A16u8 × Int × Int × Int) (fun i => (memOf w0 Z0 [] [(oBox g1 35 [(iq a0.Min), (iq a0.Max), (iq a0.Bits)]), (oBox g2 207 ((cA16u8 i.1) ++ [(iq i.2.1), (int .u32 i.2.2.1)]))] [])) (fun i => (tab [(1, (str a1)), (2, (pq g1)), (5, (pq g2)), (9, (iq (a1.length : Int))), (10, (iq i.2.2.2))])) (fun q i => f_chunk_end_L7 a0 a1 kk4 fu q i.1 i.2.1 i.2.2.1 i.2.2.2 = some r) ?_ fu ((A16u8.mk (0 : UInt8) (0 : UInt8) (0 : UInt8) (0 : UInt8) (0 : UInt8) (0 : UInt8) (0 : UInt8) (0 : UInt8) (0 : UInt8) (0 : UInt8) (0 : UInt8) (0 : UInt8) (0 : UInt8) (0 : UInt8) (0 : UInt8) (0 : UInt8)), (0 : Int), (0 : Int), (0 : Int)) h) (fun w a hm hs => norm hm hs [1, 0] [] [(1, (str a1)), (2, (pq g1)), (5, (pq g2)), (9, (iq (a1.length : Int))), (10, (iq (0 : Int)))] (by decide) ⟨rfl, rfl, rfl, rfl, rfl, trivial⟩)
  clear h
  rintro k6 ⟨l5A5_0, l5i5_1, l5i5_2, l5i10⟩ h
  have h : f_chunk_end_L7 a0 a1 kk4 fu k6 l5A5_0 l5i5_1 l5i5_2 l5i10 = some r := h
  obtain _ | k6 := k6
  · rw [f_chunk_end_L7] at h; cases h
  rw [f_chunk_end_L7] at h
  refine aw_show (m := (memOf w0 Z0 [] [(oBox g1 35 [(iq a0.Min), (iq a0.Max), (iq a0.Bits)]), (oBox g2 207 ((cA16u8 l5A5_0) ++ [(iq l5i5_1), (int .u32 l5i5_2)]))] [])) (S := (tab [(1, (str a1)), (2, (pq g1)), (5, (pq g2)), (9, (iq (a1.length : Int))), (10, (iq l5i10))])) ?_
  refine aw_sr ?_
  refine al_in rfl rfl rfl rfl ?_
  refine al_nt ?_
  refine aw_seq ?_
  refine aw_cond rfl (fun hb8 => ?_) (fun hb8 => ?_)
  ·replace h := bif_t hb8 h
   refine aw_skip ?_
   refine aq_then ?_
   refine aw_seq ?_
   refine aw_block ?_
   refine aw_sr ?_
   refine al_mv rfl rfl ?_
   refine al_as rfl rfl ?_
   refine al_nt ?_
   refine aw_seq ?_
   obtain ⟨hc9, h⟩ := req_some h
   refine aw_region_open [⟨0, 14, Unit, fun _ => { val := (ag ((cA16u8 l5A5_0) ++ [(iq l5i5_1), (int .u32 l5i5_2)])) }⟩, ⟨1, 15, Unit, fun _ => { val := (str a1) }⟩, ⟨2, 16, Unit, fun _ => { val := (iq l5i10) }⟩, ⟨3, 17, Unit, fun _ => { val := (i8 (En.bAt a1 l5i10)) }⟩] (tab [(1, (str a1)), (2, (pq g1)), (5, (pq g2)), (6, (iq l5i10)), (9, (iq (a1.length : Int))), (10, (iq l5i10))]) mixed (fun a hs => hs.tab _ (allT_mem ⟨rfl, rfl, rfl, rfl, rfl, rfl, trivial⟩)) ?_
   refine ta_show (m := (memOf w0 Z0 [] [(oBox g1 35 [(iq a0.Min), (iq a0.Max), (iq a0.Bits)]), (oBox g2 207 ((cA16u8 l5A5_0) ++ [(iq l5i5_1), (int .u32 l5i5_2)]))] [])) (S := (tab [(1, (str a1)), (2, (pq g1)), (5, (pq g2)), (6, (iq l5i10)), (9, (iq (a1.length : Int))), (10, (iq l5i10))])) ?_
   refine ta_step 4 _ [0, 1, 2, 3] [14, 15, 16, 17] [0, 1, 2, 3] [5, 6, 7] [⟨0, 14, Unit, fun _ => { val := (ag ((cA16u8 l5A5_0) ++ [(iq l5i5_1), (int .u32 l5i5_2)])) }⟩, ⟨1, 15, Unit, fun _ => { val := (str a1) }⟩, ⟨2, 16, Unit, fun _ => { val := (iq l5i10) }⟩, ⟨3, 17, Unit, fun _ => { val := (i8 (En.bAt a1 l5i10)) }⟩] [] rfl rfl rfl (by kernel_rfl) rfl rfl rfl ⟨⟨_, rfl, [], rfl, by
 intro X_ Y_ F_ K_ hK_
 refine al_show (m := Mem.plus (memOf w0 Z0 [] [(oBox g1 35 [(iq a0.Min), (iq a0.Max), (iq a0.Bits)]), (oBox g2 207 ((cA16u8 l5A5_0) ++ [(iq l5i5_1), (int .u32 l5i5_2)]))] []) X_ Y_) (S := over (tab [(1, (str a1)), (2, (pq g1)), (5, (pq g2)), (6, (iq l5i10)), (9, (iq (a1.length : Int))), (10, (iq l5i10))]) F_) ?_
 refine al_val (ov_load (i := 1) (v := (ag ((cA16u8 l5A5_0) ++ [(iq l5i5_1), (int .u32 l5i5_2)]))) rfl rfl Try.underlying207 sz207 rfl rfl rfl rfl) ?_
 refine al_nil ?_
 exact fr_fin hK_ ()⟩, ⟨_, rfl, [], rfl, by
 intro X_ Y_ F_ K_ hK_
 refine al_show (m := Mem.plus (memOf w0 Z0 [] [(oBox g1 35 [(iq a0.Min), (iq a0.Max), (iq a0.Bits)]), (oBox g2 207 ((cA16u8 l5A5_0) ++ [(iq l5i5_1), (int .u32 l5i5_2)]))] []) X_ Y_) (S := over (tab [(1, (str a1)), (2, (pq g1)), (5, (pq g2)), (6, (iq l5i10)), (9, (iq (a1.length : Int))), (10, (iq l5i10))]) F_) ?_
 refine al_mv rfl rfl ?_
 refine al_nil ?_
 exact fr_fin hK_ ()⟩, ⟨_, rfl, [], rfl, by
 intro X_ Y_ F_ K_ hK_
 refine al_show (m := Mem.plus (memOf w0 Z0 [] [(oBox g1 35 [(iq a0.Min), (iq a0.Max), (iq a0.Bits)]), (oBox g2 207 ((cA16u8 l5A5_0) ++ [(iq l5i5_1), (int .u32 l5i5_2)]))] []) X_ Y_) (S := over (tab [(1, (str a1)), (2, (pq g1)), (5, (pq g2)), (6, (iq l5i10)), (9, (iq (a1.length : Int))), (10, (iq l5i10))]) F_) ?_
 refine al_mv rfl rfl ?_
 refine al_nil ?_
 exact fr_fin hK_ ()⟩, ⟨_, rfl, [1, 2], rfl, by
 intro _
 intro _
 intro X_ Y_ F_ K_ hK_
 refine al_show (m := Mem.plus (memOf w0 Z0 [] [(oBox g1 35 [(iq a0.Min), (iq a0.Max), (iq a0.Bits)]), (oBox g2 207 ((cA16u8 l5A5_0) ++ [(iq l5i5_1), (int .u32 l5i5_2)]))] []) X_ Y_) (S := over (put (put (tab [(1, (str a1)), (2, (pq g1)), (5, (pq g2)), (6, (iq l5i10)), (9, (iq (a1.length : Int))), (10, (iq l5i10))]) 15 (str a1)) 16 (iq l5i10)) F_) ?_
 refine al_val (ov_strIdx hc9.1 hc9.2 Try.underlying9 rfl rfl rfl) ?_
 refine al_nil ?_
 exact fr_fin hK_ ()⟩, trivial⟩ ?_
   intro _
   intro _
   intro _
   intro _
   intro X_ Y_ F_ K_ hK_
   refine al_show (m := Mem.plus (memOf w0 Z0 [] [(oBox g1 35 [(iq a0.Min), (iq a0.Max), (iq a0.Bits)]), (oBox g2 207 ((cA16u8 l5A5_0) ++ [(iq l5i5_1), (int .u32 l5i5_2)]))] []) X_ Y_) (S := over (put (put (put (put (tab [(1, (str a1)), (2, (pq g1)), (5, (pq g2)), (6, (iq l5i10)), (9, (iq (a1.length : Int))), (10, (iq l5i10))]) 14 (ag ((cA16u8 l5A5_0) ++ [(iq l5i5_1), (int .u32 l5i5_2)]))) 15 (str a1)) 16 (iq l5i10)) 17 (i8 (En.bAt a1 l5i10))) F_) ?_
   obtain ⟨r11, hc10, h⟩ := opt_some h
   refine al_callX (vs := [(ag ((cA16u8 l5A5_0) ++ [(iq l5i5_1), (int .u32 l5i5_2)])), (i8 (En.bAt a1 l5i10))]) (f_roll_Push_ok fu (S_api_Roll.mk l5A5_0 l5i5_1 l5i5_2) (En.bAt a1 l5i10) hc10) [] [] [0, 1] pre_nil rfl (by simp) (by decide) rfl (.inl rfl) rfl Try.func144 rfl rfl rfl (fun _ => ?_)
   refine al_nil ?_
   refine aq_show (m := Mem.plus (memOf w0 Z0 [] [(oBox g1 35 [(iq a0.Min), (iq a0.Max), (iq a0.Bits)]), (oBox g2 207 ((cA16u8 l5A5_0) ++ [(iq l5i5_1), (int .u32 l5i5_2)]))] []) X_ Y_) ?_
   refine aq_next hK_ [0, 1] [] [(1, (str a1)), (2, (pq g1)), (5, (pq g2)), (6, (iq l5i10)), (9, (iq (a1.length : Int))), (10, (iq l5i10)), (18, (Value.tuple #[(ag ((cA16u8 r11.1.Win) ++ [(iq r11.1.At), (int .u32 r11.1.Sum)])), (iq r11.2)]))] [] [⟨5, 13, Unit, fun _ => { val := (Value.tuple #[(ag ((cA16u8 r11.1.Win) ++ [(iq r11.1.At), (int .u32 r11.1.Sum)])), (iq r11.2)]) }⟩, ⟨6, 19, Unit, fun _ => { val := (ag ((cA16u8 r11.1.Win) ++ [(iq r11.1.At), (int .u32 r11.1.Sum)])) }⟩, ⟨7, 20, Unit, fun _ => { val := (iq r11.2) }⟩] rfl rfl (by decide) rfl ⟨rfl, rfl, rfl, rfl, rfl, rfl, rfl, trivial⟩ trivial ?_
   clear hK_ K_ F_ X_ Y_
   refine ta_show (m := (memOf w0 Z0 [] [(oBox g1 35 [(iq a0.Min), (iq a0.Max), (iq a0.Bits)]), (oBox g2 207 ((cA16u8 l5A5_0) ++ [(iq l5i5_1), (int .u32 l5i5_2)]))] [])) (S := (tab [(1, (str a1)), (2, (pq g1)), (5, (pq g2)), (6, (iq l5i10)), (9, (iq (a1.length : Int))), (10, (iq l5i10)), (18, (Value.tuple #[(ag ((cA16u8 r11.1.Win) ++ [(iq r11.1.At), (int .u32 r11.1.Sum)])), (iq r11.2)]))])) ?_
   refine ta_step 8 _ [5, 6, 7] [13, 19, 20] [5, 6] [] [⟨5, 13, Unit, fun _ => { val := (Value.tuple #[(ag ((cA16u8 r11.1.Win) ++ [(iq r11.1.At), (int .u32 r11.1.Sum)])), (iq r11.2)]) }⟩, ⟨6, 19, Unit, fun _ => { val := (ag ((cA16u8 r11.1.Win) ++ [(iq r11.1.At), (int .u32 r11.1.Sum)])) }⟩] [⟨7, 20, Unit, fun _ => { val := (iq r11.2) }⟩] rfl rfl rfl (by kernel_rfl) rfl rfl rfl ⟨⟨_, rfl, [], rfl, by
 intro X_ Y_ F_ K_ hK_
 refine al_show (m := Mem.plus (memOf w0 Z0 [] [(oBox g1 35 [(iq a0.Min), (iq a0.Max), (iq a0.Bits)]), (oBox g2 207 ((cA16u8 l5A5_0) ++ [(iq l5i5_1), (int .u32 l5i5_2)]))] []) X_ Y_) (S := over (tab [(1, (str a1)), (2, (pq g1)), (5, (pq g2)), (6, (iq l5i10)), (9, (iq (a1.length : Int))), (10, (iq l5i10)), (18, (Value.tuple #[(ag ((cA16u8 r11.1.Win) ++ [(iq r11.1.At), (int .u32 r11.1.Sum)])), (iq r11.2)]))]) F_) ?_
 refine al_mv rfl rfl ?_
 refine al_nil ?_
 exact fr_fin hK_ ()⟩, ⟨_, rfl, [0], rfl, by
 intro _
 intro X_ Y_ F_ K_ hK_
 refine al_show (m := Mem.plus (memOf w0 Z0 [] [(oBox g1 35 [(iq a0.Min), (iq a0.Max), (iq a0.Bits)]), (oBox g2 207 ((cA16u8 l5A5_0) ++ [(iq l5i5_1), (int .u32 l5i5_2)]))] []) X_ Y_) (S := over (put (tab [(1, (str a1)), (2, (pq g1)), (5, (pq g2)), (6, (iq l5i10)), (9, (iq (a1.length : Int))), (10, (iq l5i10)), (18, (Value.tuple #[(ag ((cA16u8 r11.1.Win) ++ [(iq r11.1.At), (int .u32 r11.1.Sum)])), (iq r11.2)]))]) 13 (Value.tuple #[(ag ((cA16u8 r11.1.Win) ++ [(iq r11.1.At), (int .u32 r11.1.Sum)])), (iq r11.2)])) F_) ?_
 refine al_ex rfl rfl rfl ?_
 refine al_nil ?_
 exact fr_fin hK_ ()⟩, ⟨_, rfl, [0], rfl, by
 intro _
 intro X_ Y_ F_ K_ hK_
 refine al_show (m := Mem.plus (memOf w0 Z0 [] [(oBox g1 35 [(iq a0.Min), (iq a0.Max), (iq a0.Bits)]), (oBox g2 207 ((cA16u8 l5A5_0) ++ [(iq l5i5_1), (int .u32 l5i5_2)]))] []) X_ Y_) (S := over (put (tab [(1, (str a1)), (2, (pq g1)), (5, (pq g2)), (6, (iq l5i10)), (9, (iq (a1.length : Int))), (10, (iq l5i10)), (18, (Value.tuple #[(ag ((cA16u8 r11.1.Win) ++ [(iq r11.1.At), (int .u32 r11.1.Sum)])), (iq r11.2)]))]) 13 (Value.tuple #[(ag ((cA16u8 r11.1.Win) ++ [(iq r11.1.At), (int .u32 r11.1.Sum)])), (iq r11.2)])) F_) ?_
 refine al_ex rfl rfl rfl ?_
 refine al_nil ?_
 exact fr_fin hK_ ()⟩, trivial⟩ ?_
   intro _
   intro _
   intro X_ Y_ F_ K_ hK_
   refine al_show (m := Mem.plus (memOf w0 Z0 [] [(oBox g1 35 [(iq a0.Min), (iq a0.Max), (iq a0.Bits)]), (oBox g2 207 ((cA16u8 l5A5_0) ++ [(iq l5i5_1), (int .u32 l5i5_2)]))] []) X_ Y_) (S := over (put (put (tab [(1, (str a1)), (2, (pq g1)), (5, (pq g2)), (6, (iq l5i10)), (9, (iq (a1.length : Int))), (10, (iq l5i10)), (18, (Value.tuple #[(ag ((cA16u8 r11.1.Win) ++ [(iq r11.1.At), (int .u32 r11.1.Sum)])), (iq r11.2)]))]) 13 (Value.tuple #[(ag ((cA16u8 r11.1.Win) ++ [(iq r11.1.At), (int .u32 r11.1.Sum)])), (iq r11.2)])) 19 (ag ((cA16u8 r11.1.Win) ++ [(iq r11.1.At), (int .u32 r11.1.Sum)]))) F_) ?_
   refine al_store (i := 1) (vs := ((cA16u8 r11.1.Win) ++ [(iq r11.1.At), (int .u32 r11.1.Sum)])) (cs' := ((cA16u8 r11.1.Win) ++ [(iq r11.1.At), (int .u32 r11.1.Sum)])) rfl rfl rfl sz207 (cv_rfl rfl) rfl (co_app (oneA16u8 r11.1.Win) (co_val rfl (co_val rfl co_nil))) (Nat.le_of_ble_eq_true rfl) rfl rfl ?_
   refine al_nil ?_
   refine aq_show (m := Mem.plus (memOf w0 Z0 [] [(oBox g1 35 [(iq a0.Min), (iq a0.Max), (iq a0.Bits)]), (oBox g2 207 ((cA16u8 r11.1.Win) ++ [(iq r11.1.At), (int .u32 r11.1.Sum)]))] []) X_ Y_) ?_
   refine aq_next hK_ [0, 1] [] [(1, (str a1)), (2, (pq g1)), (5, (pq g2)), (6, (iq l5i10)), (9, (iq (a1.length : Int))), (10, (iq l5i10)), (13, (Value.tuple #[(ag ((cA16u8 r11.1.Win) ++ [(iq r11.1.At), (int .u32 r11.1.Sum)])), (iq r11.2)]))] [20] [] rfl rfl (by decide) rfl ⟨rfl, rfl, rfl, rfl, rfl, rfl, rfl, trivial⟩ ⟨rfl, trivial⟩ ?_
   clear hK_ K_ F_ X_ Y_
   refine ta_show (m := (memOf w0 Z0 [] [(oBox g1 35 [(iq a0.Min), (iq a0.Max), (iq a0.Bits)]), (oBox g2 207 ((cA16u8 r11.1.Win) ++ [(iq r11.1.At), (int .u32 r11.1.Sum)]))] [])) (S := (tab [(1, (str a1)), (2, (pq g1)), (5, (pq g2)), (6, (iq l5i10)), (9, (iq (a1.length : Int))), (10, (iq l5i10)), (13, (Value.tuple #[(ag ((cA16u8 r11.1.Win) ++ [(iq r11.1.At), (int .u32 r11.1.Sum)])), (iq r11.2)]))])) ?_
   refine ta_end [7] [20] rfl rfl (by kernel_rfl) rfl ⟨⟨_, rfl, [], rfl, by
 intro X_ Y_ F_ K_ hK_
 refine al_show (m := Mem.plus (memOf w0 Z0 [] [(oBox g1 35 [(iq a0.Min), (iq a0.Max), (iq a0.Bits)]), (oBox g2 207 ((cA16u8 r11.1.Win) ++ [(iq r11.1.At), (int .u32 r11.1.Sum)]))] []) X_ Y_) (S := over (tab [(1, (str a1)), (2, (pq g1)), (5, (pq g2)), (6, (iq l5i10)), (9, (iq (a1.length : Int))), (10, (iq l5i10)), (13, (Value.tuple #[(ag ((cA16u8 r11.1.Win) ++ [(iq r11.1.At), (int .u32 r11.1.Sum)])), (iq r11.2)]))]) F_) ?_
 refine al_ex rfl rfl rfl ?_
 refine al_nil ?_
 exact fr_fin hK_ ()⟩, trivial⟩ ?_
   intro _
   refine aq_show (m := (memOf w0 Z0 [] [(oBox g1 35 [(iq a0.Min), (iq a0.Max), (iq a0.Bits)]), (oBox g2 207 ((cA16u8 r11.1.Win) ++ [(iq r11.1.At), (int .u32 r11.1.Sum)]))] [])) (S := (put (tab [(1, (str a1)), (2, (pq g1)), (5, (pq g2)), (6, (iq l5i10)), (9, (iq (a1.length : Int))), (10, (iq l5i10)), (13, (Value.tuple #[(ag ((cA16u8 r11.1.Win) ++ [(iq r11.1.At), (int .u32 r11.1.Sum)])), (iq r11.2)]))]) 20 (iq r11.2))) ?_
   refine aq_tr ?_
   refine al_mv rfl rfl ?_
   refine al_in rfl rfl rfl rfl ?_
   refine al_as rfl rfl ?_
   refine al_nt ?_
   obtain ⟨kk13, hkk13, h⟩ := lt_some h
   refine aw_seq_join (ι := Bool) (fun i => (memOf w0 Z0 [] [(oBox g1 35 [(iq a0.Min), (iq a0.Max), (iq a0.Bits)]), (oBox g2 207 ((cA16u8 r11.1.Win) ++ [(iq r11.1.At), (int .u32 r11.1.Sum)]))] [])) (fun i => (tab [(1, (str a1)), (2, (pq g1)), (5, (pq g2)), (7, (iq (wq (l5i10 + (1 : Int))))), (9, (iq (a1.length : Int))), (10, (iq l5i10)), (42, (bool i))])) (fun i => kk13 i = some r) ?_ ?_
   ·rintro j12b42 h
    have h : kk13 j12b42 = some r := h
    rw [hkk13] at h
    dsimp only at h
    clear hkk13
    refine aw_show (m := (memOf w0 Z0 [] [(oBox g1 35 [(iq a0.Min), (iq a0.Max), (iq a0.Bits)]), (oBox g2 207 ((cA16u8 r11.1.Win) ++ [(iq r11.1.At), (int .u32 r11.1.Sum)]))] [])) (S := (tab [(1, (str a1)), (2, (pq g1)), (5, (pq g2)), (7, (iq (wq (l5i10 + (1 : Int))))), (9, (iq (a1.length : Int))), (10, (iq l5i10)), (42, (bool j12b42))])) ?_
    refine aw_cond rfl (fun hb14 => ?_) (fun hb14 => ?_)
    ·replace h := bif_t hb14 h
     refine aw_sr ?_
     refine al_mv rfl rfl ?_
     refine al_as rfl rfl ?_
     refine al_nt ?_
     refine aw_ret ?_
     refine aq_block_ret ?_
     refine aq_then_ret ?_
     refine aq_then_ret ?_
     refine aq_block_ret ?_
     refine aq_then_ret ?_
     obtain rfl := Option.some.inj h
     exact fn_ret () [] [] rfl rfl rfl rfl (res1 rfl rfl) rfl rfl rfl (by decide)
    ·replace h := bif_f hb14 h
     refine aw_skip ?_
     refine aq_block ?_
     refine aq_then ?_
     refine aw_region ?_
     refine al_in rfl rfl rfl rfl ?_
     refine al_mv rfl rfl ?_
     refine al_nil ?_
     exact aq_again k6 (r11.1.Win, r11.1.At, r11.1.Sum, (wq (l5i10 + (1 : Int)))) (Nat.lt_succ_self _) h (fun w a hm hs => norm hm hs [0, 1] [] [(1, (str a1)), (2, (pq g1)), (5, (pq g2)), (9, (iq (a1.length : Int))), (10, (iq (wq (l5i10 + (1 : Int)))))] (by decide) ⟨rfl, rfl, rfl, rfl, rfl, trivial⟩)
   ·clear hkk13
    rcases Bool.eq_false_or_eq_true ((wq (l5i10 + (1 : Int))) == a0.Max) with hb15 | hb15
    ·replace h := bif_t hb15 h
     refine aw_region_draw 19 [(23, (fun u => fEq u (iq (wq (l5i10 + (1 : Int)))))), (24, (fun u => fEq u (ptr g1 1))), (25, (fun u => fEq u (iq a0.Max))), (26, (fun u => fEq u (bool true))), (27, (fun u => fEq u (bool true))), (28, (fun u => fEq u undef)), (29, (fun u => fEq u undef)), (30, (fun u => fEq u undef)), (31, (fun u => fEq u undef)), (32, (fun u => fEq u undef)), (33, (fun u => fEq u undef)), (34, (fun u => fEq u undef)), (35, (fun u => fEq u undef)), (36, (fun u => fEq u undef)), (37, (fun u => fEq u undef)), (38, (fun u => fEq u undef)), (39, (fun u => fEq u undef)), (40, (fun u => fEq u undef)), (41, (fun u => fEq u undef))] (tab [(1, (str a1)), (2, (pq g1)), (5, (pq g2)), (7, (iq (wq (l5i10 + (1 : Int))))), (9, (iq (a1.length : Int))), (10, (iq l5i10))]) mixed (by kernel_rfl) rfl rfl rfl (fun a hs => hs.tab _ (allT_mem ⟨rfl, rfl, rfl, rfl, rfl, rfl, trivial⟩)) ⟨⟨rfl, ld_val (ov_move rfl rfl)⟩, ⟨rfl, ld_val (ov_fieldA (p := 1) rfl Try.underlying35 rfl sz3 rfl rfl rfl)⟩, ⟨rfl, ld_eq (j := 1) rfl rfl (ld_val (ov_load (i := 0) (v := (iq a0.Max)) rfl rfl Try.underlying3 sz3 rfl rfl rfl rfl))⟩, ⟨rfl, ld_eq (j := 0) rfl rfl (ld_eq (j := 2) rfl rfl (ld_val (ov_cast (by first | rw [hb15] | rfl) (ov_int rfl rfl rfl rfl))))⟩, ⟨rfl, ld_eq (j := 3) rfl rfl (ld_val (ov_cast (by first | rw [hb15] | rfl) (ov_move rfl rfl)))⟩, ⟨rfl, ld_eq (j := 4) rfl rfl (ld_skip)⟩, ⟨rfl, ld_eq (j := 4) rfl rfl (ld_skip)⟩, ⟨rfl, ld_eq (j := 4) rfl rfl (ld_skip)⟩, ⟨rfl, ld_eq (j := 4) rfl rfl (ld_skip)⟩, ⟨rfl, ld_eq (j := 4) rfl rfl (ld_skip)⟩, ⟨rfl, ld_eq (j := 9) rfl rfl (ld_skip)⟩, ⟨rfl, ld_eq (j := 9) rfl rfl (ld_skip)⟩, ⟨rfl, ld_eq (j := 9) rfl rfl (ld_skip)⟩, ⟨rfl, ld_eq (j := 9) rfl rfl (ld_skip)⟩, ⟨rfl, ld_eq (j := 9) rfl rfl (ld_skip)⟩, ⟨rfl, ld_eq (j := 9) rfl rfl (ld_skip)⟩, ⟨rfl, ld_eq (j := 9) rfl rfl (ld_skip)⟩, ⟨rfl, ld_eq (j := 9) rfl rfl (ld_skip)⟩, ⟨rfl, ld_eq (j := 4) rfl rfl (ld_skip)⟩, trivial⟩ ?_
     refine tl_eq 4 rfl ?_
     refine tl_eq 18 rfl ?_
     refine tl_done ?_
     refine al_val (ov_pick_t rfl rfl rfl) ?_
     refine al_nil ?_
     exact aq_join true h (fun w a hm hs => norm hm hs [0, 1] [] [(1, (str a1)), (2, (pq g1)), (5, (pq g2)), (7, (iq (wq (l5i10 + (1 : Int))))), (9, (iq (a1.length : Int))), (10, (iq l5i10)), (42, (bool true))] (by decide) ⟨rfl, rfl, rfl, rfl, rfl, rfl, rfl, trivial⟩)
    ·replace h := bif_f hb15 h
     rcases Bool.eq_false_or_eq_true (decide ((wq (l5i10 + (1 : Int))) ≥ a0.Min)) with hb16 | hb16
     ·replace h := bif_t hb16 h
      obtain ⟨hc17, h⟩ := req_some h
      refine aw_region_draw 19 [(23, (fun u => fEq u (iq (wq (l5i10 + (1 : Int)))))), (24, (fun u => fEq u (ptr g1 1))), (25, (fun u => fEq u (iq a0.Max))), (26, (fun u => fEq u (bool false))), (27, (fun u => fEq u (bool false))), (28, (fun u => fEq u (iq (wq (l5i10 + (1 : Int)))))), (29, (fun u => fEq u (pq g1))), (30, (fun u => fEq u (iq a0.Min))), (31, (fun u => fEq u (bool true))), (32, (fun u => fEq u (bool true))), (33, (fun u => fEq u (ptr g2 17))), (34, (fun u => fEq u (int .u32 r11.1.Sum))), (35, (fun u => fEq u (ptr g1 2))), (36, (fun u => fEq u (iq a0.Bits))), (37, (fun u => fEq u (int .u32 (IntKind.u32.wrap ((1 : Int) * 2 ^ min (a0.Bits).toNat (IntKind.bits .u32)))))), (38, (fun u => fEq u (int .u32 (IntKind.u32.wrap ((IntKind.u32.wrap ((1 : Int) * 2 ^ min (a0.Bits).toNat (IntKind.bits .u32))) - (1 : Int)))))), (39, (fun u => fEq u (int .u32 (bits .and .u32 r11.1.Sum (IntKind.u32.wrap ((IntKind.u32.wrap ((1 : Int) * 2 ^ min (a0.Bits).toNat (IntKind.bits .u32))) - (1 : Int))))))), (40, (fun u => fEq u (bool ((bits .and .u32 r11.1.Sum (IntKind.u32.wrap ((IntKind.u32.wrap ((1 : Int) * 2 ^ min (a0.Bits).toNat (IntKind.bits .u32))) - (1 : Int)))) == (0 : Int))))), (41, (fun u => fEq u (bool ((bits .and .u32 r11.1.Sum (IntKind.u32.wrap ((IntKind.u32.wrap ((1 : Int) * 2 ^ min (a0.Bits).toNat (IntKind.bits .u32))) - (1 : Int)))) == (0 : Int)))))] (tab [(1, (str a1)), (2, (pq g1)), (5, (pq g2)), (7, (iq (wq (l5i10 + (1 : Int))))), (9, (iq (a1.length : Int))), (10, (iq l5i10))]) mixed (by kernel_rfl) rfl rfl rfl (fun a hs => hs.tab _ (allT_mem ⟨rfl, rfl, rfl, rfl, rfl, rfl, trivial⟩)) ⟨⟨rfl, ld_val (ov_move rfl rfl)⟩, ⟨rfl, ld_val (ov_fieldA (p := 1) rfl Try.underlying35 rfl sz3 rfl rfl rfl)⟩, ⟨rfl, ld_eq (j := 1) rfl rfl (ld_val (ov_load (i := 0) (v := (iq a0.Max)) rfl rfl Try.underlying3 sz3 rfl rfl rfl rfl))⟩, ⟨rfl, ld_eq (j := 0) rfl rfl (ld_eq (j := 2) rfl rfl (ld_val (ov_cast (by first | rw [hb15] | rfl) (ov_int rfl rfl rfl rfl))))⟩, ⟨rfl, ld_eq (j := 3) rfl rfl (ld_val (ov_cast (by first | rw [hb15] | rfl) (ov_move rfl rfl)))⟩, ⟨rfl, ld_eq (j := 4) rfl rfl (ld_val (ov_move rfl rfl))⟩, ⟨rfl, ld_eq (j := 4) rfl rfl (ld_val (ov_fieldA (p := 0) rfl Try.underlying35 rfl sz3 rfl rfl rfl))⟩, ⟨rfl, ld_eq (j := 4) rfl rfl (ld_eq (j := 6) rfl rfl (ld_val (ov_load (i := 0) (v := (iq a0.Min)) rfl rfl Try.underlying3 sz3 rfl rfl rfl rfl)))⟩, ⟨rfl, ld_eq (j := 4) rfl rfl (ld_eq (j := 5) rfl rfl (ld_eq (j := 7) rfl rfl (ld_val (ov_cast (by first | rw [hb16] | rfl) (ov_int rfl rfl rfl rfl)))))⟩, ⟨rfl, ld_eq (j := 4) rfl rfl (ld_eq (j := 8) rfl rfl (ld_val (ov_cast (by first | rw [hb16] | rfl) (ov_move rfl rfl))))⟩, ⟨rfl, ld_eq (j := 9) rfl rfl (ld_val (ov_fieldA (p := 17) rfl Try.underlying207 rfl sz190 rfl rfl rfl))⟩, ⟨rfl, ld_eq (j := 9) rfl rfl (ld_eq (j := 10) rfl rfl (ld_val (ov_load (i := 1) (v := (int .u32 r11.1.Sum)) rfl rfl Try.underlying190 sz190 rfl rfl rfl rfl)))⟩, ⟨rfl, ld_eq (j := 9) rfl rfl (ld_val (ov_fieldA (p := 2) rfl Try.underlying35 rfl sz3 rfl rfl rfl))⟩, ⟨rfl, ld_eq (j := 9) rfl rfl (ld_eq (j := 12) rfl rfl (ld_val (ov_load (i := 0) (v := (iq a0.Bits)) rfl rfl Try.underlying3 sz3 rfl rfl rfl rfl)))⟩, ⟨rfl, ld_eq (j := 9) rfl rfl (ld_eq (j := 13) rfl rfl (ld_val (ov_shl hc17 rfl rfl rfl)))⟩, ⟨rfl, ld_eq (j := 9) rfl rfl (ld_eq (j := 14) rfl rfl (ld_val (ov_int rfl rfl rfl rfl)))⟩, ⟨rfl, ld_eq (j := 9) rfl rfl (ld_eq (j := 11) rfl rfl (ld_eq (j := 15) rfl rfl (ld_val (ov_int rfl rfl rfl rfl))))⟩, ⟨rfl, ld_eq (j := 9) rfl rfl (ld_eq (j := 16) rfl rfl (ld_val (ov_int rfl rfl rfl rfl)))⟩, ⟨rfl, ld_eq (j := 4) rfl rfl (ld_eq (j := 9) rfl rfl (ld_eq (j := 17) rfl rfl (ld_val (ov_pick_t rfl rfl rfl))))⟩, trivial⟩ ?_
      refine tl_eq 4 rfl ?_
      refine tl_eq 18 rfl ?_
      refine tl_done ?_
      refine al_val (ov_pick_f rfl rfl rfl) ?_
      refine al_nil ?_
      exact aq_join ((bits .and .u32 r11.1.Sum (IntKind.u32.wrap ((IntKind.u32.wrap ((1 : Int) * 2 ^ min (a0.Bits).toNat (IntKind.bits .u32))) - (1 : Int)))) == (0 : Int)) h (fun w a hm hs => norm hm hs [0, 1] [] [(1, (str a1)), (2, (pq g1)), (5, (pq g2)), (7, (iq (wq (l5i10 + (1 : Int))))), (9, (iq (a1.length : Int))), (10, (iq l5i10)), (42, (bool ((bits .and .u32 r11.1.Sum (IntKind.u32.wrap ((IntKind.u32.wrap ((1 : Int) * 2 ^ min (a0.Bits).toNat (IntKind.bits .u32))) - (1 : Int)))) == (0 : Int))))] (by decide) ⟨rfl, rfl, rfl, rfl, rfl, rfl, rfl, trivial⟩)
     ·replace h := bif_f hb16 h
      refine aw_region_draw 19 [(23, (fun u => fEq u (iq (wq (l5i10 + (1 : Int)))))), (24, (fun u => fEq u (ptr g1 1))), (25, (fun u => fEq u (iq a0.Max))), (26, (fun u => fEq u (bool false))), (27, (fun u => fEq u (bool false))), (28, (fun u => fEq u (iq (wq (l5i10 + (1 : Int)))))), (29, (fun u => fEq u (pq g1))), (30, (fun u => fEq u (iq a0.Min))), (31, (fun u => fEq u (bool false))), (32, (fun u => fEq u (bool false))), (33, (fun u => fEq u undef)), (34, (fun u => fEq u undef)), (35, (fun u => fEq u undef)), (36, (fun u => fEq u undef)), (37, (fun u => fEq u undef)), (38, (fun u => fEq u undef)), (39, (fun u => fEq u undef)), (40, (fun u => fEq u undef)), (41, (fun u => fEq u (bool false)))] (tab [(1, (str a1)), (2, (pq g1)), (5, (pq g2)), (7, (iq (wq (l5i10 + (1 : Int))))), (9, (iq (a1.length : Int))), (10, (iq l5i10))]) mixed (by kernel_rfl) rfl rfl rfl (fun a hs => hs.tab _ (allT_mem ⟨rfl, rfl, rfl, rfl, rfl, rfl, trivial⟩)) ⟨⟨rfl, ld_val (ov_move rfl rfl)⟩, ⟨rfl, ld_val (ov_fieldA (p := 1) rfl Try.underlying35 rfl sz3 rfl rfl rfl)⟩, ⟨rfl, ld_eq (j := 1) rfl rfl (ld_val (ov_load (i := 0) (v := (iq a0.Max)) rfl rfl Try.underlying3 sz3 rfl rfl rfl rfl))⟩, ⟨rfl, ld_eq (j := 0) rfl rfl (ld_eq (j := 2) rfl rfl (ld_val (ov_cast (by first | rw [hb15] | rfl) (ov_int rfl rfl rfl rfl))))⟩, ⟨rfl, ld_eq (j := 3) rfl rfl (ld_val (ov_cast (by first | rw [hb15] | rfl) (ov_move rfl rfl)))⟩, ⟨rfl, ld_eq (j := 4) rfl rfl (ld_val (ov_move rfl rfl))⟩, ⟨rfl, ld_eq (j := 4) rfl rfl (ld_val (ov_fieldA (p := 0) rfl Try.underlying35 rfl sz3 rfl rfl rfl))⟩, ⟨rfl, ld_eq (j := 4) rfl rfl (ld_eq (j := 6) rfl rfl (ld_val (ov_load (i := 0) (v := (iq a0.Min)) rfl rfl Try.underlying3 sz3 rfl rfl rfl rfl)))⟩, ⟨rfl, ld_eq (j := 4) rfl rfl (ld_eq (j := 5) rfl rfl (ld_eq (j := 7) rfl rfl (ld_val (ov_cast (by first | rw [hb16] | rfl) (ov_int rfl rfl rfl rfl)))))⟩, ⟨rfl, ld_eq (j := 4) rfl rfl (ld_eq (j := 8) rfl rfl (ld_val (ov_cast (by first | rw [hb16] | rfl) (ov_move rfl rfl))))⟩, ⟨rfl, ld_eq (j := 9) rfl rfl (ld_skip)⟩, ⟨rfl, ld_eq (j := 9) rfl rfl (ld_skip)⟩, ⟨rfl, ld_eq (j := 9) rfl rfl (ld_skip)⟩, ⟨rfl, ld_eq (j := 9) rfl rfl (ld_skip)⟩, ⟨rfl, ld_eq (j := 9) rfl rfl (ld_skip)⟩, ⟨rfl, ld_eq (j := 9) rfl rfl (ld_skip)⟩, ⟨rfl, ld_eq (j := 9) rfl rfl (ld_skip)⟩, ⟨rfl, ld_eq (j := 9) rfl rfl (ld_skip)⟩, ⟨rfl, ld_eq (j := 4) rfl rfl (ld_eq (j := 9) rfl rfl (ld_eq (j := 17) rfl rfl (ld_val (ov_pick_f rfl rfl rfl))))⟩, trivial⟩ ?_
      refine tl_eq 4 rfl ?_
      refine tl_eq 18 rfl ?_
      refine tl_done ?_
      refine al_val (ov_pick_f rfl rfl rfl) ?_
      refine al_nil ?_
      exact aq_join false h (fun w a hm hs => norm hm hs [0, 1] [] [(1, (str a1)), (2, (pq g1)), (5, (pq g2)), (7, (iq (wq (l5i10 + (1 : Int))))), (9, (iq (a1.length : Int))), (10, (iq l5i10)), (42, (bool false))] (by decide) ⟨rfl, rfl, rfl, rfl, rfl, rfl, rfl, trivial⟩)
  ·replace h := bif_f hb8 h
   refine aw_exit ?_
   refine aq_then_exit ?_
   refine aq_then_exit ?_
   refine aq_block_exit ?_
   exact aq_join () h (fun w a hm hs => norm hm hs [] [] [] (by decide) trivial)
def f_chunk_pieces_L4 (a0 : S_api_Cut) (fu : Nat) : Nat → (List UInt8) → (List (List UInt8)) → Option ((List (List UInt8)) × (List UInt8))
  | 0, _, _ => none
  | k3 + 1, l2s1, l2x6 => (opt (f_chunk_end fu a0 l2s1) fun (r6 : Int) => (bif (r6 == (0 : Int)) then (some (l2x6, l2s1)) else (req (0 ≤ r6 ∧ r6 ≤ (l2s1.length : Int)) (req (((l2x6.length + ([(l2s1.take (r6).toNat)]).length) * 16 : Nat) ≤ 140737488355328 ∧ l2x6.length + ([(l2s1.take (r6).toNat)]).length ≤ 9223372036854775807) (req (0 ≤ r6 ∧ r6 ≤ (l2s1.length : Int)) (f_chunk_pieces_L4 a0 fu k3 (l2s1.drop (r6).toNat) (l2x6 ++ ([(l2s1.take (r6).toNat)]))))))))
def f_chunk_pieces (fu : Nat) (a0 : S_api_Cut) (a1 : (List UInt8)) : Option ((List (List UInt8)) × (List UInt8)) := (f_chunk_pieces_L4 a0 fu fu a1 ([] : List (List UInt8)))
set_option maxHeartbeats 2000000 in
set_option maxRecDepth 100000 in
theorem f_chunk_pieces_ok (fu : Nat) (a0 : S_api_Cut) (a1 : (List UInt8)) {r : ((List (List UInt8)) × (List UInt8))} (h : f_chunk_pieces fu a0 a1 = some r) : FnOk Try.prog 127 [(ag [(int .i64 a0.Min), (int .i64 a0.Max), (int .i64 a0.Bits)]), (str a1)] [] [] (fun (i : Value) => { val := (Value.tuple #[i, (str r.2)]), own := [(oRow i 9 tyStr r.1)] }) := by
 unfold f_chunk_pieces at h
 refine fn_enter Try.func127 rfl Try.ntmps127 rfl (fun w0 Z0 => ?_)
 refine aw_sr ?_
 refine al_box (vs := [(iq a0.Min), (iq a0.Max), (iq a0.Bits)]) rfl (cv_rfl rfl) rfl (fun g1 => ?_)
 refine al_as rfl rfl ?_
 refine al_as rfl rfl ?_
 refine al_nt ?_
 refine aw_sr ?_
 refine al_as rfl rfl ?_
 refine al_nt ?_
 refine aw_block ?_
 refine aw_nilR 9 tyStr ?_
 refine aw_state (aw_loop (ι := (List UInt8) × Value × (List (List UInt8))) (fun i => (memOf w0 Z0 [] [(oBox g1 35 [(iq a0.Min), (iq a0.Max), (iq a0.Bits)]), (oRow i.2.1 9 tyStr i.2.2)] [])) (fun i => (tab [(1, (str i.1)), (2, (pq g1)), (6, i.2.1)])) (fun q i => f_chunk_pieces_L4 a0 fu q i.1 i.2.2 = some r) ?_ fu (a1, nS, ([] : List (List UInt8))) h) (fun w a hm hs => norm hm hs [1, 0] [] [(1, (str a1)), (2, (pq g1)), (6, nS)] (by decide) ⟨rfl, rfl, rfl, trivial⟩)
 clear h
 rintro k3 ⟨l2s1, l2v6, l2x6⟩ h
 have h : f_chunk_pieces_L4 a0 fu k3 l2s1 l2x6 = some r := h
 obtain _ | k3 := k3
 · rw [f_chunk_pieces_L4] at h; cases h
 rw [f_chunk_pieces_L4] at h
 refine aw_show (m := (memOf w0 Z0 [] [(oBox g1 35 [(iq a0.Min), (iq a0.Max), (iq a0.Bits)]), (oRow l2v6 9 tyStr l2x6)] [])) (S := (tab [(1, (str l2s1)), (2, (pq g1)), (6, l2v6)])) ?_
 refine aw_block ?_
 refine aw_sr ?_
 refine al_val (ov_load (i := 0) (v := (ag [(iq a0.Min), (iq a0.Max), (iq a0.Bits)])) rfl rfl Try.underlying35 sz35 rfl rfl rfl rfl) ?_
 refine al_mv rfl rfl ?_
 obtain ⟨r6, hc5, h⟩ := opt_some h
 refine al_call (vs := [(ag [(iq a0.Min), (iq a0.Max), (iq a0.Bits)]), (str l2s1)]) (f_chunk_end_ok fu a0 l2s1 hc5) [] [] [0, 1] pre_nil rfl (by simp) (by decide) (.inl rfl) rfl Try.func138 rfl rfl rfl (fun _ => ?_)
 refine al_as rfl rfl ?_
 refine al_nt ?_
 refine aw_seq ?_
 refine aw_sr ?_
 refine al_mv rfl rfl ?_
 refine al_in rfl rfl rfl rfl ?_
 refine al_nt ?_
 refine aw_cond rfl (fun hb7 => ?_) (fun hb7 => ?_)
 ·replace h := bif_t hb7 h
  refine aw_sr ?_
  refine al_mv rfl rfl ?_
  refine al_mv rfl rfl ?_
  refine al_as rfl rfl ?_
  refine al_as rfl rfl ?_
  refine al_nt ?_
  refine aw_ret ?_
  refine aq_then_ret ?_
  refine aq_block_ret ?_
  refine aq_then_ret ?_
  refine aq_block_ret ?_
  obtain rfl := Option.some.inj h
  exact fn_ret l2v6 [1] [] rfl rfl rfl rfl (res2 rfl rfl rfl) rfl rfl rfl (by decide)
 ·replace h := bif_f hb7 h
  refine aw_skip ?_
  refine aq_tr ?_
  refine al_mv rfl rfl ?_
  refine al_mv rfl rfl ?_
  refine al_mv rfl rfl ?_
  obtain ⟨hc8, h⟩ := req_some h
  refine al_val (ov_strTo hc8.1 hc8.2 Try.underlying9 rfl rfl rfl) ?_
  refine al_buildSlice (τ := tyStr) (e := 9) (k := 1) (sz := 0) (by_ := 0) (z := undef) (cs := [(str (l2s1.take (r6).toNat))]) (xs := [(l2s1.take (r6).toNat)]) rfl (by decide) (fun w a hm hs => ⟨([(str (l2s1.take (r6).toNat))]).toArray, rfl, by simp only [List.map_toArray, List.map_cons, List.map_nil, hs.ev (x := .tmp 18) rfl]; exact run_bs [(str (l2s1.take (r6).toNat))] [(str (l2s1.take (r6).toNat))] Try.underlying23 to9 rfl rfl (bs_cons (l := [(str (l2s1.take (r6).toNat))]) (cs := []) (cv_rfl rfl) rfl bs_nil) hm⟩) (fun hm => ⟨_, _, rfl, (fun _ => rfl) hm, rfl⟩) rfl (fun v9 => ?_)
  obtain ⟨hc10, h⟩ := req_some h
  refine al_append 2 hc10.1 hc10.2 rfl (src_own (i := 2) 0 rfl) rfl rfl Try.underlying23 to9 rfl rfl rfl (fun v11 => ?_)
  refine al_as rfl rfl ?_
  refine al_nt ?_
  refine aw_region ?_
  refine al_mv rfl rfl ?_
  refine al_mv rfl rfl ?_
  obtain ⟨hc12, h⟩ := req_some h
  refine al_val (ov_strFrom hc12.1 hc12.2 Try.underlying9 rfl rfl rfl) ?_
  refine al_as rfl rfl ?_
  refine al_nil ?_
  refine aq_block ?_
  exact aq_again k3 ((l2s1.drop (r6).toNat), v11, (l2x6 ++ ([(l2s1.take (r6).toNat)]))) (Nat.lt_succ_self _) h (fun w a hm hs => norm hm hs [1, 2] [] [(1, (str (l2s1.drop (r6).toNat))), (2, (pq g1)), (6, v11)] (by decide) ⟨rfl, rfl, rfl, trivial⟩)
def f_chunk_Feed (fu : Nat) (a0 : S_api_Cut) (a1 : (List UInt8)) (a2 : (List UInt8)) : Option ((List (List UInt8)) × (List UInt8) × Int) := (opt (f_chunk_Check fu a0) fun (r3 : Int) => (bif (r3 != (0 : Int)) then (some (([] : List (List UInt8)), ([] : List UInt8), r3)) else (bif (decide ((IntKind.i64.wrap ((a1.length : Int) + (a2.length : Int))) > (4096 : Int))) then (some (([] : List (List UInt8)), ([] : List UInt8), (2 : Int))) else (req (a1.length + a2.length ≤ 9223372036854775807) (opt (f_chunk_pieces fu a0 (a1 ++ a2)) fun (r8 : ((List (List UInt8)) × (List UInt8))) => (some (r8.1, r8.2, (0 : Int))))))))
set_option maxHeartbeats 2000000 in
set_option maxRecDepth 100000 in
theorem f_chunk_Feed_ok (fu : Nat) (a0 : S_api_Cut) (a1 : (List UInt8)) (a2 : (List UInt8)) {r : ((List (List UInt8)) × (List UInt8) × Int)} (h : f_chunk_Feed fu a0 a1 a2 = some r) : FnOk Try.prog 97 [(ag [(int .i64 a0.Min), (int .i64 a0.Max), (int .i64 a0.Bits)]), (str a1), (str a2)] [] [] (fun (i : Value) => { val := (Value.tuple #[i, (str r.2.1), (int .i64 r.2.2)]), own := [(oRow i 9 tyStr r.1)] }) := by
 unfold f_chunk_Feed at h
 refine fn_enter Try.func97 rfl Try.ntmps97 rfl (fun w0 Z0 => ?_)
 refine aw_sr ?_
 refine al_box (vs := [(iq a0.Min), (iq a0.Max), (iq a0.Bits)]) rfl (cv_rfl rfl) rfl (fun g1 => ?_)
 refine al_as rfl rfl ?_
 refine al_as rfl rfl ?_
 refine al_as rfl rfl ?_
 refine al_nt ?_
 refine aw_seq ?_
 refine aw_sr ?_
 refine al_val (ov_load (i := 0) (v := (ag [(iq a0.Min), (iq a0.Max), (iq a0.Bits)])) rfl rfl Try.underlying35 sz35 rfl rfl rfl rfl) ?_
 obtain ⟨r3, hc2, h⟩ := opt_some h
 refine al_call (vs := [(ag [(iq a0.Min), (iq a0.Max), (iq a0.Bits)])]) (f_chunk_Check_ok fu a0 hc2) [] [] [0] pre_nil rfl (by simp) (by decide) (.inl rfl) rfl Try.func126 rfl rfl rfl (fun _ => ?_)
 refine al_as rfl rfl ?_
 refine al_nt ?_
 refine aw_sr ?_
 refine al_mv rfl rfl ?_
 refine al_in rfl rfl rfl rfl ?_
 refine al_nt ?_
 refine aw_cond rfl (fun hb4 => ?_) (fun hb4 => ?_)
 ·replace h := bif_t hb4 h
  refine aw_sr ?_
  refine al_mv rfl rfl ?_
  refine al_as rfl rfl ?_
  refine al_as rfl rfl ?_
  refine al_as rfl rfl ?_
  refine al_nt ?_
  refine aw_ret ?_
  refine aq_then_ret ?_
  refine aq_nilR 9 tyStr ?_
  obtain rfl := Option.some.inj h
  exact fn_ret nS [0] [] rfl rfl rfl rfl (res3 rfl rfl rfl rfl) rfl rfl rfl (by decide)
 ·replace h := bif_f hb4 h
  refine aw_skip ?_
  refine aq_then ?_
  refine aw_seq ?_
  refine aw_sr ?_
  refine al_mv rfl rfl ?_
  refine al_val (ov_strLen Try.underlying9 rfl rfl) ?_
  refine al_mv rfl rfl ?_
  refine al_val (ov_strLen Try.underlying9 rfl rfl) ?_
  refine al_in rfl rfl rfl rfl ?_
  refine al_in rfl rfl rfl rfl ?_
  refine al_nt ?_
  refine aw_cond rfl (fun hb5 => ?_) (fun hb5 => ?_)
  ·replace h := bif_t hb5 h
   refine aw_sr ?_
   refine al_as rfl rfl ?_
   refine al_as rfl rfl ?_
   refine al_as rfl rfl ?_
   refine al_nt ?_
   refine aw_ret ?_
   refine aq_then_ret ?_
   refine aq_nilR 9 tyStr ?_
   obtain rfl := Option.some.inj h
   exact fn_ret nS [0] [] rfl rfl rfl rfl (res3 rfl rfl rfl rfl) rfl rfl rfl (by decide)
  ·replace h := bif_f hb5 h
   refine aw_skip ?_
   refine aq_tr ?_
   refine al_val (ov_load (i := 0) (v := (ag [(iq a0.Min), (iq a0.Max), (iq a0.Bits)])) rfl rfl Try.underlying35 sz35 rfl rfl rfl rfl) ?_
   refine al_mv rfl rfl ?_
   refine al_mv rfl rfl ?_
   obtain ⟨hc6, h⟩ := req_some h
   refine al_val (ov_strAdd hc6 rfl rfl rfl) ?_
   obtain ⟨r8, hc7, h⟩ := opt_some h
   refine al_call (vs := [(ag [(iq a0.Min), (iq a0.Max), (iq a0.Bits)]), (str (a1 ++ a2))]) (f_chunk_pieces_ok fu a0 (a1 ++ a2) hc7) [] [] [0] pre_nil rfl (by simp) (by decide) (.inl rfl) rfl Try.func127 rfl rfl rfl (fun v9 => ?_)
   refine al_mv rfl rfl ?_
   refine al_ex rfl rfl rfl ?_
   refine al_ex rfl rfl rfl ?_
   refine al_as rfl rfl ?_
   refine al_as rfl rfl ?_
   refine al_nt ?_
   refine aw_sr ?_
   refine al_mv rfl rfl ?_
   refine al_mv rfl rfl ?_
   refine al_as rfl rfl ?_
   refine al_as rfl rfl ?_
   refine al_as rfl rfl ?_
   refine al_nt ?_
   refine aw_ret ?_
   obtain rfl := Option.some.inj h
   exact fn_ret v9 [0] [] rfl rfl rfl rfl (res3 rfl rfl rfl rfl) rfl rfl rfl (by decide)
def f_chunk_Cut (fu : Nat) (a0 : S_api_Cut) (a1 : (List UInt8)) : Option ((List (List UInt8)) × Int) := (opt (f_chunk_Feed fu a0 ([] : List UInt8) a1) fun (r3 : ((List (List UInt8)) × (List UInt8) × Int)) => (lt (fun (j5x6 : (List (List UInt8))) => (some (j5x6, r3.2.2))) fun (kk6 : (List (List UInt8)) → Option ((List (List UInt8)) × Int)) => (lt (fun (j7b21 : Bool) => (bif j7b21 then (req (((r3.1.length + ([r3.2.1]).length) * 16 : Nat) ≤ 140737488355328 ∧ r3.1.length + ([r3.2.1]).length ≤ 9223372036854775807) (kk6 (r3.1 ++ ([r3.2.1])))) else (kk6 r3.1))) fun (kk8 : Bool → Option ((List (List UInt8)) × Int)) => (bif (r3.2.2 == (0 : Int)) then (kk8 (!(r3.2.1 == ([] : List UInt8)))) else (kk8 false)))))
set_option maxHeartbeats 2000000 in
set_option maxRecDepth 100000 in
theorem f_chunk_Cut_ok (fu : Nat) (a0 : S_api_Cut) (a1 : (List UInt8)) {r : ((List (List UInt8)) × Int)} (h : f_chunk_Cut fu a0 a1 = some r) : FnOk Try.prog 49 [(ag [(int .i64 a0.Min), (int .i64 a0.Max), (int .i64 a0.Bits)]), (str a1)] [] [] (fun (i : Value) => { val := (Value.tuple #[i, (int .i64 r.2)]), own := [(oRow i 9 tyStr r.1)] }) := by
 unfold f_chunk_Cut at h
 refine fn_enter Try.func49 rfl Try.ntmps49 rfl (fun w0 Z0 => ?_)
 refine aw_sr ?_
 refine al_box (vs := [(iq a0.Min), (iq a0.Max), (iq a0.Bits)]) rfl (cv_rfl rfl) rfl (fun g1 => ?_)
 refine al_as rfl rfl ?_
 refine al_as rfl rfl ?_
 refine al_nt ?_
 refine aw_sr ?_
 refine al_val (ov_load (i := 0) (v := (ag [(iq a0.Min), (iq a0.Max), (iq a0.Bits)])) rfl rfl Try.underlying35 sz35 rfl rfl rfl rfl) ?_
 refine al_mv rfl rfl ?_
 obtain ⟨r3, hc2, h⟩ := opt_some h
 refine al_call (vs := [(ag [(iq a0.Min), (iq a0.Max), (iq a0.Bits)]), (str ([] : List UInt8)), (str a1)]) (f_chunk_Feed_ok fu a0 ([] : List UInt8) a1 hc2) [] [] [0] pre_nil rfl (by simp) (by decide) (.inl rfl) rfl Try.func97 rfl rfl rfl (fun v4 => ?_)
 refine al_mv rfl rfl ?_
 refine al_ex rfl rfl rfl ?_
 refine al_ex rfl rfl rfl ?_
 refine al_ex rfl rfl rfl ?_
 refine al_as rfl rfl ?_
 refine al_as rfl rfl ?_
 refine al_as rfl rfl ?_
 refine al_nt ?_
 obtain ⟨kk6, hkk6, h⟩ := lt_some h
 refine aw_seq_join (ι := Value × (List (List UInt8))) (fun i => (memOf w0 Z0 [] [(oRow i.1 9 tyStr i.2)] [])) (fun i => (tab [(6, i.1), (8, (iq r3.2.2))])) (fun i => kk6 i.2 = some r) ?_ ?_
 ·rintro ⟨j5v6, j5x6⟩ h
  have h : kk6 j5x6 = some r := h
  rw [hkk6] at h
  dsimp only at h
  clear hkk6
  refine aw_show (m := (memOf w0 Z0 [] [(oRow j5v6 9 tyStr j5x6)] [])) (S := (tab [(6, j5v6), (8, (iq r3.2.2))])) ?_
  refine aw_sr ?_
  refine al_mv rfl rfl ?_
  refine al_mv rfl rfl ?_
  refine al_as rfl rfl ?_
  refine al_as rfl rfl ?_
  refine al_nt ?_
  refine aw_ret ?_
  obtain rfl := Option.some.inj h
  exact fn_ret j5v6 [0] [] rfl rfl rfl rfl (res2 rfl rfl rfl) rfl rfl rfl (by decide)
 ·clear hkk6
  obtain ⟨kk8, hkk8, h⟩ := lt_some h
  refine aw_seq_join (ι := Bool) (fun i => (memOf w0 Z0 [] [(oRow v4 9 tyStr r3.1)] [])) (fun i => (tab [(6, v4), (7, (str r3.2.1)), (8, (iq r3.2.2)), (21, (bool i))])) (fun i => kk8 i = some r) ?_ ?_
  ·rintro j7b21 h
   have h : kk8 j7b21 = some r := h
   rw [hkk8] at h
   dsimp only at h
   clear hkk8
   refine aw_show (m := (memOf w0 Z0 [] [(oRow v4 9 tyStr r3.1)] [])) (S := (tab [(6, v4), (7, (str r3.2.1)), (8, (iq r3.2.2)), (21, (bool j7b21))])) ?_
   refine aw_cond rfl (fun hb9 => ?_) (fun hb9 => ?_)
   ·replace h := bif_t hb9 h
    refine aw_region ?_
    refine al_mv rfl rfl ?_
    refine al_mv rfl rfl ?_
    refine al_buildSlice (τ := tyStr) (e := 9) (k := 1) (sz := 0) (by_ := 0) (z := undef) (cs := [(str r3.2.1)]) (xs := [r3.2.1]) rfl (by decide) (fun w a hm hs => ⟨([(str r3.2.1)]).toArray, rfl, by simp only [List.map_toArray, List.map_cons, List.map_nil, hs.ev (x := .tmp 23) rfl]; exact run_bs [(str r3.2.1)] [(str r3.2.1)] Try.underlying23 to9 rfl rfl (bs_cons (l := [(str r3.2.1)]) (cs := []) (cv_rfl rfl) rfl bs_nil) hm⟩) (fun hm => ⟨_, _, rfl, (fun _ => rfl) hm, rfl⟩) rfl (fun v10 => ?_)
    obtain ⟨hc11, h⟩ := req_some h
    refine al_append 1 hc11.1 hc11.2 rfl (src_own (i := 1) 0 rfl) rfl rfl Try.underlying23 to9 rfl rfl rfl (fun v12 => ?_)
    refine al_as rfl rfl ?_
    refine al_nil ?_
    exact aq_join (v12, (r3.1 ++ ([r3.2.1]))) h (fun w a hm hs => norm hm hs [1] [] [(6, v12), (8, (iq r3.2.2))] (by decide) ⟨rfl, rfl, trivial⟩)
   ·replace h := bif_f hb9 h
    refine aw_skip ?_
    exact aq_join (v4, r3.1) h (fun w a hm hs => norm hm hs [0] [] [(6, v4), (8, (iq r3.2.2))] (by decide) ⟨rfl, rfl, trivial⟩)
  ·clear hkk8
   refine aw_region ?_
   refine al_mv rfl rfl ?_
   refine al_in rfl rfl rfl rfl ?_
   refine al_mv rfl rfl ?_
   refine al_caseB 18 rfl (fun hb13 => ?_) (fun hb13 => ?_)
   ·replace h := bif_t hb13 h
    refine al_mv rfl rfl ?_
    refine al_val (ov_strCmp rfl rfl rfl rfl) ?_
    refine al_val (ov_pick_t rfl rfl rfl) ?_
    refine al_nil ?_
    exact aq_join (!(r3.2.1 == ([] : List UInt8))) h (fun w a hm hs => norm hm hs [0] [] [(6, v4), (7, (str r3.2.1)), (8, (iq r3.2.2)), (21, (bool (!(r3.2.1 == ([] : List UInt8)))))] (by decide) ⟨rfl, rfl, rfl, rfl, trivial⟩)
   ·replace h := bif_f hb13 h
    refine al_skip ?_
    refine al_skip ?_
    refine al_val (ov_pick_f rfl rfl rfl) ?_
    refine al_nil ?_
    exact aq_join false h (fun w a hm hs => norm hm hs [0] [] [(6, v4), (7, (str r3.2.1)), (8, (iq r3.2.2)), (21, (bool false))] (by decide) ⟨rfl, rfl, rfl, rfl, trivial⟩)
-- STUCK lumberroom/chunk.Each$1: lty ['func', [3, 9], [4], False]
def f_chunk_Each (fu : Nat) (a0 : S_api_Cut) (a1 : (List UInt8)) : Option Unit := (some ())
set_option maxRecDepth 100000 in
theorem f_chunk_Each_ok (fu : Nat) (a0 : S_api_Cut) (a1 : (List UInt8)) {r : Unit} (h : f_chunk_Each fu a0 a1 = some r) : FnOk Try.prog 15 [(ag [(int .i64 a0.Min), (int .i64 a0.Max), (int .i64 a0.Bits)]), (str a1)] [] [] (fun (i : Nat × Nat) => { val := (Value.func (.func 48) #[] #[(ptr i.1 0), (ptr i.2 0)]), own := [(oBox i.1 35 [(int .i64 a0.Min), (int .i64 a0.Max), (int .i64 a0.Bits)]), (oBox i.2 9 [(str a1)])] }) := by
 unfold f_chunk_Each at h
 refine fn_enter Try.func15 rfl Try.ntmps15 rfl (fun w0 Z0 => ?_)
 refine aw_sr ?_
 refine al_box (vs := [(iq a0.Min), (iq a0.Max), (iq a0.Bits)]) rfl (cv_rfl rfl) rfl (fun g1 => ?_)
 refine al_box (vs := [(str a1)]) rfl (cv_rfl rfl) rfl (fun g2 => ?_)
 refine al_as rfl rfl ?_
 refine al_nt ?_
 refine aw_sr ?_
 refine al_val (ov_makeFunc2 (vs := [(pq g1), (pq g2)]) rfl rfl) ?_
 refine al_as rfl rfl ?_
 refine al_nt ?_
 refine aw_ret ?_
 exact fn_ret (g1, g2) [1, 0] [] rfl rfl rfl rfl (res1 rfl rfl) rfl rfl rfl (by decide)
def f_chunk_Until_L17 (a2 : Int) (kk5 : (Int → Option ((List UInt8) × Int))) (r13 : ((List (List UInt8)) × Int)) : Nat → Int → Int → Option ((List UInt8) × Int)
  | 0, _, _ => none
  | k16 + 1, l15i6, l15i17 => (bif (decide (l15i17 < (r13.1.length : Int))) then (opt (at? r13.1 l15i17) fun (u19 : (List UInt8)) => (bif (decide ((IntKind.i64.wrap (l15i6 + (u19.length : Int))) > a2)) then (kk5 l15i6) else (f_chunk_Until_L17 a2 kk5 r13 k16 (IntKind.i64.wrap (l15i6 + (u19.length : Int))) (IntKind.i64.wrap (l15i17 + (1 : Int)))))) else (kk5 l15i6))
def f_chunk_Until (fu : Nat) (a0 : S_api_Cut) (a1 : (List UInt8)) (a2 : Int) : Option ((List UInt8) × Int) := (lt (fun (j4i8_0 : Int) => (req (0 ≤ j4i8_0 ∧ j4i8_0 ≤ (a1.length : Int)) (some ((a1.take (j4i8_0).toNat), j4i8_0)))) fun (kk5 : Int → Option ((List UInt8) × Int)) => (opt (f_chunk_Each fu a0 a1) fun (r8 : Unit) => (opt (f_chunk_Cut fu a0 a1) fun (r13 : ((List (List UInt8)) × Int)) => (f_chunk_Until_L17 a2 kk5 r13 fu (0 : Int) (0 : Int)))))
set_option maxHeartbeats 2000000 in
set_option maxRecDepth 100000 in
theorem f_chunk_Until_ok (fu : Nat) (a0 : S_api_Cut) (a1 : (List UInt8)) (a2 : Int) {r : ((List UInt8) × Int)} (h : f_chunk_Until fu a0 a1 a2 = some r) : FnOk Try.prog 16 [(ag [(int .i64 a0.Min), (int .i64 a0.Max), (int .i64 a0.Bits)]), (str a1), (int .i64 a2)] [] [] (fun (i : Unit) => { val := (Value.tuple #[(str r.1), (int .i64 r.2)]) }) := by
 unfold f_chunk_Until at h
 refine fn_enterM Try.func16 rfl Try.ntmps16 rfl (fun w0 Z0 => ?_)
 refine iw_sr ?_
 refine al_box (vs := [(iq a0.Min), (iq a0.Max), (iq a0.Bits)]) rfl (cv_rfl rfl) rfl (fun g1 => ?_)
 refine al_box (vs := [(iq a2)]) rfl (cv_rfl rfl) rfl (fun g2 => ?_)
 refine al_as rfl rfl ?_
 refine al_as rfl rfl ?_
 refine il_nt ?_
 refine iw_sr ?_
 refine al_alloc (zs := [(iq (0 : Int))]) (zeroOf_to to3) rfl rfl (fun g3 => ?_)
 refine al_store (i := 0) (vs := [(iq (0 : Int))]) (cs' := [(iq (0 : Int))]) rfl rfl rfl sz3 (cv_rfl rfl) rfl (co_val rfl co_nil) (Nat.le_of_ble_eq_true rfl) rfl rfl ?_
 refine il_nt ?_
 obtain ⟨kk5, hkk5, h⟩ := lt_some h
 refine iw_seq_join (dsf := fun i => [dmark i.2]) (ι := Int × Nat) (fun i => (memOf w0 Z0 [] [(oBox g3 3 [(iq i.1)]), (oObj i.2 dblk)] [])) (fun i => (tab [(1, (str a1)), (8, (pq g3))])) (fun i => kk5 i.1 = some r) ?_ ?_
 ·rintro ⟨j4i8_0, j4D⟩ h
  have h : kk5 j4i8_0 = some r := h
  rw [hkk5] at h
  dsimp only at h
  clear hkk5
  refine iw_show (m := (memOf w0 Z0 [] [(oBox g3 3 [(iq j4i8_0)]), (oObj j4D dblk)] [])) (S := (tab [(1, (str a1)), (8, (pq g3))])) ?_
  refine iw_seq ?_
  obtain ⟨hc6, h⟩ := req_some h
  refine iw_region_draw 5 [(26, (fun u => fEq u (str a1))), (27, (fun u => fEq u (iq j4i8_0))), (28, (fun u => fEq u (str (a1.take (j4i8_0).toNat)))), (29, (fun u => fEq u (iq j4i8_0))), (6, (fun u => fEq u (str (a1.take (j4i8_0).toNat))))] (tab [(1, (str a1)), (8, (pq g3))]) mixed (by kernel_rfl) rfl rfl rfl (fun a hs => hs.tab _ (allT_mem ⟨rfl, rfl, trivial⟩)) ⟨⟨rfl, ld_val (ov_move rfl rfl)⟩, ⟨rfl, ld_val (ov_load (i := 0) (v := (iq j4i8_0)) rfl rfl Try.underlying3 sz3 rfl rfl rfl rfl)⟩, ⟨rfl, ld_eq (j := 0) rfl rfl (ld_eq (j := 1) rfl rfl (ld_val (ov_strTo hc6.1 hc6.2 Try.underlying9 rfl rfl rfl)))⟩, ⟨rfl, ld_val (ov_load (i := 0) (v := (iq j4i8_0)) rfl rfl Try.underlying3 sz3 rfl rfl rfl rfl)⟩, ⟨rfl, ld_eq (j := 2) rfl rfl (ld_val (ov_assign rfl rfl))⟩, trivial⟩ ?_
  refine tl_eq 3 rfl ?_
  refine tl_eq 4 rfl ?_
  refine tl_done ?_
  refine al_as rfl rfl ?_
  refine il_nt ?_
  refine iw_ret ?_
  refine fn_retM 1 rfl ?_
  obtain rfl := Option.some.inj h
  exact fn_ret () [] [] rfl rfl rfl rfl (res2 rfl rfl rfl) rfl rfl rfl (by decide)
 ·clear hkk5
  refine iw_sr ?_
  refine al_val (ov_load (i := 2) (v := (ag [(iq a0.Min), (iq a0.Max), (iq a0.Bits)])) rfl rfl Try.underlying35 sz35 rfl rfl rfl rfl) ?_
  refine al_mv rfl rfl ?_
  obtain ⟨r8, hc7, h⟩ := opt_some h
  refine al_call (vs := [(ag [(iq a0.Min), (iq a0.Max), (iq a0.Bits)]), (str a1)]) (f_chunk_Each_ok fu a0 a1 hc7) [] [] [0, 1, 2] pre_nil rfl (by simp) (by decide) (.inl rfl) rfl Try.func15 rfl rfl rfl (fun ⟨g9, g10⟩ => ?_)
  refine il_nt ?_
  refine iw_block ?_
  refine iw_range (lb := [(pq g9), (pq g10)]) rfl Try.func48 rfl Try.ntmps48 rfl rfl (fun D11 l11 fn11 T11 rc11 hrc11 hT11 => ?_)
  replace hT11 := hT11.tab [(1, (str a1)), (5, (pq g2)), (8, (pq g3)), (13, (Value.func (.func 48) #[] #[(pq g9), (pq g10)]))] (allT_mem ⟨rfl, rfl, rfl, rfl, trivial⟩)
  refine iw_show (m := (memOf w0 Z0 [] [(oObj l11 (rc11 .ready none)), (oObj D11 dblk), (oBox g9 35 [(iq a0.Min), (iq a0.Max), (iq a0.Bits)]), (oBox g10 9 [(str a1)]), (oBox g3 3 [(iq (0 : Int))]), (oBox g2 3 [(iq a2)]), (oBox g1 35 [(iq a0.Min), (iq a0.Max), (iq a0.Bits)])] [])) (S := (tab [(0, (Value.func (Fn.yield l11) #[] #[])), (1, (pq g9)), (2, (pq g10))])) ?_
  refine iw_sr ?_
  refine al_val (ov_load (i := 2) (v := (ag [(iq a0.Min), (iq a0.Max), (iq a0.Bits)])) rfl rfl Try.underlying35 sz35 rfl rfl rfl rfl) ?_
  refine al_val (ov_load (i := 3) (v := (str a1)) rfl rfl Try.underlying9 sz9 rfl rfl rfl rfl) ?_
  obtain ⟨r13, hc12, h⟩ := opt_some h
  refine al_call (vs := [(ag [(iq a0.Min), (iq a0.Max), (iq a0.Bits)]), (str a1)]) (f_chunk_Cut_ok fu a0 a1 hc12) [] [] [0, 1, 2, 3, 4, 5, 6] pre_nil rfl (by simp) (by decide) (.inl rfl) rfl Try.func49 rfl rfl rfl (fun v14 => ?_)
  refine al_mv rfl rfl ?_
  refine al_ex rfl rfl rfl ?_
  refine al_ex rfl rfl rfl ?_
  refine al_as rfl rfl ?_
  refine al_as rfl rfl ?_
  refine il_nt ?_
  refine iw_sr ?_
  refine al_as rfl rfl ?_
  refine il_nt ?_
  refine iw_sr ?_
  refine al_mv rfl rfl ?_
  refine al_val (ov_lenR 0 rfl rfl Try.underlying23 rfl) ?_
  refine al_mv rfl rfl ?_
  refine il_nt ?_
  refine iw_block ?_
  refine iw_state (iw_loop (ι := Int × Int) (fun i => (memOf w0 Z0 [] [(oRow v14 9 tyStr r13.1), (oBox g2 3 [(iq a2)]), (oBox g3 3 [(iq i.1)]), (oBox g9 35 [(iq a0.Min), (iq a0.Max), (iq a0.Bits)]), (oBox g10 9 [(str a1)]), (oObj D11 dblk), (oObj l11 (rc11 .ready none))] [])) (fun i => (tab [(0, (Value.func (Fn.yield l11) #[] #[])), (6, (iq i.1)), (15, v14), (16, (iq (r13.1.length : Int))), (17, (iq i.2))])) (fun q i => f_chunk_Until_L17 a2 kk5 r13 q i.1 i.2 = some r) ?_ fu ((0 : Int), (0 : Int)) h) (fun w a hm hs => norm hm hs [0, 6, 5, 3, 4, 2, 1] [] [(0, (Value.func (Fn.yield l11) #[] #[])), (6, (iq (0 : Int))), (15, v14), (16, (iq (r13.1.length : Int))), (17, (iq (0 : Int)))] (by decide) ⟨rfl, rfl, rfl, rfl, rfl, trivial⟩)
  clear h
  rintro k16 ⟨l15i6, l15i17⟩ h
  have h : f_chunk_Until_L17 a2 kk5 r13 k16 l15i6 l15i17 = some r := h
  obtain _ | k16 := k16
  · rw [f_chunk_Until_L17] at h; cases h
  rw [f_chunk_Until_L17] at h
  refine iw_show (m := (memOf w0 Z0 [] [(oRow v14 9 tyStr r13.1), (oBox g2 3 [(iq a2)]), (oBox g3 3 [(iq l15i6)]), (oBox g9 35 [(iq a0.Min), (iq a0.Max), (iq a0.Bits)]), (oBox g10 9 [(str a1)]), (oObj D11 dblk), (oObj l11 (rc11 .ready none))] [])) (S := (tab [(0, (Value.func (Fn.yield l11) #[] #[])), (6, (iq l15i6)), (15, v14), (16, (iq (r13.1.length : Int))), (17, (iq l15i17))])) ?_
  refine iw_sr ?_
  refine al_in rfl rfl rfl rfl ?_
  refine il_nt ?_
  refine iw_seq ?_
  refine iw_cond rfl (fun hb18 => ?_) (fun hb18 => ?_)
  ·replace h := bif_t hb18 h
   refine iw_skip ?_
   refine iq_then ?_
   refine iw_seq ?_
   refine iw_block ?_
   refine iw_sr ?_
   obtain ⟨u19, hu20, h⟩ := opt_some h
   refine al_idxR 0 (at_some hu20).1 (at_some hu20).2.1 rfl rfl rfl Try.underlying23 sz9 rfl (fun p21 hp22 => ?_)
   refine al_val (ov_loadR (ds := [(str u19)]) 0 rfl hp22 (at_some hu20).2.2 (fun h => h) rfl Try.underlying9 sz9 rfl rfl rfl) ?_
   refine al_as rfl rfl ?_
   refine il_nt ?_
   refine iw_seq ?_
   refine iw_seq ?_
   refine iw_cut 3 ?_
   refine al_mv rfl rfl ?_
   refine al_mv rfl rfl ?_
   refine al_mv rfl rfl ?_
   refine il_go ?_
   refine il_yield (vs := [(iq l15i6), (str u19)]) 6 hrc11 rfl hT11 rfl rfl rfl rfl rfl (fun aI23 hI23 => ?_)
   replace hI23 := hI23.tab [(0, (Value.func (Fn.yield l11) #[] #[])), (6, (iq l15i6)), (8, (str u19)), (15, v14), (16, (iq (r13.1.length : Int))), (17, (iq l15i17))] (allT_mem ⟨rfl, rfl, rfl, rfl, rfl, rfl, trivial⟩)
   refine iw_state (m' := (memOf w0 Z0 [] [(oRow v14 9 tyStr r13.1), (oBox g2 3 [(iq a2)]), (oBox g3 3 [(iq l15i6)]), (oBox g9 35 [(iq a0.Min), (iq a0.Max), (iq a0.Bits)]), (oBox g10 9 [(str a1)]), (oObj D11 dblk), (oObj l11 (rc11 .ready none))] [])) (S' := (tab [(1, (str a1)), (5, (pq g2)), (8, (pq g3)), (13, (Value.func (.func 48) #[] #[(pq g9), (pq g10)])), (14, (iq l15i6)), (15, (str u19))])) ?_ (fun w a hm hs => ⟨hm, hs.tab _ (allT_mem ⟨rfl, rfl, rfl, rfl, rfl, rfl, trivial⟩)⟩)
   refine iw_sr ?_
   refine al_as rfl rfl ?_
   refine il_nt ?_
   refine iw_region ?_
   refine al_as rfl rfl ?_
   refine il_nil ?_
   refine iq_begin 6 hrc11 rfl ?_
   refine iw_block ?_
   refine iw_seq ?_
   refine iw_sr ?_
   refine al_mv rfl rfl ?_
   refine al_mv rfl rfl ?_
   refine al_val (ov_strLen Try.underlying9 rfl rfl) ?_
   refine al_in rfl rfl rfl rfl ?_
   refine al_val (ov_load (i := 1) (v := (iq a2)) rfl rfl Try.underlying3 sz3 rfl rfl rfl rfl) ?_
   refine al_in rfl rfl rfl rfl ?_
   refine il_nt ?_
   refine iw_cond rfl (fun hb24 => ?_) (fun hb24 => ?_)
   ·replace h := bif_t hb24 h
    refine iw_exit ?_
    refine iq_then_exit ?_
    refine iq_block_other rfl ?_
    refine iq_rexit 6 hrc11 rfl hI23 rfl ?_
    refine il_list ?_
    refine al_val (ov_not rfl rfl) ?_
    refine il_nt ?_
    refine iw_cond_t rfl ?_
    refine iw_ret ?_
    refine iq_then_ret ?_
    refine iq_block_ret ?_
    refine iq_then_ret ?_
    refine iq_then_ret ?_
    refine iq_block_ret ?_
    refine iq_itstop 6 hrc11 (.inl rfl) rfl (by decide) rfl hT11 ?_
    refine iw_exit ?_
    refine iq_block_exit ?_
    exact iq_join (l15i6, D11) h (fun w a hm hs => norm hm hs [2, 5] [] [(1, (str a1)), (8, (pq g3))] (by decide) ⟨rfl, rfl, trivial⟩)
   ·replace h := bif_f hb24 h
    refine iw_skip ?_
    refine iq_then ?_
    refine iw_region ?_
    refine al_mv rfl rfl ?_
    refine al_mv rfl rfl ?_
    refine al_val (ov_strLen Try.underlying9 rfl rfl) ?_
    refine al_in rfl rfl rfl rfl ?_
    refine al_store (i := 2) (vs := [(iq (wq (l15i6 + (u19.length : Int))))]) (cs' := [(iq (wq (l15i6 + (u19.length : Int))))]) rfl rfl rfl sz3 (cv_rfl rfl) rfl (co_val rfl co_nil) (Nat.le_of_ble_eq_true rfl) rfl rfl ?_
    refine il_nil ?_
    refine iq_block ?_
    refine iq_rnorm 6 hrc11 rfl hI23 rfl ?_
    refine il_list ?_
    refine al_val (ov_not rfl rfl) ?_
    refine il_nt ?_
    refine iw_cond_f rfl ?_
    refine iw_skip ?_
    refine iq_then ?_
    refine iw_region ?_
    refine al_mv rfl rfl ?_
    refine al_mv rfl rfl ?_
    refine al_val (ov_strLen Try.underlying9 rfl rfl) ?_
    refine al_in rfl rfl rfl rfl ?_
    refine al_as rfl rfl ?_
    refine il_nil ?_
    refine iq_block ?_
    refine iq_then ?_
    refine iw_region ?_
    refine al_in rfl rfl rfl rfl ?_
    refine al_mv rfl rfl ?_
    refine il_nil ?_
    exact iq_again k16 ((wq (l15i6 + (u19.length : Int))), (wq (l15i17 + (1 : Int)))) (Nat.lt_succ_self _) h (fun w a hm hs => norm hm hs [0, 1, 2, 3, 4, 5, 6] [] [(0, (Value.func (Fn.yield l11) #[] #[])), (6, (iq (wq (l15i6 + (u19.length : Int))))), (15, v14), (16, (iq (r13.1.length : Int))), (17, (iq (wq (l15i17 + (1 : Int)))))] (by decide) ⟨rfl, rfl, rfl, rfl, rfl, trivial⟩)
  ·replace h := bif_f hb18 h
   refine iw_exit ?_
   refine iq_then_exit ?_
   refine iq_then_exit ?_
   refine iq_block_exit ?_
   refine iq_itend 6 hrc11 (.inr rfl) rfl (by decide) rfl hT11 ?_
   refine iq_block ?_
   exact iq_join (l15i6, D11) h (fun w a hm hs => norm hm hs [2, 5] [] [(1, (str a1)), (8, (pq g3))] (by decide) ⟨rfl, rfl, trivial⟩)
def f_lumlaw_ChunkRanges_L21 (a2 : Int) (r4 : ((List (List UInt8)) × Int)) (kk12 : ((List UInt8) → Option Bool)) : Nat → (List UInt8) → Int → Option Bool
  | 0, _, _ => none
  | k20 + 1, l19s13, l19i54 => (bif (decide (l19i54 < (r4.1.length : Int))) then (opt (at? r4.1 l19i54) fun (u23 : (List UInt8)) => (lt (fun (j27b70 : Bool) => (bif j27b70 then (kk12 l19s13) else (req (l19s13.length + u23.length ≤ 9223372036854775807) (f_lumlaw_ChunkRanges_L21 a2 r4 kk12 k20 (l19s13 ++ u23) (IntKind.i64.wrap (l19i54 + (1 : Int))))))) fun (kk28 : Bool → Option Bool) => (bif (decide (a2 < (u23.length : Int))) then (kk28 true) else (kk28 (decide ((l19s13.length : Int) > (IntKind.i64.wrap (a2 - (u23.length : Int))))))))) else (kk12 l19s13))
def f_lumlaw_ChunkRanges_L42 (r4 : ((List (List UInt8)) × Int)) (kk10 : (Int → Option Bool)) (r38 : ((List (List UInt8)) × Int)) : Nat → Int → Int → Option Bool
  | 0, _, _ => none
  | k41 + 1, l40i6, l40i17 => (bif (decide (l40i17 < (r38.1.length : Int))) then (opt (at? r38.1 l40i17) fun (u44 : (List UInt8)) => (lt (fun (j49b45 : Bool) => (bif j49b45 then (some false) else (f_lumlaw_ChunkRanges_L42 r4 kk10 r38 k41 (IntKind.i64.wrap (l40i6 + (u44.length : Int))) (IntKind.i64.wrap (l40i17 + (1 : Int)))))) fun (kk50 : Bool → Option Bool) => (bif (l40i17 == (r4.1.length : Int)) then (kk50 true) else (bif (l40i6 != l40i6) then (kk50 true) else (opt (at? r4.1 l40i17) fun (u54 : (List UInt8)) => (kk50 (!(u44 == u54)))))))) else (kk10 l40i17))
def f_lumlaw_ChunkRanges (fu : Nat) (a0 : S_api_Cut) (a1 : (List UInt8)) (a2 : Int) : Option Bool := (opt (f_lumref_Cut fu a0 a1) fun (r4 : ((List (List UInt8)) × Int)) => (lt (fun (j9i10_0 : Int) => (lt (fun (j11s13 : (List UInt8)) => (opt (f_chunk_Until fu a0 a1 a2) fun (r14 : ((List UInt8) × Int)) => (lt (fun (j15b6_0 : Bool) => (some j15b6_0)) fun (kk16 : Bool → Option Bool) => (bif (j9i10_0 == (r4.1.length : Int)) then (bif (r14.1 == j11s13) then (kk16 (r14.2 == (j11s13.length : Int))) else (kk16 false)) else (kk16 false))))) fun (kk12 : (List UInt8) → Option Bool) => (f_lumlaw_ChunkRanges_L21 a2 r4 kk12 fu ([] : List UInt8) (0 : Int)))) fun (kk10 : Int → Option Bool) => (opt (f_chunk_Each fu a0 a1) fun (r33 : Unit) => (opt (f_chunk_Cut fu a0 a1) fun (r38 : ((List (List UInt8)) × Int)) => (f_lumlaw_ChunkRanges_L42 r4 kk10 r38 fu (0 : Int) (0 : Int))))))
set_option maxRecDepth 100000 in
set_option maxHeartbeats 2000000 in
set_option maxHeartbeats 2000000 in
theorem f_lumlaw_ChunkRanges_ok (fu : Nat) (a0 : S_api_Cut) (a1 : (List UInt8)) (a2 : Int) {r : Bool} (h : f_lumlaw_ChunkRanges fu a0 a1 a2 = some r) : FnOk Try.prog 4 [(ag [(int .i64 a0.Min), (int .i64 a0.Max), (int .i64 a0.Bits)]), (str a1), (int .i64 a2)] [] [] (fun (i : Unit) => { val := (bool r) }) := by
 unfold f_lumlaw_ChunkRanges at h
 refine fn_enterM Try.func4 rfl Try.ntmps4 rfl (fun w0 Z0 => ?_)
 refine iw_sr ?_
 refine al_box (vs := [(iq a0.Min), (iq a0.Max), (iq a0.Bits)]) rfl (cv_rfl rfl) rfl (fun g1 => ?_)
 refine al_alloc (zs := [(bool false)]) (zeroOf_to to4) rfl rfl (fun g2 => ?_)
 refine il_nt ?_
 refine iw_sr ?_
 refine al_val (ov_load (i := 1) (v := (ag [(iq a0.Min), (iq a0.Max), (iq a0.Bits)])) rfl rfl Try.underlying35 sz35 rfl rfl rfl rfl) ?_
 refine al_mv rfl rfl ?_
 obtain ⟨r4, hc3, h⟩ := opt_some h
 refine al_call (vs := [(ag [(iq a0.Min), (iq a0.Max), (iq a0.Bits)]), (str a1)]) (f_lumref_Cut_ok fu a0 a1 hc3) [] [] [0, 1] pre_nil rfl (by simp) (by decide) (.inl rfl) rfl Try.func14 rfl rfl rfl (fun v5 => ?_)
 refine al_mv rfl rfl ?_
 refine al_ex rfl rfl rfl ?_
 refine al_ex rfl rfl rfl ?_
 refine al_alloc (zs := [nS]) (zeroOf_to to23) rfl rfl (fun g6 => ?_)
 refine al_store (i := 0) (vs := [v5]) (cs' := [v5]) rfl rfl rfl sz23 (cv_own 1 rfl) rfl (co_own 1 rfl co_nil) (Nat.le_of_ble_eq_true rfl) rfl rfl ?_
 refine al_as rfl rfl ?_
 refine il_nt ?_
 refine iw_sr ?_
 refine al_alloc (zs := [(iq (0 : Int))]) (zeroOf_to to3) rfl rfl (fun g7 => ?_)
 refine al_alloc (zs := [(iq (0 : Int))]) (zeroOf_to to3) rfl rfl (fun g8 => ?_)
 refine al_store (i := 1) (vs := [(iq (0 : Int))]) (cs' := [(iq (0 : Int))]) rfl rfl rfl sz3 (cv_rfl rfl) rfl (co_val rfl co_nil) (Nat.le_of_ble_eq_true rfl) rfl rfl ?_
 refine al_store (i := 0) (vs := [(iq (0 : Int))]) (cs' := [(iq (0 : Int))]) rfl rfl rfl sz3 (cv_rfl rfl) rfl (co_val rfl co_nil) (Nat.le_of_ble_eq_true rfl) rfl rfl ?_
 refine il_nt ?_
 obtain ⟨kk10, hkk10, h⟩ := lt_some h
 refine iw_seq_join (dsf := fun i => [dmark i.2]) (ι := Int × Nat) (fun i => (memOf w0 Z0 [] [(oBox g1 35 [(iq a0.Min), (iq a0.Max), (iq a0.Bits)]), (oBox g2 4 [(bool false)]), (oRow v5 9 tyStr r4.1), (oBox g6 23 [v5]), (oBox g8 3 [(iq i.1)]), (oObj i.2 dblk)] [])) (fun i => (tab [(1, (str a1)), (2, (iq a2)), (3, (pq g1)), (6, (pq g2)), (7, (pq g6)), (10, (pq g8))])) (fun i => kk10 i.1 = some r) ?_ ?_
 ·rintro ⟨j9i10_0, j9D⟩ h
  have h : kk10 j9i10_0 = some r := h
  rw [hkk10] at h
  dsimp only at h
  clear hkk10
  refine iw_show (m := (memOf w0 Z0 [] [(oBox g1 35 [(iq a0.Min), (iq a0.Max), (iq a0.Bits)]), (oBox g2 4 [(bool false)]), (oRow v5 9 tyStr r4.1), (oBox g6 23 [v5]), (oBox g8 3 [(iq j9i10_0)]), (oObj j9D dblk)] [])) (S := (tab [(1, (str a1)), (2, (iq a2)), (3, (pq g1)), (6, (pq g2)), (7, (pq g6)), (10, (pq g8))])) ?_
  refine iw_sr ?_
  refine al_as rfl rfl ?_
  refine il_nt ?_
  obtain ⟨kk12, hkk12, h⟩ := lt_some h
  refine iw_seq_join (dsf := fun i => [dmark j9D]) (ι := (List UInt8)) (fun i => (memOf w0 Z0 [] [(oBox g1 35 [(iq a0.Min), (iq a0.Max), (iq a0.Bits)]), (oBox g2 4 [(bool false)]), (oRow v5 9 tyStr r4.1), (oBox g6 23 [v5]), (oBox g8 3 [(iq j9i10_0)]), (oObj j9D dblk)] [])) (fun i => (tab [(1, (str a1)), (2, (iq a2)), (3, (pq g1)), (6, (pq g2)), (7, (pq g6)), (10, (pq g8)), (13, (str i))])) (fun i => kk12 i = some r) ?_ ?_
  ·rintro j11s13 h
   have h : kk12 j11s13 = some r := h
   rw [hkk12] at h
   dsimp only at h
   clear hkk12
   refine iw_show (m := (memOf w0 Z0 [] [(oBox g1 35 [(iq a0.Min), (iq a0.Max), (iq a0.Bits)]), (oBox g2 4 [(bool false)]), (oRow v5 9 tyStr r4.1), (oBox g6 23 [v5]), (oBox g8 3 [(iq j9i10_0)]), (oObj j9D dblk)] [])) (S := (tab [(1, (str a1)), (2, (iq a2)), (3, (pq g1)), (6, (pq g2)), (7, (pq g6)), (10, (pq g8)), (13, (str j11s13))])) ?_
   refine iw_sr ?_
   refine al_val (ov_load (i := 0) (v := (ag [(iq a0.Min), (iq a0.Max), (iq a0.Bits)])) rfl rfl Try.underlying35 sz35 rfl rfl rfl rfl) ?_
   refine al_mv rfl rfl ?_
   refine al_mv rfl rfl ?_
   obtain ⟨r14, hc13, h⟩ := opt_some h
   refine al_call (vs := [(ag [(iq a0.Min), (iq a0.Max), (iq a0.Bits)]), (str a1), (iq a2)]) (f_chunk_Until_ok fu a0 a1 a2 hc13) [] [] [0, 1, 2, 3, 4, 5] pre_nil rfl (by simp) (by decide) (.inl rfl) rfl Try.func16 rfl rfl rfl (fun _ => ?_)
   refine al_mv rfl rfl ?_
   refine al_ex rfl rfl rfl ?_
   refine al_ex rfl rfl rfl ?_
   refine al_as rfl rfl ?_
   refine al_as rfl rfl ?_
   refine il_nt ?_
   obtain ⟨kk16, hkk16, h⟩ := lt_some h
   refine iw_seq_join (dsf := fun i => [dmark j9D]) (ι := Bool) (fun i => (memOf w0 Z0 [] [(oBox g2 4 [(bool i)]), (oObj j9D dblk)] [])) (fun i => (tab [(6, (pq g2))])) (fun i => kk16 i = some r) ?_ ?_
   ·rintro j15b6_0 h
    have h : kk16 j15b6_0 = some r := h
    rw [hkk16] at h
    dsimp only at h
    clear hkk16
    refine iw_show (m := (memOf w0 Z0 [] [(oBox g2 4 [(bool j15b6_0)]), (oObj j9D dblk)] [])) (S := (tab [(6, (pq g2))])) ?_
    refine iw_ret ?_
    refine fn_retM 1 rfl ?_
    obtain rfl := Option.some.inj h
    exact fn_ret () [] [] rfl rfl rfl rfl (resC rfl (resB (i := 0) rfl rfl Try.underlying4 sz4 rfl rfl rfl (resN)) rfl) rfl rfl rfl (by decide)
   ·clear hkk16
    refine iw_region ?_
    refine al_val (ov_load (i := 4) (v := (iq j9i10_0)) rfl rfl Try.underlying3 sz3 rfl rfl rfl rfl) ?_
    refine al_val (ov_load (i := 3) (v := v5) rfl rfl Try.underlying23 sz23 rfl rfl rfl rfl) ?_
    refine al_val (ov_lenR 2 rfl rfl Try.underlying23 rfl) ?_
    refine al_in rfl rfl rfl rfl ?_
    refine al_mv rfl rfl ?_
    refine al_caseB 86 rfl (fun hb17 => ?_) (fun hb17 => ?_)
    ·replace h := bif_t hb17 h
     refine al_mv rfl rfl ?_
     refine al_mv rfl rfl ?_
     refine al_val (ov_strCmp rfl rfl rfl rfl) ?_
     refine al_val (ov_pick_t rfl rfl rfl) ?_
     refine al_mv rfl rfl ?_
     refine al_caseB 91 rfl (fun hb18 => ?_) (fun hb18 => ?_)
     ·replace h := bif_t hb18 h
      refine al_mv rfl rfl ?_
      refine al_mv rfl rfl ?_
      refine al_val (ov_strLen Try.underlying9 rfl rfl) ?_
      refine al_in rfl rfl rfl rfl ?_
      refine al_val (ov_pick_t rfl rfl rfl) ?_
      refine al_store (i := 1) (vs := [(bool (r14.2 == (j11s13.length : Int)))]) (cs' := [(bool (r14.2 == (j11s13.length : Int)))]) rfl rfl rfl sz4 (cv_rfl rfl) rfl (co_val rfl co_nil) (Nat.le_of_ble_eq_true rfl) rfl rfl ?_
      refine il_nil ?_
      exact iq_join (r14.2 == (j11s13.length : Int)) h (fun w a hm hs => norm hm hs [1, 5] [] [(6, (pq g2))] (by decide) ⟨rfl, trivial⟩)
     ·replace h := bif_f hb18 h
      refine al_skip ?_
      refine al_skip ?_
      refine al_skip ?_
      refine al_skip ?_
      refine al_val (ov_pick_f rfl rfl rfl) ?_
      refine al_store (i := 1) (vs := [(bool false)]) (cs' := [(bool false)]) rfl rfl rfl sz4 (cv_rfl rfl) rfl (co_val rfl co_nil) (Nat.le_of_ble_eq_true rfl) rfl rfl ?_
      refine il_nil ?_
      exact iq_join false h (fun w a hm hs => norm hm hs [1, 5] [] [(6, (pq g2))] (by decide) ⟨rfl, trivial⟩)
    ·replace h := bif_f hb17 h
     refine al_skip ?_
     refine al_skip ?_
     refine al_skip ?_
     refine al_val (ov_pick_f rfl rfl rfl) ?_
     refine al_mv rfl rfl ?_
     refine al_skip ?_
     refine al_skip ?_
     refine al_skip ?_
     refine al_skip ?_
     refine al_val (ov_pick_f rfl rfl rfl) ?_
     refine al_store (i := 1) (vs := [(bool false)]) (cs' := [(bool false)]) rfl rfl rfl sz4 (cv_rfl rfl) rfl (co_val rfl co_nil) (Nat.le_of_ble_eq_true rfl) rfl rfl ?_
     refine il_nil ?_
     exact iq_join false h (fun w a hm hs => norm hm hs [1, 5] [] [(6, (pq g2))] (by decide) ⟨rfl, trivial⟩)
  ·clear hkk12
   refine iw_sr ?_
   refine al_val (ov_load (i := 3) (v := v5) rfl rfl Try.underlying23 sz23 rfl rfl rfl rfl) ?_
   refine al_val (ov_lenR 2 rfl rfl Try.underlying23 rfl) ?_
   refine al_mv rfl rfl ?_
   refine il_nt ?_
   refine iw_block ?_
   refine iw_state (iw_loop (ι := (List UInt8) × Int) (fun i => (memOf w0 Z0 [] [(oBox g1 35 [(iq a0.Min), (iq a0.Max), (iq a0.Bits)]), (oBox g2 4 [(bool false)]), (oRow v5 9 tyStr r4.1), (oBox g6 23 [v5]), (oBox g8 3 [(iq j9i10_0)]), (oObj j9D dblk)] [])) (fun i => (tab [(1, (str a1)), (2, (iq a2)), (3, (pq g1)), (6, (pq g2)), (7, (pq g6)), (10, (pq g8)), (13, (str i.1)), (52, v5), (53, (iq (r4.1.length : Int))), (54, (iq i.2))])) (fun q i => f_lumlaw_ChunkRanges_L21 a2 r4 kk12 q i.1 i.2 = some r) ?_ fu (([] : List UInt8), (0 : Int)) h) (fun w a hm hs => norm hm hs [0, 1, 2, 3, 4, 5] [] [(1, (str a1)), (2, (iq a2)), (3, (pq g1)), (6, (pq g2)), (7, (pq g6)), (10, (pq g8)), (13, (str ([] : List UInt8))), (52, v5), (53, (iq (r4.1.length : Int))), (54, (iq (0 : Int)))] (by decide) ⟨rfl, rfl, rfl, rfl, rfl, rfl, rfl, rfl, rfl, rfl, trivial⟩)
   clear h
   rintro k20 ⟨l19s13, l19i54⟩ h
   have h : f_lumlaw_ChunkRanges_L21 a2 r4 kk12 k20 l19s13 l19i54 = some r := h
   obtain _ | k20 := k20
   · rw [f_lumlaw_ChunkRanges_L21] at h; cases h
   rw [f_lumlaw_ChunkRanges_L21] at h
   refine iw_show (m := (memOf w0 Z0 [] [(oBox g1 35 [(iq a0.Min), (iq a0.Max), (iq a0.Bits)]), (oBox g2 4 [(bool false)]), (oRow v5 9 tyStr r4.1), (oBox g6 23 [v5]), (oBox g8 3 [(iq j9i10_0)]), (oObj j9D dblk)] [])) (S := (tab [(1, (str a1)), (2, (iq a2)), (3, (pq g1)), (6, (pq g2)), (7, (pq g6)), (10, (pq g8)), (13, (str l19s13)), (52, v5), (53, (iq (r4.1.length : Int))), (54, (iq l19i54))])) ?_
   refine iw_sr ?_
   refine al_in rfl rfl rfl rfl ?_
   refine il_nt ?_
   refine iw_seq ?_
   refine iw_cond rfl (fun hb22 => ?_) (fun hb22 => ?_)
   ·replace h := bif_t hb22 h
    refine iw_skip ?_
    refine iq_then ?_
    refine iw_seq ?_
    refine iw_block ?_
    refine iw_sr ?_
    obtain ⟨u23, hu24, h⟩ := opt_some h
    refine al_idxR 2 (at_some hu24).1 (at_some hu24).2.1 rfl rfl rfl Try.underlying23 sz9 rfl (fun p25 hp26 => ?_)
    refine al_val (ov_loadR (ds := [(str u23)]) 2 rfl hp26 (at_some hu24).2.2 (fun h => h) rfl Try.underlying9 sz9 rfl rfl rfl) ?_
    refine al_as rfl rfl ?_
    refine il_nt ?_
    refine iw_seq ?_
    obtain ⟨kk28, hkk28, h⟩ := lt_some h
    refine iw_seq_join (dsf := fun i => [dmark j9D]) (ι := Bool) (fun i => (memOf w0 Z0 [] [(oBox g1 35 [(iq a0.Min), (iq a0.Max), (iq a0.Bits)]), (oBox g2 4 [(bool false)]), (oRow v5 9 tyStr r4.1), (oBox g6 23 [v5]), (oBox g8 3 [(iq j9i10_0)]), (oObj j9D dblk)] [])) (fun i => (tab [(1, (str a1)), (2, (iq a2)), (3, (pq g1)), (6, (pq g2)), (7, (pq g6)), (10, (pq g8)), (13, (str l19s13)), (15, (str u23)), (52, v5), (53, (iq (r4.1.length : Int))), (54, (iq l19i54)), (70, (bool i))])) (fun i => kk28 i = some r) ?_ ?_
    ·rintro j27b70 h
     have h : kk28 j27b70 = some r := h
     rw [hkk28] at h
     dsimp only at h
     clear hkk28
     refine iw_show (m := (memOf w0 Z0 [] [(oBox g1 35 [(iq a0.Min), (iq a0.Max), (iq a0.Bits)]), (oBox g2 4 [(bool false)]), (oRow v5 9 tyStr r4.1), (oBox g6 23 [v5]), (oBox g8 3 [(iq j9i10_0)]), (oObj j9D dblk)] [])) (S := (tab [(1, (str a1)), (2, (iq a2)), (3, (pq g1)), (6, (pq g2)), (7, (pq g6)), (10, (pq g8)), (13, (str l19s13)), (15, (str u23)), (52, v5), (53, (iq (r4.1.length : Int))), (54, (iq l19i54)), (70, (bool j27b70))])) ?_
     refine iw_cond rfl (fun hb29 => ?_) (fun hb29 => ?_)
     ·replace h := bif_t hb29 h
      refine iw_exit ?_
      refine iq_then_exit ?_
      refine iq_block_other rfl ?_
      refine iq_then_exit ?_
      refine iq_then_exit ?_
      refine iq_block_exit ?_
      exact iq_join l19s13 h (fun w a hm hs => norm hm hs [0, 1, 2, 3, 4, 5] [] [(1, (str a1)), (2, (iq a2)), (3, (pq g1)), (6, (pq g2)), (7, (pq g6)), (10, (pq g8)), (13, (str l19s13))] (by decide) ⟨rfl, rfl, rfl, rfl, rfl, rfl, rfl, trivial⟩)
     ·replace h := bif_f hb29 h
      refine iw_skip ?_
      refine iq_then ?_
      refine iw_region ?_
      refine al_mv rfl rfl ?_
      refine al_mv rfl rfl ?_
      obtain ⟨hc30, h⟩ := req_some h
      refine al_val (ov_strAdd hc30 rfl rfl rfl) ?_
      refine al_as rfl rfl ?_
      refine il_nil ?_
      refine iq_block ?_
      refine iq_then ?_
      refine iw_region ?_
      refine al_in rfl rfl rfl rfl ?_
      refine al_mv rfl rfl ?_
      refine il_nil ?_
      exact iq_again k20 ((l19s13 ++ u23), (wq (l19i54 + (1 : Int)))) (Nat.lt_succ_self _) h (fun w a hm hs => norm hm hs [0, 1, 2, 3, 4, 5] [] [(1, (str a1)), (2, (iq a2)), (3, (pq g1)), (6, (pq g2)), (7, (pq g6)), (10, (pq g8)), (13, (str (l19s13 ++ u23))), (52, v5), (53, (iq (r4.1.length : Int))), (54, (iq (wq (l19i54 + (1 : Int)))))] (by decide) ⟨rfl, rfl, rfl, rfl, rfl, rfl, rfl, rfl, rfl, rfl, trivial⟩)
    ·clear hkk28
     refine iw_region ?_
     refine al_mv rfl rfl ?_
     refine al_mv rfl rfl ?_
     refine al_val (ov_strLen Try.underlying9 rfl rfl) ?_
     refine al_in rfl rfl rfl rfl ?_
     refine al_mv rfl rfl ?_
     refine al_caseB 62 rfl (fun hb31 => ?_) (fun hb31 => ?_)
     ·replace h := bif_t hb31 h
      refine al_skip ?_
      refine al_skip ?_
      refine al_skip ?_
      refine al_skip ?_
      refine al_skip ?_
      refine al_skip ?_
      refine al_skip ?_
      refine al_val (ov_pick_t rfl rfl rfl) ?_
      refine il_nil ?_
      exact iq_join true h (fun w a hm hs => norm hm hs [0, 1, 2, 3, 4, 5] [] [(1, (str a1)), (2, (iq a2)), (3, (pq g1)), (6, (pq g2)), (7, (pq g6)), (10, (pq g8)), (13, (str l19s13)), (15, (str u23)), (52, v5), (53, (iq (r4.1.length : Int))), (54, (iq l19i54)), (70, (bool true))] (by decide) ⟨rfl, rfl, rfl, rfl, rfl, rfl, rfl, rfl, rfl, rfl, rfl, rfl, trivial⟩)
     ·replace h := bif_f hb31 h
      refine al_mv rfl rfl ?_
      refine al_val (ov_strLen Try.underlying9 rfl rfl) ?_
      refine al_mv rfl rfl ?_
      refine al_mv rfl rfl ?_
      refine al_val (ov_strLen Try.underlying9 rfl rfl) ?_
      refine al_in rfl rfl rfl rfl ?_
      refine al_in rfl rfl rfl rfl ?_
      refine al_val (ov_pick_f rfl rfl rfl) ?_
      refine il_nil ?_
      exact iq_join (decide ((l19s13.length : Int) > (wq (a2 - (u23.length : Int))))) h (fun w a hm hs => norm hm hs [0, 1, 2, 3, 4, 5] [] [(1, (str a1)), (2, (iq a2)), (3, (pq g1)), (6, (pq g2)), (7, (pq g6)), (10, (pq g8)), (13, (str l19s13)), (15, (str u23)), (52, v5), (53, (iq (r4.1.length : Int))), (54, (iq l19i54)), (70, (bool (decide ((l19s13.length : Int) > (wq (a2 - (u23.length : Int)))))))] (by decide) ⟨rfl, rfl, rfl, rfl, rfl, rfl, rfl, rfl, rfl, rfl, rfl, rfl, trivial⟩)
   ·replace h := bif_f hb22 h
    refine iw_exit ?_
    refine iq_then_exit ?_
    refine iq_then_exit ?_
    refine iq_block_exit ?_
    exact iq_join l19s13 h (fun w a hm hs => norm hm hs [0, 1, 2, 3, 4, 5] [] [(1, (str a1)), (2, (iq a2)), (3, (pq g1)), (6, (pq g2)), (7, (pq g6)), (10, (pq g8)), (13, (str l19s13))] (by decide) ⟨rfl, rfl, rfl, rfl, rfl, rfl, rfl, trivial⟩)
 ·clear hkk10
  refine iw_sr ?_
  refine al_val (ov_load (i := 5) (v := (ag [(iq a0.Min), (iq a0.Max), (iq a0.Bits)])) rfl rfl Try.underlying35 sz35 rfl rfl rfl rfl) ?_
  refine al_mv rfl rfl ?_
  obtain ⟨r33, hc32, h⟩ := opt_some h
  refine al_call (vs := [(ag [(iq a0.Min), (iq a0.Max), (iq a0.Bits)]), (str a1)]) (f_chunk_Each_ok fu a0 a1 hc32) [] [] [0, 1, 2, 3, 4, 5] pre_nil rfl (by simp) (by decide) (.inl rfl) rfl Try.func15 rfl rfl rfl (fun ⟨g34, g35⟩ => ?_)
  refine il_nt ?_
  refine iw_block ?_
  refine iw_range (lb := [(pq g34), (pq g35)]) rfl Try.func48 rfl Try.ntmps48 rfl rfl (fun D36 l36 fn36 T36 rc36 hrc36 hT36 => ?_)
  replace hT36 := hT36.tab [(1, (str a1)), (2, (iq a2)), (3, (pq g1)), (6, (pq g2)), (7, (pq g6)), (9, (pq g7)), (10, (pq g8)), (26, (Value.func (.func 48) #[] #[(pq g34), (pq g35)]))] (allT_mem ⟨rfl, rfl, rfl, rfl, rfl, rfl, rfl, rfl, trivial⟩)
  refine iw_show (m := (memOf w0 Z0 [] [(oObj l36 (rc36 .ready none)), (oObj D36 dblk), (oBox g34 35 [(iq a0.Min), (iq a0.Max), (iq a0.Bits)]), (oBox g35 9 [(str a1)]), (oBox g8 3 [(iq (0 : Int))]), (oBox g7 3 [(iq (0 : Int))]), (oBox g6 23 [v5]), (oRow v5 9 tyStr r4.1), (oBox g2 4 [(bool false)]), (oBox g1 35 [(iq a0.Min), (iq a0.Max), (iq a0.Bits)])] [])) (S := (tab [(0, (Value.func (Fn.yield l36) #[] #[])), (1, (pq g34)), (2, (pq g35))])) ?_
  refine iw_sr ?_
  refine al_val (ov_load (i := 2) (v := (ag [(iq a0.Min), (iq a0.Max), (iq a0.Bits)])) rfl rfl Try.underlying35 sz35 rfl rfl rfl rfl) ?_
  refine al_val (ov_load (i := 3) (v := (str a1)) rfl rfl Try.underlying9 sz9 rfl rfl rfl rfl) ?_
  obtain ⟨r38, hc37, h⟩ := opt_some h
  refine al_call (vs := [(ag [(iq a0.Min), (iq a0.Max), (iq a0.Bits)]), (str a1)]) (f_chunk_Cut_ok fu a0 a1 hc37) [] [] [0, 1, 2, 3, 4, 5, 6, 7, 8, 9] pre_nil rfl (by simp) (by decide) (.inl rfl) rfl Try.func49 rfl rfl rfl (fun v39 => ?_)
  refine al_mv rfl rfl ?_
  refine al_ex rfl rfl rfl ?_
  refine al_ex rfl rfl rfl ?_
  refine al_as rfl rfl ?_
  refine al_as rfl rfl ?_
  refine il_nt ?_
  refine iw_sr ?_
  refine al_as rfl rfl ?_
  refine il_nt ?_
  refine iw_sr ?_
  refine al_mv rfl rfl ?_
  refine al_val (ov_lenR 0 rfl rfl Try.underlying23 rfl) ?_
  refine al_mv rfl rfl ?_
  refine il_nt ?_
  refine iw_block ?_
  refine iw_state (iw_loop (ι := Int × Int) (fun i => (memOf w0 Z0 [] [(oRow v39 9 tyStr r38.1), (oBox g1 35 [(iq a0.Min), (iq a0.Max), (iq a0.Bits)]), (oBox g2 4 [(bool false)]), (oRow v5 9 tyStr r4.1), (oBox g6 23 [v5]), (oBox g7 3 [(iq i.1)]), (oBox g8 3 [(iq i.2)]), (oBox g34 35 [(iq a0.Min), (iq a0.Max), (iq a0.Bits)]), (oBox g35 9 [(str a1)]), (oObj D36 dblk), (oObj l36 (rc36 .ready none))] [])) (fun i => (tab [(0, (Value.func (Fn.yield l36) #[] #[])), (6, (iq i.1)), (15, v39), (16, (iq (r38.1.length : Int))), (17, (iq i.2))])) (fun q i => f_lumlaw_ChunkRanges_L42 r4 kk10 r38 q i.1 i.2 = some r) ?_ fu ((0 : Int), (0 : Int)) h) (fun w a hm hs => norm hm hs [0, 10, 9, 8, 7, 6, 5, 3, 4, 2, 1] [] [(0, (Value.func (Fn.yield l36) #[] #[])), (6, (iq (0 : Int))), (15, v39), (16, (iq (r38.1.length : Int))), (17, (iq (0 : Int)))] (by decide) ⟨rfl, rfl, rfl, rfl, rfl, trivial⟩)
  clear h
  rintro k41 ⟨l40i6, l40i17⟩ h
  have h : f_lumlaw_ChunkRanges_L42 r4 kk10 r38 k41 l40i6 l40i17 = some r := h
  obtain _ | k41 := k41
  · rw [f_lumlaw_ChunkRanges_L42] at h; cases h
  rw [f_lumlaw_ChunkRanges_L42] at h
  refine iw_show (m := (memOf w0 Z0 [] [(oRow v39 9 tyStr r38.1), (oBox g1 35 [(iq a0.Min), (iq a0.Max), (iq a0.Bits)]), (oBox g2 4 [(bool false)]), (oRow v5 9 tyStr r4.1), (oBox g6 23 [v5]), (oBox g7 3 [(iq l40i6)]), (oBox g8 3 [(iq l40i17)]), (oBox g34 35 [(iq a0.Min), (iq a0.Max), (iq a0.Bits)]), (oBox g35 9 [(str a1)]), (oObj D36 dblk), (oObj l36 (rc36 .ready none))] [])) (S := (tab [(0, (Value.func (Fn.yield l36) #[] #[])), (6, (iq l40i6)), (15, v39), (16, (iq (r38.1.length : Int))), (17, (iq l40i17))])) ?_
  refine iw_sr ?_
  refine al_in rfl rfl rfl rfl ?_
  refine il_nt ?_
  refine iw_seq ?_
  refine iw_cond rfl (fun hb43 => ?_) (fun hb43 => ?_)
  ·replace h := bif_t hb43 h
   refine iw_skip ?_
   refine iq_then ?_
   refine iw_seq ?_
   refine iw_block ?_
   refine iw_sr ?_
   obtain ⟨u44, hu45, h⟩ := opt_some h
   refine al_idxR 0 (at_some hu45).1 (at_some hu45).2.1 rfl rfl rfl Try.underlying23 sz9 rfl (fun p46 hp47 => ?_)
   refine al_val (ov_loadR (ds := [(str u44)]) 0 rfl hp47 (at_some hu45).2.2 (fun h => h) rfl Try.underlying9 sz9 rfl rfl rfl) ?_
   refine al_as rfl rfl ?_
   refine il_nt ?_
   refine iw_seq ?_
   refine iw_seq ?_
   refine iw_cut 3 ?_
   refine al_mv rfl rfl ?_
   refine al_mv rfl rfl ?_
   refine al_mv rfl rfl ?_
   refine il_go ?_
   refine il_yield (vs := [(iq l40i6), (str u44)]) 10 hrc36 rfl hT36 rfl rfl rfl rfl rfl (fun aI48 hI48 => ?_)
   replace hI48 := hI48.tab [(0, (Value.func (Fn.yield l36) #[] #[])), (6, (iq l40i6)), (8, (str u44)), (15, v39), (16, (iq (r38.1.length : Int))), (17, (iq l40i17))] (allT_mem ⟨rfl, rfl, rfl, rfl, rfl, rfl, trivial⟩)
   refine iw_state (m' := (memOf w0 Z0 [] [(oRow v39 9 tyStr r38.1), (oBox g1 35 [(iq a0.Min), (iq a0.Max), (iq a0.Bits)]), (oBox g2 4 [(bool false)]), (oRow v5 9 tyStr r4.1), (oBox g6 23 [v5]), (oBox g7 3 [(iq l40i6)]), (oBox g8 3 [(iq l40i17)]), (oBox g34 35 [(iq a0.Min), (iq a0.Max), (iq a0.Bits)]), (oBox g35 9 [(str a1)]), (oObj D36 dblk), (oObj l36 (rc36 .ready none))] [])) (S' := (tab [(1, (str a1)), (2, (iq a2)), (3, (pq g1)), (6, (pq g2)), (7, (pq g6)), (9, (pq g7)), (10, (pq g8)), (26, (Value.func (.func 48) #[] #[(pq g34), (pq g35)])), (27, (iq l40i6)), (28, (str u44))])) ?_ (fun w a hm hs => ⟨hm, hs.tab _ (allT_mem ⟨rfl, rfl, rfl, rfl, rfl, rfl, rfl, rfl, rfl, rfl, trivial⟩)⟩)
   refine iw_sr ?_
   refine al_as rfl rfl ?_
   refine il_nt ?_
   refine iw_region ?_
   refine al_as rfl rfl ?_
   refine il_nil ?_
   refine iq_begin 10 hrc36 rfl ?_
   refine iw_block ?_
   refine iw_seq ?_
   obtain ⟨kk50, hkk50, h⟩ := lt_some h
   refine iw_seq_join (dsf := fun i => []) (ι := Bool) (fun i => (memOf w0 Z0 [] [(oBox g2 4 [(bool false)]), (oBox g7 3 [(iq l40i6)]), (oBox g8 3 [(iq l40i17)]), (oBox g1 35 [(iq a0.Min), (iq a0.Max), (iq a0.Bits)]), (oRow v5 9 tyStr r4.1), (oBox g6 23 [v5]), (oBox g34 35 [(iq a0.Min), (iq a0.Max), (iq a0.Bits)]), (oBox g35 9 [(str a1)]), (oRow v39 9 tyStr r38.1), (oObj D36 dblk), (oObj l36 (rc36 .busy none))] [])) (fun i => (tab [(6, (pq g2)), (9, (pq g7)), (10, (pq g8)), (12, (str u44)), (45, (bool i))])) (fun i => kk50 i = some r) ?_ ?_
   ·rintro j49b45 h
    have h : kk50 j49b45 = some r := h
    rw [hkk50] at h
    dsimp only at h
    clear hkk50
    refine iw_show (m := (memOf w0 Z0 [] [(oBox g2 4 [(bool false)]), (oBox g7 3 [(iq l40i6)]), (oBox g8 3 [(iq l40i17)]), (oBox g1 35 [(iq a0.Min), (iq a0.Max), (iq a0.Bits)]), (oRow v5 9 tyStr r4.1), (oBox g6 23 [v5]), (oBox g34 35 [(iq a0.Min), (iq a0.Max), (iq a0.Bits)]), (oBox g35 9 [(str a1)]), (oRow v39 9 tyStr r38.1), (oObj D36 dblk), (oObj l36 (rc36 .busy none))] [])) (S := (tab [(6, (pq g2)), (9, (pq g7)), (10, (pq g8)), (12, (str u44)), (45, (bool j49b45))])) ?_
    refine iw_cond rfl (fun hb51 => ?_) (fun hb51 => ?_)
    ·replace h := bif_t hb51 h
     refine iw_sr ?_
     refine al_store (i := 0) (vs := [(bool false)]) (cs' := [(bool false)]) rfl rfl rfl sz4 (cv_rfl rfl) rfl (co_val rfl co_nil) (Nat.le_of_ble_eq_true rfl) rfl rfl ?_
     refine il_nt ?_
     refine iw_ret ?_
     refine iq_then_ret ?_
     refine iq_block_ret ?_
     refine iq_rret 10 hrc36 rfl hI48 rfl ?_
     refine il_list ?_
     refine al_val (ov_not rfl rfl) ?_
     refine il_nt ?_
     refine iw_cond_t rfl ?_
     refine iw_ret ?_
     refine iq_then_ret ?_
     refine iq_block_ret ?_
     refine iq_then_ret ?_
     refine iq_then_ret ?_
     refine iq_block_ret ?_
     refine iq_itstop 10 hrc36 (.inl rfl) rfl (by decide) rfl hT36 ?_
     refine iw_ret ?_
     refine iq_block_ret ?_
     refine iq_then_ret ?_
     refine fn_retM 9 rfl ?_
     obtain rfl := Option.some.inj h
     exact fn_ret () [] [] rfl rfl rfl rfl (resC rfl (resB (i := 0) rfl rfl Try.underlying4 sz4 rfl rfl rfl (resN)) rfl) rfl rfl rfl (by decide)
    ·replace h := bif_f hb51 h
     refine iw_skip ?_
     refine iq_tr ?_
     refine al_val (ov_load (i := 1) (v := (iq l40i6)) rfl rfl Try.underlying3 sz3 rfl rfl rfl rfl) ?_
     refine al_mv rfl rfl ?_
     refine al_val (ov_strLen Try.underlying9 rfl rfl) ?_
     refine al_in rfl rfl rfl rfl ?_
     refine al_store (i := 1) (vs := [(iq (wq (l40i6 + (u44.length : Int))))]) (cs' := [(iq (wq (l40i6 + (u44.length : Int))))]) rfl rfl rfl sz3 (cv_rfl rfl) rfl (co_val rfl co_nil) (Nat.le_of_ble_eq_true rfl) rfl rfl ?_
     refine il_nt ?_
     refine iw_region ?_
     refine al_val (ov_load (i := 2) (v := (iq l40i17)) rfl rfl Try.underlying3 sz3 rfl rfl rfl rfl) ?_
     refine al_in rfl rfl rfl rfl ?_
     refine al_store (i := 2) (vs := [(iq (wq (l40i17 + (1 : Int))))]) (cs' := [(iq (wq (l40i17 + (1 : Int))))]) rfl rfl rfl sz3 (cv_rfl rfl) rfl (co_val rfl co_nil) (Nat.le_of_ble_eq_true rfl) rfl rfl ?_
     refine il_nil ?_
     refine iq_block ?_
     refine iq_rnorm 10 hrc36 rfl hI48 rfl ?_
     refine il_list ?_
     refine al_val (ov_not rfl rfl) ?_
     refine il_nt ?_
     refine iw_cond_f rfl ?_
     refine iw_skip ?_
     refine iq_then ?_
     refine iw_region ?_
     refine al_mv rfl rfl ?_
     refine al_mv rfl rfl ?_
     refine al_val (ov_strLen Try.underlying9 rfl rfl) ?_
     refine al_in rfl rfl rfl rfl ?_
     refine al_as rfl rfl ?_
     refine il_nil ?_
     refine iq_block ?_
     refine iq_then ?_
     refine iw_region ?_
     refine al_in rfl rfl rfl rfl ?_
     refine al_mv rfl rfl ?_
     refine il_nil ?_
     exact iq_again k41 ((wq (l40i6 + (u44.length : Int))), (wq (l40i17 + (1 : Int)))) (Nat.lt_succ_self _) h (fun w a hm hs => norm hm hs [8, 3, 0, 4, 5, 1, 2, 6, 7, 9, 10] [] [(0, (Value.func (Fn.yield l36) #[] #[])), (6, (iq (wq (l40i6 + (u44.length : Int))))), (15, v39), (16, (iq (r38.1.length : Int))), (17, (iq (wq (l40i17 + (1 : Int)))))] (by decide) ⟨rfl, rfl, rfl, rfl, rfl, trivial⟩)
   ·clear hkk50
    refine iw_region ?_
    refine al_val (ov_load (i := 6) (v := (iq l40i17)) rfl rfl Try.underlying3 sz3 rfl rfl rfl rfl) ?_
    refine al_val (ov_load (i := 4) (v := v5) rfl rfl Try.underlying23 sz23 rfl rfl rfl rfl) ?_
    refine al_val (ov_lenR 3 rfl rfl Try.underlying23 rfl) ?_
    refine al_in rfl rfl rfl rfl ?_
    refine al_mv rfl rfl ?_
    refine al_caseB 33 rfl (fun hb52 => ?_) (fun hb52 => ?_)
    ·replace h := bif_t hb52 h
     refine al_skip ?_
     refine al_skip ?_
     refine al_skip ?_
     refine al_val (ov_pick_t rfl rfl rfl) ?_
     refine al_mv rfl rfl ?_
     refine al_skip ?_
     refine al_skip ?_
     refine al_skip ?_
     refine al_skip ?_
     refine al_skip ?_
     refine al_skip ?_
     refine al_val (ov_pick_t rfl rfl rfl) ?_
     refine il_nil ?_
     exact iq_join true h (fun w a hm hs => norm hm hs [2, 5, 6, 1, 3, 4, 7, 8, 0, 9, 10] [] [(6, (pq g2)), (9, (pq g7)), (10, (pq g8)), (12, (str u44)), (45, (bool true))] (by decide) ⟨rfl, rfl, rfl, rfl, rfl, trivial⟩)
    ·replace h := bif_f hb52 h
     refine al_mv rfl rfl ?_
     refine al_val (ov_load (i := 5) (v := (iq l40i6)) rfl rfl Try.underlying3 sz3 rfl rfl rfl rfl) ?_
     refine al_in rfl rfl rfl rfl ?_
     refine al_val (ov_pick_f rfl rfl rfl) ?_
     refine al_mv rfl rfl ?_
     refine al_caseB 38 rfl (fun hb53 => ?_) (fun hb53 => ?_)
     ·replace h := bif_t hb53 h
      refine al_skip ?_
      refine al_skip ?_
      refine al_skip ?_
      refine al_skip ?_
      refine al_skip ?_
      refine al_skip ?_
      refine al_val (ov_pick_t rfl rfl rfl) ?_
      refine il_nil ?_
      exact iq_join true h (fun w a hm hs => norm hm hs [2, 5, 6, 1, 3, 4, 7, 8, 0, 9, 10] [] [(6, (pq g2)), (9, (pq g7)), (10, (pq g8)), (12, (str u44)), (45, (bool true))] (by decide) ⟨rfl, rfl, rfl, rfl, rfl, trivial⟩)
     ·replace h := bif_f hb53 h
      refine al_mv rfl rfl ?_
      refine al_val (ov_load (i := 4) (v := v5) rfl rfl Try.underlying23 sz23 rfl rfl rfl rfl) ?_
      refine al_val (ov_load (i := 6) (v := (iq l40i17)) rfl rfl Try.underlying3 sz3 rfl rfl rfl rfl) ?_
      obtain ⟨u54, hu55, h⟩ := opt_some h
      refine al_idxR 3 (at_some hu55).1 (at_some hu55).2.1 rfl rfl rfl Try.underlying23 sz9 rfl (fun p56 hp57 => ?_)
      refine al_val (ov_loadR (ds := [(str u54)]) 3 rfl hp57 (at_some hu55).2.2 (fun h => h) rfl Try.underlying9 sz9 rfl rfl rfl) ?_
      refine al_val (ov_strCmp rfl rfl rfl rfl) ?_
      refine al_val (ov_pick_f rfl rfl rfl) ?_
      refine il_nil ?_
      exact iq_join (!(u44 == u54)) h (fun w a hm hs => norm hm hs [2, 5, 6, 1, 3, 4, 7, 8, 0, 9, 10] [] [(6, (pq g2)), (9, (pq g7)), (10, (pq g8)), (12, (str u44)), (45, (bool (!(u44 == u54))))] (by decide) ⟨rfl, rfl, rfl, rfl, rfl, trivial⟩)
  ·replace h := bif_f hb43 h
   refine iw_exit ?_
   refine iq_then_exit ?_
   refine iq_then_exit ?_
   refine iq_block_exit ?_
   refine iq_itend 10 hrc36 (.inr rfl) rfl (by decide) rfl hT36 ?_
   refine iq_block ?_
   exact iq_join (l40i17, D36) h (fun w a hm hs => norm hm hs [1, 2, 3, 4, 6, 9] [] [(1, (str a1)), (2, (iq a2)), (3, (pq g1)), (6, (pq g2)), (7, (pq g6)), (10, (pq g8))] (by decide) ⟨rfl, rfl, rfl, rfl, rfl, rfl, trivial⟩)
end Go.Proofs.Ytpakblkldklbmaa
namespace Go.Proofs.Ytpakblkldklbmaa
open Go.RowKit
theorem shr_cast (m j : Nat) : ((m : Int) / 2 ^ j) = ((m / 2 ^ j : Nat) : Int) := by simp
theorem u64_bit (m j : Nat) (hm : m < 18446744073709551616) : bits BinOp.and IntKind.u64 ((m : Int) / 2 ^ j) 1 = ((m / 2 ^ j % 2 : Nat) : Int) := by
  have h : m / 2 ^ j < 18446744073709551616 := Nat.lt_of_le_of_lt (Nat.div_le_self _ _) hm
  rw [shr_cast]
  have := u64_and_nat (m / 2 ^ j) 1 h (by omega)
  rw [Nat.and_one_is_mod] at this
  exact this
theorem xor_lt64 {a b : Nat} (ha : a < 18446744073709551616) (hb : b < 18446744073709551616) : a ^^^ b < 18446744073709551616 := Nat.xor_lt_two_pow (n := 64) ha hb
theorem xor_lt32 {a b : Nat} (ha : a < 4294967296) (hb : b < 4294967296) : a ^^^ b < 4294967296 := Nat.xor_lt_two_pow (n := 32) ha hb
end Go.Proofs.Ytpakblkldklbmaa
namespace Go.Proofs.Ytpakblkldklbmaa
open Go.RowKit Ytpakblkldklbmaa.En
theorem at_nat {α : Type} (xs : List α) (k : Nat) : at? xs (k : Int) = xs[k]? := by unfold at?; rw [if_pos (Int.natCast_nonneg k)]; simp
theorem at_lt {α : Type} {xs : List α} {k : Nat} (h : k < xs.length) : at? xs (k : Int) = some xs[k] := by rw [at_nat, List.getElem?_eq_getElem h]
theorem w64 {x : Int} (h0 : -9223372036854775808 ≤ x) (h1 : x ≤ 9223372036854775807) : IntKind.i64.wrap x = x := IntWalk.i64_in x (by omega)
theorem wsucc {k : Nat} (h : k < 9223372036854775807) : IntKind.i64.wrap ((k : Int) + 1) = ((k + 1 : Nat) : Int) := by rw [w64 (by omega) (by omega)]; omega
theorem dlt {a b : Int} (h : a < b) : decide (a < b) = true := decide_eq_true h
theorem dge {a b : Int} (h : b ≤ a) : decide (a < b) = false := decide_eq_false (by omega)
theorem cond_tt {α : Type} {b : Bool} {x y : α} (h : b = true) : (bif b then x else y) = x := by rw [h]; rfl
theorem cond_ff {α : Type} {b : Bool} {x y : α} (h : b = false) : (bif b then x else y) = y := by rw [h]; rfl
end Go.Proofs.Ytpakblkldklbmaa
namespace Go.Proofs.Ytpakblkldklbmaa
open Go.RowKit Ytpakblkldklbmaa.En
theorem shr_nat {x m : Nat} {j : Int} {k : IntKind} (hj : j = (m : Int)) (hm : m ≤ k.bits) : ((x : Int)).fdiv (2 ^ min j.toNat k.bits) = ((x / 2 ^ m : Nat) : Int) := by
  subst hj
  rw [Int.toNat_natCast, Nat.min_eq_left hm, Int.fdiv_eq_ediv_of_nonneg _ (by apply Int.le_of_lt; apply Int.pow_pos; decide)]
  simp
theorem shl_nat {x m : Nat} {j : Int} {k : IntKind} (hj : j = (m : Int)) (hm : m ≤ k.bits) : ((x : Int)) * 2 ^ min j.toNat k.bits = ((x * 2 ^ m : Nat) : Int) := by
  subst hj
  rw [Int.toNat_natCast, Nat.min_eq_left hm]
  simp
end Go.Proofs.Ytpakblkldklbmaa
namespace Go.Proofs.Ytpakblkldklbmaa.Roll
def redStep (n i : Nat) : Nat := if n / 2 ^ i % 2 = 1 then n ^^^ (2147483657 * 2 ^ (i - 31)) else n
def redTo (n : Nat) : Nat → Nat
  | 0 => n
  | k + 1 => redStep (redTo n k) (63 - k)
def red (n : Nat) : Nat := redTo n 33 % 4294967296
theorem poly_lt (i : Nat) (hi : i ≤ 63) : 2147483657 * 2 ^ (i - 31) < 18446744073709551616 := by
  have h : 2 ^ (i - 31) ≤ 2 ^ 32 := Nat.pow_le_pow_right (by omega) (by omega)
  have h2 : (2 : Nat) ^ 32 = 4294967296 := rfl
  omega
theorem redStep_lt (n i : Nat) (hn : n < 18446744073709551616) (hi : i ≤ 63) : redStep n i < 18446744073709551616 := by
  unfold redStep; split
  · exact xor_lt64 hn (poly_lt i hi)
  · exact hn
theorem redTo_lt (n k : Nat) (hn : n < 18446744073709551616) : redTo n k < 18446744073709551616 := by
  induction k with
  | zero => exact hn
  | succ k ih => exact redStep_lt _ _ ih (by omega)
theorem red_lt (n : Nat) : red n < 4294967296 := Nat.mod_lt _ (by omega)
end Go.Proofs.Ytpakblkldklbmaa.Roll
namespace Go.Proofs.Ytpakblkldklbmaa.Roll
def shift (n : Nat) : Nat := red (n * 256)
def lastTo (b : Nat) : Nat → Nat
  | 0 => b
  | k + 1 => shift (lastTo b k)
theorem shift_lt (n : Nat) : shift n < 4294967296 := red_lt _
theorem lastTo_lt (b k : Nat) (hb : b < 256) : lastTo b k < 4294967296 := by
  cases k with
  | zero => simp [lastTo]; omega
  | succ k => exact shift_lt _
theorem redStep_xor (n b i : Nat) (hb : b < 2147483648) (hi : 31 ≤ i) : redStep (n ^^^ b) i = redStep n i ^^^ b := by
  have hbit : (n ^^^ b) / 2 ^ i % 2 = n / 2 ^ i % 2 := by
    have h1 : (n ^^^ b).testBit i = n.testBit i := by
      rw [Nat.testBit_xor]
      have : b.testBit i = false := Nat.testBit_lt_two_pow (Nat.lt_of_lt_of_le hb (by
        have : 2 ^ 31 ≤ 2 ^ i := Nat.pow_le_pow_right (by omega) hi
        have h2 : (2 : Nat) ^ 31 = 2147483648 := rfl
        omega))
      rw [this]; simp
    rw [Nat.testBit_eq_decide_div_mod_eq, Nat.testBit_eq_decide_div_mod_eq] at h1
    have h2 : ((n ^^^ b) / 2 ^ i % 2 = 1) ↔ (n / 2 ^ i % 2 = 1) := by simpa using h1
    omega
  unfold redStep
  rw [hbit]
  split
  · rw [Nat.xor_assoc, Nat.xor_comm b, ← Nat.xor_assoc]
  · rfl
theorem redTo_xor (n b k : Nat) (hb : b < 2147483648) (hk : k ≤ 33) : redTo (n ^^^ b) k = redTo n k ^^^ b := by
  induction k with
  | zero => rfl
  | succ k ih => rw [redTo, ih (by omega), redStep_xor _ _ _ hb (by omega)]; rfl
theorem xor_mod32 (a b : Nat) : (a ^^^ b) % 4294967296 = (a % 4294967296) ^^^ (b % 4294967296) := by
  have h2 : (4294967296 : Nat) = 2 ^ 32 := rfl
  rw [h2]
  apply Nat.eq_of_testBit_eq
  intro i
  simp only [Nat.testBit_mod_two_pow, Nat.testBit_xor]
  by_cases h : i < 32 <;> simp [h]
theorem red_xor (n b : Nat) (hb : b < 2147483648) : red (n ^^^ b) = red n ^^^ b := by
  unfold red
  rw [redTo_xor n b 33 hb (by omega), xor_mod32, Nat.mod_eq_of_lt (a := b) (by omega)]
theorem redStep_zero (i : Nat) : redStep 0 i = 0 := by simp [redStep]
theorem redTo_zero (k : Nat) : redTo 0 k = 0 := by
  induction k with
  | zero => rfl
  | succ k ih => rw [redTo, ih, redStep_zero]
theorem shift_zero : shift 0 = 0 := by simp [shift, red, redTo_zero]
theorem lastTo_zero (k : Nat) : lastTo 0 k = 0 := by
  induction k with
  | zero => rfl
  | succ k ih => rw [lastTo, ih, shift_zero]
def sumOf (l : List UInt8) : Nat := l.foldl (fun n b => shift n ^^^ b.toNat) 0
theorem sumOf_snoc (l : List UInt8) (b : UInt8) : sumOf (l ++ [b]) = shift (sumOf l) ^^^ b.toNat := by simp [sumOf]
theorem sumOf_lt (l : List UInt8) : sumOf l < 4294967296 := by
  rcases List.eq_nil_or_concat l with rfl | ⟨m, b, rfl⟩
  · simp [sumOf]
  · rw [List.concat_eq_append, sumOf_snoc]; exact xor_lt32 (shift_lt _) (by have := b.toNat_lt; omega)
end Go.Proofs.Ytpakblkldklbmaa.Roll
namespace Go.Proofs.Ytpakblkldklbmaa.Roll
theorem lt_of_bit {x i : Nat} (h : x < 2 ^ (i + 1)) (hb : x.testBit i = false) : x < 2 ^ i := by
  rw [Nat.testBit_eq_decide_div_mod_eq] at hb
  have h1 : x / 2 ^ i < 2 := by
    rw [Nat.div_lt_iff_lt_mul (Nat.two_pow_pos i), Nat.mul_comm, ← Nat.pow_succ]; exact h
  have h2 : x / 2 ^ i % 2 ≠ 1 := by simpa using hb
  have h3 : x / 2 ^ i = 0 := by
    generalize x / 2 ^ i = q at h1 h2
    omega
  exact (Nat.div_eq_zero_iff_lt (Nat.two_pow_pos i)).1 h3
theorem poly_bits (i : Nat) (hi : 31 ≤ i) : 2147483657 * 2 ^ (i - 31) < 2 ^ (i + 1) ∧ (2147483657 * 2 ^ (i - 31)).testBit i = true := by
  obtain ⟨j, rfl⟩ : ∃ j, i = 31 + j := ⟨i - 31, by omega⟩
  rw [Nat.add_sub_cancel_left]
  have hp := Nat.two_pow_pos j
  have e1 : 2 ^ (31 + j) = 2147483648 * 2 ^ j := by rw [Nat.pow_add]
  have e2 : 2 ^ (31 + j + 1) = 4294967296 * 2 ^ j := by rw [Nat.pow_add, Nat.pow_add]; omega
  refine ⟨by rw [e2]; omega, ?_⟩
  rw [Nat.testBit_eq_decide_div_mod_eq, e1]
  have : 2147483657 * 2 ^ j / (2147483648 * 2 ^ j) = 1 := by
    rw [Nat.mul_div_mul_right _ _ hp]
  rw [this]; rfl
theorem redStep_bnd {m i : Nat} (hi : 31 ≤ i) (h : m < 2 ^ (i + 1)) : redStep m i < 2 ^ i := by
  unfold redStep
  split
  · rename_i hb
    have hp := poly_bits i hi
    refine lt_of_bit (Nat.xor_lt_two_pow h hp.1) ?_
    have hb' : m.testBit i = true := by rw [Nat.testBit_eq_decide_div_mod_eq]; simpa using hb
    rw [Nat.testBit_xor, hp.2, hb']; rfl
  · rename_i hb
    exact lt_of_bit h (by rw [Nat.testBit_eq_decide_div_mod_eq]; simpa using hb)
theorem redTo_bnd (n : Nat) (hn : n < 18446744073709551616) : ∀ k, k ≤ 33 → redTo n k < 2 ^ (64 - k)
  | 0, _ => hn
  | k + 1, hk => by
    have h1 := redTo_bnd n hn k (by omega)
    rw [redTo, show 64 - (k + 1) = 63 - k by omega]
    exact redStep_bnd (by omega) (by rw [show 63 - k + 1 = 64 - k by omega]; exact h1)
theorem red_lt31 (n : Nat) (hn : n < 18446744073709551616) : red n < 2147483648 := by
  have h : redTo n 33 < 2147483648 := redTo_bnd n hn 33 (by omega)
  unfold red
  rw [Nat.mod_eq_of_lt (by omega)]; exact h
theorem redStep_lin (a b i : Nat) : redStep (a ^^^ b) i = redStep a i ^^^ redStep b i := by
  have h1 : (a ^^^ b).testBit i = (a.testBit i ^^ b.testBit i) := Nat.testBit_xor ..
  rw [Nat.testBit_eq_decide_div_mod_eq, Nat.testBit_eq_decide_div_mod_eq, Nat.testBit_eq_decide_div_mod_eq] at h1
  unfold redStep
  generalize 2147483657 * 2 ^ (i - 31) = p
  by_cases ha : a / 2 ^ i % 2 = 1 <;> by_cases hb : b / 2 ^ i % 2 = 1 <;> simp [ha, hb] at h1 ⊢
  · rw [if_neg (by omega), Nat.xor_assoc, ← Nat.xor_assoc p, Nat.xor_comm p b, Nat.xor_assoc b, Nat.xor_self, Nat.xor_zero]
  · rw [if_pos h1, Nat.xor_assoc, Nat.xor_comm b, ← Nat.xor_assoc]
  · rw [if_pos h1, Nat.xor_assoc]
  · intro h; omega
theorem redTo_lin (a b : Nat) : ∀ k, redTo (a ^^^ b) k = redTo a k ^^^ redTo b k
  | 0 => rfl
  | k + 1 => by rw [redTo, redTo_lin a b k, redStep_lin]; rfl
theorem red_lin (a b : Nat) : red (a ^^^ b) = red a ^^^ red b := by unfold red; rw [redTo_lin, xor_mod32]
theorem shl8_lin (a b : Nat) : (a ^^^ b) * 256 = (a * 256) ^^^ (b * 256) := by
  have e : ∀ x : Nat, x * 256 = x <<< 8 := fun x => by rw [Nat.shiftLeft_eq]
  rw [e, e, e]
  apply Nat.eq_of_testBit_eq
  intro i
  simp only [Nat.testBit_xor, Nat.testBit_shiftLeft]
  by_cases h : 8 ≤ i <;> simp [h]
theorem shift_lin (a b : Nat) : shift (a ^^^ b) = shift a ^^^ shift b := by unfold shift; rw [shl8_lin, red_lin]
theorem shift_lt31 {n : Nat} (h : n < 4294967296) : shift n < 2147483648 := red_lt31 _ (by omega)
theorem lastTo_succ (b : Nat) : ∀ k, lastTo (shift b) k = shift (lastTo b k)
  | 0 => rfl
  | k + 1 => by rw [lastTo, lastTo_succ b k]; rfl
theorem fold_lin : ∀ (l : List UInt8) (n b : Nat), l.foldl (fun n b => shift n ^^^ b.toNat) (n ^^^ b) = l.foldl (fun n b => shift n ^^^ b.toNat) n ^^^ lastTo b l.length
  | [], n, b => rfl
  | x :: l, n, b => by
    rw [List.foldl_cons, List.foldl_cons, shift_lin, Nat.xor_assoc, Nat.xor_comm (shift b), ← Nat.xor_assoc, fold_lin l, List.length_cons, lastTo_succ]; rfl
theorem sumOf_cons (g : UInt8) (l : List UInt8) : sumOf (g :: l) = sumOf l ^^^ lastTo g.toNat l.length := by
  unfold sumOf
  rw [List.foldl_cons, shift_zero, Nat.zero_xor]
  have := fold_lin l 0 g.toNat
  rw [Nat.zero_xor] at this
  exact this
theorem sumOf_zeros (l : List UInt8) : ∀ k, sumOf (List.replicate k 0 ++ l) = sumOf l
  | 0 => rfl
  | k + 1 => by
    rw [List.replicate_succ, List.cons_append, sumOf_cons, sumOf_zeros l k]
    have : ((0 : UInt8).toNat) = 0 := rfl
    rw [this, lastTo_zero, Nat.xor_zero]
theorem sumOf_lt31 (l : List UInt8) : sumOf l < 2147483648 := by
  rcases List.eq_nil_or_concat l with rfl | ⟨m, b, rfl⟩
  · simp [sumOf]
  · rw [List.concat_eq_append, sumOf_snoc]
    have h1 := shift_lt31 (sumOf_lt m)
    have h2 := b.toNat_lt
    exact Nat.xor_lt_two_pow (n := 31) h1 (by omega)
def tl16 (l : List UInt8) : List UInt8 := l.drop (l.length - 16)
def pad (s : List UInt8) (k : Nat) : List UInt8 := List.replicate 16 0 ++ s.take k
def win (s : List UInt8) (k : Nat) : List UInt8 := (pad s k).drop k
theorem win_sum (s : List UInt8) (k : Nat) (hk : k ≤ s.length) : sumOf (win s k) = sumOf (tl16 (s.take k)) := by
  unfold win pad tl16
  have hl : (s.take k).length = k := by rw [List.length_take]; omega
  rw [hl]
  by_cases h : 16 ≤ k
  · rw [List.drop_append, List.drop_of_length_le (by simp; omega), List.nil_append]; simp
  · rw [List.drop_append_of_le_length (by simp; omega), List.drop_replicate, sumOf_zeros, show k - 16 = 0 by omega, List.drop_zero]
theorem pad_len (s : List UInt8) (k : Nat) (hk : k ≤ s.length) : (pad s k).length = k + 16 := by
  unfold pad; rw [List.length_append, List.length_replicate, List.length_take]; omega
theorem pad_succ (s : List UInt8) (k : Nat) (hk : k < s.length) : pad s (k + 1) = pad s k ++ [s[k]] := by
  unfold pad
  rw [List.take_add_one, List.getElem?_eq_getElem hk, List.append_assoc]; rfl
def ring (s : List UInt8) : Nat → List UInt8
  | 0 => List.replicate 16 0
  | k + 1 => (ring s k).set (k % 16) (s.getD k 0)
theorem ring_len (s : List UInt8) : ∀ k, (ring s k).length = 16
  | 0 => by simp [ring]
  | k + 1 => by rw [ring, List.length_set, ring_len s k]
theorem ring_at (s : List UInt8) : ∀ k, k ≤ s.length → ∀ i, i < 16 → (ring s k)[(k + i) % 16]? = (pad s k)[k + i]?
  | 0, _, i, hi => by
    rw [ring, Nat.zero_add, Nat.mod_eq_of_lt hi]
    unfold pad
    rw [List.getElem?_append_left (by simpa using hi)]
  | k + 1, hk, i, hi => by
    rw [ring, pad_succ s k (by omega)]
    have hpl := pad_len s k (by omega)
    by_cases h15 : i = 15
    · subst h15
      rw [show k + 1 + 15 = k + 16 by omega, Nat.add_mod_right, List.getElem?_set_self (by rw [ring_len]; exact Nat.mod_lt _ (by omega)), List.getElem?_append_right (by omega), hpl, Nat.sub_self, List.getD_eq_getElem?_getD, List.getElem?_eq_getElem (by omega)]; rfl
    · rw [List.getElem?_set_ne (by have := ring_len s k; omega), show k + 1 + i = k + (i + 1) by omega, ring_at s k (by omega) (i + 1) (by omega), List.getElem?_append_left (by omega)]
theorem win_cons (s : List UInt8) (k : Nat) (hk : k < s.length) : ∃ g t, win s k = g :: t ∧ t.length = 15 ∧ (ring s k)[k % 16]? = some g ∧ win s (k + 1) = t ++ [s[k]] := by
  have hpl := pad_len s k (by omega)
  have h1 := ring_at s k (by omega) 0 (by omega)
  rw [Nat.add_zero, List.getElem?_eq_getElem (l := pad s k) (by omega)] at h1
  refine ⟨_, (pad s k).drop (k + 1), List.drop_eq_getElem_cons (by omega), by rw [List.length_drop]; omega, h1, ?_⟩
  unfold win
  rw [pad_succ s k hk, List.drop_append_of_le_length (by omega)]
theorem sum_step (s : List UInt8) (k : Nat) (hk : k < s.length) : ∃ g : UInt8, (ring s k)[k % 16]? = some g ∧ sumOf (win s (k + 1)) = shift (sumOf (win s k) ^^^ lastTo g.toNat 15) ^^^ s[k].toNat := by
  obtain ⟨g, t, h1, h2, h3, h4⟩ := win_cons s k hk
  refine ⟨g, h3, ?_⟩
  rw [h4, h1, sumOf_snoc, sumOf_cons, h2, Nat.xor_assoc, Nat.xor_self, Nat.xor_zero]
end Go.Proofs.Ytpakblkldklbmaa.Roll
namespace Go.Proofs.Ytpakblkldklbmaa.PChunkRanges
open Go.RowKit Ytpakblkldklbmaa.En Ytpakblkldklbmaa Roll
set_option linter.unusedVariables false
set_option linter.unusedSimpArgs false
theorem u64w {x : Nat} (h : x < 18446744073709551616) : IntKind.u64.wrap (x : Int) = (x : Int) := IntWalk.u64_in _ (by omega)
theorem u32w (x : Nat) : IntKind.u32.wrap (x : Int) = ((x % 4294967296 : Nat) : Int) := by
  unfold IntKind.wrap
  simp [IntKind.signed, IntKind.bits]
theorem u32wi {x : Nat} (h : x < 4294967296) : IntKind.u32.wrap (x : Int) = (x : Int) := by rw [u32w, Nat.mod_eq_of_lt h]
theorem u64x {a b : Nat} (ha : a < 18446744073709551616) (hb : b < 18446744073709551616) : bits .xor .u64 (a : Int) (b : Int) = ((a ^^^ b : Nat) : Int) := u64_xor_nat a b ha hb
theorem u32x {a b : Nat} (ha : a < 4294967296) (hb : b < 4294967296) : bits .xor .u32 (a : Int) (b : Int) = ((a ^^^ b : Nat) : Int) := u32_xor_nat a b ha hb
theorem roll_reduce_loop (n : Nat) (hn : n < 18446744073709551616) (kk : Int → Option Int) : ∀ (fuel k : Nat), k ≤ 33 → 33 - k < fuel → f_roll_reduce_L5 kk fuel (redTo n k : Nat) ((63 - k : Nat) : Int) = kk (redTo n 33 : Nat)
  | 0, k, _, hf => absurd hf (Nat.not_lt_zero _)
  | fuel + 1, k, hk, hf => by
    rw [f_roll_reduce_L5]
    have hb := redTo_lt n k hn
    by_cases hlt : k < 33
    · have hs : redTo n (k + 1) = redStep (redTo n k) (63 - k) := rfl
      have ih := roll_reduce_loop n hn kk fuel (k + 1) (by omega) (by omega)
      rw [hs] at ih
      obtain ⟨m, hm⟩ : ∃ m, m = redTo n k := ⟨_, rfl⟩
      rw [← hm] at hb ih ⊢
      have hx := poly_lt (63 - k) (by omega)
      have hj : IntKind.i64.wrap (((63 - k : Nat) : Int) - 1) = ((63 - (k + 1) : Nat) : Int) := by rw [w64 (by omega) (by omega)]; omega
      have hj2 : IntKind.i64.wrap (((63 - k : Nat) : Int) - 31) = ((63 - k - 31 : Nat) : Int) := by rw [w64 (by omega) (by omega)]; omega
      rw [cond_tt (decide_eq_true (by omega)), lt_of, req_pos (by omega), hj, hj2]
      rw [shr_nat (m := 63 - k) (k := .u64) rfl (show 63 - k ≤ 64 by omega)]
      rw [show bits .and .u64 ((m / 2 ^ (63 - k) : Nat) : Int) 1 = ((m / 2 ^ (63 - k) % 2 : Nat) : Int) by rw [← shr_cast, u64_bit m _ hb]]
      rw [show ((2147483657 : Int) * 2 ^ min (((63 - k - 31 : Nat) : Int)).toNat (IntKind.bits .u64)) = ((2147483657 * 2 ^ (63 - k - 31) : Nat) : Int) from shl_nat (x := 2147483657) (m := 63 - k - 31) (k := .u64) rfl (show 63 - k - 31 ≤ 64 by omega), u64w hx]
      by_cases hc : m / 2 ^ (63 - k) % 2 = 1
      · rw [hc, cond_tt (by rfl), req_pos (by omega), u64x hb hx]
        unfold redStep at ih
        rw [if_pos hc] at ih
        exact ih
      · rw [show m / 2 ^ (63 - k) % 2 = 0 by omega, cond_ff (by rfl)]
        unfold redStep at ih
        rw [if_neg hc] at ih
        exact ih
    · obtain rfl : k = 33 := by omega
      rw [cond_ff (decide_eq_false (by omega))]
theorem roll_reduce_ok (n : Nat) (hn : n < 18446744073709551616) (fu : Nat) (hf : 34 ≤ fu) : f_roll_reduce fu (n : Int) = some ((red n : Nat) : Int) := by
  unfold f_roll_reduce
  rw [lt_of]
  have := roll_reduce_loop n hn (fun j => some (IntKind.u32.wrap j)) fu 0 (by omega) (by omega)
  rw [show redTo n 0 = n from rfl] at this
  rw [show ((63 : Int)) = ((63 - 0 : Nat) : Int) from rfl, this, u32w]; rfl
theorem lumref_rest_loop (n : Nat) (hn : n < 18446744073709551616) (kk : Int → Option Int) : ∀ (fuel k : Nat), k ≤ 33 → 33 - k < fuel → f_lumref_rest_L5 kk fuel (redTo n k : Nat) ((63 - k : Nat) : Int) = kk (redTo n 33 : Nat)
  | 0, k, _, hf => absurd hf (Nat.not_lt_zero _)
  | fuel + 1, k, hk, hf => by
    rw [f_lumref_rest_L5]
    have hb := redTo_lt n k hn
    by_cases hlt : k < 33
    · have hs : redTo n (k + 1) = redStep (redTo n k) (63 - k) := rfl
      have ih := lumref_rest_loop n hn kk fuel (k + 1) (by omega) (by omega)
      rw [hs] at ih
      obtain ⟨m, hm⟩ : ∃ m, m = redTo n k := ⟨_, rfl⟩
      rw [← hm] at hb ih ⊢
      have hx := poly_lt (63 - k) (by omega)
      have hj : IntKind.i64.wrap (((63 - k : Nat) : Int) - 1) = ((63 - (k + 1) : Nat) : Int) := by rw [w64 (by omega) (by omega)]; omega
      have hj2 : IntKind.i64.wrap (((63 - k : Nat) : Int) - 31) = ((63 - k - 31 : Nat) : Int) := by rw [w64 (by omega) (by omega)]; omega
      rw [cond_tt (decide_eq_true (by omega)), lt_of, req_pos (by omega), hj, hj2]
      rw [shr_nat (m := 63 - k) (k := .u64) rfl (show 63 - k ≤ 64 by omega)]
      rw [show bits .and .u64 ((m / 2 ^ (63 - k) : Nat) : Int) 1 = ((m / 2 ^ (63 - k) % 2 : Nat) : Int) by rw [← shr_cast, u64_bit m _ hb]]
      rw [show ((2147483657 : Int) * 2 ^ min (((63 - k - 31 : Nat) : Int)).toNat (IntKind.bits .u64)) = ((2147483657 * 2 ^ (63 - k - 31) : Nat) : Int) from shl_nat (x := 2147483657) (m := 63 - k - 31) (k := .u64) rfl (show 63 - k - 31 ≤ 64 by omega), u64w hx]
      by_cases hc : m / 2 ^ (63 - k) % 2 = 1
      · rw [hc, cond_tt (by rfl), req_pos (by omega), u64x hb hx]
        unfold redStep at ih
        rw [if_pos hc] at ih
        exact ih
      · rw [show m / 2 ^ (63 - k) % 2 = 0 by omega, cond_ff (by rfl)]
        unfold redStep at ih
        rw [if_neg hc] at ih
        exact ih
    · obtain rfl : k = 33 := by omega
      rw [cond_ff (decide_eq_false (by omega))]
theorem lumref_rest_ok (n : Nat) (hn : n < 18446744073709551616) (fu : Nat) (hf : 34 ≤ fu) : f_lumref_rest fu (n : Int) = some ((red n : Nat) : Int) := by
  unfold f_lumref_rest
  rw [lt_of]
  have := lumref_rest_loop n hn (fun j => some (IntKind.u32.wrap j)) fu 0 (by omega) (by omega)
  rw [show redTo n 0 = n from rfl] at this
  rw [show ((63 : Int)) = ((63 - 0 : Nat) : Int) from rfl, this, u32w]; rfl
theorem shl8 {n : Nat} (h : n < 4294967296) : IntKind.u64.wrap ((IntKind.u64.wrap (n : Int)) * 2 ^ min ((8 : Int)).toNat (IntKind.bits .u64)) = ((n * 256 : Nat) : Int) := by
  rw [u64w (by omega), shl_nat (x := n) (m := 8) (j := 8) rfl (by decide), u64w (by omega)]
theorem shift_ok (n : Nat) (hn : n < 4294967296) (fu : Nat) (hf : 34 ≤ fu) : f_roll_shift fu (n : Int) = some ((shift n : Nat) : Int) := by
  unfold f_roll_shift
  rw [shl8 hn, roll_reduce_ok _ (by omega) fu hf, opt_of]; rfl
theorem last_loop (b : Nat) (hb : b < 256) (fu : Nat) (hfu : 34 ≤ fu) (kk : Int → Option Int) : ∀ (fuel k : Nat), k ≤ 15 → 15 - k < fuel → f_roll_last_L5 kk fu fuel (lastTo b k : Nat) (k : Int) = kk (lastTo b 15 : Nat)
  | 0, k, _, hf => absurd hf (Nat.not_lt_zero _)
  | fuel + 1, k, hk, hf => by
    rw [f_roll_last_L5]
    by_cases hlt : k < 15
    · rw [cond_tt (dlt (by omega)), shift_ok _ (lastTo_lt b k hb) fu hfu, opt_of, wsucc (by omega)]
      exact last_loop b hb fu hfu kk fuel (k + 1) (by omega) (by omega)
    · obtain rfl : k = 15 := by omega
      rw [cond_ff (dge (by omega))]
theorem last_ok (b : Nat) (hb : b < 256) (fu : Nat) (hf : 34 ≤ fu) : f_roll_last fu (b : Int) = some ((lastTo b 15 : Nat) : Int) := by
  unfold f_roll_last
  rw [lt_of, u32wi (by omega)]
  exact last_loop b hb fu hf _ fu 0 (by omega) (by omega)
theorem top_bit (sum : Nat) (h : sum < 2147483648) : bits BinOp.and IntKind.u32 (sum : Int) 2147483648 = 0 := by
  have := u32_and_nat sum 2147483648 (by omega) (by omega)
  have e : sum &&& 2147483648 = 0 := by
    apply Nat.eq_of_testBit_eq
    intro i
    rw [Nat.testBit_and, Nat.zero_testBit, show (2147483648 : Nat) = 2 ^ 31 from rfl, Nat.testBit_two_pow]
    by_cases hi : 31 = i
    · subst hi; simp [Nat.testBit_lt_two_pow (show sum < 2 ^ 31 from h)]
    · simp [hi]
  rw [e] at this; exact this
structure RS (s : List UInt8) (k : Nat) (w : A16u8) (a m : Int) : Prop where
  win : lA16u8 w = ring s k
  at_ : a = ((k % 16 : Nat) : Int)
  sum : m = ((sumOf (Roll.win s k) : Nat) : Int)
theorem bAt_eq (s : List UInt8) (k : Nat) (hk : k < s.length) : En.bAt s (k : Int) = (s[k].toNat : Int) := by
  unfold En.bAt; rw [Int.toNat_natCast, List.getD_eq_getElem?_getD, List.getElem?_eq_getElem hk]; rfl
theorem push_ok (s : List UInt8) (k : Nat) (hk : k < s.length) {w : A16u8} {a m : Int} (h : RS s k w a m) (fu : Nat) (hf : 34 ≤ fu) : ∃ r, f_roll_Push fu ⟨w, a, m⟩ (En.bAt s (k : Int)) = some (r, 0) ∧ RS s (k + 1) r.Win r.At r.Sum := by
  obtain ⟨hw, rfl, rfl⟩ := h
  obtain ⟨g, hg, hsum⟩ := sum_step s k hk
  have hl := sumOf_lt31 (Roll.win s k)
  have h16 : k % 16 < 16 := Nat.mod_lt _ (by omega)
  have hgl := g.toNat_lt
  have hxl := s[k].toNat_lt
  have hlast := lastTo_lt g.toNat 15 hgl
  have hat : at? (lA16u8 w) ((k % 16 : Nat) : Int) = some g := by rw [at_nat, hw, hg]
  rw [bAt_eq s k hk]
  unfold f_roll_Push
  rw [lt_of, lt_of]
  dsimp only
  rw [cond_ff (decide_eq_false (by omega)), cond_ff (decide_eq_false (by omega)), top_bit _ hl, cond_ff (by rfl), hat, opt_of]
  have hxs : (sumOf (Roll.win s k) ^^^ lastTo g.toNat 15) < 4294967296 := xor_lt32 (by omega) hlast
  have key : ∀ q : Nat, q = sumOf (Roll.win s k) ^^^ lastTo g.toNat 15 → ∃ r, (opt (f_roll_shift fu (q : Int)) fun (r9 : Int) => (opt (some g) fun (u10 : UInt8) => (req (0 ≤ (s[k].toNat : Int) ∧ (s[k].toNat : Int) ≤ 255) (some ((S_api_Roll.mk (setA16u8 w ((k % 16 : Nat) : Int) (UInt8.ofNat ((s[k].toNat : Int)).toNat)) (((IntKind.i64.wrap (((k % 16 : Nat) : Int) + (1 : Int)))).tmod (16 : Int)) (bits .xor .u32 r9 (IntKind.u32.wrap (s[k].toNat : Int)))), (0 : Int)))))) = some (r, 0) ∧ RS s (k + 1) r.Win r.At r.Sum := by
    intro q hq
    have hql : q < 4294967296 := by rw [hq]; exact hxs
    have hsl := shift_lt q
    rw [shift_ok q hql fu hf, opt_of, opt_of, req_pos (by omega), u32wi (x := s[k].toNat) (by omega), u32x hsl (by omega)]
    refine ⟨_, rfl, ?_, ?_, ?_⟩
    · show lA16u8 (setA16u8 w _ _) = _
      rw [lsetA16u8 (by omega) (by omega), hw, ring, Int.toNat_natCast, Int.toNat_natCast, UInt8.ofNat_toNat, List.getD_eq_getElem?_getD, List.getElem?_eq_getElem hk]; rfl
    · show (IntKind.i64.wrap (((k % 16 : Nat) : Int) + 1)).tmod 16 = _
      rw [w64 (by omega) (by omega), Int.tmod_eq_emod_of_nonneg (by omega)]; omega
    · show ((shift q ^^^ s[k].toNat : Nat) : Int) = _
      rw [hsum, hq]
  by_cases h0 : g.toNat = 0
  · rw [cond_ff (by simp [h0])]
    exact key _ (by rw [h0, lastTo_zero, Nat.xor_zero])
  · rw [cond_tt (by rw [bne_iff_ne]; omega), last_ok _ hgl fu hf, opt_of, u32x (by omega) hlast]
    exact key _ rfl
theorem RS.zero (s : List UInt8) : RS s 0 (A16u8.mk 0 0 0 0 0 0 0 0 0 0 0 0 0 0 0 0) 0 0 := ⟨rfl, rfl, by
  have : sumOf (Roll.win s 0) = 0 := by
    rw [win_sum s 0 (by omega), List.take_zero]; rfl
  rw [this]; rfl⟩
def ends (c : S_api_Cut) (p : List UInt8) : Bool := decide ((p.length : Int) = c.Max) || (decide (c.Min ≤ (p.length : Int)) && decide (sumOf (tl16 p) % 2 ^ c.Bits.toNat = 0))
def pr (c : S_api_Cut) : List UInt8 → List UInt8 → List (List UInt8) → List (List UInt8) × List UInt8
  | [], cur, out => (out, cur)
  | b :: r, cur, out => if ends c (cur ++ [b]) then pr c r [] (out ++ [cur ++ [b]]) else pr c r (cur ++ [b]) out
structure Good (c : S_api_Cut) : Prop where
  min : 16 ≤ c.Min
  max : c.Min ≤ c.Max ∧ c.Max ≤ 1024
  bits : 1 ≤ c.Bits ∧ c.Bits ≤ 12
theorem mask {b : Int} (h : 1 ≤ b ∧ b ≤ 12) : IntKind.u32.wrap ((1 : Int) * 2 ^ min b.toNat (IntKind.bits .u32)) = ((2 ^ b.toNat : Nat) : Int) ∧ 2 ^ b.toNat ≤ 4096 ∧ 0 < 2 ^ b.toNat := by
  have h1 : 2 ^ b.toNat ≤ 2 ^ 12 := Nat.pow_le_pow_right (by omega) (by omega)
  have h2 : (2 : Nat) ^ 12 = 4096 := rfl
  refine ⟨?_, by omega, Nat.two_pow_pos _⟩
  have e : ((1 : Int) * 2 ^ min b.toNat (IntKind.bits .u32)) = ((2 ^ b.toNat : Nat) : Int) := by
    have := shl_nat (x := 1) (m := b.toNat) (j := b) (k := .u32) (by omega) (show b.toNat ≤ 32 by omega)
    rw [Nat.one_mul] at this
    exact this
  rw [e, u32wi (by omega)]
theorem low_bits {x b : Nat} (hx : x < 4294967296) (hb : b ≤ 12) : bits .and .u32 (x : Int) ((2 ^ b - 1 : Nat) : Int) = ((x % 2 ^ b : Nat) : Int) := by
  have h1 : 2 ^ b ≤ 2 ^ 12 := Nat.pow_le_pow_right (by omega) hb
  have h2 : (2 : Nat) ^ 12 = 4096 := rfl
  have := u32_and_nat x (2 ^ b - 1) hx (by omega)
  rw [Nat.and_two_pow_sub_one_eq_mod] at this
  exact this
theorem take_snoc (s : List UInt8) (k : Nat) (hk : k < s.length) : s.take (k + 1) = s.take k ++ [s[k]] := by rw [List.take_add_one, List.getElem?_eq_getElem hk]; rfl
theorem end_loop (c : S_api_Cut) (hc : Good c) (s : List UInt8) (hs : s.length ≤ 4096) (fu : Nat) (hfu : 34 ≤ fu) : ∀ (fuel k : Nat) (w : A16u8) (a m : Int), k ≤ s.length → s.length - k < fuel → RS s k w a m →
    ∃ r : Nat, f_chunk_end_L7 c s (fun _ => some 0) fu fuel w a m (k : Int) = some (r : Int) ∧ r ≤ s.length ∧ ((r = 0 ∧ ∀ out, pr c (s.drop k) (s.take k) out = (out, s)) ∨ (0 < r ∧ ∀ out, pr c (s.drop k) (s.take k) out = pr c (s.drop r) [] (out ++ [s.take r])))
  | 0, k, _, _, _, _, hf, _ => absurd hf (Nat.not_lt_zero _)
  | fuel + 1, k, w, a, m, hk, hf, hrs => by
    rw [f_chunk_end_L7]
    by_cases hlt : k < s.length
    · obtain ⟨r, hr, hrs'⟩ := push_ok s k hlt hrs fu hfu
      rw [cond_tt (dlt (by omega)), req_pos (by omega), hr, opt_of, lt_of, wsucc (by omega)]
      dsimp only
      have hlen : (s.take (k + 1)).length = k + 1 := by rw [List.length_take]; omega
      have hpr : ∀ out, pr c (s.drop k) (s.take k) out = if ends c (s.take (k + 1)) then pr c (s.drop (k + 1)) [] (out ++ [s.take (k + 1)]) else pr c (s.drop (k + 1)) (s.take (k + 1)) out := fun out => by
        rw [List.drop_eq_getElem_cons hlt, pr, ← take_snoc s k hlt]
      have hsum : r.Sum = ((sumOf (tl16 (s.take (k + 1))) : Nat) : Int) := by rw [hrs'.sum, win_sum s (k + 1) (by omega)]
      have hgo : ∀ b : Bool, b = ends c (s.take (k + 1)) → ∃ r_1 : Nat, (bif b then some (((k + 1 : Nat) : Int)) else f_chunk_end_L7 c s (fun _ => some 0) fu fuel r.Win r.At r.Sum ((k + 1 : Nat) : Int)) = some (r_1 : Int) ∧ r_1 ≤ s.length ∧ ((r_1 = 0 ∧ ∀ out, pr c (s.drop k) (s.take k) out = (out, s)) ∨ (0 < r_1 ∧ ∀ out, pr c (s.drop k) (s.take k) out = pr c (s.drop r_1) [] (out ++ [s.take r_1]))) := by
        intro b hb
        cases hbb : b with
        | true =>
          rw [hbb] at hb
          exact ⟨k + 1, rfl, hlt, .inr ⟨by omega, fun out => by rw [hpr, if_pos hb.symm]⟩⟩
        | false =>
          rw [hbb] at hb
          obtain ⟨r', h1, h2, h3⟩ := end_loop c hc s hs fu hfu fuel (k + 1) _ _ _ hlt (by omega) hrs'
          refine ⟨r', h1, h2, ?_⟩
          rcases h3 with ⟨h3, h4⟩ | ⟨h3, h4⟩
          · exact .inl ⟨h3, fun out => by rw [hpr, if_neg (by rw [← hb]; simp)]; exact h4 out⟩
          · exact .inr ⟨h3, fun out => by rw [hpr, if_neg (by rw [← hb]; simp)]; exact h4 out⟩
      by_cases h1 : ((k + 1 : Nat) : Int) = c.Max
      · rw [cond_tt (by rw [h1]; simp)]
        exact hgo true (by unfold ends; rw [hlen, decide_eq_true h1]; rfl)
      · rw [cond_ff (by rw [beq_eq_false_iff_ne]; exact h1)]
        by_cases h2 : c.Min ≤ ((k + 1 : Nat) : Int)
        · have hm := mask hc.bits
          have hb12 : c.Bits.toNat ≤ 12 := by have := hc.bits; omega
          have hsl := sumOf_lt31 (tl16 (s.take (k + 1)))
          have hw1 : IntKind.u32.wrap ((2 ^ c.Bits.toNat : Nat) - 1 : Int) = ((2 ^ c.Bits.toNat - 1 : Nat) : Int) := by
            have : ((2 ^ c.Bits.toNat : Nat) - 1 : Int) = ((2 ^ c.Bits.toNat - 1 : Nat) : Int) := by
              have := hm.2.2
              omega
            rw [this, u32wi (by omega)]
          have hand : bits .and .u32 r.Sum ((2 ^ c.Bits.toNat - 1 : Nat) : Int) = ((sumOf (tl16 (s.take (k + 1))) % 2 ^ c.Bits.toNat : Nat) : Int) := by rw [hsum, low_bits (by omega) hb12]
          rw [cond_tt (decide_eq_true h2), req_pos (by have := hc.bits; omega), hm.1, hw1, hand]
          refine hgo _ ?_
          unfold ends
          rw [hlen, decide_eq_false h1, decide_eq_true h2, Bool.false_or, Bool.true_and]
          by_cases h3 : sumOf (tl16 (s.take (k + 1))) % 2 ^ c.Bits.toNat = 0
          · rw [h3]; rfl
          · rw [decide_eq_false h3, beq_eq_false_iff_ne]; omega
        · rw [cond_ff (decide_eq_false h2)]
          exact hgo false (by unfold ends; rw [hlen, decide_eq_false h1, decide_eq_false h2]; rfl)
    · rw [cond_ff (dge (by omega))]
      refine ⟨0, rfl, by omega, .inl ⟨rfl, fun out => ?_⟩⟩
      rw [List.drop_of_length_le (by omega), List.take_of_length_le (by omega)]; rfl
theorem end_ok (c : S_api_Cut) (hc : Good c) (s : List UInt8) (hs : s.length ≤ 4096) (fu : Nat) (hfu : 5000 ≤ fu) : ∃ r : Nat, f_chunk_end fu c s = some (r : Int) ∧ r ≤ s.length ∧ ((r = 0 ∧ ∀ out, pr c s [] out = (out, s)) ∨ (0 < r ∧ ∀ out, pr c s [] out = pr c (s.drop r) [] (out ++ [s.take r]))) := by
  unfold f_chunk_end
  rw [lt_of]
  have := end_loop c hc s hs fu (by omega) fu 0 _ _ _ (by omega) (by omega) (RS.zero s)
  rw [List.drop_zero, List.take_zero] at this
  exact this
theorem pieces_loop (c : S_api_Cut) (hc : Good c) (fu : Nat) (hfu : 5000 ≤ fu) : ∀ (fuel : Nat) (s : List UInt8) (out : List (List UInt8)), s.length < fuel → s.length + out.length ≤ 4096 →
    f_chunk_pieces_L4 c fu fuel s out = some (pr c s [] out)
  | 0, s, _, hf, _ => absurd hf (Nat.not_lt_zero _)
  | fuel + 1, s, out, hf, hl => by
    rw [f_chunk_pieces_L4]
    obtain ⟨r, h1, h2, h3⟩ := end_ok c hc s (by omega) fu hfu
    rw [h1, opt_of]
    rcases h3 with ⟨rfl, h3⟩ | ⟨h3, h4⟩
    · rw [cond_tt (by rfl), h3]
    · rw [cond_ff (by rw [beq_eq_false_iff_ne]; omega), req_pos (by omega), req_pos (by simp; omega), req_pos (by omega), Int.toNat_natCast, h4]
      exact pieces_loop c hc fu hfu fuel _ _ (by rw [List.length_drop]; omega) (by rw [List.length_drop, List.length_append]; simp; omega)
theorem pieces_ok (c : S_api_Cut) (hc : Good c) (s : List UInt8) (hs : s.length ≤ 4096) (fu : Nat) (hfu : 5000 ≤ fu) : f_chunk_pieces fu c s = some (pr c s [] []) := pieces_loop c hc fu hfu fu s [] (by omega) (by simpa using hs)
theorem of_loop (l : List UInt8) (hl : l.length ≤ 16) (fu : Nat) (hfu : 34 ≤ fu) (kk : Int → Option Int) : ∀ (fuel k : Nat), k ≤ l.length → l.length - k < fuel → f_lumref_Of_L9 l kk fu fuel (sumOf (l.take k) : Nat) (k : Int) = kk (sumOf l : Nat)
  | 0, k, _, hf => absurd hf (Nat.not_lt_zero _)
  | fuel + 1, k, hk, hf => by
    rw [f_lumref_Of_L9]
    by_cases hlt : k < l.length
    · have hsl := sumOf_lt (l.take k)
      have hxl := l[k].toNat_lt
      rw [cond_tt (dlt (by omega)), at_lt hlt, opt_of, shl8 hsl, u64w (x := l[k].toNat) (by omega), u64x (by omega) (by omega), lumref_rest_ok _ (xor_lt64 (by omega) (by omega)) fu hfu, opt_of, wsucc (by omega), red_xor _ _ (by omega)]
      have := of_loop l hl fu hfu kk fuel (k + 1) hlt (by omega)
      rw [take_snoc l k hlt, sumOf_snoc] at this
      exact this
    · rw [cond_ff (dge (by omega)), List.take_of_length_le (by omega)]
theorem of_ok (s : List UInt8) (hs : s.length ≤ 5000) (fu : Nat) (hfu : 34 ≤ fu) : f_lumref_Of fu s = some ((sumOf (tl16 s) : Nat) : Int) := by
  unfold f_lumref_Of
  rw [lt_of]
  have key : ∀ l : List UInt8, l.length ≤ 16 → (lt (fun (j3i3 : Int) => (some j3i3)) fun (kk4 : Int → Option Int) => (req (l.length ≤ 9223372036854775807) (f_lumref_Of_L9 l kk4 fu fu (0 : Int) (0 : Int)))) = some ((sumOf l : Nat) : Int) := fun l hl => by
    rw [lt_of, req_pos (by omega)]
    exact of_loop l hl fu hfu _ fu 0 (by omega) (by omega)
  by_cases h : s.length > 16
  · rw [cond_tt (decide_eq_true (by omega)), w64 (by omega) (by omega), req_pos (by omega), show ((s.length : Int) - 16).toNat = s.length - 16 by omega]
    exact key (tl16 s) (by unfold tl16; rw [List.length_drop]; omega)
  · rw [cond_ff (decide_eq_false (by omega))]
    have : tl16 s = s := by unfold tl16; rw [show s.length - 16 = 0 by omega, List.drop_zero]
    rw [this]; exact key s (by omega)
theorem ends_ok (c : S_api_Cut) (hc : Good c) (p : List UInt8) (hp : p.length ≤ 5000) (fu : Nat) (hfu : 34 ≤ fu) : f_lumref_ends fu c p = some (ends c p) := by
  unfold f_lumref_ends ends
  rw [lt_of]
  by_cases h1 : (p.length : Int) = c.Max
  · rw [cond_tt (by rw [h1]; simp), decide_eq_true h1]; rfl
  · rw [cond_ff (by rw [beq_eq_false_iff_ne]; exact h1), decide_eq_false h1, Bool.false_or]
    by_cases h2 : c.Min ≤ (p.length : Int)
    · have hm := mask hc.bits
      rw [cond_tt (decide_eq_true h2), of_ok p hp fu hfu, opt_of, req_pos (by have := hc.bits; omega), hm.1, req_pos (by have := hm.2.2; omega), decide_eq_true h2, Bool.true_and, Int.tmod_eq_emod_of_nonneg (by omega)]
      congr 1
      by_cases h3 : sumOf (tl16 p) % 2 ^ c.Bits.toNat = 0
      · rw [decide_eq_true h3]; rw [beq_iff_eq]; exact_mod_cast h3
      · rw [decide_eq_false h3, beq_eq_false_iff_ne]; intro h; exact h3 (by exact_mod_cast h)
    · rw [cond_ff (decide_eq_false h2), decide_eq_false h2]; rfl
theorem cut_nat (s : List UInt8) (a b : Nat) : cut s (a : Int) (b : Int) = (s.take b).drop a := by unfold cut; rw [Int.toNat_natCast, Int.toNat_natCast]
theorem rpieces_loop (c : S_api_Cut) (hc : Good c) (s : List UInt8) (hs : s.length ≤ 4096) (fu : Nat) (hfu : 34 ≤ fu) : ∀ (fuel a f : Nat) (out : List (List UInt8)), f ≤ a → a ≤ s.length → s.length - a < fuel → out.length ≤ a →
    f_lumref_Pieces_L7 c s (fun j2x6 j2i7 => (req (0 ≤ j2i7 ∧ j2i7 ≤ (s.length : Int)) (some (j2x6, (s.drop (j2i7).toNat))))) fu fuel out (f : Int) (a : Int) = some (pr c (s.drop a) ((s.take a).drop f) out)
  | 0, a, _, _, _, _, hf, _ => absurd hf (Nat.not_lt_zero _)
  | fuel + 1, a, f, out, hfa, ha, hf, hout => by
    rw [f_lumref_Pieces_L7]
    by_cases hlt : a < s.length
    · have hcut : (s.take (a + 1)).drop f = (s.take a).drop f ++ [s[a]] := by
        rw [take_snoc s a hlt, List.drop_append_of_le_length (by rw [List.length_take]; omega)]
      rw [cond_tt (dlt (by omega)), lt_of, wsucc (by omega), req_pos (by omega), cut_nat, ends_ok c hc _ (by rw [List.length_drop, List.length_take]; omega) fu hfu, opt_of, List.drop_eq_getElem_cons hlt, pr, ← hcut]
      cases he : ends c ((s.take (a + 1)).drop f) with
      | true =>
        rw [cond_tt rfl, req_pos (by omega), req_pos (by simp; omega), if_pos rfl]
        dsimp only
        rw [rpieces_loop c hc s hs fu hfu fuel (a + 1) (a + 1) _ (by omega) hlt (by omega) (by simp; omega)]
        rw [List.drop_of_length_le (l := s.take (a + 1)) (by rw [List.length_take]; omega)]
      | false =>
        rw [cond_ff rfl, if_neg (by simp)]
        dsimp only
        rw [rpieces_loop c hc s hs fu hfu fuel (a + 1) f _ (by omega) hlt (by omega) (by omega)]
    · rw [cond_ff (dge (by omega)), req_pos (by omega), Int.toNat_natCast, show s.drop a = [] from List.drop_of_length_le (by omega), List.take_of_length_le (l := s) (by omega), pr]
theorem rpieces_ok (c : S_api_Cut) (hc : Good c) (s : List UInt8) (hs : s.length ≤ 4096) (fu : Nat) (hfu : 5000 ≤ fu) : f_lumref_Pieces fu c s = some (pr c s [] []) := by
  unfold f_lumref_Pieces
  rw [lt_of]
  have := rpieces_loop c hc s hs fu (by omega) fu 0 0 [] (by omega) (by omega) (by omega) (by simp)
  rw [List.drop_zero, List.take_zero] at this
  exact this
def okB (c : S_api_Cut) : Bool := decide (16 ≤ c.Min) && (decide (c.Min ≤ c.Max) && (decide (c.Max ≤ 1024) && (decide (1 ≤ c.Bits) && decide (c.Bits ≤ 12))))
theorem okB_good {c : S_api_Cut} (h : okB c = true) : Good c := by
  unfold okB at h
  simp only [Bool.and_eq_true, decide_eq_true_eq] at h
  exact ⟨h.1, ⟨h.2.1, h.2.2.1⟩, h.2.2.2⟩
theorem check_ok (c : S_api_Cut) (fu : Nat) : f_chunk_Check fu c = some (bif okB c then 0 else 1) := by
  unfold f_chunk_Check okB
  rw [lt_of]
  by_cases h1 : c.Min < 16
  · rw [cond_tt (dlt h1), decide_eq_false (show ¬ 16 ≤ c.Min by omega)]; rfl
  · rw [cond_ff (dge (by omega)), decide_eq_true (show 16 ≤ c.Min by omega)]
    by_cases h2 : c.Max < c.Min
    · rw [cond_tt (dlt h2), decide_eq_false (show ¬ c.Min ≤ c.Max by omega)]; rfl
    · rw [cond_ff (dge (by omega)), decide_eq_true (show c.Min ≤ c.Max by omega)]
      by_cases h3 : c.Max > 1024
      · rw [cond_tt (decide_eq_true h3), decide_eq_false (show ¬ c.Max ≤ 1024 by omega)]; rfl
      · rw [cond_ff (decide_eq_false h3), decide_eq_true (show c.Max ≤ 1024 by omega)]
        by_cases h4 : c.Bits < 1
        · rw [cond_tt (dlt h4), decide_eq_false (show ¬ 1 ≤ c.Bits by omega)]; rfl
        · rw [cond_ff (dge (by omega)), decide_eq_true (show 1 ≤ c.Bits by omega)]
          by_cases h5 : c.Bits > 12
          · rw [decide_eq_true h5, decide_eq_false (show ¬ c.Bits ≤ 12 by omega)]; rfl
          · rw [decide_eq_false h5, decide_eq_true (show c.Bits ≤ 12 by omega)]; rfl
theorem cutok_ok (c : S_api_Cut) (fu : Nat) : f_lumref_CutOK fu c = some (bif okB c then 0 else 1) := by
  unfold f_lumref_CutOK okB
  rw [lt_of]
  cases decide (16 ≤ c.Min) <;> cases decide (c.Min ≤ c.Max) <;> cases decide (c.Max ≤ 1024) <;> cases decide (1 ≤ c.Bits) <;> cases decide (c.Bits ≤ 12) <;> rfl
theorem pr_len (c : S_api_Cut) : ∀ (s cur : List UInt8) (out : List (List UInt8)), (pr c s cur out).1.length ≤ out.length + s.length
  | [], cur, out => by simp [pr]
  | b :: r, cur, out => by
    rw [pr]
    split
    · have := pr_len c r [] (out ++ [cur ++ [b]])
      simp at this ⊢; omega
    · have := pr_len c r (cur ++ [b]) out
      simp at this ⊢; omega
def cutv (c : S_api_Cut) (s : List UInt8) : List (List UInt8) × Int :=
  if okB c = false then ([], 1) else if 4096 < s.length then ([], 2) else if (pr c s [] []).2 = [] then ((pr c s [] []).1, 0) else ((pr c s [] []).1 ++ [(pr c s [] []).2], 0)
theorem cut_ok (c : S_api_Cut) (s : List UInt8) (hs : s.length ≤ 9223372036854775807) (fu : Nat) (hf : 5000 ≤ fu) : f_chunk_Cut fu c s = some (cutv c s) := by
  unfold f_chunk_Cut f_chunk_Feed cutv
  rw [check_ok, opt_of]
  cases hok : okB c with
  | false =>
    rw [if_pos rfl]; rfl
  | true =>
    rw [if_neg (by simp), cond_tt (x := (0 : Int)) rfl, cond_ff (by rfl)]
    by_cases h3 : s.length > 4096
    · rw [cond_tt (decide_eq_true (by simp only [List.length_nil]; rw [w64 (by omega) (by omega)]; omega)), if_pos h3]; rfl
    · rw [cond_ff (decide_eq_false (by simp only [List.length_nil]; rw [w64 (by omega) (by omega)]; omega)), if_neg h3, req_pos (by simp; omega), List.nil_append, pieces_ok c (okB_good hok) s (by omega) fu hf, opt_of, opt_of, lt_of, lt_of]
      dsimp only
      have hl := pr_len c s [] []
      rw [cond_tt (by rfl)]
      by_cases h4 : (pr c s [] []).2 = []
      · rw [if_pos h4, h4, cond_ff (by rfl)]
      · rw [if_neg h4, cond_tt (by simpa using h4), req_pos (by simp at hl ⊢; omega)]
theorem rcut_ok (c : S_api_Cut) (s : List UInt8) (fu : Nat) (hf : 5000 ≤ fu) : f_lumref_Cut fu c s = some (cutv c s) := by
  unfold f_lumref_Cut cutv
  rw [cutok_ok, opt_of]
  cases hok : okB c with
  | false =>
    rw [if_pos rfl]; rfl
  | true =>
    rw [if_neg (by simp), cond_tt (x := (0 : Int)) rfl, cond_ff (by rfl)]
    by_cases h3 : s.length > 4096
    · rw [cond_tt (decide_eq_true (by omega)), if_pos h3]
    · rw [cond_ff (decide_eq_false (by omega)), if_neg h3, rpieces_ok c (okB_good hok) s (by omega) fu hf, opt_of, lt_of]
      have hl := pr_len c s [] []
      by_cases h4 : (pr c s [] []).2 = []
      · rw [if_pos h4, h4, cond_ff (by rfl)]
      · rw [if_neg h4, cond_tt (by simpa using h4), req_pos (by simp at hl ⊢; omega)]
theorem pr_flat (c : S_api_Cut) : ∀ (s cur : List UInt8) (out : List (List UInt8)), (pr c s cur out).1.flatten ++ (pr c s cur out).2 = out.flatten ++ cur ++ s
  | [], cur, out => by simp [pr]
  | b :: r, cur, out => by
    rw [pr]
    split
    · rw [pr_flat c r [] (out ++ [cur ++ [b]])]; simp
    · rw [pr_flat c r (cur ++ [b]) out]; simp
theorem cut_flat (c : S_api_Cut) (s : List UInt8) : (cutv c s).1.flatten <+: s ∧ (cutv c s).1.flatten.length ≤ 4096 ∧ (cutv c s).1.length ≤ 5000 := by
  have hf := pr_flat c s [] []
  have hl := pr_len c s [] []
  simp only [List.flatten_nil, List.nil_append, List.length_nil, Nat.zero_add] at hf hl
  have hs : ∀ t : List UInt8, t <+: s → s.length ≤ 4096 → t.length ≤ 4096 := fun t ht h => Nat.le_trans ht.length_le h
  unfold cutv
  split
  · exact ⟨List.nil_prefix, by simp, by simp⟩
  · split
    · exact ⟨List.nil_prefix, by simp, by simp⟩
    · rename_i hn
      have hs4 : s.length ≤ 4096 := by omega
      split
      · have hp : (pr c s [] []).1.flatten <+: s := ⟨(pr c s [] []).2, hf⟩
        exact ⟨hp, hs _ hp hs4, by show (pr c s [] []).1.length ≤ 5000; omega⟩
      · have hp : ((pr c s [] []).1 ++ [(pr c s [] []).2]).flatten <+: s := by
          rw [List.flatten_append, List.flatten_singleton, hf]; exact List.prefix_refl _
        exact ⟨hp, hs _ hp hs4, by simp only [List.length_append, List.length_singleton]; omega⟩
def grd (m : Int) : List (List UInt8) → List UInt8 → List UInt8
  | [], w => w
  | p :: ps, w => if ((w.length + p.length : Nat) : Int) > m then w else grd m ps (w ++ p)
theorem grd_pre (m : Int) (s : List UInt8) : ∀ (ps : List (List UInt8)) (w : List UInt8), w ++ ps.flatten <+: s → grd m ps w <+: s
  | [], w, h => by rw [grd]; simpa using h
  | p :: ps, w, h => by
    rw [grd]
    split
    · exact (List.prefix_append _ _).trans h
    · exact grd_pre m s ps (w ++ p) (by rw [List.append_assoc]; simpa using h)
theorem drop_flat {P : List (List UInt8)} {k : Nat} (h : k < P.length) : (P.drop k).flatten.length = P[k].length + (P.drop (k + 1)).flatten.length := by
  rw [List.drop_eq_getElem_cons h, List.flatten_cons, List.length_append]
theorem want_loop (m : Int) (hm : (Lit.int .i64 m).wf = true) (P : List (List UInt8)) (e : Int) (kk : List UInt8 → Option Bool) (hP : P.length ≤ 5000) : ∀ (fuel k : Nat) (w : List UInt8), k ≤ P.length → P.length - k < fuel → w.length + (P.drop k).flatten.length ≤ 4096 →
    f_lumlaw_ChunkRanges_L21 m (P, e) kk fuel w (k : Int) = kk (grd m (P.drop k) w)
  | 0, k, w, hk, hf, _ => absurd hf (Nat.not_lt_zero _)
  | fuel + 1, k, w, hk, hf, hl => by
    rw [f_lumlaw_ChunkRanges_L21]
    by_cases hlt : k < P.length
    · have hd := drop_flat hlt
      rw [cond_tt (dlt (by simp only []; omega)), at_lt hlt, opt_of, lt_of, List.drop_eq_getElem_cons hlt, grd]
      have hb : -9223372036854775808 ≤ m ∧ m ≤ 9223372036854775807 := by simp [Lit.wf, IntKind.min, IntKind.max, IntKind.signed, IntKind.bits] at hm; omega
      by_cases h1 : m < ((P[k].length : Nat) : Int)
      · rw [cond_tt (decide_eq_true h1), if_pos (by omega)]; rfl
      · have hw : IntKind.i64.wrap (m - ((P[k].length : Nat) : Int)) = m - ((P[k].length : Nat) : Int) := w64 (by omega) (by omega)
        rw [cond_ff (decide_eq_false h1), hw]
        by_cases h2 : (w.length : Int) > m - ((P[k].length : Nat) : Int)
        · rw [decide_eq_true h2, if_pos (by omega)]; rfl
        · rw [decide_eq_false h2]
          dsimp only
          rw [cond_ff rfl, req_pos (by omega), wsucc (by omega), want_loop m hm P e kk hP fuel (k + 1) (w ++ P[k]) (by omega) (by omega) (by rw [List.length_append]; omega), if_neg (by omega)]
    · rw [cond_ff (dge (by simp only []; omega)), List.drop_of_length_le (by omega), grd]
theorem until_loop (m : Int) (P : List (List UInt8)) (e : Int) (kk : Int → Option (List UInt8 × Int)) (hP : P.length ≤ 5000) : ∀ (fuel k : Nat) (w : List UInt8), k ≤ P.length → P.length - k < fuel → w.length + (P.drop k).flatten.length ≤ 4096 →
    f_chunk_Until_L17 m kk (P, e) fuel (w.length : Int) (k : Int) = kk ((grd m (P.drop k) w).length : Int)
  | 0, k, w, hk, hf, _ => absurd hf (Nat.not_lt_zero _)
  | fuel + 1, k, w, hk, hf, hl => by
    rw [f_chunk_Until_L17]
    by_cases hlt : k < P.length
    · have hd := drop_flat hlt
      rw [cond_tt (dlt (by simp only []; omega)), at_lt hlt, opt_of, List.drop_eq_getElem_cons hlt, grd, w64 (by omega) (by omega)]
      by_cases h1 : ((w.length + P[k].length : Nat) : Int) > m
      · rw [cond_tt (decide_eq_true (by omega)), if_pos h1]
      · have := until_loop m P e kk hP fuel (k + 1) (w ++ P[k]) (by omega) (by omega) (by rw [List.length_append]; omega)
        rw [List.length_append, Int.natCast_add] at this
        rw [cond_ff (decide_eq_false (by omega)), if_neg h1, wsucc (by omega), this]
    · rw [cond_ff (dge (by simp only []; omega)), List.drop_of_length_le (by omega), grd]
theorem each_loop (P : List (List UInt8)) (e : Int) (kk : Int → Option Bool) (hP : P.length ≤ 5000) : ∀ (fuel k a : Nat), k ≤ P.length → P.length - k < fuel → a + (P.drop k).flatten.length ≤ 4096 →
    f_lumlaw_ChunkRanges_L42 (P, e) kk (P, e) fuel (a : Int) (k : Int) = kk (P.length : Int)
  | 0, k, a, hk, hf, _ => absurd hf (Nat.not_lt_zero _)
  | fuel + 1, k, a, hk, hf, hl => by
    rw [f_lumlaw_ChunkRanges_L42]
    by_cases hlt : k < P.length
    · have hd := drop_flat hlt
      rw [cond_tt (dlt (by simp only []; omega)), at_lt hlt, opt_of, lt_of, opt_of]
      rw [cond_ff (by simp only [beq_eq_false_iff_ne]; omega), cond_ff (by simp)]
      dsimp only
      rw [cond_ff (by simp), w64 (by omega) (by omega), wsucc (by omega)]
      have := each_loop P e kk hP fuel (k + 1) (a + P[k].length) (by omega) (by omega) (by omega)
      rw [Int.natCast_add] at this
      exact this
    · rw [cond_ff (dge (by simp only []; omega)), show k = P.length by omega]
def fuel (_ : S_api_Cut) (_ : List UInt8) (_ : Int) : Nat := 10000
theorem says (c : S_api_Cut) (s : List UInt8) (m : Int) (_ : okS_api_Cut c) (hs : s.length ≤ 9223372036854775807) (hm : (Lit.int .i64 m).wf = true) : f_lumlaw_ChunkRanges (fuel c s m) c s m = some true := by
  obtain ⟨h1, h2, h3⟩ := cut_flat c s
  have hc := cut_ok c s hs 10000 (by omega)
  have hr := rcut_ok c s 10000 (by omega)
  obtain ⟨P, e, hPe⟩ : ∃ P e, cutv c s = (P, e) := ⟨_, _, rfl⟩
  rw [hPe] at h1 h2 h3 hc hr
  simp only at h1 h2 h3
  have hg : grd m P [] <+: s := grd_pre m s P [] (by simpa using h1)
  have hu : f_chunk_Until 10000 c s m = some (grd m P [], ((grd m P []).length : Int)) := by
    unfold f_chunk_Until f_chunk_Each
    rw [lt_of, opt_of, hc, opt_of]
    have := until_loop m P e (fun j4i8_0 => req (0 ≤ j4i8_0 ∧ j4i8_0 ≤ (s.length : Int)) (some (s.take j4i8_0.toNat, j4i8_0))) h3 10000 0 [] (by omega) (by omega) (by simpa using h2)
    refine this.trans ?_
    have hl := hg.length_le
    rw [List.drop_zero, req_pos (by omega), Int.toNat_natCast, ← List.prefix_iff_eq_take.1 hg]
  unfold f_lumlaw_ChunkRanges fuel f_chunk_Each
  rw [hr, opt_of, lt_of, opt_of, hc, opt_of]
  refine (each_loop P e _ h3 10000 0 0 (by omega) (by omega) (by simpa using h2)).trans ?_
  dsimp only
  rw [lt_of]
  refine (want_loop m hm P e _ h3 10000 0 [] (by omega) (by omega) (by simpa using h2)).trans ?_
  rw [List.drop_zero, hu, opt_of, lt_of, cond_tt (by simp), cond_tt (by simp)]
  simp
end Go.Proofs.Ytpakblkldklbmaa.PChunkRanges
