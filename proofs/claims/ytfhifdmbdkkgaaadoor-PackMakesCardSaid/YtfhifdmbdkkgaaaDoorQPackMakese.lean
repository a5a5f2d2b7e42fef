/- What PackMakes leans on, part 5. No condition. -/
import Derived.Test.YtfhifdmbdkkgaaaDoorQPackMakesd
import Derived.Test.YtfhifdmbdkkgaaaDoorChecked
import Derived.WalkKit
import Derived.Lib.Hide
import Derived.IntWalk
import Derived.Lib.Endian
import Derived.Lib.TrimByte
import Derived.Laws.BitsAllLaws
namespace Go.Proofs.YtfhifdmbdkkgaaaDoor
open Go.RowKit YtfhifdmbdkkgaaaDoor.En
set_option linter.unusedVariables false
set_option linter.unusedSimpArgs false
open Go.Value (int bool)
def f_lumref_PackMake_L18 (a0 : (List S_api_Blob)) (kk5 : ((List UInt8) → (List UInt8) → Option ((List UInt8) × Int))) (fu : Nat) : Nat → (List A8u8) → (List UInt8) → (List UInt8) → Int → Option ((List UInt8) × Int)
  | 0, _, _, _, _ => none
  | k17 + 1, l16x4, l16s5, l16s6, l16i25 => (lt (fun (l16x4 : (List A8u8)) (l16s5 : (List UInt8)) (l16s6 : (List UInt8)) (l16i25 : Int) => (f_lumref_PackMake_L18 a0 kk5 fu k17 l16x4 l16s5 l16s6 l16i25)) fun (kk19 : (List A8u8) → (List UInt8) → (List UInt8) → Int → Option ((List UInt8) × Int)) => (bif (decide (l16i25 < (a0.length : Int))) then (lt (fun (j21x4 : (List A8u8)) (j21s5 : (List UInt8)) (j21s6 : (List UInt8)) => (kk19 j21x4 j21s5 j21s6 (IntKind.i64.wrap (l16i25 + (1 : Int))))) fun (kk22 : (List A8u8) → (List UInt8) → (List UInt8) → Option ((List UInt8) × Int)) => (opt (at? a0 l16i25) fun (u23 : S_api_Blob) => (opt (f_lumref_BlobID fu u23) fun (r28 : (A8u8 × Int)) => (bif (r28.2 != (0 : Int)) then (some (([] : List UInt8), r28.2)) else (lt (fun (_ : Unit) => (req (((l16x4.length + ([r28.1]).length) * 8 : Nat) ≤ 140737488355328 ∧ l16x4.length + ([r28.1]).length ≤ 9223372036854775807) (opt (f_lumref_Press fu u23.Bytes) fun (r37 : ((List UInt8) × Int)) => (req (l16s5.length + r37.1.length ≤ 9223372036854775807) (req (0 ≤ (IntKind.u8.wrap u23.Kind) ∧ (IntKind.u8.wrap u23.Kind) ≤ 255) (req (([(UInt8.ofNat ((IntKind.u8.wrap u23.Kind)).toNat)]).length + (lA8u8 r28.1).length ≤ 9223372036854775807) (opt (f_lumref_Put fu (IntKind.u64.wrap (r37.1.length : Int))) fun (r44 : (List UInt8)) => (req ((([(UInt8.ofNat ((IntKind.u8.wrap u23.Kind)).toNat)]) ++ (lA8u8 r28.1)).length + r44.length ≤ 9223372036854775807) (req (l16s6.length + ((([(UInt8.ofNat ((IntKind.u8.wrap u23.Kind)).toNat)]) ++ (lA8u8 r28.1)) ++ r44).length ≤ 9223372036854775807) (kk22 (l16x4 ++ ([r28.1])) (l16s5 ++ r37.1) (l16s6 ++ ((([(UInt8.ofNat ((IntKind.u8.wrap u23.Kind)).toNat)]) ++ (lA8u8 r28.1)) ++ r44)))))))))))) fun (kk32 : Unit → Option ((List UInt8) × Int)) => (f_lumref_PackMake_L49 a0 l16x4 l16i25 r28 kk32 fu (0 : Int))))))) else (kk5 l16s5 l16s6)))
def f_lumref_PackMake (fu : Nat) (a0 : (List S_api_Blob)) : Option ((List UInt8) × Int) := (bif (decide ((a0.length : Int) > (40 : Int))) then (some (([] : List UInt8), (2 : Int))) else (opt (f_lumref_Put fu (IntKind.u64.wrap (a0.length : Int))) fun (r3 : (List UInt8)) => (lt (fun (j4s5 : (List UInt8)) (j4s6 : (List UInt8)) => (req (j4s5.length + j4s6.length ≤ 9223372036854775807) (req (0 ≤ (IntKind.u8.wrap (((j4s6.length : Int)).tmod (256 : Int))) ∧ (IntKind.u8.wrap (((j4s6.length : Int)).tmod (256 : Int))) ≤ 255) (req (0 ≤ (IntKind.u8.wrap (IntKind.i64.wrap (((j4s6.length : Int)).tdiv (256 : Int)))) ∧ (IntKind.u8.wrap (IntKind.i64.wrap (((j4s6.length : Int)).tdiv (256 : Int)))) ≤ 255) (req ((j4s5 ++ j4s6).length + ([(UInt8.ofNat ((IntKind.u8.wrap (((j4s6.length : Int)).tmod (256 : Int)))).toNat), (UInt8.ofNat ((IntKind.u8.wrap (IntKind.i64.wrap (((j4s6.length : Int)).tdiv (256 : Int))))).toNat)]).length ≤ 9223372036854775807) (opt (f_lumref_ID fu ((j4s5 ++ j4s6) ++ ([(UInt8.ofNat ((IntKind.u8.wrap (((j4s6.length : Int)).tmod (256 : Int)))).toNat), (UInt8.ofNat ((IntKind.u8.wrap (IntKind.i64.wrap (((j4s6.length : Int)).tdiv (256 : Int))))).toNat)]))) fun (r12 : A8u8) => (req (((j4s5 ++ j4s6) ++ ([(UInt8.ofNat ((IntKind.u8.wrap (((j4s6.length : Int)).tmod (256 : Int)))).toNat), (UInt8.ofNat ((IntKind.u8.wrap (IntKind.i64.wrap (((j4s6.length : Int)).tdiv (256 : Int))))).toNat)])).length + (lA8u8 r12).length ≤ 9223372036854775807) (some ((((j4s5 ++ j4s6) ++ ([(UInt8.ofNat ((IntKind.u8.wrap (((j4s6.length : Int)).tmod (256 : Int)))).toNat), (UInt8.ofNat ((IntKind.u8.wrap (IntKind.i64.wrap (((j4s6.length : Int)).tdiv (256 : Int))))).toNat)])) ++ (lA8u8 r12)), (0 : Int)))))))))) fun (kk5 : (List UInt8) → (List UInt8) → Option ((List UInt8) × Int)) => (f_lumref_PackMake_L18 a0 kk5 fu fu ([] : List A8u8) ([] : List UInt8) r3 (0 : Int)))))
set_option maxRecDepth 100000 in
set_option maxHeartbeats 2000000 in
set_option maxHeartbeats 2000000 in
theorem f_lumref_PackMake_ok (fu : Nat) (v0_0 : Value) (a0 : (List S_api_Blob)) {r : ((List UInt8) × Int)} (h : f_lumref_PackMake fu a0 = some r) : FnOk Tryd.prog 15 [v0_0] [(fDat (tyList tyS_api_Blob) [v0_0] a0)] [] (fun (i : Unit) => { val := (Value.tuple #[(str r.1), (int .i64 r.2)]) }) := by
 unfold f_lumref_PackMake at h
 refine fn_enter Tryd.func15 rfl Tryd.ntmps15 rfl (fun w0 Z0 => ?_)
 refine aw_sr ?_
 refine al_as rfl rfl ?_
 refine al_as rfl rfl ?_
 refine al_nt ?_
 refine aw_seq ?_
 refine aw_sr ?_
 refine al_mv rfl rfl ?_
 refine al_val (ov_lenD 0 rfl rfl Tryd.underlying26 rfl) ?_
 refine al_in rfl rfl rfl rfl ?_
 refine al_nt ?_
 refine aw_cond rfl (fun hb1 => ?_) (fun hb1 => ?_)
 ·replace h := bif_t hb1 h
  refine aw_sr ?_
  refine al_as rfl rfl ?_
  refine al_as rfl rfl ?_
  refine al_nt ?_
  refine aw_ret ?_
  refine aq_then_ret ?_
  obtain rfl := Option.some.inj h
  exact fn_ret () [] [] rfl rfl rfl rfl (res2 rfl rfl rfl) rfl rfl rfl (by decide)
 ·replace h := bif_f hb1 h
  refine aw_skip ?_
  refine aq_tr ?_
  refine al_as rfl rfl ?_
  refine al_nt ?_
  refine aw_sr ?_
  refine al_mv rfl rfl ?_
  refine al_val (ov_lenD 0 rfl rfl Tryd.underlying26 rfl) ?_
  refine al_val (ov_convInt (by rw [Tryd.underlying3]; rfl) Tryd.underlying76 rfl rfl) ?_
  obtain ⟨r3, hc2, h⟩ := opt_some h
  refine al_call (vs := [(uq (wu (a0.length : Int)))]) (f_lumref_Put_ok fu (wu (a0.length : Int)) hc2) [] [] [] pre_nil rfl (by simp) (by decide) (.inl rfl) rfl Tryd.func49 rfl rfl rfl (fun _ => ?_)
  refine al_as rfl rfl ?_
  refine al_as rfl rfl ?_
  refine al_nt ?_
  obtain ⟨kk5, hkk5, h⟩ := lt_some h
  refine aw_seq_join (ι := (List UInt8) × (List UInt8)) (fun i => (memOf w0 Z0 [] [] [(fDat (tyList tyS_api_Blob) [v0_0] a0)])) (fun i => (tab [(5, (str i.1)), (6, (str i.2))])) (fun i => kk5 i.1 i.2 = some r) ?_ ?_
  ·rintro ⟨j4s5, j4s6⟩ h
   have h : kk5 j4s5 j4s6 = some r := h
   rw [hkk5] at h
   dsimp only at h
   clear hkk5
   refine aw_show (m := (memOf w0 Z0 [] [] [(fDat (tyList tyS_api_Blob) [v0_0] a0)])) (S := (tab [(5, (str j4s5)), (6, (str j4s6))])) ?_
   refine aw_sr ?_
   refine al_mv rfl rfl ?_
   refine al_mv rfl rfl ?_
   obtain ⟨hc6, h⟩ := req_some h
   refine al_val (ov_strAdd hc6 rfl rfl rfl) ?_
   refine al_mv rfl rfl ?_
   refine al_val (ov_strLen Tryd.underlying9 rfl rfl) ?_
   refine al_val (ov_rem (by decide) rfl rfl rfl) ?_
   refine al_val (ov_convInt (by rw [Tryd.underlying3]; rfl) Tryd.underlying5 rfl rfl) ?_
   refine al_mv rfl rfl ?_
   refine al_val (ov_strLen Tryd.underlying9 rfl rfl) ?_
   refine al_val (ov_quo (by decide) rfl rfl rfl) ?_
   refine al_val (ov_convInt (by rw [Tryd.underlying3]; rfl) Tryd.underlying5 rfl rfl) ?_
   obtain ⟨hc8, h⟩ := req_some h
   obtain ⟨hc9, h⟩ := req_some h
   refine al_buildSlice (τ := tyU8) (e := 5) (k := 2) (sz := 0) (by_ := 0) (z := undef) (cs := [(i8 (w8 (((j4s6.length : Int)).tmod (256 : Int)))), (i8 (w8 (wq (((j4s6.length : Int)).tdiv (256 : Int)))))]) (xs := [(UInt8.ofNat ((w8 (((j4s6.length : Int)).tmod (256 : Int)))).toNat), (UInt8.ofNat ((w8 (wq (((j4s6.length : Int)).tdiv (256 : Int))))).toNat)]) rfl (by decide) (fun w a hm hs => ⟨([(i8 (w8 (((j4s6.length : Int)).tmod (256 : Int)))), (i8 (w8 (wq (((j4s6.length : Int)).tdiv (256 : Int)))))]).toArray, rfl, by simp only [List.map_toArray, List.map_cons, List.map_nil, hs.ev (x := .tmp 102) rfl, hs.ev (x := .tmp 106) rfl]; exact run_bs [(i8 (w8 (((j4s6.length : Int)).tmod (256 : Int)))), (i8 (w8 (wq (((j4s6.length : Int)).tdiv (256 : Int)))))] [(i8 (w8 (((j4s6.length : Int)).tmod (256 : Int)))), (i8 (w8 (wq (((j4s6.length : Int)).tdiv (256 : Int)))))] Tryd.underlying74 to5 rfl rfl (bs_cons (l := [(i8 (w8 (((j4s6.length : Int)).tmod (256 : Int))))]) (cs := [(i8 (w8 (wq (((j4s6.length : Int)).tdiv (256 : Int)))))]) (cv_rfl rfl) rfl (bs_cons (l := [(i8 (w8 (wq (((j4s6.length : Int)).tdiv (256 : Int)))))]) (cs := []) (cv_rfl rfl) rfl bs_nil)) hm⟩) (fun hm => ⟨_, _, rfl, (fun _ => u8_rep hc8) hm, ⟨_, _, rfl, (fun _ => u8_rep hc9) hm, rfl⟩⟩) rfl (fun v7 => ?_)
   refine al_val (ov_toStrR 0 rfl rfl Tryd.underlying74 Tryd.underlying5 Tryd.underlying9 rfl) ?_
   obtain ⟨hc10, h⟩ := req_some h
   refine al_val (ov_strAdd hc10 rfl rfl rfl) ?_
   refine al_as rfl rfl ?_
   refine al_nt ?_
   refine aw_sr ?_
   refine al_mv rfl rfl ?_
   obtain ⟨r12, hc11, h⟩ := opt_some h
   refine al_call (vs := [(str ((j4s5 ++ j4s6) ++ ([(UInt8.ofNat ((w8 (((j4s6.length : Int)).tmod (256 : Int)))).toNat), (UInt8.ofNat ((w8 (wq (((j4s6.length : Int)).tdiv (256 : Int))))).toNat)])))]) (f_lumref_ID_ok fu ((j4s5 ++ j4s6) ++ ([(UInt8.ofNat ((w8 (((j4s6.length : Int)).tmod (256 : Int)))).toNat), (UInt8.ofNat ((w8 (wq (((j4s6.length : Int)).tdiv (256 : Int))))).toNat)])) hc11) [] [] [0] pre_nil rfl (by simp) (by decide) (.inl rfl) rfl Tryd.func48 rfl rfl rfl (fun _ => ?_)
   refine al_alloc (zs := (cA8u8 (A8u8.mk (0 : UInt8) (0 : UInt8) (0 : UInt8) (0 : UInt8) (0 : UInt8) (0 : UInt8) (0 : UInt8) (0 : UInt8)))) (zeroOf_to to30) rfl rfl (fun g13 => ?_)
   refine al_store (i := 0) (vs := (cA8u8 r12)) (cs' := (cA8u8 r12)) rfl rfl rfl sz30 (cv_rfl rfl) rfl (co_all (oneA8u8 r12)) (Nat.le_of_ble_eq_true rfl) rfl rfl ?_
   refine al_nt ?_
   refine aw_seq ?_
   refine aw_freezeB 0 (r12) rfl rfl (fun _ _ => mkA8u8 rfl) ?_
   refine aw_region ?_
   refine al_mv rfl rfl ?_
   refine al_of (of_sliceP 0 lrepA8u8 rfl rfl rfl rfl Tryd.underlying30 sz5 rfl) (fun s14 => ?_)
   refine al_val (ov_toStr 0 rfl rfl Tryd.underlying74 Tryd.underlying5 Tryd.underlying9 rfl) ?_
   obtain ⟨hc15, h⟩ := req_some h
   refine al_val (ov_strAdd hc15 rfl rfl rfl) ?_
   refine al_as rfl rfl ?_
   refine al_as rfl rfl ?_
   refine al_nt ?_
   refine aw_ret ?_
   obtain rfl := Option.some.inj h
   exact fn_ret () [] [] rfl rfl rfl rfl (res2 rfl rfl rfl) rfl rfl rfl (by decide)
  ·clear hkk5
   refine aw_sr ?_
   refine al_mv rfl rfl ?_
   refine al_val (ov_lenD 0 rfl rfl Tryd.underlying26 rfl) ?_
   refine al_mv rfl rfl ?_
   refine al_nt ?_
   refine aw_block ?_
   refine aw_nilR 30 tyA8u8 ?_
   refine aw_state (aw_loop (ι := Value × (List A8u8) × (List UInt8) × (List UInt8) × Int) (fun i => (memOf w0 Z0 [] [(oRow i.1 30 tyA8u8 i.2.1)] [(fDat (tyList tyS_api_Blob) [v0_0] a0)])) (fun i => (tab [(0, v0_0), (4, i.1), (5, (str i.2.2.1)), (6, (str i.2.2.2.1)), (23, v0_0), (24, (iq (a0.length : Int))), (25, (iq i.2.2.2.2))])) (fun q i => f_lumref_PackMake_L18 a0 kk5 fu q i.2.1 i.2.2.1 i.2.2.2.1 i.2.2.2.2 = some r) ?_ fu (nS, ([] : List A8u8), ([] : List UInt8), r3, (0 : Int)) h) (fun w a hm hs => norm hm hs [0] [0] [(0, v0_0), (4, nS), (5, (str ([] : List UInt8))), (6, (str r3)), (23, v0_0), (24, (iq (a0.length : Int))), (25, (iq (0 : Int)))] (by decide) ⟨rfl, rfl, rfl, rfl, rfl, rfl, rfl, trivial⟩)
   clear h
   rintro k17 ⟨l16v4, l16x4, l16s5, l16s6, l16i25⟩ h
   have h : f_lumref_PackMake_L18 a0 kk5 fu k17 l16x4 l16s5 l16s6 l16i25 = some r := h
   obtain _ | k17 := k17
   · rw [f_lumref_PackMake_L18] at h; cases h
   rw [f_lumref_PackMake_L18] at h
   refine aw_show (m := (memOf w0 Z0 [] [(oRow l16v4 30 tyA8u8 l16x4)] [(fDat (tyList tyS_api_Blob) [v0_0] a0)])) (S := (tab [(0, v0_0), (4, l16v4), (5, (str l16s5)), (6, (str l16s6)), (23, v0_0), (24, (iq (a0.length : Int))), (25, (iq l16i25))])) ?_
   obtain ⟨kk19, hkk19, h⟩ := lt_some h
   refine aw_body_join (ι := Value × (List A8u8) × (List UInt8) × (List UInt8) × Int) (fun i => (memOf w0 Z0 [] [(oRow i.1 30 tyA8u8 i.2.1)] [(fDat (tyList tyS_api_Blob) [v0_0] a0)])) (fun i => (tab [(0, v0_0), (4, i.1), (5, (str i.2.2.1)), (6, (str i.2.2.2.1)), (23, v0_0), (24, (iq (a0.length : Int))), (25, (iq i.2.2.2.2))])) (fun i => kk19 i.2.1 i.2.2.1 i.2.2.2.1 i.2.2.2.2 = some r) (fun i h => aq_again k17 i (Nat.lt_succ_self _) (by rw [hkk19] at h; exact h) (fun w a hm hs => ⟨hm, hs⟩)) ?_
   clear hkk19
   refine aw_sr ?_
   refine al_in rfl rfl rfl rfl ?_
   refine al_nt ?_
   refine aw_seq ?_
   refine aw_cond rfl (fun hb20 => ?_) (fun hb20 => ?_)
   ·replace h := bif_t hb20 h
    refine aw_skip ?_
    refine aq_then ?_
    obtain ⟨kk22, hkk22, h⟩ := lt_some h
    refine aw_seq_join (ι := Value × (List A8u8) × (List UInt8) × (List UInt8)) (fun i => (memOf w0 Z0 [] [(oRow i.1 30 tyA8u8 i.2.1)] [(fDat (tyList tyS_api_Blob) [v0_0] a0)])) (fun i => (tab [(0, v0_0), (4, i.1), (5, (str i.2.2.1)), (6, (str i.2.2.2)), (23, v0_0), (24, (iq (a0.length : Int))), (25, (iq l16i25))])) (fun i => kk22 i.2.1 i.2.2.1 i.2.2.2 = some r) ?_ ?_
    ·rintro ⟨j21v4, j21x4, j21s5, j21s6⟩ h
     have h : kk22 j21x4 j21s5 j21s6 = some r := h
     rw [hkk22] at h
     dsimp only at h
     clear hkk22
     refine aw_show (m := (memOf w0 Z0 [] [(oRow j21v4 30 tyA8u8 j21x4)] [(fDat (tyList tyS_api_Blob) [v0_0] a0)])) (S := (tab [(0, v0_0), (4, j21v4), (5, (str j21s5)), (6, (str j21s6)), (23, v0_0), (24, (iq (a0.length : Int))), (25, (iq l16i25))])) ?_
     refine aw_region ?_
     refine al_in rfl rfl rfl rfl ?_
     refine al_mv rfl rfl ?_
     refine al_nil ?_
     exact aq_join (j21v4, j21x4, j21s5, j21s6, (wq (l16i25 + (1 : Int)))) h (fun w a hm hs => norm hm hs [0] [0] [(0, v0_0), (4, j21v4), (5, (str j21s5)), (6, (str j21s6)), (23, v0_0), (24, (iq (a0.length : Int))), (25, (iq (wq (l16i25 + (1 : Int)))))] (by decide) ⟨rfl, rfl, rfl, rfl, rfl, rfl, rfl, trivial⟩)
    ·clear hkk22
     refine aw_block ?_
     refine aw_sr ?_
     refine al_mv rfl rfl ?_
     obtain ⟨u23, hu24, h⟩ := opt_some h
     refine al_idxD 0 hu24 rfl rfl rfl Tryd.underlying26 sz28 rfl (fun p25 => ?_)
     refine al_val (ov_loadP (ds := [(iq u23.Kind), (str u23.Bytes)]) 0 rfl encS_api_Blob rfl Tryd.underlying28 sz28 rfl rfl rfl) ?_
     refine al_alloc (zs := [(iq (0 : Int)), (str ([] : List UInt8))]) (zeroOf_to to28) rfl rfl (fun g26 => ?_)
     refine al_as rfl rfl ?_
     refine al_store (i := 0) (vs := [(iq u23.Kind), (str u23.Bytes)]) (cs' := [(iq u23.Kind), (str u23.Bytes)]) rfl rfl rfl sz28 (cv_rfl rfl) rfl (co_val rfl (co_val rfl co_nil)) (Nat.le_of_ble_eq_true rfl) rfl rfl ?_
     refine al_nt ?_
     refine aw_sr ?_
     refine al_val (ov_load (i := 0) (v := (ag [(iq u23.Kind), (str u23.Bytes)])) rfl rfl Tryd.underlying28 sz28 rfl rfl rfl rfl) ?_
     obtain ⟨r28, hc27, h⟩ := opt_some h
     refine al_call (vs := [(ag [(iq u23.Kind), (str u23.Bytes)])]) (f_lumref_BlobID_ok fu u23 hc27) [] [] [0, 1] pre_nil rfl (by simp) (by decide) (.inl rfl) rfl Tryd.func13 rfl rfl rfl (fun _ => ?_)
     refine al_mv rfl rfl ?_
     refine al_ex rfl rfl rfl ?_
     refine al_ex rfl rfl rfl ?_
     refine al_alloc (zs := (cA8u8 (A8u8.mk (0 : UInt8) (0 : UInt8) (0 : UInt8) (0 : UInt8) (0 : UInt8) (0 : UInt8) (0 : UInt8) (0 : UInt8)))) (zeroOf_to to30) rfl rfl (fun g29 => ?_)
     refine al_store (i := 0) (vs := (cA8u8 r28.1)) (cs' := (cA8u8 r28.1)) rfl rfl rfl sz30 (cv_rfl rfl) rfl (co_all (oneA8u8 r28.1)) (Nat.le_of_ble_eq_true rfl) rfl rfl ?_
     refine al_as rfl rfl ?_
     refine al_nt ?_
     refine aw_seq ?_
     refine aw_sr ?_
     refine al_mv rfl rfl ?_
     refine al_in rfl rfl rfl rfl ?_
     refine al_nt ?_
     refine aw_cond rfl (fun hb30 => ?_) (fun hb30 => ?_)
     ·replace h := bif_t hb30 h
      refine aw_sr ?_
      refine al_mv rfl rfl ?_
      refine al_as rfl rfl ?_
      refine al_as rfl rfl ?_
      refine al_nt ?_
      refine aw_ret ?_
      refine aq_then_ret ?_
      refine aq_block_ret ?_
      refine aq_then_ret ?_
      refine aq_then_ret ?_
      refine aq_block_ret ?_
      refine aq_then_ret ?_
      obtain rfl := Option.some.inj h
      exact fn_ret () [] [] rfl rfl rfl rfl (res2 rfl rfl rfl) rfl rfl rfl (by decide)
     ·replace h := bif_f hb30 h
      refine aw_skip ?_
      refine aq_then ?_
      obtain ⟨kk32, hkk32, h⟩ := lt_some h
      refine aw_seq_join (ι := Unit) (fun i => (memOf w0 Z0 [] [(oRow l16v4 30 tyA8u8 l16x4), (oBox g26 28 [(iq u23.Kind), (str u23.Bytes)]), (oBox g29 30 (cA8u8 r28.1))] [(fDat (tyList tyS_api_Blob) [v0_0] a0), (fPtr tyS_api_Blob p25 u23)])) (fun i => (tab [(0, v0_0), (4, l16v4), (5, (str l16s5)), (6, (str l16s6)), (8, (pq g26)), (9, (pq g29)), (23, v0_0), (24, (iq (a0.length : Int))), (25, (iq l16i25))])) (fun i => kk32 () = some r) ?_ ?_
      ·rintro _ h
       have h : kk32 () = some r := h
       rw [hkk32] at h
       dsimp only at h
       clear hkk32
       refine aw_show (m := (memOf w0 Z0 [] [(oRow l16v4 30 tyA8u8 l16x4), (oBox g26 28 [(iq u23.Kind), (str u23.Bytes)]), (oBox g29 30 (cA8u8 r28.1))] [(fDat (tyList tyS_api_Blob) [v0_0] a0), (fPtr tyS_api_Blob p25 u23)])) (S := (tab [(0, v0_0), (4, l16v4), (5, (str l16s5)), (6, (str l16s6)), (8, (pq g26)), (9, (pq g29)), (23, v0_0), (24, (iq (a0.length : Int))), (25, (iq l16i25))])) ?_
       refine aw_sr ?_
       refine al_mv rfl rfl ?_
       refine al_val (ov_load (i := 2) (v := (ag (cA8u8 r28.1))) rfl rfl Tryd.underlying30 sz30 rfl rfl rfl rfl) ?_
       refine al_buildSlice (τ := tyA8u8) (e := 30) (k := 1) (sz := 0) (by_ := 0) (z := undef) (cs := (cA8u8 r28.1)) (xs := [r28.1]) rfl (by decide) (fun w a hm hs => ⟨((cA8u8 r28.1)).toArray, rfl, by simp only [List.map_toArray, List.map_cons, List.map_nil, hs.ev (x := .tmp 68) rfl]; exact run_bs [(ag (cA8u8 r28.1))] (cA8u8 r28.1) Tryd.underlying87 to30 rfl rfl (bs_cons (l := (cA8u8 r28.1)) (cs := []) (cv_rfl rfl) rfl bs_nil) hm⟩) (fun hm => ⟨(cA8u8 r28.1), [], rfl, mkA8u8 rfl, rfl⟩) rfl (fun v33 => ?_)
       obtain ⟨hc34, h⟩ := req_some h
       refine al_append 1 hc34.1 hc34.2 rfl (src_own (i := 1) 0 rfl) rfl rfl Tryd.underlying87 to30 rfl rfl rfl (fun v35 => ?_)
       refine al_as rfl rfl ?_
       refine al_nt ?_
       refine aw_sr ?_
       refine al_val (ov_fieldA (p := 1) rfl Tryd.underlying28 rfl sz9 rfl rfl rfl) ?_
       refine al_val (ov_load (i := 2) (v := (str u23.Bytes)) rfl rfl Tryd.underlying9 sz9 rfl rfl rfl rfl) ?_
       obtain ⟨r37, hc36, h⟩ := opt_some h
       refine al_call (vs := [(str u23.Bytes)]) (f_lumref_Press_ok fu u23.Bytes hc36) [] [] [0, 1, 2, 3] pre_nil rfl (by simp) (by decide) (.inl rfl) rfl Tryd.func11 rfl rfl rfl (fun _ => ?_)
       refine al_mv rfl rfl ?_
       refine al_ex rfl rfl rfl ?_
       refine al_ex rfl rfl rfl ?_
       refine al_as rfl rfl ?_
       refine al_as rfl rfl ?_
       refine al_nt ?_
       refine aw_sr ?_
       refine al_mv rfl rfl ?_
       refine al_mv rfl rfl ?_
       obtain ⟨hc38, h⟩ := req_some h
       refine al_val (ov_strAdd hc38 rfl rfl rfl) ?_
       refine al_as rfl rfl ?_
       refine al_nt ?_
       refine aw_freezeB 3 (r28.1) rfl rfl (fun _ _ => mkA8u8 rfl) ?_
       obtain ⟨hc40, h⟩ := req_some h
       obtain ⟨hc42, h⟩ := req_some h
       obtain ⟨r44, hc43, h⟩ := opt_some h
       obtain ⟨hc45, h⟩ := req_some h
       obtain ⟨hc46, h⟩ := req_some h
       refine aw_region_draw 15 [(80, (fun u => fEq u (str l16s6))), (81, (fun u => fEq u (pq g26))), (82, (fun u => fEq u (iq u23.Kind))), (83, (fun u => fEq u (i8 (w8 u23.Kind)))), (84, (fun v39 => (fDat (tyList tyU8) [v39] [(UInt8.ofNat ((w8 u23.Kind)).toNat)]))), (85, (fun u => fEq u (str [(UInt8.ofNat ((w8 u23.Kind)).toNat)]))), (86, (fun s41 => (fDat (tyList tyU8) [s41] (lA8u8 r28.1)))), (87, (fun u => fEq u (str (lA8u8 r28.1)))), (88, (fun u => fEq u (str (([(UInt8.ofNat ((w8 u23.Kind)).toNat)]) ++ (lA8u8 r28.1))))), (89, (fun u => fEq u (str r37.1))), (90, (fun u => fEq u (iq (r37.1.length : Int)))), (91, (fun u => fEq u (uq (wu (r37.1.length : Int))))), (92, (fun u => fEq u (str r44))), (93, (fun u => fEq u (str ((([(UInt8.ofNat ((w8 u23.Kind)).toNat)]) ++ (lA8u8 r28.1)) ++ r44)))), (94, (fun u => fEq u (str (l16s6 ++ ((([(UInt8.ofNat ((w8 u23.Kind)).toNat)]) ++ (lA8u8 r28.1)) ++ r44)))))] (tab [(0, v0_0), (4, v35), (5, (str (l16s5 ++ r37.1))), (6, (str l16s6)), (8, (pq g26)), (9, (pq g29)), (12, (str r37.1)), (23, v0_0), (24, (iq (a0.length : Int))), (25, (iq l16i25))]) mixed (by kernel_rfl) rfl rfl rfl (fun a hs => hs.tab _ (allT_mem ⟨rfl, rfl, rfl, rfl, rfl, rfl, rfl, rfl, rfl, rfl, trivial⟩)) ⟨⟨rfl, ld_val (ov_move rfl rfl)⟩, ⟨rfl, ld_val (ov_fieldA (p := 0) rfl Tryd.underlying28 rfl sz3 rfl rfl rfl)⟩, ⟨rfl, ld_eq (j := 1) rfl rfl (ld_val (ov_load (i := 2) (v := (iq u23.Kind)) rfl rfl Tryd.underlying3 sz3 rfl rfl rfl rfl))⟩, ⟨rfl, ld_eq (j := 2) rfl rfl (ld_val (ov_convInt (by rw [Tryd.underlying3]; rfl) Tryd.underlying5 rfl rfl))⟩, ⟨rfl, ld_eq (j := 3) rfl rfl (ld_buildSlice (τ := tyU8) (e := 5) (k := 1) (cs := [(i8 (w8 u23.Kind))]) (xs := [(UInt8.ofNat ((w8 u23.Kind)).toNat)]) rfl (by decide) rfl (fun w a hm hs => ⟨([(i8 (w8 u23.Kind))]).toArray, rfl, by simp only [List.map_toArray, List.map_cons, List.map_nil, hs.ev (x := .tmp 83) rfl]; exact run_bs [(i8 (w8 u23.Kind))] [(i8 (w8 u23.Kind))] Tryd.underlying74 to5 rfl rfl (bs_cons (l := [(i8 (w8 u23.Kind))]) (cs := []) (cv_rfl rfl) rfl bs_nil) hm⟩) (fun hm => ⟨_, _, rfl, (fun _ => u8_rep hc40) hm, rfl⟩) rfl)⟩, ⟨rfl, ld_fact (j := 4) rfl rfl (fun v39 => ld_val (ov_toStr 0 rfl rfl Tryd.underlying74 Tryd.underlying5 Tryd.underlying9 rfl))⟩, ⟨rfl, ld_of (of_sliceP 0 lrepA8u8 rfl rfl rfl rfl Tryd.underlying30 sz5 rfl)⟩, ⟨rfl, ld_fact (j := 6) rfl rfl (fun s41 => ld_val (ov_toStr 0 rfl rfl Tryd.underlying74 Tryd.underlying5 Tryd.underlying9 rfl))⟩, ⟨rfl, ld_eq (j := 5) rfl rfl (ld_eq (j := 7) rfl rfl (ld_val (ov_strAdd hc42 rfl rfl rfl)))⟩, ⟨rfl, ld_val (ov_move rfl rfl)⟩, ⟨rfl, ld_eq (j := 9) rfl rfl (ld_val (ov_strLen Tryd.underlying9 rfl rfl))⟩, ⟨rfl, ld_eq (j := 10) rfl rfl (ld_val (ov_convInt (by rw [Tryd.underlying3]; rfl) Tryd.underlying76 rfl rfl))⟩, ⟨rfl, ld_eq (j := 11) rfl rfl (ld_callV (vs := [(uq (wu (r37.1.length : Int)))]) (f_lumref_Put_ok fu (wu (r37.1.length : Int)) hc43) [] pre_nil rfl Tryd.func49 rfl rfl rfl)⟩, ⟨rfl, ld_eq (j := 8) rfl rfl (ld_eq (j := 12) rfl rfl (ld_val (ov_strAdd hc45 rfl rfl rfl)))⟩, ⟨rfl, ld_eq (j := 0) rfl rfl (ld_eq (j := 13) rfl rfl (ld_val (ov_strAdd hc46 rfl rfl rfl)))⟩, trivial⟩ ?_
       refine tl_eq 14 rfl ?_
       refine tl_done ?_
       refine al_as rfl rfl ?_
       refine al_nil ?_
       refine aq_block ?_
       exact aq_join (v35, (l16x4 ++ ([r28.1])), (l16s5 ++ r37.1), (l16s6 ++ ((([(UInt8.ofNat ((w8 u23.Kind)).toNat)]) ++ (lA8u8 r28.1)) ++ r44))) h (fun w a hm hs => norm hm hs [1] [1] [(0, v0_0), (4, v35), (5, (str (l16s5 ++ r37.1))), (6, (str (l16s6 ++ ((([(UInt8.ofNat ((w8 u23.Kind)).toNat)]) ++ (lA8u8 r28.1)) ++ r44)))), (23, v0_0), (24, (iq (a0.length : Int))), (25, (iq l16i25))] (by decide) ⟨rfl, rfl, rfl, rfl, rfl, rfl, rfl, trivial⟩)
      ·clear hkk32
       refine aw_sr ?_
       refine al_mv rfl rfl ?_
       refine al_val (ov_lenR 2 rfl rfl Tryd.underlying87 rfl) ?_
       refine al_mv rfl rfl ?_
       refine al_nt ?_
       refine aw_block ?_
       refine aw_state (aw_loop (ι := Int) (fun i => (memOf w0 Z0 [] [(oRow l16v4 30 tyA8u8 l16x4), (oBox g26 28 [(iq u23.Kind), (str u23.Bytes)]), (oBox g29 30 (cA8u8 r28.1))] [(fDat (tyList tyS_api_Blob) [v0_0] a0), (fPtr tyS_api_Blob p25 u23)])) (fun i => (tab [(0, v0_0), (4, l16v4), (5, (str l16s5)), (6, (str l16s6)), (7, (iq l16i25)), (8, (pq g26)), (9, (pq g29)), (23, v0_0), (24, (iq (a0.length : Int))), (25, (iq l16i25)), (39, (iq (l16x4.length : Int))), (40, (iq i))])) (fun q i => f_lumref_PackMake_L49 a0 l16x4 l16i25 r28 kk32 q i = some r) ?_ fu (0 : Int) h) (fun w a hm hs => norm hm hs [2, 1, 0] [1, 0] [(0, v0_0), (4, l16v4), (5, (str l16s5)), (6, (str l16s6)), (7, (iq l16i25)), (8, (pq g26)), (9, (pq g29)), (23, v0_0), (24, (iq (a0.length : Int))), (25, (iq l16i25)), (39, (iq (l16x4.length : Int))), (40, (iq (0 : Int)))] (by decide) ⟨rfl, rfl, rfl, rfl, rfl, rfl, rfl, rfl, rfl, rfl, rfl, rfl, trivial⟩)
       clear h
       rintro k48 l47i40 h
       have h : f_lumref_PackMake_L49 a0 l16x4 l16i25 r28 kk32 k48 l47i40 = some r := h
       obtain _ | k48 := k48
       · rw [f_lumref_PackMake_L49] at h; cases h
       rw [f_lumref_PackMake_L49] at h
       refine aw_show (m := (memOf w0 Z0 [] [(oRow l16v4 30 tyA8u8 l16x4), (oBox g26 28 [(iq u23.Kind), (str u23.Bytes)]), (oBox g29 30 (cA8u8 r28.1))] [(fDat (tyList tyS_api_Blob) [v0_0] a0), (fPtr tyS_api_Blob p25 u23)])) (S := (tab [(0, v0_0), (4, l16v4), (5, (str l16s5)), (6, (str l16s6)), (7, (iq l16i25)), (8, (pq g26)), (9, (pq g29)), (23, v0_0), (24, (iq (a0.length : Int))), (25, (iq l16i25)), (39, (iq (l16x4.length : Int))), (40, (iq l47i40))])) ?_
       refine aw_sr ?_
       refine al_in rfl rfl rfl rfl ?_
       refine al_nt ?_
       refine aw_seq ?_
       refine aw_cond rfl (fun hb50 => ?_) (fun hb50 => ?_)
       ·replace h := bif_t hb50 h
        refine aw_skip ?_
        refine aq_then ?_
        refine aw_seq ?_
        refine aw_block ?_
        refine aw_sr ?_
        refine al_mv rfl rfl ?_
        refine al_as rfl rfl ?_
        refine al_nt ?_
        refine aw_seq ?_
        obtain ⟨kk52, hkk52, h⟩ := lt_some h
        refine aw_seq_join (ι := Bool) (fun i => (memOf w0 Z0 [] [(oRow l16v4 30 tyA8u8 l16x4), (oBox g26 28 [(iq u23.Kind), (str u23.Bytes)]), (oBox g29 30 (cA8u8 r28.1))] [(fDat (tyList tyS_api_Blob) [v0_0] a0), (fPtr tyS_api_Blob p25 u23)])) (fun i => (tab [(0, v0_0), (4, l16v4), (5, (str l16s5)), (6, (str l16s6)), (7, (iq l16i25)), (8, (pq g26)), (9, (pq g29)), (11, (iq l47i40)), (23, v0_0), (24, (iq (a0.length : Int))), (25, (iq l16i25)), (39, (iq (l16x4.length : Int))), (40, (iq l47i40)), (59, (bool i))])) (fun i => kk52 i = some r) ?_ ?_
        ·rintro j51b59 h
         have h : kk52 j51b59 = some r := h
         rw [hkk52] at h
         dsimp only at h
         clear hkk52
         refine aw_show (m := (memOf w0 Z0 [] [(oRow l16v4 30 tyA8u8 l16x4), (oBox g26 28 [(iq u23.Kind), (str u23.Bytes)]), (oBox g29 30 (cA8u8 r28.1))] [(fDat (tyList tyS_api_Blob) [v0_0] a0), (fPtr tyS_api_Blob p25 u23)])) (S := (tab [(0, v0_0), (4, l16v4), (5, (str l16s5)), (6, (str l16s6)), (7, (iq l16i25)), (8, (pq g26)), (9, (pq g29)), (11, (iq l47i40)), (23, v0_0), (24, (iq (a0.length : Int))), (25, (iq l16i25)), (39, (iq (l16x4.length : Int))), (40, (iq l47i40)), (59, (bool j51b59))])) ?_
         refine aw_cond rfl (fun hb53 => ?_) (fun hb53 => ?_)
         ·replace h := bif_t hb53 h
          refine aw_sr ?_
          refine al_as rfl rfl ?_
          refine al_as rfl rfl ?_
          refine al_nt ?_
          refine aw_ret ?_
          refine aq_then_ret ?_
          refine aq_block_ret ?_
          refine aq_then_ret ?_
          refine aq_then_ret ?_
          refine aq_block_ret ?_
          refine aq_then_ret ?_
          refine aq_block_ret ?_
          refine aq_then_ret ?_
          refine aq_then_ret ?_
          refine aq_block_ret ?_
          refine aq_then_ret ?_
          obtain rfl := Option.some.inj h
          exact fn_ret () [] [] rfl rfl rfl rfl (res2 rfl rfl rfl) rfl rfl rfl (by decide)
         ·replace h := bif_f hb53 h
          refine aw_skip ?_
          refine aq_then ?_
          refine aw_seq ?_
          obtain ⟨u54, hu55, h⟩ := opt_some h
          refine aw_region_draw 5 [(60, (fun u => fEq u l16v4)), (61, (fun u => fEq u (iq l47i40))), (62, (fun p => fElt l16v4 p ((l47i40).toNat * Ty.size tyA8u8))), (63, (fun u => fEq u (ag (cA8u8 u54)))), (64, (fun u => fEq u (ag (cA8u8 r28.1))))] (tab [(0, v0_0), (4, l16v4), (5, (str l16s5)), (6, (str l16s6)), (7, (iq l16i25)), (8, (pq g26)), (9, (pq g29)), (11, (iq l47i40)), (23, v0_0), (24, (iq (a0.length : Int))), (25, (iq l16i25)), (39, (iq (l16x4.length : Int))), (40, (iq l47i40))]) mixed (by kernel_rfl) rfl rfl rfl (fun a hs => hs.tab _ (allT_mem ⟨rfl, rfl, rfl, rfl, rfl, rfl, rfl, rfl, rfl, rfl, rfl, rfl, rfl, trivial⟩)) ⟨⟨rfl, ld_val (ov_move rfl rfl)⟩, ⟨rfl, ld_val (ov_move rfl rfl)⟩, ⟨rfl, ld_eq (j := 0) rfl rfl (ld_eq (j := 1) rfl rfl (ld_of (of_idxR 0 (at_some hu55).1 (at_some hu55).2.1 rfl rfl rfl Tryd.underlying87 sz30 rfl)))⟩, ⟨rfl, ld_elt (j := 2) rfl rfl (fun p56 hp57 => ld_val (ov_loadR (ds := (cA8u8 u54)) 0 rfl hp57 (at_some hu55).2.2 encA8u8 rfl Tryd.underlying30 sz30 rfl rfl rfl))⟩, ⟨rfl, ld_val (ov_load (i := 2) (v := (ag (cA8u8 r28.1))) rfl rfl Tryd.underlying30 sz30 rfl rfl rfl rfl)⟩, trivial⟩ ?_
          refine tl_eq 3 rfl ?_
          refine tl_eq 4 rfl ?_
          refine tl_done ?_
          refine al_val (ov_eqlA (cs := (cA8u8 u54)) (ds := (cA8u8 r28.1)) (ls := [5, 5, 5, 5, 5, 5, 5, 5]) (p := (u54 == r28.1)) eg30 kt30 lv30 rfl rfl (by kernel_rfl) (by kernel_rfl) (fit_cons (fit_u8 Tryd.underlying5) (fit_cons (fit_u8 Tryd.underlying5) (fit_cons (fit_u8 Tryd.underlying5) (fit_cons (fit_u8 Tryd.underlying5) (fit_cons (fit_u8 Tryd.underlying5) (fit_cons (fit_u8 Tryd.underlying5) (fit_cons (fit_u8 Tryd.underlying5) (fit_cons (fit_u8 Tryd.underlying5) fit_nil)))))))) (fit_cons (fit_u8 Tryd.underlying5) (fit_cons (fit_u8 Tryd.underlying5) (fit_cons (fit_u8 Tryd.underlying5) (fit_cons (fit_u8 Tryd.underlying5) (fit_cons (fit_u8 Tryd.underlying5) (fit_cons (fit_u8 Tryd.underlying5) (fit_cons (fit_u8 Tryd.underlying5) (fit_cons (fit_u8 Tryd.underlying5) fit_nil)))))))) (injA8u8 (x := u54) (y := r28.1)) rfl) ?_
          refine al_nt ?_
          refine aw_cond rfl (fun hb58 => ?_) (fun hb58 => ?_)
          ·replace h := bif_t hb58 h
           refine aw_sr ?_
           refine al_as rfl rfl ?_
           refine al_as rfl rfl ?_
           refine al_nt ?_
           refine aw_ret ?_
           refine aq_block_ret ?_
           refine aq_then_ret ?_
           refine aq_then_ret ?_
           refine aq_block_ret ?_
           refine aq_then_ret ?_
           refine aq_block_ret ?_
           refine aq_then_ret ?_
           refine aq_then_ret ?_
           refine aq_block_ret ?_
           refine aq_then_ret ?_
           obtain rfl := Option.some.inj h
           exact fn_ret () [] [] rfl rfl rfl rfl (res2 rfl rfl rfl) rfl rfl rfl (by decide)
          ·replace h := bif_f hb58 h
           refine aw_skip ?_
           refine aq_block ?_
           refine aq_then ?_
           refine aw_region ?_
           refine al_in rfl rfl rfl rfl ?_
           refine al_mv rfl rfl ?_
           refine al_nil ?_
           exact aq_again k48 (wq (l47i40 + (1 : Int))) (Nat.lt_succ_self _) h (fun w a hm hs => norm hm hs [0, 1, 2] [0, 1] [(0, v0_0), (4, l16v4), (5, (str l16s5)), (6, (str l16s6)), (7, (iq l16i25)), (8, (pq g26)), (9, (pq g29)), (23, v0_0), (24, (iq (a0.length : Int))), (25, (iq l16i25)), (39, (iq (l16x4.length : Int))), (40, (iq (wq (l47i40 + (1 : Int)))))] (by decide) ⟨rfl, rfl, rfl, rfl, rfl, rfl, rfl, rfl, rfl, rfl, rfl, rfl, trivial⟩)
        ·clear hkk52
         obtain ⟨u59, hu60, h⟩ := opt_some h
         rcases Bool.eq_false_or_eq_true (u59 == r28.1) with hb63 | hb63
         ·replace h := bif_t hb63 h
          obtain ⟨u64, hu65, h⟩ := opt_some h
          obtain ⟨u67, hu68, h⟩ := opt_some h
          obtain ⟨hc70, h⟩ := req_some h
          obtain ⟨hc71, h⟩ := req_some h
          obtain ⟨hc72, h⟩ := req_some h
          obtain ⟨hc73, h⟩ := req_some h
          refine aw_region_draw 16 [(43, (fun u => fEq u l16v4)), (44, (fun u => fEq u (iq l47i40))), (45, (fun p => fElt l16v4 p ((l47i40).toNat * Ty.size tyA8u8))), (46, (fun u => fEq u (ag (cA8u8 u59)))), (47, (fun u => fEq u (ag (cA8u8 r28.1)))), (48, (fun u => fEq u (bool true))), (49, (fun u => fEq u (bool true))), (50, (fun u => fEq u v0_0)), (51, (fun u => fEq u (iq l47i40))), (52, (fun p66 => (fPtr tyS_api_Blob p66 u64))), (53, (fun u => fEq u (ag [(iq u64.Kind), (str u64.Bytes)]))), (54, (fun u => fEq u v0_0)), (55, (fun u => fEq u (iq l16i25))), (56, (fun p69 => (fPtr tyS_api_Blob p69 u67))), (57, (fun u => fEq u (ag [(iq u67.Kind), (str u67.Bytes)]))), (58, (fun u => fEq u (bool (u64 == u67))))] (tab [(0, v0_0), (4, l16v4), (5, (str l16s5)), (6, (str l16s6)), (7, (iq l16i25)), (8, (pq g26)), (9, (pq g29)), (11, (iq l47i40)), (23, v0_0), (24, (iq (a0.length : Int))), (25, (iq l16i25)), (39, (iq (l16x4.length : Int))), (40, (iq l47i40))]) mixed (by kernel_rfl) rfl rfl rfl (fun a hs => hs.tab _ (allT_mem ⟨rfl, rfl, rfl, rfl, rfl, rfl, rfl, rfl, rfl, rfl, rfl, rfl, rfl, trivial⟩)) ⟨⟨rfl, ld_val (ov_move rfl rfl)⟩, ⟨rfl, ld_val (ov_move rfl rfl)⟩, ⟨rfl, ld_eq (j := 0) rfl rfl (ld_eq (j := 1) rfl rfl (ld_of (of_idxR 0 (at_some hu60).1 (at_some hu60).2.1 rfl rfl rfl Tryd.underlying87 sz30 rfl)))⟩, ⟨rfl, ld_elt (j := 2) rfl rfl (fun p61 hp62 => ld_val (ov_loadR (ds := (cA8u8 u59)) 0 rfl hp62 (at_some hu60).2.2 encA8u8 rfl Tryd.underlying30 sz30 rfl rfl rfl))⟩, ⟨rfl, ld_val (ov_load (i := 2) (v := (ag (cA8u8 r28.1))) rfl rfl Tryd.underlying30 sz30 rfl rfl rfl rfl)⟩, ⟨rfl, ld_eq (j := 3) rfl rfl (ld_eq (j := 4) rfl rfl (ld_val (ov_cast (by first | rw [hb63] | rfl) (ov_eqlA (cs := (cA8u8 u59)) (ds := (cA8u8 r28.1)) (ls := [5, 5, 5, 5, 5, 5, 5, 5]) (p := (u59 == r28.1)) eg30 kt30 lv30 rfl rfl (by kernel_rfl) (by kernel_rfl) (fit_cons (fit_u8 Tryd.underlying5) (fit_cons (fit_u8 Tryd.underlying5) (fit_cons (fit_u8 Tryd.underlying5) (fit_cons (fit_u8 Tryd.underlying5) (fit_cons (fit_u8 Tryd.underlying5) (fit_cons (fit_u8 Tryd.underlying5) (fit_cons (fit_u8 Tryd.underlying5) (fit_cons (fit_u8 Tryd.underlying5) fit_nil)))))))) (fit_cons (fit_u8 Tryd.underlying5) (fit_cons (fit_u8 Tryd.underlying5) (fit_cons (fit_u8 Tryd.underlying5) (fit_cons (fit_u8 Tryd.underlying5) (fit_cons (fit_u8 Tryd.underlying5) (fit_cons (fit_u8 Tryd.underlying5) (fit_cons (fit_u8 Tryd.underlying5) (fit_cons (fit_u8 Tryd.underlying5) fit_nil)))))))) (injA8u8 (x := u59) (y := r28.1)) rfl))))⟩, ⟨rfl, ld_eq (j := 5) rfl rfl (ld_val (ov_cast (by first | rw [hb63] | rfl) (ov_move rfl rfl)))⟩, ⟨rfl, ld_eq (j := 6) rfl rfl (ld_val (ov_move rfl rfl))⟩, ⟨rfl, ld_eq (j := 6) rfl rfl (ld_val (ov_move rfl rfl))⟩, ⟨rfl, ld_eq (j := 6) rfl rfl (ld_eq (j := 7) rfl rfl (ld_eq (j := 8) rfl rfl (ld_of (of_idxD 0 hu65 rfl rfl rfl Tryd.underlying26 sz28 rfl))))⟩, ⟨rfl, ld_eq (j := 6) rfl rfl (ld_fact (j := 9) rfl rfl (fun p66 => ld_val (ov_loadP (ds := [(iq u64.Kind), (str u64.Bytes)]) 0 rfl encS_api_Blob rfl Tryd.underlying28 sz28 rfl rfl rfl)))⟩, ⟨rfl, ld_eq (j := 6) rfl rfl (ld_val (ov_move rfl rfl))⟩, ⟨rfl, ld_eq (j := 6) rfl rfl (ld_val (ov_move rfl rfl))⟩, ⟨rfl, ld_eq (j := 6) rfl rfl (ld_eq (j := 11) rfl rfl (ld_eq (j := 12) rfl rfl (ld_of (of_idxD 0 hu68 rfl rfl rfl Tryd.underlying26 sz28 rfl))))⟩, ⟨rfl, ld_eq (j := 6) rfl rfl (ld_fact (j := 13) rfl rfl (fun p69 => ld_val (ov_loadP (ds := [(iq u67.Kind), (str u67.Bytes)]) 0 rfl encS_api_Blob rfl Tryd.underlying28 sz28 rfl rfl rfl)))⟩, ⟨rfl, ld_eq (j := 6) rfl rfl (ld_eq (j := 10) rfl rfl (ld_eq (j := 14) rfl rfl (ld_val (ov_eqlA (cs := [(iq u64.Kind), (str u64.Bytes)]) (ds := [(iq u67.Kind), (str u67.Bytes)]) (ls := [3, 9]) (p := (u64 == u67)) eg28 kt28 lv28 rfl rfl (by kernel_rfl) (by kernel_rfl) (fit_cons (fit_int Tryd.underlying3 hc70) (fit_cons (fit_str Tryd.underlying9 hc71) fit_nil)) (fit_cons (fit_int Tryd.underlying3 hc72) (fit_cons (fit_str Tryd.underlying9 hc73) fit_nil)) (injS_api_Blob (x := u64) (y := u67)) rfl))))⟩, trivial⟩ ?_
          refine tl_eq 6 rfl ?_
          refine tl_eq 15 rfl ?_
          refine tl_done ?_
          refine al_val (ov_pick_t rfl rfl rfl) ?_
          refine al_nil ?_
          exact aq_join (u64 == u67) h (fun w a hm hs => norm hm hs [0, 1, 2] [0, 1] [(0, v0_0), (4, l16v4), (5, (str l16s5)), (6, (str l16s6)), (7, (iq l16i25)), (8, (pq g26)), (9, (pq g29)), (11, (iq l47i40)), (23, v0_0), (24, (iq (a0.length : Int))), (25, (iq l16i25)), (39, (iq (l16x4.length : Int))), (40, (iq l47i40)), (59, (bool (u64 == u67)))] (by decide) ⟨rfl, rfl, rfl, rfl, rfl, rfl, rfl, rfl, rfl, rfl, rfl, rfl, rfl, rfl, trivial⟩)
         ·replace h := bif_f hb63 h
          refine aw_region_draw 16 [(43, (fun u => fEq u l16v4)), (44, (fun u => fEq u (iq l47i40))), (45, (fun p => fElt l16v4 p ((l47i40).toNat * Ty.size tyA8u8))), (46, (fun u => fEq u (ag (cA8u8 u59)))), (47, (fun u => fEq u (ag (cA8u8 r28.1)))), (48, (fun u => fEq u (bool false))), (49, (fun u => fEq u (bool false))), (50, (fun u => fEq u undef)), (51, (fun u => fEq u undef)), (52, (fun u => fEq u undef)), (53, (fun u => fEq u undef)), (54, (fun u => fEq u undef)), (55, (fun u => fEq u undef)), (56, (fun u => fEq u undef)), (57, (fun u => fEq u undef)), (58, (fun u => fEq u undef))] (tab [(0, v0_0), (4, l16v4), (5, (str l16s5)), (6, (str l16s6)), (7, (iq l16i25)), (8, (pq g26)), (9, (pq g29)), (11, (iq l47i40)), (23, v0_0), (24, (iq (a0.length : Int))), (25, (iq l16i25)), (39, (iq (l16x4.length : Int))), (40, (iq l47i40))]) mixed (by kernel_rfl) rfl rfl rfl (fun a hs => hs.tab _ (allT_mem ⟨rfl, rfl, rfl, rfl, rfl, rfl, rfl, rfl, rfl, rfl, rfl, rfl, rfl, trivial⟩)) ⟨⟨rfl, ld_val (ov_move rfl rfl)⟩, ⟨rfl, ld_val (ov_move rfl rfl)⟩, ⟨rfl, ld_eq (j := 0) rfl rfl (ld_eq (j := 1) rfl rfl (ld_of (of_idxR 0 (at_some hu60).1 (at_some hu60).2.1 rfl rfl rfl Tryd.underlying87 sz30 rfl)))⟩, ⟨rfl, ld_elt (j := 2) rfl rfl (fun p61 hp62 => ld_val (ov_loadR (ds := (cA8u8 u59)) 0 rfl hp62 (at_some hu60).2.2 encA8u8 rfl Tryd.underlying30 sz30 rfl rfl rfl))⟩, ⟨rfl, ld_val (ov_load (i := 2) (v := (ag (cA8u8 r28.1))) rfl rfl Tryd.underlying30 sz30 rfl rfl rfl rfl)⟩, ⟨rfl, ld_eq (j := 3) rfl rfl (ld_eq (j := 4) rfl rfl (ld_val (ov_cast (by first | rw [hb63] | rfl) (ov_eqlA (cs := (cA8u8 u59)) (ds := (cA8u8 r28.1)) (ls := [5, 5, 5, 5, 5, 5, 5, 5]) (p := (u59 == r28.1)) eg30 kt30 lv30 rfl rfl (by kernel_rfl) (by kernel_rfl) (fit_cons (fit_u8 Tryd.underlying5) (fit_cons (fit_u8 Tryd.underlying5) (fit_cons (fit_u8 Tryd.underlying5) (fit_cons (fit_u8 Tryd.underlying5) (fit_cons (fit_u8 Tryd.underlying5) (fit_cons (fit_u8 Tryd.underlying5) (fit_cons (fit_u8 Tryd.underlying5) (fit_cons (fit_u8 Tryd.underlying5) fit_nil)))))))) (fit_cons (fit_u8 Tryd.underlying5) (fit_cons (fit_u8 Tryd.underlying5) (fit_cons (fit_u8 Tryd.underlying5) (fit_cons (fit_u8 Tryd.underlying5) (fit_cons (fit_u8 Tryd.underlying5) (fit_cons (fit_u8 Tryd.underlying5) (fit_cons (fit_u8 Tryd.underlying5) (fit_cons (fit_u8 Tryd.underlying5) fit_nil)))))))) (injA8u8 (x := u59) (y := r28.1)) rfl))))⟩, ⟨rfl, ld_eq (j := 5) rfl rfl (ld_val (ov_cast (by first | rw [hb63] | rfl) (ov_move rfl rfl)))⟩, ⟨rfl, ld_eq (j := 6) rfl rfl (ld_skip)⟩, ⟨rfl, ld_eq (j := 6) rfl rfl (ld_skip)⟩, ⟨rfl, ld_eq (j := 6) rfl rfl (ld_skip)⟩, ⟨rfl, ld_eq (j := 6) rfl rfl (ld_skip)⟩, ⟨rfl, ld_eq (j := 6) rfl rfl (ld_skip)⟩, ⟨rfl, ld_eq (j := 6) rfl rfl (ld_skip)⟩, ⟨rfl, ld_eq (j := 6) rfl rfl (ld_skip)⟩, ⟨rfl, ld_eq (j := 6) rfl rfl (ld_skip)⟩, ⟨rfl, ld_eq (j := 6) rfl rfl (ld_skip)⟩, trivial⟩ ?_
          refine tl_eq 6 rfl ?_
          refine tl_eq 15 rfl ?_
          refine tl_done ?_
          refine al_val (ov_pick_f rfl rfl rfl) ?_
          refine al_nil ?_
          exact aq_join false h (fun w a hm hs => norm hm hs [0, 1, 2] [0, 1] [(0, v0_0), (4, l16v4), (5, (str l16s5)), (6, (str l16s6)), (7, (iq l16i25)), (8, (pq g26)), (9, (pq g29)), (11, (iq l47i40)), (23, v0_0), (24, (iq (a0.length : Int))), (25, (iq l16i25)), (39, (iq (l16x4.length : Int))), (40, (iq l47i40)), (59, (bool false))] (by decide) ⟨rfl, rfl, rfl, rfl, rfl, rfl, rfl, rfl, rfl, rfl, rfl, rfl, rfl, rfl, trivial⟩)
       ·replace h := bif_f hb50 h
        refine aw_exit ?_
        refine aq_then_exit ?_
        refine aq_then_exit ?_
        refine aq_block_exit ?_
        exact aq_join () h (fun w a hm hs => norm hm hs [0, 1, 2] [0, 1] [(0, v0_0), (4, l16v4), (5, (str l16s5)), (6, (str l16s6)), (8, (pq g26)), (9, (pq g29)), (23, v0_0), (24, (iq (a0.length : Int))), (25, (iq l16i25))] (by decide) ⟨rfl, rfl, rfl, rfl, rfl, rfl, rfl, rfl, rfl, trivial⟩)
   ·replace h := bif_f hb20 h
    refine aw_exit ?_
    refine aq_then_exit ?_
    refine aq_then_exit ?_
    refine aq_block_exit ?_
    exact aq_join (l16s5, l16s6) h (fun w a hm hs => norm hm hs [] [0] [(5, (str l16s5)), (6, (str l16s6))] (by decide) ⟨rfl, rfl, trivial⟩)
def f_lumlaw_PackMakes_L12 (a0 : (List S_api_Blob)) (kk2 : (Unit → Option Bool)) (fu : Nat) : Nat → Int → Option Bool
  | 0, _ => none
  | k11 + 1, l10i15 => (bif (decide (l10i15 < (a0.length : Int))) then (opt (at? a0 l10i15) fun (u14 : S_api_Blob) => (opt (f_pack_ID fu u14) fun (r19 : (A8u8 × Int)) => (opt (f_lumref_BlobID fu u14) fun (r22 : (A8u8 × Int)) => (lt (fun (j24b36 : Bool) => (bif j24b36 then (some false) else (f_lumlaw_PackMakes_L12 a0 kk2 fu k11 (IntKind.i64.wrap (l10i15 + (1 : Int)))))) fun (kk25 : Bool → Option Bool) => (bif (!(r19.1 == r22.1)) then (kk25 true) else (kk25 (r19.2 != r22.2))))))) else (kk2 ()))
def f_lumlaw_PackMakes (fu : Nat) (a0 : (List S_api_Blob)) : Option Bool := (lt (fun (_ : Unit) => (opt (f_pack_Make fu a0) fun (r4 : ((List UInt8) × Int)) => (opt (f_lumref_PackMake fu a0) fun (r6 : ((List UInt8) × Int)) => (lt (fun (j7b2 : Bool) => (some j7b2)) fun (kk8 : Bool → Option Bool) => (bif (r4.1 == r6.1) then (kk8 (r4.2 == r6.2)) else (kk8 false)))))) fun (kk2 : Unit → Option Bool) => (f_lumlaw_PackMakes_L12 a0 kk2 fu fu (0 : Int)))
set_option maxHeartbeats 2000000 in
set_option maxRecDepth 100000 in
theorem f_lumlaw_PackMakes_ok (fu : Nat) (v0_0 : Value) (a0 : (List S_api_Blob)) {r : Bool} (h : f_lumlaw_PackMakes fu a0 = some r) : FnOk Tryd.prog 4 [v0_0] [(fDat (tyList tyS_api_Blob) [v0_0] a0)] [] (fun (i : Unit) => { val := (bool r) }) := by
 unfold f_lumlaw_PackMakes at h
 refine fn_enter Tryd.func4 rfl Tryd.ntmps4 rfl (fun w0 Z0 => ?_)
 refine aw_sr ?_
 refine al_as rfl rfl ?_
 refine al_nt ?_
 obtain ⟨kk2, hkk2, h⟩ := lt_some h
 refine aw_seq_join (ι := Unit) (fun i => (memOf w0 Z0 [] [] [(fDat (tyList tyS_api_Blob) [v0_0] a0)])) (fun i => (tab [(0, v0_0)])) (fun i => kk2 () = some r) ?_ ?_
 ·rintro _ h
  have h : kk2 () = some r := h
  rw [hkk2] at h
  dsimp only at h
  clear hkk2
  refine aw_show (m := (memOf w0 Z0 [] [] [(fDat (tyList tyS_api_Blob) [v0_0] a0)])) (S := (tab [(0, v0_0)])) ?_
  refine aw_sr ?_
  refine al_mv rfl rfl ?_
  obtain ⟨r4, hc3, h⟩ := opt_some h
  refine al_call (vs := [v0_0]) (f_pack_Make_ok fu v0_0 a0 hc3) [] [] [] (pre_fz 0 rfl pre_nil) rfl (by simp) (by decide) (.inl rfl) rfl Tryd.func14 rfl rfl rfl (fun _ => ?_)
  refine al_mv rfl rfl ?_
  refine al_ex rfl rfl rfl ?_
  refine al_ex rfl rfl rfl ?_
  refine al_as rfl rfl ?_
  refine al_as rfl rfl ?_
  refine al_nt ?_
  refine aw_sr ?_
  refine al_mv rfl rfl ?_
  obtain ⟨r6, hc5, h⟩ := opt_some h
  refine al_call (vs := [v0_0]) (f_lumref_PackMake_ok fu v0_0 a0 hc5) [] [] [] (pre_fz 0 rfl pre_nil) rfl (by simp) (by decide) (.inl rfl) rfl Tryd.func15 rfl rfl rfl (fun _ => ?_)
  refine al_mv rfl rfl ?_
  refine al_ex rfl rfl rfl ?_
  refine al_ex rfl rfl rfl ?_
  refine al_as rfl rfl ?_
  refine al_as rfl rfl ?_
  refine al_nt ?_
  obtain ⟨kk8, hkk8, h⟩ := lt_some h
  refine aw_seq_join (ι := Bool) (fun i => (memOf w0 Z0 [] [] [(fDat (tyList tyS_api_Blob) [v0_0] a0)])) (fun i => (tab [(2, (bool i))])) (fun i => kk8 i = some r) ?_ ?_
  ·rintro j7b2 h
   have h : kk8 j7b2 = some r := h
   rw [hkk8] at h
   dsimp only at h
   clear hkk8
   refine aw_show (m := (memOf w0 Z0 [] [] [(fDat (tyList tyS_api_Blob) [v0_0] a0)])) (S := (tab [(2, (bool j7b2))])) ?_
   refine aw_ret ?_
   obtain rfl := Option.some.inj h
   exact fn_ret () [] [] rfl rfl rfl rfl (res1 rfl rfl) rfl rfl rfl (by decide)
  ·clear hkk8
   refine aw_region ?_
   refine al_mv rfl rfl ?_
   refine al_mv rfl rfl ?_
   refine al_val (ov_strCmp rfl rfl rfl rfl) ?_
   refine al_mv rfl rfl ?_
   refine al_caseB 51 rfl (fun hb9 => ?_) (fun hb9 => ?_)
   ·replace h := bif_t hb9 h
    refine al_mv rfl rfl ?_
    refine al_mv rfl rfl ?_
    refine al_in rfl rfl rfl rfl ?_
    refine al_val (ov_pick_t rfl rfl rfl) ?_
    refine al_as rfl rfl ?_
    refine al_nil ?_
    exact aq_join (r4.2 == r6.2) h (fun w a hm hs => norm hm hs [] [0] [(2, (bool (r4.2 == r6.2)))] (by decide) ⟨rfl, trivial⟩)
   ·replace h := bif_f hb9 h
    refine al_skip ?_
    refine al_skip ?_
    refine al_skip ?_
    refine al_val (ov_pick_f rfl rfl rfl) ?_
    refine al_as rfl rfl ?_
    refine al_nil ?_
    exact aq_join false h (fun w a hm hs => norm hm hs [] [0] [(2, (bool false))] (by decide) ⟨rfl, trivial⟩)
 ·clear hkk2
  refine aw_sr ?_
  refine al_mv rfl rfl ?_
  refine al_val (ov_lenD 0 rfl rfl Tryd.underlying26 rfl) ?_
  refine al_mv rfl rfl ?_
  refine al_nt ?_
  refine aw_block ?_
  refine aw_state (aw_loop (ι := Int) (fun i => (memOf w0 Z0 [] [] [(fDat (tyList tyS_api_Blob) [v0_0] a0)])) (fun i => (tab [(0, v0_0), (13, v0_0), (14, (iq (a0.length : Int))), (15, (iq i))])) (fun q i => f_lumlaw_PackMakes_L12 a0 kk2 fu q i = some r) ?_ fu (0 : Int) h) (fun w a hm hs => norm hm hs [] [0] [(0, v0_0), (13, v0_0), (14, (iq (a0.length : Int))), (15, (iq (0 : Int)))] (by decide) ⟨rfl, rfl, rfl, rfl, trivial⟩)
  clear h
  rintro k11 l10i15 h
  have h : f_lumlaw_PackMakes_L12 a0 kk2 fu k11 l10i15 = some r := h
  obtain _ | k11 := k11
  · rw [f_lumlaw_PackMakes_L12] at h; cases h
  rw [f_lumlaw_PackMakes_L12] at h
  refine aw_show (m := (memOf w0 Z0 [] [] [(fDat (tyList tyS_api_Blob) [v0_0] a0)])) (S := (tab [(0, v0_0), (13, v0_0), (14, (iq (a0.length : Int))), (15, (iq l10i15))])) ?_
  refine aw_sr ?_
  refine al_in rfl rfl rfl rfl ?_
  refine al_nt ?_
  refine aw_seq ?_
  refine aw_cond rfl (fun hb13 => ?_) (fun hb13 => ?_)
  ·replace h := bif_t hb13 h
   refine aw_skip ?_
   refine aq_then ?_
   refine aw_seq ?_
   refine aw_block ?_
   refine aw_sr ?_
   obtain ⟨u14, hu15, h⟩ := opt_some h
   refine al_idxD 0 hu15 rfl rfl rfl Tryd.underlying26 sz28 rfl (fun p16 => ?_)
   refine al_val (ov_loadP (ds := [(iq u14.Kind), (str u14.Bytes)]) 0 rfl encS_api_Blob rfl Tryd.underlying28 sz28 rfl rfl rfl) ?_
   refine al_alloc (zs := [(iq (0 : Int)), (str ([] : List UInt8))]) (zeroOf_to to28) rfl rfl (fun g17 => ?_)
   refine al_store (i := 0) (vs := [(iq u14.Kind), (str u14.Bytes)]) (cs' := [(iq u14.Kind), (str u14.Bytes)]) rfl rfl rfl sz28 (cv_rfl rfl) rfl (co_val rfl (co_val rfl co_nil)) (Nat.le_of_ble_eq_true rfl) rfl rfl ?_
   refine al_nt ?_
   refine aw_sr ?_
   refine al_val (ov_load (i := 0) (v := (ag [(iq u14.Kind), (str u14.Bytes)])) rfl rfl Tryd.underlying28 sz28 rfl rfl rfl rfl) ?_
   obtain ⟨r19, hc18, h⟩ := opt_some h
   refine al_call (vs := [(ag [(iq u14.Kind), (str u14.Bytes)])]) (f_pack_ID_ok fu u14 hc18) [] [] [0] pre_nil rfl (by simp) (by decide) (.inl rfl) rfl Tryd.func12 rfl rfl rfl (fun _ => ?_)
   refine al_mv rfl rfl ?_
   refine al_ex rfl rfl rfl ?_
   refine al_ex rfl rfl rfl ?_
   refine al_alloc (zs := (cA8u8 (A8u8.mk (0 : UInt8) (0 : UInt8) (0 : UInt8) (0 : UInt8) (0 : UInt8) (0 : UInt8) (0 : UInt8) (0 : UInt8)))) (zeroOf_to to30) rfl rfl (fun g20 => ?_)
   refine al_store (i := 0) (vs := (cA8u8 r19.1)) (cs' := (cA8u8 r19.1)) rfl rfl rfl sz30 (cv_rfl rfl) rfl (co_all (oneA8u8 r19.1)) (Nat.le_of_ble_eq_true rfl) rfl rfl ?_
   refine al_as rfl rfl ?_
   refine al_nt ?_
   refine aw_sr ?_
   refine al_val (ov_load (i := 1) (v := (ag [(iq u14.Kind), (str u14.Bytes)])) rfl rfl Tryd.underlying28 sz28 rfl rfl rfl rfl) ?_
   obtain ⟨r22, hc21, h⟩ := opt_some h
   refine al_call (vs := [(ag [(iq u14.Kind), (str u14.Bytes)])]) (f_lumref_BlobID_ok fu u14 hc21) [] [] [0, 1] pre_nil rfl (by simp) (by decide) (.inl rfl) rfl Tryd.func13 rfl rfl rfl (fun _ => ?_)
   refine al_mv rfl rfl ?_
   refine al_ex rfl rfl rfl ?_
   refine al_ex rfl rfl rfl ?_
   refine al_alloc (zs := (cA8u8 (A8u8.mk (0 : UInt8) (0 : UInt8) (0 : UInt8) (0 : UInt8) (0 : UInt8) (0 : UInt8) (0 : UInt8) (0 : UInt8)))) (zeroOf_to to30) rfl rfl (fun g23 => ?_)
   refine al_store (i := 0) (vs := (cA8u8 r22.1)) (cs' := (cA8u8 r22.1)) rfl rfl rfl sz30 (cv_rfl rfl) rfl (co_all (oneA8u8 r22.1)) (Nat.le_of_ble_eq_true rfl) rfl rfl ?_
   refine al_as rfl rfl ?_
   refine al_nt ?_
   obtain ⟨kk25, hkk25, h⟩ := lt_some h
   refine aw_seq_join (ι := Bool) (fun i => (memOf w0 Z0 [] [] [(fDat (tyList tyS_api_Blob) [v0_0] a0), (fPtr tyS_api_Blob p16 u14)])) (fun i => (tab [(0, v0_0), (13, v0_0), (14, (iq (a0.length : Int))), (15, (iq l10i15)), (36, (bool i))])) (fun i => kk25 i = some r) ?_ ?_
   ·rintro j24b36 h
    have h : kk25 j24b36 = some r := h
    rw [hkk25] at h
    dsimp only at h
    clear hkk25
    refine aw_show (m := (memOf w0 Z0 [] [] [(fDat (tyList tyS_api_Blob) [v0_0] a0), (fPtr tyS_api_Blob p16 u14)])) (S := (tab [(0, v0_0), (13, v0_0), (14, (iq (a0.length : Int))), (15, (iq l10i15)), (36, (bool j24b36))])) ?_
    refine aw_cond rfl (fun hb26 => ?_) (fun hb26 => ?_)
    ·replace h := bif_t hb26 h
     refine aw_sr ?_
     refine al_as rfl rfl ?_
     refine al_nt ?_
     refine aw_ret ?_
     refine aq_block_ret ?_
     refine aq_then_ret ?_
     refine aq_then_ret ?_
     refine aq_block_ret ?_
     refine aq_then_ret ?_
     obtain rfl := Option.some.inj h
     exact fn_ret () [] [] rfl rfl rfl rfl (res1 rfl rfl) rfl rfl rfl (by decide)
    ·replace h := bif_f hb26 h
     refine aw_skip ?_
     refine aq_block ?_
     refine aq_then ?_
     refine aw_region ?_
     refine al_in rfl rfl rfl rfl ?_
     refine al_mv rfl rfl ?_
     refine al_nil ?_
     exact aq_again k11 (wq (l10i15 + (1 : Int))) (Nat.lt_succ_self _) h (fun w a hm hs => norm hm hs [] [0] [(0, v0_0), (13, v0_0), (14, (iq (a0.length : Int))), (15, (iq (wq (l10i15 + (1 : Int)))))] (by decide) ⟨rfl, rfl, rfl, rfl, trivial⟩)
   ·clear hkk25
    refine aw_region ?_
    refine al_val (ov_load (i := 1) (v := (ag (cA8u8 r19.1))) rfl rfl Tryd.underlying30 sz30 rfl rfl rfl rfl) ?_
    refine al_val (ov_load (i := 0) (v := (ag (cA8u8 r22.1))) rfl rfl Tryd.underlying30 sz30 rfl rfl rfl rfl) ?_
    refine al_val (ov_neqA (cs := (cA8u8 r19.1)) (ds := (cA8u8 r22.1)) (ls := [5, 5, 5, 5, 5, 5, 5, 5]) (p := (r19.1 == r22.1)) eg30 kt30 lv30 rfl rfl (by kernel_rfl) (by kernel_rfl) (fit_cons (fit_u8 Tryd.underlying5) (fit_cons (fit_u8 Tryd.underlying5) (fit_cons (fit_u8 Tryd.underlying5) (fit_cons (fit_u8 Tryd.underlying5) (fit_cons (fit_u8 Tryd.underlying5) (fit_cons (fit_u8 Tryd.underlying5) (fit_cons (fit_u8 Tryd.underlying5) (fit_cons (fit_u8 Tryd.underlying5) fit_nil)))))))) (fit_cons (fit_u8 Tryd.underlying5) (fit_cons (fit_u8 Tryd.underlying5) (fit_cons (fit_u8 Tryd.underlying5) (fit_cons (fit_u8 Tryd.underlying5) (fit_cons (fit_u8 Tryd.underlying5) (fit_cons (fit_u8 Tryd.underlying5) (fit_cons (fit_u8 Tryd.underlying5) (fit_cons (fit_u8 Tryd.underlying5) fit_nil)))))))) (injA8u8 (x := r19.1) (y := r22.1)) rfl) ?_
    refine al_mv rfl rfl ?_
    refine al_caseB 32 rfl (fun hb27 => ?_) (fun hb27 => ?_)
    ·replace h := bif_t hb27 h
     refine al_skip ?_
     refine al_skip ?_
     refine al_skip ?_
     refine al_val (ov_pick_t rfl rfl rfl) ?_
     refine al_nil ?_
     exact aq_join true h (fun w a hm hs => norm hm hs [] [1, 0] [(0, v0_0), (13, v0_0), (14, (iq (a0.length : Int))), (15, (iq l10i15)), (36, (bool true))] (by decide) ⟨rfl, rfl, rfl, rfl, rfl, trivial⟩)
    ·replace h := bif_f hb27 h
     refine al_mv rfl rfl ?_
     refine al_mv rfl rfl ?_
     refine al_in rfl rfl rfl rfl ?_
     refine al_val (ov_pick_f rfl rfl rfl) ?_
     refine al_nil ?_
     exact aq_join (r19.2 != r22.2) h (fun w a hm hs => norm hm hs [] [1, 0] [(0, v0_0), (13, v0_0), (14, (iq (a0.length : Int))), (15, (iq l10i15)), (36, (bool (r19.2 != r22.2)))] (by decide) ⟨rfl, rfl, rfl, rfl, rfl, trivial⟩)
  ·replace h := bif_f hb13 h
   refine aw_exit ?_
   refine aq_then_exit ?_
   refine aq_then_exit ?_
   refine aq_block_exit ?_
   exact aq_join () h (fun w a hm hs => norm hm hs [] [0] [(0, v0_0)] (by decide) ⟨rfl, trivial⟩)
end Go.Proofs.YtfhifdmbdkkgaaaDoor
namespace Go.Proofs.YtfhifdmbdkkgaaaDoor
open Go.RowKit
theorem i64_keep (n : Int) (h₀ : 0 ≤ n) (h₁ : n < 2 ^ 63) : IntKind.i64.wrap n = n := IntWalk.i64_in n (by omega)
theorem i64_and_nat (a b : Nat) (ha : a < 9223372036854775808) (hb : b < 9223372036854775808) : bits .and .i64 (a : Int) (b : Int) = ((a &&& b : Nat) : Int) := (bits_nat .i64 63 (by decide) i64_keep a b ha hb).1
end Go.Proofs.YtfhifdmbdkkgaaaDoor
namespace Go.Proofs.YtfhifdmbdkkgaaaDoor
open Go.RowKit YtfhifdmbdkkgaaaDoor.En
theorem at_nat {α : Type} (xs : List α) (k : Nat) : at? xs (k : Int) = xs[k]? := by unfold at?; rw [if_pos (Int.natCast_nonneg k)]; simp
theorem at_lt {α : Type} {xs : List α} {k : Nat} (h : k < xs.length) : at? xs (k : Int) = some xs[k] := by rw [at_nat, List.getElem?_eq_getElem h]
theorem at_of {α : Type} {xs : List α} {k : Nat} {x : α} (h : xs[k]? = some x) : at? xs (k : Int) = some x := by rw [at_nat, h]
theorem w64 {x : Int} (h0 : -9223372036854775808 ≤ x) (h1 : x ≤ 9223372036854775807) : IntKind.i64.wrap x = x := IntWalk.i64_in x (by omega)
theorem wsucc {k : Nat} (h : k < 9223372036854775807) : IntKind.i64.wrap ((k : Int) + 1) = ((k + 1 : Nat) : Int) := by rw [w64 (by omega) (by omega)]; omega
theorem dlt {a b : Int} (h : a < b) : decide (a < b) = true := decide_eq_true h
theorem dge {a b : Int} (h : b ≤ a) : decide (a < b) = false := decide_eq_false (by omega)
theorem cond_tt {α : Type} {b : Bool} {x y : α} (h : b = true) : (bif b then x else y) = x := by rw [h]; rfl
theorem cond_ff {α : Type} {b : Bool} {x y : α} (h : b = false) : (bif b then x else y) = y := by rw [h]; rfl
end Go.Proofs.YtfhifdmbdkkgaaaDoor
namespace Go.Proofs.YtfhifdmbdkkgaaaDoor
open Go.RowKit YtfhifdmbdkkgaaaDoor.En
theorem shr_nat {x m : Nat} {j : Int} {k : IntKind} (hj : j = (m : Int)) (hm : m ≤ k.bits) : ((x : Int)).fdiv (2 ^ min j.toNat k.bits) = ((x / 2 ^ m : Nat) : Int) := by
  subst hj
  rw [Int.toNat_natCast, Nat.min_eq_left hm, Int.fdiv_eq_ediv_of_nonneg _ (by apply Int.le_of_lt; apply Int.pow_pos; decide)]
  simp
theorem shl_nat {x m : Nat} {j : Int} {k : IntKind} (hj : j = (m : Int)) (hm : m ≤ k.bits) : ((x : Int)) * 2 ^ min j.toNat k.bits = ((x * 2 ^ m : Nat) : Int) := by
  subst hj
  rw [Int.toNat_natCast, Nat.min_eq_left hm]
  simp
theorem u8w (x : Nat) : IntKind.u8.wrap (x : Int) = ((x % 256 : Nat) : Int) := by
  unfold IntKind.wrap
  simp [IntKind.signed, IntKind.bits]
theorem u8w_in {x : Nat} (h : x < 256) : IntKind.u8.wrap (x : Int) = (x : Int) := by rw [u8w, Nat.mod_eq_of_lt h]
theorem byte_of {x : Nat} (h : x < 256) : ((UInt8.ofNat x).toNat : Int) = x := by
  rw [UInt8.toNat_ofNat']; omega
end Go.Proofs.YtfhifdmbdkkgaaaDoor
namespace Go.Proofs.YtfhifdmbdkkgaaaDoor.HeapM
set_option linter.unusedVariables false
variable {α : Type} (le : α → α → Prop)
structure Ord : Prop where
  refl : ∀ a, le a a
  trans : ∀ {a b c}, le a b → le b c → le a c
  total : ∀ a b, le a b ∨ le b a
def H (l : List α) : Prop := ∀ (i : Nat) (x y : α), 0 < i → l[(i - 1) / 2]? = some x → l[i]? = some y → le x y
def HU (l : List α) (i : Nat) : Prop := (∀ (j : Nat) (x y : α), 0 < j → j ≠ i → l[(j - 1) / 2]? = some x → l[j]? = some y → le x y) ∧
  ∀ (j : Nat) (x y : α), 0 < i → 0 < j → (j - 1) / 2 = i → l[(i - 1) / 2]? = some x → l[j]? = some y → le x y
def HD (l : List α) (i : Nat) : Prop := (∀ (j : Nat) (x y : α), 0 < j → (j - 1) / 2 ≠ i → l[(j - 1) / 2]? = some x → l[j]? = some y → le x y) ∧
  ∀ (j : Nat) (x y : α), 0 < i → 0 < j → (j - 1) / 2 = i → l[(i - 1) / 2]? = some x → l[j]? = some y → le x y
variable {le}
theorem swap_at {l : List α} {p i : Nat} {x y : α} (hne : p ≠ i) (hp : l[p]? = some x) (hi : l[i]? = some y) (k : Nat) : ((l.set p y).set i x)[k]? = if k = i then some x else if k = p then some y else l[k]? := by
  have h1 := (List.getElem?_eq_some_iff.1 hp).1
  have h2 := (List.getElem?_eq_some_iff.1 hi).1
  rw [List.getElem?_set, List.getElem?_set, List.length_set]
  by_cases h : i = k
  · subst h; simp [h2]
  · by_cases h' : p = k
    · subst h'; simp [h, h1, Ne.symm h]
    · simp [h, h', Ne.symm h, Ne.symm h']
theorem swap_perm {l : List α} {p i : Nat} {x y : α} (hp : l[p]? = some x) (hi : l[i]? = some y) : ((l.set p y).set i x).Perm l := by
  obtain ⟨h1, rfl⟩ := List.getElem?_eq_some_iff.1 hp
  obtain ⟨h2, rfl⟩ := List.getElem?_eq_some_iff.1 hi
  exact List.set_set_perm h1 h2
theorem HU.zero {l : List α} (h : HU le l 0) : H le l := fun i x y h0 hx hy => h.1 i x y h0 (by omega) hx hy
theorem HU.stop {l : List α} {i : Nat} {x y : α} (h : HU le l i) (h0 : 0 < i) (hx : l[(i - 1) / 2]? = some x) (hy : l[i]? = some y) (hle : le x y) : H le l := fun j u v hj hu hv => by
  by_cases hji : j = i
  · subst hji; rw [hx] at hu; rw [hy] at hv; cases hu; cases hv; exact hle
  · exact h.1 j u v hj hji hu hv
theorem HU.up (O : Ord le) {l : List α} {i : Nat} {x y : α} (h : HU le l i) (h0 : 0 < i) (hx : l[(i - 1) / 2]? = some x) (hy : l[i]? = some y) (hle : le y x) : HU le ((l.set ((i - 1) / 2) y).set i x) ((i - 1) / 2) := by
  have hne : (i - 1) / 2 ≠ i := by omega
  have hs := swap_at hne hx hy
  refine ⟨fun j u v hj hjp hu hv => ?_, fun j u v hp hj hjp hu hv => ?_⟩
  · rw [hs] at hu hv
    rw [if_neg hjp] at hv
    by_cases hji : j = i
    · subst hji
      rw [if_pos rfl] at hv
      rw [if_neg hne, if_pos rfl] at hu
      cases hu; cases hv; exact hle
    · rw [if_neg hji] at hv
      by_cases h1 : (j - 1) / 2 = i
      · rw [if_pos h1] at hu
        cases hu
        exact h.2 j x v h0 hj h1 hx hv
      · rw [if_neg h1] at hu
        by_cases h2 : (j - 1) / 2 = (i - 1) / 2
        · rw [if_pos h2] at hu
          cases hu
          exact O.trans hle (h.1 j x v hj hji (by rw [h2]; exact hx) hv)
        · rw [if_neg h2] at hu
          exact h.1 j u v hj hji hu hv
  · rw [hs] at hu hv
    rw [if_neg (by omega), if_neg (by omega)] at hu
    have hg : le u x := h.1 ((i - 1) / 2) u x hp hne hu hx
    by_cases hji : j = i
    · rw [if_pos hji] at hv; cases hv; exact hg
    · rw [if_neg hji, if_neg (by omega)] at hv
      exact O.trans hg (h.1 j x v hj hji (by rw [hjp]; exact hx) hv)
theorem H.root (O : Ord le) {l : List α} (h : H le l) {r : α} (hr : l[0]? = some r) : ∀ (i : Nat) (y : α), l[i]? = some y → le r y
  | 0, y, hy => by rw [hr] at hy; cases hy; exact O.refl _
  | i + 1, y, hy => by
    have hlt := (List.getElem?_eq_some_iff.1 hy).1
    have hp : (i + 1 - 1) / 2 < l.length := by omega
    have hx := List.getElem?_eq_getElem hp
    exact O.trans (H.root O h hr ((i + 1 - 1) / 2) _ hx) (h (i + 1) _ y (by omega) hx hy)
  termination_by i => i
  decreasing_by omega
theorem HD.stop {l : List α} {i : Nat} {x : α} (h : HD le l i) (hx : l[i]? = some x) (hc : ∀ (j : Nat) (z : α), 0 < j → (j - 1) / 2 = i → l[j]? = some z → le x z) : H le l := fun j u v hj hu hv => by
  by_cases hji : (j - 1) / 2 = i
  · rw [hji, hx] at hu; cases hu; exact hc j v hj hji hv
  · exact h.1 j u v hj hji hu hv
theorem HD.down (O : Ord le) {l : List α} {i k : Nat} {x y : α} (h : HD le l i) (h0 : 0 < k) (hki : (k - 1) / 2 = i) (hx : l[i]? = some x) (hy : l[k]? = some y) (hle : le y x) (hmin : ∀ (j : Nat) (z : α), 0 < j → (j - 1) / 2 = i → l[j]? = some z → le y z) : HD le ((l.set k x).set i y) k := by
  have hne : k ≠ i := by omega
  have hs := swap_at hne hy hx
  refine ⟨fun j u v hj hjk hu hv => ?_, fun j u v _ hj hjk hu hv => ?_⟩
  · rw [hs] at hu hv
    by_cases hji : (j - 1) / 2 = i
    · rw [if_pos hji] at hu
      cases hu
      rw [if_neg (by omega)] at hv
      by_cases hjk2 : j = k
      · rw [if_pos hjk2] at hv; cases hv; exact hle
      · rw [if_neg hjk2] at hv; exact hmin j v hj hji hv
    · rw [if_neg hji, if_neg hjk] at hu
      by_cases hj2 : j = i
      · rw [if_pos hj2] at hv
        cases hv
        exact h.2 k u y (by omega) h0 hki (by rw [← hj2]; exact hu) hy
      · rw [if_neg hj2, if_neg (by omega)] at hv
        exact h.1 j u v hj hji hu hv
  · rw [hs] at hu hv
    rw [if_pos hki] at hu
    cases hu
    rw [if_neg (by omega), if_neg (by omega)] at hv
    exact h.1 j y v hj (by omega) (by rw [hjk]; exact hy) hv
theorem H.cut {l : List α} {n : Nat} {z : α} (h : H le l) (hn : n + 1 = l.length) : HD le ((l.set 0 z).take n) 0 := by
  refine ⟨fun j u v hj hj0 hu hv => ?_, fun j u v h0 => absurd h0 (Nat.lt_irrefl _)⟩
  rw [List.getElem?_take] at hu hv
  split at hu
  · split at hv
    · rw [List.getElem?_set, if_neg (Ne.symm hj0)] at hu
      rw [List.getElem?_set, if_neg (by omega)] at hv
      exact h j u v hj hu hv
    · cases hv
  · cases hu
theorem H.snoc {l : List α} {z : α} (h : H le l) : HU le (l ++ [z]) l.length := by
  refine ⟨fun j u v hj hjl hu hv => ?_, fun j u v h0 hj hjl hu hv => ?_⟩
  · have h1 := (List.getElem?_eq_some_iff.1 hv).1
    rw [List.length_append, List.length_singleton] at h1
    rw [List.getElem?_append_left (by omega)] at hu hv
    exact h j u v hj hu hv
  · have h1 := (List.getElem?_eq_some_iff.1 hv).1
    rw [List.length_append, List.length_singleton] at h1
    omega
theorem cut_perm {l : List α} {n : Nat} {r z : α} (hn : n + 1 = l.length) (hr : l[0]? = some r) (hz : l[n]? = some z) : (r :: (l.set 0 z).take n).Perm l := by
  obtain ⟨a, t, rfl⟩ : ∃ a t, l = a :: t := by
    cases l with
    | nil => cases hr
    | cons a t => exact ⟨a, t, rfl⟩
  cases hr
  cases n with
  | zero =>
    have : t = [] := List.length_eq_zero_iff.1 (by rw [List.length_cons] at hn; omega)
    subst this
    simp
  | succ m =>
    rw [List.getElem?_cons_succ] at hz
    have hl : t.length = m + 1 := by rw [List.length_cons] at hn; omega
    have ht : t = t.take m ++ [z] := by
      have h1 := List.take_add_one (l := t) (i := m)
      rw [hz, List.take_of_length_le (by omega)] at h1
      exact h1
    rw [List.set_cons_zero, List.take_succ_cons]
    refine List.Perm.cons _ ?_
    have h2 : (z :: t.take m).Perm (t.take m ++ [z]) := List.perm_append_comm (l₁ := [z])
    rw [← ht] at h2
    exact h2
end Go.Proofs.YtfhifdmbdkkgaaaDoor.HeapM
namespace Go.Proofs.YtfhifdmbdkkgaaaDoor.PHl
open Go.RowKit YtfhifdmbdkkgaaaDoor.En YtfhifdmbdkkgaaaDoor YtfhifdmbdkkgaaaDoor.HeapM
set_option linter.unusedVariables false
set_option linter.unusedSimpArgs false
abbrev T := S_huff_tree
def Tb (t : T) : Prop := (0 ≤ t.weight ∧ t.weight ≤ 1099511627776) ∧ (0 ≤ t.least ∧ t.least ≤ 1099511627776)
def le (a b : T) : Prop := a.weight < b.weight ∨ (a.weight = b.weight ∧ a.least ≤ b.least)
theorem ord : Ord le := ⟨fun a => .inr ⟨rfl, Int.le_refl _⟩, fun {a b c} h1 h2 => by unfold le at *; omega, fun a b => by unfold le; omega⟩
theorem or_ok (a b : Int) {fu : Nat} (hf : 3 ≤ fu) : f_cmp_Or_int_ fu [a, b] = some (if a ≠ 0 then a else b) := by
  obtain ⟨k, rfl⟩ : ∃ k, fu = k + 3 := ⟨fu - 3, by omega⟩
  unfold f_cmp_Or_int_
  rw [lt_of]
  rw [f_cmp_Or_int__L5, cond_tt (show decide ((0 : Int) < (([a, b] : List Int).length : Int)) = true by simp)]
  show (bif a != 0 then some a else f_cmp_Or_int__L5 [a, b] _ (k + 2) (IntKind.i64.wrap (0 + 1))) = _
  by_cases ha : a = 0
  · rw [cond_ff (by rw [ha]; rfl), if_neg (by simpa using ha), show IntKind.i64.wrap ((0 : Int) + 1) = 1 by decide, f_cmp_Or_int__L5, cond_tt (show decide ((1 : Int) < (([a, b] : List Int).length : Int)) = true by simp)]
    show (bif b != 0 then some b else f_cmp_Or_int__L5 [a, b] _ (k + 1) (IntKind.i64.wrap (1 + 1))) = _
    by_cases hb : b = 0
    · rw [cond_ff (by rw [hb]; rfl), show IntKind.i64.wrap ((1 : Int) + 1) = 2 by decide, f_cmp_Or_int__L5, cond_ff (by simp), hb]
    · rw [cond_tt (by simpa using hb)]
  · rw [cond_tt (by simpa using ha), if_pos ha]
theorem cmp_ok {a b : T} (ha : Tb a) (hb : Tb b) {fu : Nat} (hf : 3 ≤ fu) : ∃ r, f_huff_Lengths_2 fu a b = some r ∧ (r ≤ 0 ↔ le a b) ∧ (r < 0 ↔ ¬ le b a) := by
  obtain ⟨⟨a1, a2⟩, ⟨a3, a4⟩⟩ := ha
  obtain ⟨⟨b1, b2⟩, ⟨b3, b4⟩⟩ := hb
  unfold f_huff_Lengths_2
  rw [w64 (x := a.weight - b.weight) (by omega) (by omega), w64 (x := a.least - b.least) (by omega) (by omega), or_ok _ _ hf, opt_of]
  refine ⟨_, rfl, ?_, ?_⟩ <;> unfold le <;> split <;> omega
theorem push_go (fu : Nat) (hf : 3 ≤ fu) : ∀ (k i : Nat) (l : List T), HU le l i → i < l.length → i < k → l.length ≤ 1000000 → (∀ t ∈ l, Tb t) → ∃ l', f___huff_heap_huff_tree___push_L7 fu k l (i : Int) = some ⟨l'⟩ ∧ l'.Perm l ∧ H le l'
  | 0, _, _, _, _, hk, _, _ => absurd hk (Nat.not_lt_zero _)
  | k + 1, i, l, hu, hi, hk, hl, hb => by
    rw [f___huff_heap_huff_tree___push_L7]
    by_cases h0 : i = 0
    · subst h0
      rw [cond_ff (by decide)]
      exact ⟨l, rfl, List.Perm.refl _, hu.zero⟩
    · have hp : IntKind.i64.wrap ((IntKind.i64.wrap ((i : Int) - 1)).tdiv 2) = (((i - 1) / 2 : Nat) : Int) := by
        rw [w64 (x := (i : Int) - 1) (by omega) (by omega), show (i : Int) - 1 = ((i - 1 : Nat) : Int) by omega, show ((i - 1 : Nat) : Int).tdiv 2 = (((i - 1) / 2 : Nat) : Int) from (Int.ofNat_tdiv (i - 1) 2).symm, w64 (by omega) (by omega)]
      have hpl : (i - 1) / 2 < l.length := by omega
      have hx := List.getElem?_eq_getElem hpl
      have hy := List.getElem?_eq_getElem hi
      obtain ⟨r, r1, r2, r3⟩ := cmp_ok (hb _ (List.getElem_mem hpl)) (hb _ (List.getElem_mem hi)) hf
      rw [cond_tt (decide_eq_true (show (i : Int) > 0 by omega)), hp, at_lt hpl, opt_of, at_lt hi, opt_of, r1, opt_of]
      by_cases hr : r ≤ 0
      · rw [cond_tt (decide_eq_true hr)]
        exact ⟨l, rfl, List.Perm.refl _, hu.stop (by omega) hx hy (r2.1 hr)⟩
      · have hle : le l[i] l[(i - 1) / 2] := (ord.total _ _).resolve_left fun h => hr (r2.2 h)
        have hs : (l.set ((i - 1) / 2) l[i])[i]? = some l[i] := by rw [List.getElem?_set, if_neg (by omega)]; exact hy
        rw [cond_ff (decide_eq_false hr), opt_of, opt_of, Int.toNat_natCast, at_of hs, opt_of, Int.toNat_natCast]
        have hpm := swap_perm hx hy
        obtain ⟨l', e1, e2, e3⟩ := push_go fu hf k ((i - 1) / 2) _ (hu.up ord (by omega) hx hy hle) (by rw [List.length_set, List.length_set]; omega) (by omega) (by rw [List.length_set, List.length_set]; omega) (fun t ht => hb t (hpm.mem_iff.1 ht))
        exact ⟨l', e1, e2.trans hpm, e3⟩
theorem push_ok (fu : Nat) (l : List T) (t : T) (h : H le l) (hl : l.length ≤ 999999) (hf : l.length + 3 ≤ fu) (hb : ∀ t ∈ l, Tb t) (ht : Tb t) : ∃ l', f___huff_heap_huff_tree___push fu ⟨l⟩ t = some ⟨l'⟩ ∧ l'.Perm (t :: l) ∧ H le l' := by
  unfold f___huff_heap_huff_tree___push
  dsimp only
  have e : IntKind.i64.wrap (((l ++ [t]).length : Int) - 1) = (l.length : Int) := by
    rw [List.length_append, List.length_singleton, w64 (by omega) (by omega)]; omega
  rw [req_pos (by rw [List.length_singleton]; omega), e]
  obtain ⟨l', e1, e2, e3⟩ := push_go fu (by omega) fu l.length (l ++ [t]) (H.snoc h) (by rw [List.length_append, List.length_singleton]; omega) (by omega) (by rw [List.length_append, List.length_singleton]; omega) (fun u hu => by
    rcases List.mem_append.1 hu with h | h
    · exact hb u h
    · rw [List.mem_singleton.1 h]; exact ht)
  exact ⟨l', e1, e2.trans (List.perm_append_comm (l₂ := [t])), e3⟩
theorem pick_step (a0 : D_huff_heap_huff_tree_) (m : List T) (i : Nat) (hn : a0.items.length = m.length + 1) (hm : m.length ≤ 1000000) (hi : i ≤ 1000000) (hb : ∀ t ∈ m, Tb t) (kk : Int → Option (T × D_huff_heap_huff_tree_)) (fu : Nat) (hf : 3 ≤ fu) (k q s : Nat) (hq : q < 2) (hs : 2 * i + 1 + q < m.length → s < m.length) :
    ∃ s' : Nat, f___huff_heap_huff_tree___pop_L50 a0 m (i : Int) kk fu (k + 1) (s : Int) (q : Int) = f___huff_heap_huff_tree___pop_L50 a0 m (i : Int) kk fu k (s' : Int) ((q + 1 : Nat) : Int) ∧
      ((s' = s ∧ ∀ x z, m[s]? = some x → m[2 * i + 1 + q]? = some z → le x z) ∨ (s' = 2 * i + 1 + q ∧ ∃ x z, m[s]? = some x ∧ m[s']? = some z ∧ le z x)) := by
  rw [f___huff_heap_huff_tree___pop_L50, cond_tt (decide_eq_true (show (q : Int) < 2 by omega)), lt_of, w64 (x := (2 : Int) * (i : Int)) (by omega) (by omega), w64 (x := (2 : Int) * (i : Int) + 1) (by omega) (by omega), w64 (x := (2 : Int) * (i : Int) + 2) (by omega) (by omega), wsucc (by omega)]
  have hat : at? (lA2i64 (A2i64.mk ((2 : Int) * (i : Int) + 1) ((2 : Int) * (i : Int) + 2))) (q : Int) = some ((2 * i + 1 + q : Nat) : Int) := by
    match q, hq with
    | 0, _ => show some ((2 : Int) * (i : Int) + 1) = _; congr 1
    | 1, _ => show some ((2 : Int) * (i : Int) + 2) = _; congr 1
  rw [hat, opt_of, lt_of, hn, w64 (x := ((m.length + 1 : Nat) : Int) - 1) (by omega) (by omega)]
  by_cases hc : 2 * i + 1 + q < m.length
  · have hsl := hs hc
    obtain ⟨r, r1, r2, r3⟩ := cmp_ok (hb _ (List.getElem_mem hc)) (hb _ (List.getElem_mem hsl)) hf
    rw [cond_tt (decide_eq_true (show ((2 * i + 1 + q : Nat) : Int) < ((m.length + 1 : Nat) : Int) - 1 by omega)), at_lt hc, opt_of, at_lt hsl, opt_of, r1, opt_of]
    dsimp only
    by_cases hr : r < 0
    · rw [cond_tt (decide_eq_true hr)]
      exact ⟨_, rfl, .inr ⟨rfl, _, _, List.getElem?_eq_getElem hsl, List.getElem?_eq_getElem hc, (ord.total _ _).resolve_right (r3.1 hr)⟩⟩
    · rw [cond_ff (decide_eq_false hr)]
      refine ⟨s, rfl, .inl ⟨rfl, fun x z hx hz => ?_⟩⟩
      rw [List.getElem?_eq_getElem hsl] at hx
      rw [List.getElem?_eq_getElem hc] at hz
      cases hx; cases hz
      exact Classical.byContradiction fun h => hr (r3.2 h)
  · rw [cond_ff (decide_eq_false (show ¬ ((2 * i + 1 + q : Nat) : Int) < ((m.length + 1 : Nat) : Int) - 1 by omega))]
    dsimp only
    rw [cond_ff rfl]
    refine ⟨s, rfl, .inl ⟨rfl, fun x z _ hz => ?_⟩⟩
    exact absurd (List.getElem?_eq_some_iff.1 hz).1 hc
theorem kids {c i : Nat} (h0 : 0 < c) (h : (c - 1) / 2 = i) : c = 2 * i + 1 ∨ c = 2 * i + 2 := by omega
theorem pick_ok (a0 : D_huff_heap_huff_tree_) (m : List T) (i : Nat) (hn : a0.items.length = m.length + 1) (hm : m.length ≤ 1000000) (hi : i ≤ m.length) (hb : ∀ t ∈ m, Tb t) (kk : Int → Option (T × D_huff_heap_huff_tree_)) (fu : Nat) (hf : 3 ≤ fu) :
    ∃ j : Nat, f___huff_heap_huff_tree___pop_L50 a0 m (i : Int) kk fu fu (i : Int) 0 = kk (j : Int) ∧
      ((j = i ∧ ∀ (c : Nat) (x z : T), 0 < c → (c - 1) / 2 = i → m[i]? = some x → m[c]? = some z → le x z) ∨
       (0 < j ∧ (j - 1) / 2 = i ∧ ∃ x y, m[i]? = some x ∧ m[j]? = some y ∧ le y x ∧ ∀ (c : Nat) (z : T), 0 < c → (c - 1) / 2 = i → m[c]? = some z → le y z)) := by
  obtain ⟨k, rfl⟩ : ∃ k, fu = k + 3 := ⟨fu - 3, by omega⟩
  obtain ⟨s1, e1, c1⟩ := pick_step a0 m i hn hm (by omega) hb kk (k + 3) hf (k + 2) 0 i (by omega) (by omega)
  obtain ⟨s2, e2, c2⟩ := pick_step a0 m i hn hm (by omega) hb kk (k + 3) hf (k + 1) 1 s1 (by omega) (by rcases c1 with ⟨rfl, -⟩ | ⟨rfl, -⟩ <;> omega)
  refine ⟨s2, ?_, ?_⟩
  · rw [show (0 : Int) = ((0 : Nat) : Int) from rfl, e1, e2, f___huff_heap_huff_tree___pop_L50, cond_ff (by decide)]
  · rw [show 2 * i + 1 + 0 = 2 * i + 1 from rfl] at c1
    rw [show 2 * i + 1 + 1 = 2 * i + 2 from rfl] at c2
    rcases c1 with ⟨rfl, h1⟩ | ⟨rfl, x, z, hx, hz, h1⟩
    · rcases c2 with ⟨rfl, h2⟩ | ⟨rfl, x, z, hx, hz, h2⟩
      · refine .inl ⟨rfl, fun c x z h0 hc hx hz => ?_⟩
        rcases kids h0 hc with rfl | rfl
        · exact h1 x z hx hz
        · exact h2 x z hx hz
      · refine .inr ⟨by omega, by omega, x, z, hx, hz, h2, fun c w h0 hc hw => ?_⟩
        rcases kids h0 hc with rfl | rfl
        · exact ord.trans h2 (h1 x w hx hw)
        · rw [hz] at hw; cases hw; exact ord.refl _
    · rcases c2 with ⟨rfl, h2⟩ | ⟨rfl, x', z', hx', hz', h2⟩
      · refine .inr ⟨by omega, by omega, x, z, hx, hz, h1, fun c w h0 hc hw => ?_⟩
        rcases kids h0 hc with rfl | rfl
        · rw [hz] at hw; cases hw; exact ord.refl _
        · exact h2 z w hz hw
      · rw [hz] at hx'
        cases hx'
        refine .inr ⟨by omega, by omega, x, z', hx, hz', ord.trans h2 h1, fun c w h0 hc hw => ?_⟩
        rcases kids h0 hc with rfl | rfl
        · rw [hz] at hw; cases hw; exact h2
        · rw [hz'] at hw; cases hw; exact ord.refl _
theorem pop_go (a0 : D_huff_heap_huff_tree_) (u : T) (fu : Nat) (hf : 3 ≤ fu) : ∀ (d k i : Nat) (m : List T), m.length - i = d → d < k → a0.items.length = m.length + 1 → m.length ≤ 1000000 → i ≤ m.length → (∀ t ∈ m, Tb t) → HD le m i →
    ∃ m', f___huff_heap_huff_tree___pop_L23 a0 u fu k m (i : Int) = some (u, ⟨m'⟩) ∧ m'.Perm m ∧ H le m'
  | _, 0, _, _, _, hk, _, _, _, _, _ => absurd hk (Nat.not_lt_zero _)
  | d, k + 1, i, m, hd, hk, hn, hm, hi, hb, hh => by
    rw [f___huff_heap_huff_tree___pop_L23, lt_of, lt_of]
    obtain ⟨j, e, hj⟩ := pick_ok a0 m i hn hm hi hb (fun (j25i6 : Int) => (bif (j25i6 == (i : Int)) then (some (u, (D_huff_heap_huff_tree_.mk m))) else (opt (at? m (i : Int)) fun (u28 : S_huff_tree) => (opt (at? m j25i6) fun (u34 : S_huff_tree) => (opt (at? m j25i6) fun (u40 : S_huff_tree) => (opt (at? (m.set (j25i6).toNat u28) (i : Int)) fun (u44 : S_huff_tree) => (f___huff_heap_huff_tree___pop_L23 a0 u fu k ((m.set (j25i6).toNat u28).set ((i : Int)).toNat u34) j25i6))))))) fu hf
    rw [e]
    rcases hj with ⟨rfl, hs⟩ | ⟨h0, hp, x, y, hx, hy, hle, hmin⟩
    · rw [cond_tt (by simp)]
      refine ⟨m, rfl, List.Perm.refl _, ?_⟩
      by_cases hjl : j < m.length
      · exact hh.stop (List.getElem?_eq_getElem hjl) fun c z h0 hc hz => hs c _ z h0 hc (List.getElem?_eq_getElem hjl) hz
      · intro c v w h0 hv hw
        by_cases hc : (c - 1) / 2 = j
        · exact hs c v w h0 hc (by rw [← hc]; exact hv) hw
        · exact hh.1 c v w h0 hc hv hw
    · have hjl := (List.getElem?_eq_some_iff.1 hy).1
      have hil := (List.getElem?_eq_some_iff.1 hx).1
      have hs : (m.set j x)[i]? = some x := by rw [List.getElem?_set, if_neg (by omega)]; exact hx
      rw [cond_ff (by rw [beq_eq_false_iff_ne]; omega), at_of hx, opt_of, at_of hy, opt_of, opt_of, Int.toNat_natCast, at_of hs, opt_of, Int.toNat_natCast]
      have hpm := swap_perm hy hx
      obtain ⟨m', f1, f2, f3⟩ := pop_go a0 u fu hf (m.length - j) k j ((m.set j x).set i y) (by rw [List.length_set, List.length_set]) (by omega) (by rw [List.length_set, List.length_set]; exact hn) (by rw [List.length_set, List.length_set]; exact hm) (by rw [List.length_set, List.length_set]; omega) (fun t ht => hb t (hpm.mem_iff.1 ht)) (hh.down ord h0 hp hx hy hle hmin)
      exact ⟨m', f1, f2.trans hpm, f3⟩
theorem pop_ok (l : List T) (h : H le l) (h0 : 0 < l.length) (hl : l.length ≤ 1000000) (fu : Nat) (hf : l.length + 3 ≤ fu) (hb : ∀ t ∈ l, Tb t) : ∃ r l', f___huff_heap_huff_tree___pop fu ⟨l⟩ = some (r, ⟨l'⟩) ∧ (r :: l').Perm l ∧ H le l' ∧ ∀ t ∈ l, le r t := by
  have hz := List.getElem?_eq_getElem h0
  have hn1 : l.length - 1 < l.length := by omega
  have hz1 := List.getElem?_eq_getElem hn1
  have hw : IntKind.i64.wrap ((l.length : Int) - 1) = ((l.length - 1 : Nat) : Int) := by rw [w64 (by omega) (by omega)]; omega
  unfold f___huff_heap_huff_tree___pop
  dsimp only
  rw [hw, show (0 : Int) = ((0 : Nat) : Int) from rfl, at_of hz, opt_of, at_of hz1, opt_of, opt_of, Int.toNat_natCast, Int.toNat_natCast, req_pos (by rw [List.length_set]; omega)]
  have hp := cut_perm (n := l.length - 1) (by omega) hz hz1
  have hlen : ((l.set 0 l[l.length - 1]).take (l.length - 1)).length = l.length - 1 := by rw [List.length_take, List.length_set]; omega
  obtain ⟨m', e1, e2, e3⟩ := pop_go ⟨l⟩ l[0] fu (by omega) ((l.set 0 l[l.length - 1]).take (l.length - 1)).length fu 0 _ (by omega) (by omega) (by rw [hlen]; show l.length = _; omega) (by omega) (Nat.zero_le _) (fun t ht => hb t (hp.mem_iff.1 (List.mem_cons_of_mem _ ht))) (H.cut h (by omega))
  refine ⟨_, m', e1, (List.Perm.cons _ e2).trans hp, e3, fun t ht => ?_⟩
  obtain ⟨i, hi, rfl⟩ := List.mem_iff_getElem.1 ht
  exact h.root ord hz i _ (List.getElem?_eq_getElem hi)
end Go.Proofs.YtfhifdmbdkkgaaaDoor.PHl
namespace Go.Proofs.YtfhifdmbdkkgaaaDoor.PHl
open Go.RowKit YtfhifdmbdkkgaaaDoor.En YtfhifdmbdkkgaaaDoor YtfhifdmbdkkgaaaDoor.HeapM
set_option linter.unusedVariables false
set_option linter.unusedSimpArgs false
abbrev B := S_lumref_bunch
def key (b : B) : Int := b.signs.headD 0
def leB (a b : B) : Prop := a.weight < b.weight ∨ (a.weight = b.weight ∧ key a ≤ key b)
theorem key_at {b : B} (h : b.signs ≠ []) : at? b.signs (0 : Int) = some (key b) := by
  unfold key
  cases hb : b.signs with
  | nil => exact absurd hb h
  | cons a t => rfl
theorem least_go (l : List B) (hl : l.length ≤ 1000000) (hne : ∀ b ∈ l, b.signs ≠ []) (kk : Int → Option (B × List B)) : ∀ (d k i j : Nat), l.length - i = d → d < k → i ≤ l.length → j < l.length → (∀ (c : Nat) (x y : B), c < i → l[c]? = some x → l[j]? = some y → leB y x) →
    ∃ j' : Nat, j' < l.length ∧ f_lumref_least_L29 l kk k (i : Int) (j : Int) = kk (j' : Int) ∧ ∀ (c : Nat) (x y : B), l[c]? = some x → l[j']? = some y → leB y x
  | _, 0, _, _, _, hk, _, _, _ => absurd hk (Nat.not_lt_zero _)
  | d, k + 1, i, j, hd, hk, hi, hj, hm => by
    rw [f_lumref_least_L29]
    by_cases h : i < l.length
    · have hyi := List.getElem?_eq_getElem h
      have hyj := List.getElem?_eq_getElem hj
      rw [cond_tt (dlt (by omega)), lt_of, at_lt h, opt_of, lt_of, at_lt hj, opt_of, opt_of, wsucc (by omega)]
      have hstay : leB l[j] l[i] → ∃ j' : Nat, j' < l.length ∧ f_lumref_least_L29 l kk k ((i + 1 : Nat) : Int) (j : Int) = kk (j' : Int) ∧ ∀ (c : Nat) (x y : B), l[c]? = some x → l[j']? = some y → leB y x := fun hle =>
        least_go l hl hne kk (d - 1) k (i + 1) j (by omega) (by omega) (by omega) hj fun c x y hc hx hy => by
          rcases Nat.lt_or_eq_of_le (Nat.le_of_lt_succ hc) with h1 | h1
          · exact hm c x y h1 hx hy
          · subst h1; rw [hyi] at hx; rw [hyj] at hy; cases hx; cases hy; exact hle
      have hmove : leB l[i] l[j] → ∃ j' : Nat, j' < l.length ∧ f_lumref_least_L29 l kk k ((i + 1 : Nat) : Int) (i : Int) = kk (j' : Int) ∧ ∀ (c : Nat) (x y : B), l[c]? = some x → l[j']? = some y → leB y x := fun hle =>
        least_go l hl hne kk (d - 1) k (i + 1) i (by omega) (by omega) (by omega) h fun c x y hc hx hy => by
          rw [hyi] at hy; cases hy
          rcases Nat.lt_or_eq_of_le (Nat.le_of_lt_succ hc) with h1 | h1
          · have := hm c x _ h1 hx hyj
            unfold leB at *; omega
          · subst h1; rw [hyi] at hx; cases hx; exact .inr ⟨rfl, Int.le_refl _⟩
      by_cases h1 : l[i].weight < l[j].weight
      · rw [cond_tt (decide_eq_true h1)]
        dsimp only
        rw [cond_tt rfl]
        exact hmove (.inl h1)
      · rw [cond_ff (decide_eq_false h1)]
        by_cases h2 : l[i].weight = l[j].weight
        · rw [cond_tt (by rw [h2]; exact beq_self_eq_true _), key_at (hne _ (List.getElem_mem h)), opt_of, opt_of, key_at (hne _ (List.getElem_mem hj)), opt_of]
          dsimp only
          by_cases h3 : key l[i] < key l[j]
          · rw [cond_tt (decide_eq_true h3)]
            exact hmove (.inr ⟨h2, by omega⟩)
          · rw [cond_ff (decide_eq_false h3)]
            exact hstay (.inr ⟨h2.symm, by omega⟩)
        · rw [cond_ff (by rw [beq_eq_false_iff_ne]; exact h2)]
          dsimp only
          rw [cond_ff rfl]
          exact hstay (.inl (by omega))
    · rw [cond_ff (dge (by omega))]
      refine ⟨j, hj, rfl, fun c x y hx hy => hm c x y ?_ hx hy⟩
      have := (List.getElem?_eq_some_iff.1 hx).1
      omega
theorem others_go (l : List B) (hl : l.length ≤ 1000000) (j : Nat) (kk : List B → Option (B × List B)) : ∀ (d k i : Nat) (out : List B), l.length - i = d → d < k → i ≤ l.length → out = (l.take i).eraseIdx j →
    f_lumref_least_L13 l (j : Int) kk k out (i : Int) = kk (l.eraseIdx j)
  | _, 0, _, _, _, hk, _, _ => absurd hk (Nat.not_lt_zero _)
  | d, k + 1, i, out, hd, hk, hi, ho => by
    rw [f_lumref_least_L13]
    by_cases h : i < l.length
    · have hol : out.length ≤ 1000000 := by
        rw [ho]; exact Nat.le_trans (List.length_eraseIdx_le _ _) (by rw [List.length_take]; omega)
      rw [cond_tt (dlt (by omega)), lt_of, at_lt h, opt_of, wsucc (by omega)]
      have ht : l.take (i + 1) = l.take i ++ [l[i]] := by rw [List.take_add_one, List.getElem?_eq_getElem h]; rfl
      have htl : (l.take i).length = i := by rw [List.length_take]; omega
      by_cases hij : i = j
      · subst hij
        rw [cond_ff (by simp)]
        refine others_go l hl i kk (d - 1) k (i + 1) out (by omega) (by omega) (by omega) ?_
        rw [ho, ht, List.eraseIdx_append_of_length_le (by omega), htl, Nat.sub_self, List.eraseIdx_of_length_le (by omega)]
        simp
      · rw [cond_tt (show ((i : Int) != (j : Int)) = true by rw [bne_iff_ne]; omega), req_pos (by rw [List.length_singleton]; omega)]
        refine others_go l hl j kk (d - 1) k (i + 1) (out ++ [l[i]]) (by omega) (by omega) (by omega) ?_
        rw [ho, ht]
        by_cases hlt : j < i
        · rw [List.eraseIdx_append_of_lt_length (by omega)]
        · rw [List.eraseIdx_append_of_length_le (by omega), List.eraseIdx_of_length_le (by omega), List.eraseIdx_of_length_le (by rw [htl, List.length_singleton]; omega)]
    · rw [cond_ff (dge (by omega)), ho, List.take_of_length_le (by omega)]
theorem erase_perm {α : Type} : ∀ (l : List α) (j : Nat) (h : j < l.length), (l[j] :: l.eraseIdx j).Perm l
  | a :: t, 0, _ => List.Perm.refl _
  | a :: t, j + 1, h => by
    rw [List.getElem_cons_succ, List.eraseIdx_cons_succ]
    exact (List.Perm.swap _ _ _).trans (List.Perm.cons a (erase_perm t j (by rw [List.length_cons] at h; omega)))
theorem least_ok (l : List B) (h0 : 0 < l.length) (hl : l.length ≤ 1000000) (hne : ∀ b ∈ l, b.signs ≠ []) (fu : Nat) (hf : l.length < fu) : ∃ r l', f_lumref_least fu l = some (r, l') ∧ (r :: l').Perm l ∧ ∀ b ∈ l, leB r b := by
  obtain ⟨j, j1, j2, j3⟩ := least_go l hl hne (fun (j2i4 : Int) => (lt (fun (j4x7 : (List S_lumref_bunch)) => (opt (at? l j2i4) fun (u6 : S_lumref_bunch) => (some (u6, j4x7)))) fun (kk5 : (List S_lumref_bunch) → Option (S_lumref_bunch × (List S_lumref_bunch))) => (f_lumref_least_L13 l j2i4 kk5 fu ([] : List S_lumref_bunch) (0 : Int)))) l.length fu 0 0 rfl hf (Nat.zero_le _) h0 (fun c _ _ hc => absurd hc (Nat.not_lt_zero _))
  unfold f_lumref_least
  rw [lt_of]
  refine ⟨l[j], l.eraseIdx j, ?_, ?_, fun b hb => ?_⟩
  · refine j2.trans ?_
    rw [lt_of]
    refine (others_go l hl j _ l.length fu 0 [] rfl hf (Nat.zero_le _) (by simp)).trans ?_
    rw [at_lt j1]
    rfl
  · exact (erase_perm l j j1)
  · obtain ⟨i, hi, rfl⟩ := List.mem_iff_getElem.1 hb
    exact j3 i _ _ (List.getElem?_eq_getElem hi) (List.getElem?_eq_getElem j1)
end Go.Proofs.YtfhifdmbdkkgaaaDoor.PHl
namespace Go.Proofs.YtfhifdmbdkkgaaaDoor.PHl
open Go.RowKit YtfhifdmbdkkgaaaDoor.En YtfhifdmbdkkgaaaDoor YtfhifdmbdkkgaaaDoor.HeapM
set_option linter.unusedVariables false
set_option linter.unusedSimpArgs false
def sumW : List B → Int
  | [] => 0
  | b :: l => b.weight + sumW l
theorem sumW_perm {l m : List B} (h : l.Perm m) : sumW l = sumW m := by
  induction h with
  | nil => rfl
  | cons x _ ih => simp only [sumW, ih]
  | swap x y l => simp only [sumW]; omega
  | trans _ _ h1 h2 => rw [h1, h2]
structure Mt (n : Nat) (t : T) (b : B) : Prop where
  w : t.weight = b.weight
  pos : 0 ≤ b.weight
  least : t.least = key b
  ne : b.signs ≠ []
  mem : ∀ x, x ∈ t.symbols ↔ x ∈ b.signs
  nd : t.symbols.Nodup
  min : ∀ x ∈ b.signs, key b ≤ x
  rng : ∀ x ∈ b.signs, 0 ≤ x ∧ x < (n : Int)
theorem key_mem {b : B} (h : b.signs ≠ []) : key b ∈ b.signs := by
  unfold key
  cases hb : b.signs with
  | nil => exact absurd hb h
  | cons a t => exact List.mem_cons_self
structure Rl (n : Nat) (ps : List (T × B)) (ts : List T) (bs : List B) : Prop where
  fst : (ps.map Prod.fst).Perm ts
  snd : (ps.map Prod.snd).Perm bs
  mt : ∀ p ∈ ps, Mt n p.1 p.2
  nd : (bs.flatMap (fun b => b.signs)).Nodup
  sum : sumW bs ≤ 1099511627776
theorem nd_perm {l m : List B} (h : l.Perm m) (hn : (l.flatMap (fun b => b.signs)).Nodup) : (m.flatMap (fun b => b.signs)).Nodup := (h.flatMap_right _).nodup_iff.1 hn
theorem sum_le : ∀ {l : List B} {b : B}, (∀ c ∈ l, 0 ≤ c.weight) → b ∈ l → b.weight ≤ sumW l
  | c :: l, b, h, hb => by
    have h0 : 0 ≤ sumW l := by
      have : ∀ l : List B, (∀ c ∈ l, 0 ≤ c.weight) → 0 ≤ sumW l := fun l => by
        induction l with
        | nil => intro _; exact Int.le_refl _
        | cons a l ih => intro h; have h1 := h a List.mem_cons_self; have h2 := ih fun c hc => h c (List.mem_cons_of_mem _ hc); simp only [sumW]; omega
      exact this l fun c hc => h c (List.mem_cons_of_mem _ hc)
    rcases List.mem_cons.1 hb with rfl | hb
    · simp only [sumW]; omega
    · have h1 := h c List.mem_cons_self
      have h2 := sum_le (fun c hc => h c (List.mem_cons_of_mem _ hc)) hb
      simp only [sumW]; omega
theorem Rl.bmem {n : Nat} {ps : List (T × B)} {ts : List T} {bs : List B} (h : Rl n ps ts bs) {b : B} (hb : b ∈ bs) : ∃ t, (t, b) ∈ ps ∧ t ∈ ts := by
  obtain ⟨p, hp, rfl⟩ := List.mem_map.1 (h.snd.mem_iff.2 hb)
  exact ⟨p.1, hp, h.fst.mem_iff.1 (List.mem_map.2 ⟨p, hp, rfl⟩)⟩
theorem Rl.tmem {n : Nat} {ps : List (T × B)} {ts : List T} {bs : List B} (h : Rl n ps ts bs) {t : T} (ht : t ∈ ts) : ∃ b, (t, b) ∈ ps ∧ b ∈ bs := by
  obtain ⟨p, hp, rfl⟩ := List.mem_map.1 (h.fst.mem_iff.2 ht)
  exact ⟨p.2, hp, h.snd.mem_iff.1 (List.mem_map.2 ⟨p, hp, rfl⟩)⟩
theorem Rl.ne {n : Nat} {ps : List (T × B)} {ts : List T} {bs : List B} (h : Rl n ps ts bs) : ∀ b ∈ bs, b.signs ≠ [] := fun b hb => by
  obtain ⟨t, h1, -⟩ := h.bmem hb; exact (h.mt _ h1).ne
theorem Rl.tb {n : Nat} (hn : n ≤ 1000) {ps : List (T × B)} {ts : List T} {bs : List B} (h : Rl n ps ts bs) : ∀ t ∈ ts, Tb t := fun t ht => by
  obtain ⟨b, h1, h2⟩ := h.tmem ht
  have hm := h.mt _ h1
  have hw := sum_le (l := bs) (fun c hc => by obtain ⟨u, h3, -⟩ := h.bmem hc; exact (h.mt _ h3).pos) h2
  have hs := h.sum
  have hr := hm.rng _ (key_mem hm.ne)
  have e1 := hm.w; have e2 := hm.least; have e3 := hm.pos
  dsimp only at e1 e2 e3 hr
  exact ⟨⟨by omega, by omega⟩, ⟨by omega, by omega⟩⟩
theorem Rl.len {n : Nat} {ps : List (T × B)} {ts : List T} {bs : List B} (h : Rl n ps ts bs) : ts.length = bs.length := by
  rw [← h.fst.length_eq, ← h.snd.length_eq, List.length_map, List.length_map]
theorem Rl.pop {n : Nat} {ps : List (T × B)} {ts ts' : List T} {bs bs' : List B} {t : T} {b : B} (h : Rl n ps ts bs) (ht : (t :: ts').Perm ts) (hb : (b :: bs').Perm bs) (htm : ∀ u ∈ ts, le t u) (hbm : ∀ c ∈ bs, leB b c) :
    ∃ ps', Mt n t b ∧ Rl n ps' ts' bs' ∧ ((b :: bs').flatMap (fun b => b.signs)).Nodup ∧ sumW (b :: bs') ≤ 1099511627776 := by
  have hbb := hb.mem_iff.1 (List.mem_cons_self (a := b) (l := bs'))
  have htt := ht.mem_iff.1 (List.mem_cons_self (a := t) (l := ts'))
  obtain ⟨c, hp, hc⟩ := h.tmem htt
  obtain ⟨u, hq, hu⟩ := h.bmem hbb
  have m1 := h.mt _ hp
  have m2 := h.mt _ hq
  have hbc : b = c := by
    have l1 := htm u hu
    have l2 := hbm c hc
    have a1 := m1.w; have a2 := m1.least; have a3 := m2.w; have a4 := m2.least
    dsimp only at a1 a2 a3 a4
    have hk : key b = key c := by unfold le at l1; unfold leB at l2; omega
    refine Classical.byContradiction fun hne => ?_
    have hc2 : c ∈ bs' := by
      rcases List.mem_cons.1 (hb.mem_iff.2 hc) with e | e
      · exact absurd e.symm hne
      · exact e
    have hnd := nd_perm hb.symm h.nd
    rw [List.flatMap_cons, List.nodup_append] at hnd
    exact hnd.2.2 (key b) (key_mem (h.ne b hbb)) (key c) (List.mem_flatMap.2 ⟨c, hc2, key_mem (h.ne c hc)⟩) hk
  subst hbc
  obtain ⟨s1, s2, rfl⟩ := List.mem_iff_append.1 hp
  have hpm : (s1 ++ (t, b) :: s2).Perm ((t, b) :: (s1 ++ s2)) := List.perm_middle
  have hS := sumW_perm hb
  refine ⟨s1 ++ s2, m1, ⟨?_, ?_, fun p hp' => h.mt p ?_, ?_, ?_⟩, nd_perm hb.symm h.nd, by rw [hS]; exact h.sum⟩
  · have := ((hpm.map Prod.fst).symm.trans h.fst).trans ht.symm
    rw [List.map_cons] at this
    exact this.cons_inv
  · have := ((hpm.map Prod.snd).symm.trans h.snd).trans hb.symm
    rw [List.map_cons] at this
    exact this.cons_inv
  · exact hpm.mem_iff.2 (List.mem_cons_of_mem _ hp')
  · have hnd := nd_perm hb.symm h.nd
    rw [List.flatMap_cons, List.nodup_append] at hnd
    exact hnd.2.1
  · have h1 := h.sum
    have h2 : 0 ≤ b.weight := m1.pos
    rw [← hS] at h1
    simp only [sumW] at h1
    omega
end Go.Proofs.YtfhifdmbdkkgaaaDoor.PHl
namespace Go.Proofs.YtfhifdmbdkkgaaaDoor.PHl
open Go.RowKit YtfhifdmbdkkgaaaDoor.En YtfhifdmbdkkgaaaDoor YtfhifdmbdkkgaaaDoor.HeapM
set_option linter.unusedVariables false
set_option linter.unusedSimpArgs false
def inc (out : List Int) (s : Int) : List Int := out.set s.toNat (out.getD s.toNat 0 + 1)
def incs (out : List Int) : List Int → List Int
  | [] => out
  | s :: r => incs (inc out s) r
theorem inc_len (out : List Int) (s : Int) : (inc out s).length = out.length := List.length_set
theorem incs_len : ∀ (r out : List Int), (incs out r).length = out.length
  | [], _ => rfl
  | s :: r, out => by rw [incs, incs_len r, inc_len]
theorem inc_at (out : List Int) {s : Int} (h0 : 0 ≤ s) (k : Nat) : (inc out s)[k]? = (out[k]?).map fun v => if (k : Int) = s then v + 1 else v := by
  unfold inc
  rw [List.getElem?_set]
  by_cases h : s.toNat = k
  · have hk : (k : Int) = s := by omega
    subst h
    rw [if_pos rfl]
    by_cases hl : s.toNat < out.length
    · rw [if_pos hl, List.getElem?_eq_getElem hl, Option.map_some, if_pos hk, List.getD_eq_getElem?_getD, List.getElem?_eq_getElem hl]; rfl
    · rw [if_neg hl, List.getElem?_eq_none (by omega)]; rfl
  · rw [if_neg h]
    have hk : ¬ (k : Int) = s := by omega
    cases out[k]? with
    | none => rfl
    | some v => rw [Option.map_some, if_neg hk]
theorem incs_at : ∀ (r out : List Int), r.Nodup → (∀ s ∈ r, 0 ≤ s) → ∀ k : Nat, (incs out r)[k]? = (out[k]?).map fun v => if (k : Int) ∈ r then v + 1 else v
  | [], out, _, _, k => by rw [incs]; cases out[k]? <;> simp
  | s :: r, out, hn, h0, k => by
    obtain ⟨h1, h2⟩ := List.nodup_cons.1 hn
    rw [incs, incs_at r _ h2 (fun u hu => h0 u (List.mem_cons_of_mem _ hu)), inc_at out (h0 s List.mem_cons_self)]
    cases out[k]? with
    | none => rfl
    | some v =>
      simp only [Option.map_some]
      by_cases hk : (k : Int) = s
      · rw [if_pos hk, if_neg (by rw [hk]; exact h1), if_pos (by rw [hk]; exact List.mem_cons_self)]
      · rw [if_neg hk]
        by_cases hm : (k : Int) ∈ r
        · rw [if_pos hm, if_pos (List.mem_cons_of_mem _ hm)]
        · rw [if_neg hm, if_neg (by rw [List.mem_cons]; exact fun h => h.elim hk hm)]
theorem incs_eq {r r' out : List Int} (h : r.Nodup) (h' : r'.Nodup) (h0 : ∀ s ∈ r, 0 ≤ s) (hm : ∀ x, x ∈ r ↔ x ∈ r') : incs out r = incs out r' := by
  apply List.ext_getElem?
  intro k
  rw [incs_at r out h h0, incs_at r' out h' (fun s hs => h0 s ((hm s).2 hs))]
  congr 1
  funext v
  by_cases hk : (k : Int) ∈ r
  · rw [if_pos hk, if_pos ((hm _).1 hk)]
  · rw [if_neg hk, if_neg (fun e => hk ((hm _).2 e))]
theorem incs_mem {r out : List Int} (h : r.Nodup) (h0 : ∀ s ∈ r, 0 ≤ s) {c : Int} (hc : ∀ v ∈ out, 0 ≤ v ∧ v ≤ c) : ∀ v ∈ incs out r, 0 ≤ v ∧ v ≤ c + 1 := fun v hv => by
  obtain ⟨k, hk, rfl⟩ := List.mem_iff_getElem.1 hv
  have h1 := incs_at r out h h0 k
  rw [List.getElem?_eq_getElem hk] at h1
  have hk2 : k < out.length := by rw [incs_len] at hk; exact hk
  rw [List.getElem?_eq_getElem hk2, Option.map_some] at h1
  have h2 := hc _ (List.getElem_mem hk2)
  rw [Option.some.inj h1]
  split <;> omega
theorem inc_step {out : List Int} {s : Int} (h0 : 0 ≤ s) (hl : s < (out.length : Int)) {c : Int} (hc : ∀ v ∈ out, 0 ≤ v ∧ v ≤ c) (h9 : c ≤ 1000000000) : ∃ v, at? out s = some v ∧ out.set s.toNat (IntKind.i64.wrap (v + 1)) = inc out s ∧ ∀ v ∈ inc out s, 0 ≤ v ∧ v ≤ c + 1 := by
  obtain ⟨k, rfl⟩ := Int.eq_ofNat_of_zero_le h0
  have hk : k < out.length := by omega
  have hb := hc _ (List.getElem_mem hk)
  have hg : out.getD k 0 = out[k] := by rw [List.getD_eq_getElem?_getD, List.getElem?_eq_getElem hk]; rfl
  refine ⟨out[k], at_lt hk, ?_, fun v hv => ?_⟩
  · unfold inc; rw [Int.toNat_natCast, hg, w64 (x := out[k] + 1) (by omega) (by omega)]
  · unfold inc at hv
    rw [Int.toNat_natCast, hg] at hv
    rcases List.mem_or_eq_of_mem_set hv with h | h
    · have := hc v h; omega
    · omega
theorem code_incs (r : List Int) (hr : r.length ≤ 1000000) (kk : List Int → Option (List Int × Int)) : ∀ (d k j : Nat) (out : List Int) (c : Int), r.length - j = d → d < k → j ≤ r.length → (∀ s ∈ r, 0 ≤ s ∧ s < (out.length : Int)) → (∀ v ∈ out, 0 ≤ v ∧ v ≤ c) → c ≤ 1000 + j →
    f_huff_Lengths_L40 r kk k out (j : Int) = kk (incs out (r.drop j))
  | _, 0, _, _, _, _, hk, _, _, _, _ => absurd hk (Nat.not_lt_zero _)
  | d, k + 1, j, out, c, hd, hk, hj, hs, hv, hc => by
    rw [f_huff_Lengths_L40]
    by_cases h : j < r.length
    · obtain ⟨s1, s2⟩ := hs _ (List.getElem_mem h)
      obtain ⟨v, v1, v2, v3⟩ := inc_step s1 s2 hv (by omega)
      rw [cond_tt (dlt (by omega)), at_lt h, opt_of, v1, opt_of, opt_of, v2, wsucc (by omega), code_incs r hr kk (d - 1) k (j + 1) (inc out r[j]) (c + 1) (by omega) (by omega) (by omega) (by rw [inc_len]; exact hs) v3 (by omega), List.drop_eq_getElem_cons h]
      rfl
    · rw [cond_ff (dge (by omega)), List.drop_eq_nil_of_le (by omega)]
      rfl
theorem has_go (l : List Int) (x : Int) (hl : l.length ≤ 1000000) (kk : Unit → Option Bool) : ∀ (d k j : Nat), l.length - j = d → d < k → j ≤ l.length → f_lumref_has_L5 l x kk k (j : Int) = if x ∈ l.drop j then some true else kk ()
  | _, 0, _, _, hk, _ => absurd hk (Nat.not_lt_zero _)
  | d, k + 1, j, hd, hk, hj => by
    rw [f_lumref_has_L5]
    by_cases h : j < l.length
    · rw [cond_tt (dlt (by omega)), at_lt h, opt_of, List.drop_eq_getElem_cons h]
      by_cases he : l[j] = x
      · rw [cond_tt (by rw [he]; exact beq_self_eq_true _), if_pos (by rw [he]; exact List.mem_cons_self)]
      · rw [cond_ff (by rw [beq_eq_false_iff_ne]; exact he), wsucc (by omega), has_go l x hl kk (d - 1) k (j + 1) (by omega) (by omega) (by omega)]
        by_cases hm : x ∈ l.drop (j + 1)
        · rw [if_pos hm, if_pos (List.mem_cons_of_mem _ hm)]
        · rw [if_neg hm, if_neg (by rw [List.mem_cons]; exact fun e => e.elim (fun e => he e.symm) hm)]
    · rw [cond_ff (dge (by omega)), List.drop_eq_nil_of_le (by omega), if_neg List.not_mem_nil]
theorem has_ok (l : List Int) (x : Int) (hl : l.length ≤ 1000000) (fu : Nat) (hf : l.length < fu) : f_lumref_has fu l x = some (decide (x ∈ l)) := by
  unfold f_lumref_has
  rw [lt_of]
  have := has_go l x hl (fun _ => some false) l.length fu 0 rfl hf (Nat.zero_le _)
  rw [List.drop_zero] at this
  refine this.trans ?_
  by_cases h : x ∈ l
  · rw [if_pos h, decide_eq_true h]
  · rw [if_neg h, decide_eq_false h]
end Go.Proofs.YtfhifdmbdkkgaaaDoor.PHl
namespace Go.Proofs.YtfhifdmbdkkgaaaDoor.PHl
open Go.RowKit YtfhifdmbdkkgaaaDoor.En YtfhifdmbdkkgaaaDoor YtfhifdmbdkkgaaaDoor.HeapM
set_option linter.unusedVariables false
set_option linter.unusedSimpArgs false
def badB (x : Int) : Bool := decide (x < 0) || decide (x > 1048576)
theorem bad_ok (fu : Nat) (x : Int) : f_huff_Lengths_1 fu x = some (badB x) := by
  unfold f_huff_Lengths_1 badB
  rw [lt_of]
  by_cases h : x < 0
  · rw [cond_tt (decide_eq_true h), decide_eq_true h]; rfl
  · rw [cond_ff (decide_eq_false h), decide_eq_false h]; rfl
theorem idx_go (l : List Int) (hl : l.length ≤ 1000000) (fu : Nat) (kk : Unit → Option Int) : ∀ (d k j : Nat), l.length - j = d → d < k → j ≤ l.length →
    ((l.drop j).any badB = true → ∃ r, 0 ≤ r ∧ f_slices_IndexFunc___int_int__F87_L5 l kk fu k (j : Int) = some r) ∧ ((l.drop j).any badB = false → f_slices_IndexFunc___int_int__F87_L5 l kk fu k (j : Int) = kk ())
  | _, 0, _, _, hk, _ => absurd hk (Nat.not_lt_zero _)
  | d, k + 1, j, hd, hk, hj => by
    rw [f_slices_IndexFunc___int_int__F87_L5]
    by_cases h : j < l.length
    · have ih := idx_go l hl fu kk (d - 1) k (j + 1) (by omega) (by omega) (by omega)
      rw [cond_tt (dlt (by omega)), at_lt h, opt_of, bad_ok, opt_of, List.drop_eq_getElem_cons h, List.any_cons, wsucc (by omega)]
      cases hb : badB l[j] with
      | true => exact ⟨fun _ => ⟨_, Int.natCast_nonneg j, rfl⟩, fun h => by simp at h⟩
      | false => exact ih
    · rw [cond_ff (dge (by omega)), List.drop_eq_nil_of_le (by omega)]
      exact ⟨fun h => by simp at h, fun _ => rfl⟩
theorem contains_ok (l : List Int) (hl : l.length ≤ 1000000) (fu : Nat) (hf : l.length < fu) : f_slices_ContainsFunc___int_int__F87 fu l = some (l.any badB) := by
  unfold f_slices_ContainsFunc___int_int__F87 f_slices_IndexFunc___int_int__F87
  rw [lt_of]
  obtain ⟨h1, h2⟩ := idx_go l hl fu (fun _ => some (-1 : Int)) l.length fu 0 rfl hf (Nat.zero_le _)
  rw [List.drop_zero] at h1 h2
  show opt (f_slices_IndexFunc___int_int__F87_L5 l (fun _ => some (-1 : Int)) fu fu ((0 : Nat) : Int)) _ = _
  cases hb : l.any badB with
  | true => obtain ⟨r, r0, e⟩ := h1 hb; rw [e, opt_of, decide_eq_true (show r ≥ 0 from r0)]
  | false => rw [h2 hb, opt_of]; rfl
theorem grow_nil (fu n : Nat) (h : n ≤ 1000000) : f_slices_Grow___int_int__nil fu (n : Int) = some [] := by
  unfold f_slices_Grow___int_int__nil
  have hz : IntKind.i64.wrap (((0 : Nat) : Int) - ((0 : Nat) : Int)) = 0 := by decide
  have hn : IntKind.i64.wrap ((n : Int) - 0) = (n : Int) := by rw [w64 (by omega) (by omega)]; omega
  rw [cond_ff (dge (Int.natCast_nonneg n)), lt_of, hz, hn]
  by_cases h0 : 0 < n
  · rw [cond_tt (decide_eq_true (show (n : Int) > 0 by omega)), req_pos (by omega), req_pos (by simp)]
    simp
  · rw [cond_ff (decide_eq_false (by omega))]
theorem cat_sum (a b : List Int) (h : a.length + b.length ≤ 1000000) (kk : Int → Option (List Int)) (fu : Nat) (hf : 3 ≤ fu) : f_slices_Concat___int_int__L20 [a, b] kk fu 0 0 = kk ((a.length + b.length : Nat) : Int) := by
  obtain ⟨k, rfl⟩ : ∃ k, fu = k + 3 := ⟨fu - 3, by omega⟩
  have e1 : IntKind.i64.wrap ((0 : Int) + (a.length : Int)) = (a.length : Int) := by rw [w64 (by omega) (by omega)]; omega
  have e2 : IntKind.i64.wrap ((a.length : Int) + (b.length : Int)) = ((a.length + b.length : Nat) : Int) := by rw [w64 (by omega) (by omega)]; omega
  rw [f_slices_Concat___int_int__L20, cond_tt (by simp), show at? [a, b] (0 : Int) = some a from rfl, opt_of, e1, cond_ff (decide_eq_false (by omega)), show IntKind.i64.wrap ((0 : Int) + 1) = 1 by decide, f_slices_Concat___int_int__L20, cond_tt (by simp), show at? [a, b] (1 : Int) = some b from rfl, opt_of, e2, cond_ff (decide_eq_false (by omega)), show IntKind.i64.wrap ((1 : Int) + 1) = 2 by decide, f_slices_Concat___int_int__L20, cond_ff (by simp)]
theorem cat_app (a b : List Int) (h : a.length + b.length ≤ 1000000) (kk : List Int → Option (List Int)) (fu : Nat) (hf : 3 ≤ fu) : f_slices_Concat___int_int__L10 [a, b] kk fu [] 0 = kk (a ++ b) := by
  obtain ⟨k, rfl⟩ : ∃ k, fu = k + 3 := ⟨fu - 3, by omega⟩
  rw [f_slices_Concat___int_int__L10, cond_tt (by simp), show at? [a, b] (0 : Int) = some a from rfl, opt_of, req_pos (by simp; omega), List.nil_append, show IntKind.i64.wrap ((0 : Int) + 1) = 1 by decide, f_slices_Concat___int_int__L10, cond_tt (by simp), show at? [a, b] (1 : Int) = some b from rfl, opt_of, req_pos (by omega), show IntKind.i64.wrap ((1 : Int) + 1) = 2 by decide, f_slices_Concat___int_int__L10, cond_ff (by simp)]
theorem concat_ok (a b : List Int) (h : a.length + b.length ≤ 1000000) (fu : Nat) (hf : 3 ≤ fu) : f_slices_Concat___int_int_ fu [a, b] = some (a ++ b) := by
  unfold f_slices_Concat___int_int_
  rw [lt_of, cat_sum a b h _ fu hf, grow_nil fu _ h, opt_of, lt_of, cat_app a b h _ fu hf]
def picks (A C : List Int) : Nat → Nat → List Int
  | 0, _ => []
  | d + 1, i => if (i : Int) ∈ A ∨ (i : Int) ∈ C then (i : Int) :: picks A C d (i + 1) else picks A C d (i + 1)
theorem picks_mem (A C : List Int) : ∀ (d i : Nat) (x : Int), x ∈ picks A C d i ↔ (i : Int) ≤ x ∧ x < ((i + d : Nat) : Int) ∧ (x ∈ A ∨ x ∈ C)
  | 0, i, x => by simp only [picks, List.not_mem_nil, false_iff]; omega
  | d + 1, i, x => by
    have ih := picks_mem A C d (i + 1) x
    rw [picks]
    by_cases hx : x = (i : Int)
    · subst hx
      split
      · rename_i h; exact ⟨fun _ => ⟨Int.le_refl _, by omega, h⟩, fun _ => List.mem_cons_self⟩
      · rename_i h; rw [ih]; exact ⟨fun e => absurd e.1 (by omega), fun e => absurd e.2.2 h⟩
    · split
      · rw [List.mem_cons, ih]
        exact ⟨fun e => e.elim (fun e => absurd e hx) (fun e => ⟨by omega, by omega, e.2.2⟩), fun e => .inr ⟨by omega, by omega, e.2.2⟩⟩
      · rw [ih]; exact ⟨fun e => ⟨by omega, by omega, e.2.2⟩, fun e => ⟨by omega, by omega, e.2.2⟩⟩
theorem picks_lt (A C : List Int) : ∀ (d i : Nat), (picks A C d i).Pairwise (· < ·)
  | 0, i => List.Pairwise.nil
  | d + 1, i => by
    rw [picks]
    split
    · exact List.Pairwise.cons (fun x hx => by have := ((picks_mem A C d (i + 1) x).1 hx).1; omega) (picks_lt A C d (i + 1))
    · exact picks_lt A C d (i + 1)
theorem picks_len (A C : List Int) : ∀ (d i : Nat), (picks A C d i).length ≤ d
  | 0, i => Nat.le_refl _
  | d + 1, i => by
    have := picks_len A C d (i + 1)
    rw [picks]
    split
    · rw [List.length_cons]; omega
    · omega
theorem nodup_of_lt {l : List Int} (h : l.Pairwise (· < ·)) : l.Nodup := h.imp fun h => by omega
theorem head_min {l : List Int} (h : l.Pairwise (· < ·)) : ∀ x ∈ l, l.headD 0 ≤ x := by
  cases h with
  | nil => intro x hx; cases hx
  | cons h1 h2 =>
    intro x hx
    rcases List.mem_cons.1 hx with rfl | hx
    · exact Int.le_refl _
    · exact Int.le_of_lt (h1 x hx)
theorem ref_incs (F : List Int) (hF : F.length ≤ 1000) (r20 r24 : B × List B) (h1 : r20.1.signs.length ≤ 1000) (h2 : r24.1.signs.length ≤ 1000) (kk : List Int → List Int → Option (List Int × Int)) (fu : Nat) (hf : 1001 ≤ fu) : ∀ (d k i : Nat) (out sg : List Int) (c : Int), F.length - i = d → d < k → i ≤ F.length → out.length = F.length → sg.length ≤ i → (∀ v ∈ out, 0 ≤ v ∧ v ≤ c) → c ≤ 100000 + i →
    f_lumref_Lengths_L35 F r20 r24 kk fu k out sg (i : Int) = kk (incs out (picks r20.1.signs r24.1.signs d i)) (sg ++ picks r20.1.signs r24.1.signs d i)
  | _, 0, _, _, _, _, _, hk, _, _, _, _, _ => absurd hk (Nat.not_lt_zero _)
  | 0, k + 1, i, out, sg, c, hd, hk, hi, ho, hs, hv, hc => by
    rw [f_lumref_Lengths_L35, cond_ff (dge (by omega)), picks, incs, List.append_nil]
  | d + 1, k + 1, i, out, sg, c, hd, hk, hi, ho, hs, hv, hc => by
    have h : i < F.length := by omega
    rw [f_lumref_Lengths_L35, cond_tt (dlt (by omega)), lt_of, lt_of, wsucc (by omega), has_ok _ _ (by omega) fu (by omega), opt_of, has_ok _ _ (by omega) fu (by omega), opt_of]
    have yes : (i : Int) ∈ r20.1.signs ∨ (i : Int) ∈ r24.1.signs → (req (((sg.length + ([(i : Int)]).length) * 8 : Nat) ≤ 140737488355328 ∧ sg.length + ([(i : Int)]).length ≤ 9223372036854775807) (opt (at? out (i : Int)) fun (u45 : Int) => (opt (at? out (i : Int)) fun (u49 : Int) => (f_lumref_Lengths_L35 F r20 r24 kk fu k (out.set ((i : Int)).toNat (IntKind.i64.wrap (u45 + (1 : Int)))) (sg ++ ([(i : Int)])) ((i + 1 : Nat) : Int))))) = kk (incs out (picks r20.1.signs r24.1.signs (d + 1) i)) (sg ++ picks r20.1.signs r24.1.signs (d + 1) i) := fun hm => by
      obtain ⟨v, v1, v2, v3⟩ := inc_step (out := out) (s := (i : Int)) (by omega) (by omega) hv (by omega)
      rw [req_pos (by rw [List.length_singleton]; omega), v1, opt_of, opt_of, v2, ref_incs F hF r20 r24 h1 h2 kk fu hf d k (i + 1) (inc out (i : Int)) (sg ++ [(i : Int)]) (c + 1) (by omega) (by omega) (by omega) (by rw [inc_len]; exact ho) (by rw [List.length_append, List.length_singleton]; omega) v3 (by omega), picks, if_pos hm, incs, List.append_assoc]
      rfl
    by_cases hA : (i : Int) ∈ r20.1.signs
    · rw [decide_eq_true hA, cond_tt rfl]
      exact yes (.inl hA)
    · rw [decide_eq_false hA, cond_ff rfl]
      by_cases hC : (i : Int) ∈ r24.1.signs
      · rw [decide_eq_true hC]
        exact yes (.inr hC)
      · rw [decide_eq_false hC]
        have ih := ref_incs F hF r20 r24 h1 h2 kk fu hf d k (i + 1) out sg c (by omega) (by omega) (by omega) ho (by omega) hv (by omega)
        rw [picks, if_neg (fun e => e.elim hA hC)]
        exact ih
theorem Mt.join {n : Nat} {t u : T} {b c : B} (h1 : Mt n t b) (h2 : Mt n u c) (hw : b.weight + c.weight ≤ 1099511627776) (hd : ∀ x ∈ b.signs, x ∉ c.signs) :
    Mt n ⟨IntKind.i64.wrap (t.weight + u.weight), if u.least < t.least then u.least else t.least, t.symbols ++ u.symbols⟩ ⟨IntKind.i64.wrap (b.weight + c.weight), picks b.signs c.signs n 0⟩ := by
  have p1 := h1.pos; have p2 := h2.pos
  have hm : ∀ x, x ∈ picks b.signs c.signs n 0 ↔ (x ∈ b.signs ∨ x ∈ c.signs) := fun x => by
    rw [picks_mem]
    exact ⟨fun e => e.2.2, fun e => by
      have hr := e.elim (h1.rng x) (h2.rng x)
      exact ⟨by omega, by omega, e⟩⟩
  have k1 := (hm _).2 (.inl (key_mem h1.ne))
  have hne : picks b.signs c.signs n 0 ≠ [] := fun e => by rw [e] at k1; cases k1
  have hmin := head_min (picks_lt b.signs c.signs n 0)
  have k2 := (hm _).2 (.inr (key_mem h2.ne))
  refine ⟨?_, ?_, ?_, hne, fun x => ?_, ?_, hmin, fun x hx => ?_⟩
  · show IntKind.i64.wrap _ = IntKind.i64.wrap _
    rw [h1.w, h2.w]
  · show 0 ≤ IntKind.i64.wrap _
    rw [w64 (by omega) (by omega)]; omega
  · have l1 := h1.least; have l2 := h2.least
    have a1 := hmin _ k1
    have a2 := hmin _ k2
    have a3 := key_mem (b := (⟨IntKind.i64.wrap (b.weight + c.weight), picks b.signs c.signs n 0⟩ : B)) hne
    have a4 := (hm _).1 a3
    show (if u.least < t.least then u.least else t.least) = (picks b.signs c.signs n 0).headD 0
    have a5 : key b ≤ (picks b.signs c.signs n 0).headD 0 ∨ key c ≤ (picks b.signs c.signs n 0).headD 0 := a4.imp (h1.min _) (h2.min _)
    rw [l1, l2]
    split <;> omega
  · show x ∈ t.symbols ++ u.symbols ↔ x ∈ picks b.signs c.signs n 0
    rw [hm, List.mem_append, h1.mem, h2.mem]
  · show (t.symbols ++ u.symbols).Nodup
    rw [List.nodup_append]
    exact ⟨h1.nd, h2.nd, fun x hx y hy e => hd x ((h1.mem x).1 hx) (by rw [e]; exact (h2.mem y).1 hy)⟩
  · exact ((hm x).1 hx).elim (h1.rng x) (h2.rng x)
end Go.Proofs.YtfhifdmbdkkgaaaDoor.PHl
namespace Go.Proofs.YtfhifdmbdkkgaaaDoor.Huf
def mAt (l : List Nat) (j : Nat) : Nat := l.getD j 0
def cond (l : List Nat) (n s j : Nat) : Bool := decide (0 < mAt l j) && (decide (mAt l j < n) || (decide (mAt l j = n) && decide (j < s)))
def bef (l : List Nat) (n s : Nat) : Nat → Nat
  | 0 => 0
  | k + 1 => bef l n s k + if cond l n s k = true then 2 ^ (48 - mAt l k) else 0
def kpart (m : Nat) : Nat := if 0 < m then 2 ^ (48 - m) else 0
def kraftTo (l : List Nat) : Nat → Nat
  | 0 => 0
  | k + 1 => kraftTo l k + kpart (mAt l k)
theorem kpart_le (m : Nat) : kpart m ≤ 2 ^ 47 := by
  unfold kpart; split
  · exact Nat.pow_le_pow_right (by omega) (by omega)
  · simp
theorem kraftTo_le (l : List Nat) (k : Nat) : kraftTo l k ≤ k * 2 ^ 47 := by
  induction k with
  | zero => simp [kraftTo]
  | succ k ih => have := kpart_le (mAt l k); unfold kraftTo; omega
theorem kraftTo_mono (l : List Nat) {a b : Nat} (h : a ≤ b) : kraftTo l a ≤ kraftTo l b := by
  induction b with
  | zero => have : a = 0 := by omega
            subst this; exact Nat.le_refl _
  | succ b ih =>
    by_cases hb : a = b + 1
    · subst hb; exact Nat.le_refl _
    · have h1 := ih (by omega)
      have h2 : kraftTo l (b + 1) = kraftTo l b + kpart (mAt l b) := rfl
      omega
theorem bef_le (l : List Nat) (n s k : Nat) : bef l n s k ≤ kraftTo l k := by
  induction k with
  | zero => simp [bef]
  | succ k ih =>
    unfold bef kraftTo kpart
    by_cases hc : cond l n s k = true
    · rw [if_pos hc]
      have : 0 < mAt l k := by simp [cond] at hc; omega
      rw [if_pos this]; omega
    · rw [if_neg hc]; omega
theorem bef_zero (l : List Nat) (n s k : Nat) (h : ∀ j, j < k → cond l n s j = false) : bef l n s k = 0 := by
  induction k with
  | zero => rfl
  | succ k ih =>
    unfold bef
    rw [ih (fun j hj => h j (by omega)), h k (by omega)]; rfl
theorem bef_same (l : List Nat) (n s n' s' k : Nat) (h : ∀ j, j < k → cond l n s j = cond l n' s' j) : bef l n s k = bef l n' s' k := by
  induction k with
  | zero => rfl
  | succ k ih =>
    unfold bef
    rw [ih (fun j hj => h j (by omega)), h k (by omega)]
theorem bef_first (l : List Nat) (k : Nat) : bef l 1 0 k = 0 := bef_zero _ _ _ _ fun j _ => by
  rw [Bool.eq_false_iff]; intro h; simp [cond] at h; omega
theorem bef_none (l : List Nat) (s k : Nat) : bef l 0 s k = 0 := bef_zero _ _ _ _ fun j _ => by
  rw [Bool.eq_false_iff]; intro h; simp [cond] at h; omega
theorem bef_next (l : List Nat) (n s k : Nat) (hk : k ≤ s) : bef l (n + 1) 0 k = bef l n s k := bef_same _ _ _ _ _ _ fun j hj => by
  rw [Bool.eq_iff_iff]; simp [cond]; omega
theorem bef_step (l : List Nat) (n s : Nat) (hn : 0 < n) : ∀ k, s < k → bef l n (s + 1) k = bef l n s k + if mAt l s = n then 2 ^ (48 - n) else 0
  | 0, h => by omega
  | k + 1, h => by
    by_cases hs : s < k
    · have h1 : cond l n (s + 1) k = cond l n s k := by rw [Bool.eq_iff_iff]; simp [cond]; omega
      unfold bef
      rw [bef_step l n s hn k hs, h1]; omega
    · have : s = k := by omega
      subst this
      have h1 : bef l n (s + 1) s = bef l n s s := bef_same _ _ _ _ _ _ fun j hj => by rw [Bool.eq_iff_iff]; simp [cond]; omega
      unfold bef
      rw [h1]
      by_cases hm : mAt l s = n
      · have h2 : cond l n (s + 1) s = true := by simp [cond]; omega
        have h3 : cond l n s s = false := by rw [Bool.eq_false_iff]; intro h; simp [cond] at h; omega
        rw [if_pos hm, h2, h3, hm]; simp
      · have h2 : cond l n (s + 1) s = cond l n s s := by rw [Bool.eq_iff_iff]; simp [cond]; omega
        rw [if_neg hm, h2]; rfl
theorem pow_split {a b c : Nat} (h : a + b = c) : (2 : Nat) ^ c = 2 ^ a * 2 ^ b := by rw [← Nat.pow_add, h]
theorem bef_dvd (l : List Nat) (n s k : Nat) (hn : n ≤ 48) : 2 ^ (48 - n) ∣ bef l n s k := by
  induction k with
  | zero => exact Nat.dvd_zero _
  | succ k ih =>
    unfold bef
    apply Nat.dvd_add ih
    by_cases hc : cond l n s k = true
    · rw [if_pos hc]
      have hm : mAt l k ≤ n := by simp [cond] at hc; omega
      exact Nat.pow_dvd_pow _ (by omega)
    · rw [if_neg hc]; exact Nat.dvd_zero _
def refTo (l : List Nat) (i k : Nat) : Nat := bef l (mAt l i) i k / 2 ^ (48 - mAt l i)
def code (l : List Nat) (i : Nat) : Nat := refTo l i l.length
theorem refTo_mul (l : List Nat) (i k : Nat) (h : mAt l i ≤ 48) : refTo l i k * 2 ^ (48 - mAt l i) = bef l (mAt l i) i k :=
  Nat.div_mul_cancel (bef_dvd l _ _ _ h)
theorem refTo_zero (l : List Nat) (i : Nat) : refTo l i 0 = 0 := by unfold refTo bef; simp
theorem refTo_none (l : List Nat) (i k : Nat) (h : mAt l i = 0) : refTo l i k = 0 := by unfold refTo; rw [h, bef_none, Nat.zero_div]
theorem refTo_step (l : List Nat) (i k : Nat) (h : mAt l i ≤ 48) : refTo l i (k + 1) = refTo l i k + if cond l (mAt l i) i k = true then 2 ^ (mAt l i - mAt l k) else 0 := by
  by_cases hc : cond l (mAt l i) i k = true
  · rw [if_pos hc]
    apply Nat.eq_of_mul_eq_mul_right (Nat.two_pow_pos (48 - mAt l i))
    rw [refTo_mul l i _ h, Nat.add_mul, refTo_mul l i _ h]
    have hm : mAt l k ≤ mAt l i := by simp [cond] at hc; omega
    rw [← pow_split (show (mAt l i - mAt l k) + (48 - mAt l i) = 48 - mAt l k by omega)]
    show bef l (mAt l i) i k + (if cond l (mAt l i) i k = true then _ else 0) = _
    rw [if_pos hc]
  · rw [if_neg hc]
    unfold refTo
    show (bef l (mAt l i) i k + (if cond l (mAt l i) i k = true then _ else 0)) / _ = _
    rw [if_neg hc]; rfl
theorem refTo_le (l : List Nat) (i k : Nat) : refTo l i k ≤ kraftTo l k := Nat.le_trans (Nat.div_le_self _ _) (bef_le _ _ _ _)
theorem next_code (l : List Nat) (n s last next : Nat) (hl : last ≤ n) (hn : n ≤ 48) (hm : mAt l s = n) (h : next * 2 ^ (48 - last) = bef l n s l.length) : next * 2 ^ (n - last) = code l s := by
  apply Nat.eq_of_mul_eq_mul_right (Nat.two_pow_pos (48 - n))
  have := refTo_mul l s l.length (by omega)
  rw [hm] at this
  unfold code
  rw [this, ← h, Nat.mul_assoc, ← pow_split (show (n - last) + (48 - n) = 48 - last by omega)]
theorem next_after (l : List Nat) (n s : Nat) (h0 : 0 < n) (hn : n ≤ 48) (hs : s < l.length) (hm : mAt l s = n) : (code l s + 1) * 2 ^ (48 - n) = bef l n (s + 1) l.length := by
  rw [bef_step l n s h0 _ hs, if_pos hm, Nat.add_mul, Nat.one_mul]
  have := refTo_mul l s l.length (by omega)
  rw [hm] at this
  unfold code
  rw [this]
theorem code_lt (l : List Nat) (n s : Nat) (h0 : 0 < n) (hn : n ≤ 48) (hs : s < l.length) (hm : mAt l s = n) (ht : kraftTo l l.length ≤ 2 ^ 48) : code l s + 1 ≤ 2 ^ 48 := by
  have h1 := next_after l n s h0 hn hs hm
  have h2 := bef_le l n (s + 1) l.length
  have h3 : (code l s + 1) * 1 ≤ (code l s + 1) * 2 ^ (48 - n) := Nat.mul_le_mul_left _ (Nat.two_pow_pos _)
  omega
def implOut (l : List Nat) (n s : Nat) : List Nat := (List.range l.length).map fun j => if cond l n s j = true then code l j else 0
def refOut (l : List Nat) (i k : Nat) : List Nat := (List.range l.length).map fun j => if j < i then code l j else if j = i then refTo l i k else 0
theorem map_eq {α : Type} {f g : Nat → α} {n : Nat} (h : ∀ j, j < n → f j = g j) : (List.range n).map f = (List.range n).map g :=
  List.map_congr_left fun j hj => h j (List.mem_range.1 hj)
theorem map_set {α : Type} {f g : Nat → α} {n s : Nat} {v : α} (hv : s < n → g s = v) (h : ∀ j, j < n → j ≠ s → g j = f j) : ((List.range n).map f).set s v = (List.range n).map g := by
  apply List.ext_getElem?
  intro j
  rw [List.getElem?_set]
  by_cases hj : j < n
  · by_cases hs : s = j
    · subst hs; simp [hj, hv hj]
    · rw [if_neg hs]; simp [hj, h j hj (fun e => hs e.symm)]
  · by_cases hs : s = j
    · subst hs; simp [hj]
    · rw [if_neg hs]; simp [hj]
theorem implOut_first (l : List Nat) : implOut l 1 0 = List.replicate l.length 0 := by
  apply List.ext_getElem?
  intro j
  unfold implOut
  by_cases hj : j < l.length
  · have : cond l 1 0 j = false := by rw [Bool.eq_false_iff]; intro h; simp [cond] at h; omega
    simp [hj, this]
  · simp [hj]
theorem implOut_next (l : List Nat) (n s : Nat) (h : l.length ≤ s) : implOut l (n + 1) 0 = implOut l n s := map_eq fun j hj => by
  have : cond l (n + 1) 0 j = cond l n s j := by rw [Bool.eq_iff_iff]; simp [cond]; omega
  rw [this]
theorem implOut_skip (l : List Nat) (n s : Nat) (h : mAt l s ≠ n) : implOut l n (s + 1) = implOut l n s := map_eq fun j hj => by
  have : cond l n (s + 1) j = cond l n s j := by
    rw [Bool.eq_iff_iff]; simp [cond]
    by_cases hjs : j = s
    · subst hjs; omega
    · omega
  rw [this]
theorem implOut_set (l : List Nat) (n s : Nat) (h0 : 0 < n) (h : mAt l s = n) : (implOut l n s).set s (code l s) = implOut l n (s + 1) := map_set (fun _ => by
    have : cond l n (s + 1) s = true := by simp [cond]; omega
    rw [if_pos this]) fun j hj hne => by
  have : cond l n (s + 1) j = cond l n s j := by rw [Bool.eq_iff_iff]; simp [cond]; omega
  rw [this]
theorem refOut_first (l : List Nat) : refOut l 0 0 = List.replicate l.length 0 := by
  apply List.ext_getElem?
  intro j
  unfold refOut
  by_cases hj : j < l.length
  · by_cases h0 : j = 0
    · subst h0; simp [hj, refTo_zero]
    · simp [hj, h0]
  · simp [hj]
theorem refOut_next (l : List Nat) (i : Nat) : refOut l (i + 1) 0 = refOut l i l.length := map_eq fun j hj => by
  by_cases h1 : j < i
  · rw [if_pos h1, if_pos (by omega)]
  · by_cases h2 : j = i
    · subst h2; rw [if_pos (by omega), if_neg (by omega), if_pos rfl]; rfl
    · rw [if_neg (by omega), if_neg h1, if_neg h2]; split
      · exact refTo_zero l _
      · rfl
theorem refOut_set (l : List Nat) (i k : Nat) : (refOut l i k).set i (refTo l i (k + 1)) = refOut l i (k + 1) := map_set (fun _ => by rw [if_neg (by omega), if_pos rfl]) fun j hj hne => by
  rw [if_neg hne, if_neg hne]
theorem refOut_at (l : List Nat) (i k : Nat) (h : i < l.length) : (refOut l i k)[i]? = some (refTo l i k) := by
  unfold refOut; simp [h]
theorem refOut_len (l : List Nat) (i k : Nat) : (refOut l i k).length = l.length := by simp [refOut]
theorem implOut_len (l : List Nat) (n s : Nat) : (implOut l n s).length = l.length := by simp [implOut]
theorem out_same (l : List Nat) (h : ∀ j, mAt l j ≤ 48) : implOut l 49 0 = refOut l l.length 0 := map_eq fun j hj => by
  rw [if_pos hj]
  by_cases h0 : mAt l j = 0
  · have : cond l 49 0 j = false := by rw [Bool.eq_false_iff]; intro h; simp [cond] at h; omega
    rw [this]; unfold code; rw [refTo_none l j _ h0]; rfl
  · have : cond l 49 0 j = true := by have := h j; simp [cond]; omega
    rw [if_pos this]
end Go.Proofs.YtfhifdmbdkkgaaaDoor.Huf
namespace Go.Proofs.YtfhifdmbdkkgaaaDoor.Huf
open Go.RowKit YtfhifdmbdkkgaaaDoor.En YtfhifdmbdkkgaaaDoor
set_option linter.unusedVariables false
set_option linter.unusedSimpArgs false
def ok1 (x : Int) : Bool := decide (0 ≤ x) && decide (x ≤ 48)
def good (l : List Int) : Bool := l.all ok1
def nat (l : List Int) : List Nat := l.map Int.toNat
theorem nat_at (l : List Int) (k : Nat) : mAt (nat l) k = (l.getD k 0).toNat := by
  unfold mAt nat
  simp only [List.getD_eq_getElem?_getD, List.getElem?_map]
  cases l[k]? <;> rfl
theorem nat_len (l : List Int) : (nat l).length = l.length := by simp [nat]
theorem good_get {l : List Int} (h : good l = true) {k : Nat} (hk : k < l.length) : l[k] = ((mAt (nat l) k : Nat) : Int) ∧ mAt (nat l) k ≤ 48 := by
  have h1 := List.all_eq_true.1 h l[k] (List.getElem_mem hk)
  unfold ok1 at h1
  simp only [Bool.and_eq_true, decide_eq_true_eq] at h1
  rw [nat_at, List.getD_eq_getElem?_getD, List.getElem?_eq_getElem hk, Option.getD_some]
  omega
theorem lit_any (x : Int) (fu : Nat) : f_huff_Kraft_1 fu x = some (!ok1 x) := by
  unfold f_huff_Kraft_1 ok1
  rw [lt_of]
  by_cases h0 : x < 0
  · rw [cond_tt (dlt h0), show decide (0 ≤ x) = false from decide_eq_false (by omega)]; rfl
  · rw [cond_ff (dge (by omega)), show decide (0 ≤ x) = true from decide_eq_true (by omega)]
    by_cases h1 : x ≤ 48
    · rw [show decide (x > 48) = false from decide_eq_false (by omega), show decide (x ≤ 48) = true from decide_eq_true h1]; rfl
    · rw [show decide (x > 48) = true from decide_eq_true (by omega), show decide (x ≤ 48) = false from decide_eq_false h1]; rfl
theorem idx_loop (l : List Int) (kk : Unit → Option Int) (fu : Nat) (hm : l.length ≤ 256) : ∀ (fuel k : Nat), k ≤ l.length → l.length - k < fuel → (∀ j, j < k → ∀ x, l[j]? = some x → ok1 x = true) →
    (good l = true ∧ f_slices_IndexFunc___int_int__F144_L5 l kk fu fuel (k : Int) = kk ()) ∨ (good l = false ∧ ∃ j : Nat, f_slices_IndexFunc___int_int__F144_L5 l kk fu fuel (k : Int) = some (j : Int))
  | 0, k, _, hf, _ => absurd hf (Nat.not_lt_zero _)
  | fuel + 1, k, hk, hf, hall => by
    rw [f_slices_IndexFunc___int_int__F144_L5]
    by_cases hlt : k < l.length
    · rw [cond_tt (dlt (by omega)), at_lt hlt, opt_of, lit_any, opt_of]
      by_cases ho : ok1 l[k] = true
      · rw [cond_ff (by rw [ho]; rfl), wsucc (by omega)]
        refine idx_loop l kk fu hm fuel (k + 1) (by omega) (by omega) (fun j hj x hx => ?_)
        by_cases hjk : j = k
        · subst hjk; rw [List.getElem?_eq_getElem hlt] at hx; cases hx; exact ho
        · exact hall j (by omega) x hx
      · rw [cond_tt (by simpa using ho)]
        right
        refine ⟨?_, k, rfl⟩
        rw [Bool.eq_false_iff]; intro hg
        exact ho (List.all_eq_true.1 hg _ (List.getElem_mem hlt))
    · rw [cond_ff (dge (by omega))]
      left
      refine ⟨List.all_eq_true.2 fun x hx => ?_, rfl⟩
      obtain ⟨j, hj⟩ := List.getElem?_of_mem hx
      exact hall j (by have := (List.getElem?_eq_some_iff.1 hj).1; omega) x hj
theorem contains_any (l : List Int) (fu : Nat) (hm : l.length ≤ 256) (hf : 257 ≤ fu) : f_slices_ContainsFunc___int_int__F144 fu l = some (!good l) := by
  unfold f_slices_ContainsFunc___int_int__F144 f_slices_IndexFunc___int_int__F144
  rw [lt_of]
  rcases idx_loop l (fun _ => some (-1 : Int)) fu hm fu 0 (by omega) (by omega) (fun j hj => by omega) with ⟨hg, h⟩ | ⟨hg, j, h⟩
  · rw [show ((0 : Int)) = ((0 : Nat) : Int) from rfl, h, opt_of, hg]; rfl
  · rw [show ((0 : Int)) = ((0 : Nat) : Int) from rfl, h, opt_of, hg]
    simp
theorem shl_pow {m : Nat} (h : m ≤ 48) : IntKind.i64.wrap ((1 : Int) * 2 ^ min m (IntKind.bits .i64)) = ((2 ^ m : Nat) : Int) := by
  have hb : min m (IntKind.bits .i64) = m := Nat.min_eq_left (by show m ≤ 64; omega)
  have h2 : (2 : Nat) ^ m ≤ 2 ^ 48 := Nat.pow_le_pow_right (by decide) h
  rw [hb, show ((1 : Int) * 2 ^ m) = ((2 ^ m : Nat) : Int) from by simp]
  clear hb
  obtain ⟨p, hp⟩ : ∃ p, p = 2 ^ m := ⟨_, rfl⟩
  rw [← hp] at h2 ⊢
  exact w64 (by omega) (by omega)
theorem kraft_loop (l : List Int) (kk : Int → Option (Int × Int)) (hm : l.length ≤ 256) (hg : good l = true) : ∀ (fuel k : Nat), k ≤ l.length → l.length - k < fuel →
    f_huff_Kraft_L8 l kk fuel (kraftTo (nat l) k : Nat) (k : Int) = kk (kraftTo (nat l) l.length : Nat)
  | 0, k, _, hf => absurd hf (Nat.not_lt_zero _)
  | fuel + 1, k, hk, hf => by
    rw [f_huff_Kraft_L8]
    by_cases hlt : k < l.length
    · obtain ⟨hx, hx48⟩ := good_get hg hlt
      have hkr := kraftTo_le (nat l) (k + 1)
      have hs : kraftTo (nat l) (k + 1) = kraftTo (nat l) k + kpart (mAt (nat l) k) := rfl
      have ih := kraft_loop l kk hm hg fuel (k + 1) (by omega) (by omega)
      rw [cond_tt (dlt (by omega)), lt_of, at_lt hlt, opt_of, hx, wsucc (by omega)]
      by_cases hm0 : 0 < mAt (nat l) k
      · have hk0 : kpart (mAt (nat l) k) = 2 ^ (48 - mAt (nat l) k) := if_pos hm0
        have hw : IntKind.i64.wrap ((48 : Int) - (mAt (nat l) k : Nat)) = ((48 - mAt (nat l) k : Nat) : Int) := by rw [w64 (by omega) (by omega)]; omega
        rw [cond_tt (decide_eq_true (by omega)), hw, req_pos (by omega), Int.toNat_natCast, shl_pow (by omega), ← hk0, w64 (by omega) (by omega)]
        rw [hs] at ih
        rw [← ih]; simp
      · have hk0 : kpart (mAt (nat l) k) = 0 := if_neg hm0
        rw [cond_ff (decide_eq_false (by omega)), ← ih, hs, hk0]; rfl
    · obtain rfl : k = l.length := by omega
      rw [cond_ff (dge (by omega))]
def kr (l : List Int) : Int × Int := if l.length < 1 ∨ 256 < l.length ∨ good l = false then (0, 1) else ((kraftTo (nat l) l.length : Nat), 0)
theorem kraft_any (l : List Int) (fu : Nat) (hf : 257 ≤ fu) : f_huff_Kraft fu l = some (kr l) := by
  unfold f_huff_Kraft kr
  rw [lt_of]
  by_cases h0 : l.length < 1
  · rw [cond_tt (dlt (by omega)), if_pos (.inl h0)]; rfl
  · rw [cond_ff (dge (by omega))]
    by_cases h1 : 256 < l.length
    · rw [cond_tt (decide_eq_true (by omega)), if_pos (.inr (.inl h1))]; rfl
    · rw [cond_ff (decide_eq_false (by omega)), contains_any l fu (by omega) hf, opt_of]
      cases hg : good l with
      | false => rw [if_pos (.inr (.inr rfl))]; rfl
      | true =>
        rw [if_neg (fun h => by rcases h with h | h | h; omega; omega; cases h)]
        show lt _ _ = _
        rw [lt_of]
        have := kraft_loop l (fun j => some (j, (0 : Int))) (by omega) hg fu 0 (by omega) (by omega)
        exact this
theorem double_loop (u : Nat) (hu : u ≤ 48) (kk : Int → Option (Int × Int)) : ∀ (fuel k : Nat), k ≤ 48 - u → 48 - u - k < fuel →
    f_lumref_Kraft_L24 (u : Int) kk fuel ((2 ^ k : Nat) : Int) (k : Int) = kk ((2 ^ (48 - u) : Nat) : Int)
  | 0, k, _, hf => absurd hf (Nat.not_lt_zero _)
  | fuel + 1, k, hk, hf => by
    rw [f_lumref_Kraft_L24]
    have hw : IntKind.i64.wrap ((48 : Int) - (u : Int)) = ((48 - u : Nat) : Int) := by rw [w64 (by omega) (by omega)]; omega
    rw [hw]
    by_cases hlt : k < 48 - u
    · have h2 : (2 : Nat) ^ (k + 1) ≤ 2 ^ 48 := Nat.pow_le_pow_right (by decide) (by omega)
      have h3 : (2 : Nat) ^ (k + 1) = 2 ^ k * 2 := Nat.pow_succ 2 k
      rw [cond_tt (dlt (by omega)), wsucc (by omega), w64 (by omega) (by omega)]
      have ih := double_loop u hu kk fuel (k + 1) (by omega) (by omega)
      rw [h3] at ih
      rw [← ih]; simp
    · obtain rfl : k = 48 - u := by omega
      rw [cond_ff (dge (by omega))]
theorem rkraft_loop (l : List Int) (kk : Int → Option (Int × Int)) (fu : Nat) (hfu : 49 ≤ fu) (hm : l.length ≤ 256) : ∀ (fuel k : Nat), k ≤ l.length → l.length - k < fuel → (∀ j, j < k → ∀ x, l[j]? = some x → ok1 x = true) →
    f_lumref_Kraft_L8 l kk fu fuel (kraftTo (nat l) k : Nat) (k : Int) = if good l = true then kk (kraftTo (nat l) l.length : Nat) else some ((0 : Int), (1 : Int))
  | 0, k, _, hf, _ => absurd hf (Nat.not_lt_zero _)
  | fuel + 1, k, hk, hf, hall => by
    rw [f_lumref_Kraft_L8, lt_of]
    by_cases hlt : k < l.length
    · rw [cond_tt (dlt (by omega)), lt_of, at_lt hlt, opt_of, lt_of]
      dsimp only
      by_cases ho : ok1 l[k] = true
      · have hx : l[k] = ((mAt (nat l) k : Nat) : Int) ∧ mAt (nat l) k ≤ 48 := by
          unfold ok1 at ho
          simp only [Bool.and_eq_true, decide_eq_true_eq] at ho
          rw [nat_at, List.getD_eq_getElem?_getD, List.getElem?_eq_getElem hlt, Option.getD_some]
          omega
        obtain ⟨hx, hx48⟩ := hx
        have hkr := kraftTo_le (nat l) (k + 1)
        have hs : kraftTo (nat l) (k + 1) = kraftTo (nat l) k + kpart (mAt (nat l) k) := rfl
        have ih := rkraft_loop l kk fu hfu hm fuel (k + 1) (by omega) (by omega) (fun j hj x hxx => by
          by_cases hjk : j = k
          · subst hjk; rw [List.getElem?_eq_getElem hlt] at hxx; cases hxx; exact ho
          · exact hall j (by omega) x hxx)
        have hd := double_loop (mAt (nat l) k) hx48
        rw [hx, cond_ff (decide_eq_false (by omega)), show decide (((mAt (nat l) k : Nat) : Int) > 48) = false from decide_eq_false (by omega), cond_false, lt_of]
        have hd0 : ∀ kk, f_lumref_Kraft_L24 ((mAt (nat l) k : Nat) : Int) kk fu 1 0 = kk ((2 ^ (48 - mAt (nat l) k) : Nat) : Int) := fun kk => hd kk fu 0 (by omega) (by omega)
        rw [hd0, wsucc (by omega)]
        by_cases hm0 : 0 < mAt (nat l) k
        · have hk0 : kpart (mAt (nat l) k) = 2 ^ (48 - mAt (nat l) k) := if_pos hm0
          rw [cond_tt (decide_eq_true (by omega)), ← hk0, w64 (by omega) (by omega)]
          rw [hs] at ih
          rw [← ih]; simp
        · have hk0 : kpart (mAt (nat l) k) = 0 := if_neg hm0
          rw [cond_ff (decide_eq_false (by omega)), ← ih, hs, hk0]; rfl
      · have hg : good l ≠ true := fun hg => ho (List.all_eq_true.1 hg _ (List.getElem_mem hlt))
        rw [if_neg hg]
        unfold ok1 at ho
        simp only [Bool.and_eq_true, decide_eq_true_eq] at ho
        by_cases hn : l[k] < 0
        · rw [cond_tt (decide_eq_true hn)]; rfl
        · rw [cond_ff (decide_eq_false hn), show decide (l[k] > 48) = true from decide_eq_true (by omega)]; rfl
    · obtain rfl : k = l.length := by omega
      have hg : good l = true := List.all_eq_true.2 fun x hx => by
        obtain ⟨j, hj⟩ := List.getElem?_of_mem hx
        exact hall j (by have := (List.getElem?_eq_some_iff.1 hj).1; omega) x hj
      rw [cond_ff (dge (by omega)), if_pos hg]
theorem rkraft_any (l : List Int) (fu : Nat) (hf : 257 ≤ fu) : f_lumref_Kraft fu l = some (kr l) := by
  unfold f_lumref_Kraft kr
  rw [lt_of]
  by_cases h0 : l.length < 1
  · rw [cond_tt (by rw [beq_iff_eq]; omega), if_pos (.inl h0)]; rfl
  · rw [cond_ff (beq_eq_false_iff_ne.2 (by omega))]
    by_cases h1 : 256 < l.length
    · rw [show decide ((l.length : Int) > 256) = true from decide_eq_true (by omega), if_pos (.inr (.inl h1))]; rfl
    · rw [show decide ((l.length : Int) > 256) = false from decide_eq_false (by omega)]
      dsimp only
      rw [cond_false, lt_of]
      have := rkraft_loop l (fun j => some (j, (0 : Int))) fu (by omega) (by omega) fu 0 (by omega) (by omega) (fun j hj => by omega)
      rw [show f_lumref_Kraft_L8 l (fun j => some (j, (0 : Int))) fu fu 0 0 = f_lumref_Kraft_L8 l (fun j => some (j, (0 : Int))) fu fu (kraftTo (nat l) 0 : Nat) ((0 : Nat) : Int) from rfl, this]
      cases hg : good l with
      | false => rw [if_neg (by simp), if_pos (.inr (.inr rfl))]
      | true => rw [if_pos rfl, if_neg (fun h => by rcases h with h | h | h; omega; omega; cases h)]
def ints (l : List Nat) : List Int := l.map fun c : Nat => (c : Int)
theorem ints_set (l : List Nat) (i v : Nat) : (ints l).set i (v : Int) = ints (l.set i v) := by unfold ints; rw [List.map_set]
theorem ints_at {l : List Nat} {i v : Nat} (h : l[i]? = some v) : at? (ints l) (i : Int) = some (v : Int) := by rw [at_nat]; unfold ints; simp [h]
theorem shl_nat {q m : Nat} (h : m ≤ 48) (hq : q * 2 ^ m ≤ 281474976710656) : IntKind.i64.wrap ((q : Int) * 2 ^ min m (IntKind.bits .i64)) = ((q * 2 ^ m : Nat) : Int) := by
  have hb : min m (IntKind.bits .i64) = m := Nat.min_eq_left (by show m ≤ 64; omega)
  rw [hb, show ((q : Int) * 2 ^ m) = ((q * 2 ^ m : Nat) : Int) from by simp]
  clear hb
  obtain ⟨p, hp⟩ : ∃ p, p = q * 2 ^ m := ⟨_, rfl⟩
  rw [← hp] at hq ⊢
  exact w64 (by omega) (by omega)
theorem impl_get (L : List Nat) (N s : Nat) (h : s < L.length) : ∃ y, (implOut L N s)[s]? = some y := ⟨_, List.getElem?_eq_getElem (by rw [implOut_len]; exact h)⟩
abbrev CK := List Int → Int → Int → Option (List Int × Int)
theorem codes_in (l : List Int) (N : Nat) (kk : CK) (hm : l.length ≤ 256) (hg : good l = true) (hk : kraftTo (nat l) l.length ≤ 281474976710656) (hN1 : 1 ≤ N) (hN : N ≤ 48) (R : Option (List Int × Int))
    (hkk : ∀ last next : Nat, last ≤ N → next ≤ 281474976710656 → next * 2 ^ (48 - last) = bef (nat l) (N + 1) 0 l.length → kk (ints (implOut (nat l) (N + 1) 0)) next last = R) :
    ∀ (fuel s last next : Nat), s ≤ l.length → l.length - s < fuel → last ≤ N → next ≤ 281474976710656 → next * 2 ^ (48 - last) = bef (nat l) N s l.length →
    f_huff_Codes_L18 l (N : Int) kk fuel (ints (implOut (nat l) N s)) next last (s : Int) = R
  | 0, s, _, _, _, hf, _, _, _ => absurd hf (Nat.not_lt_zero _)
  | fuel + 1, s, last, next, hs, hf, hl, hnx, hb => by
    have hL : (nat l).length = l.length := nat_len l
    rw [f_huff_Codes_L18]
    by_cases hlt : s < l.length
    · obtain ⟨hx, hx48⟩ := good_get hg hlt
      rw [cond_tt (dlt (by omega)), lt_of, at_lt hlt, opt_of, hx, wsucc (by omega)]
      by_cases he : mAt (nat l) s = N
      · have hcode := next_code (nat l) N s last next hl hN he (by rw [hL]; exact hb)
        have hafter := next_after (nat l) N s hN1 hN (by omega) he
        have hclt := code_lt (nat l) N s hN1 hN (by omega) he (by rw [hL]; exact hk)
        have hset := implOut_set (nat l) N s hN1 he
        obtain ⟨y, hy⟩ := impl_get (nat l) N s (by omega)
        have hw : IntKind.i64.wrap ((N : Int) - (last : Int)) = ((N - last : Nat) : Int) := by rw [w64 (by omega) (by omega)]; omega
        rw [cond_tt (by simp [he]), hw, req_pos (by omega), ints_at hy, opt_of, Int.toNat_natCast, Int.toNat_natCast, shl_nat (by omega) (by rw [hcode]; omega), hcode, ints_set, hset, wsucc (by omega)]
        rw [hL] at hafter
        exact codes_in l N kk hm hg hk hN1 hN R hkk fuel (s + 1) N (code (nat l) s + 1) (by omega) (by omega) (by omega) (by omega) hafter
      · have hskip := implOut_skip (nat l) N s he
        have hbs := bef_step (nat l) N s (by omega) l.length hlt
        rw [if_neg he, Nat.add_zero] at hbs
        rw [cond_ff (by simp; omega)]
        have := codes_in l N kk hm hg hk hN1 hN R hkk fuel (s + 1) last next (by omega) (by omega) hl hnx (by rw [hbs]; exact hb)
        rw [hskip] at this
        exact this
    · obtain rfl : s = l.length := by omega
      rw [cond_ff (dge (by omega))]
      have h1 := bef_next (nat l) N l.length l.length (Nat.le_refl _)
      have h2 := implOut_next (nat l) N l.length (by omega)
      have := hkk last next hl hnx (by rw [h1]; exact hb)
      rw [h2] at this
      exact this
theorem codes_out (l : List Int) (kk : List Int → Option (List Int × Int)) (fu : Nat) (hfu : 257 ≤ fu) (hm : l.length ≤ 256) (hg : good l = true) (hk : kraftTo (nat l) l.length ≤ 281474976710656) :
    ∀ (fuel N last next : Nat), 1 ≤ N → N ≤ 49 → 49 - N < fuel → last ≤ N → last ≤ 48 → next ≤ 281474976710656 → next * 2 ^ (48 - last) = bef (nat l) N 0 l.length →
    f_huff_Codes_L11 l kk fu fuel (ints (implOut (nat l) N 0)) next last (N : Int) = kk (ints (implOut (nat l) 49 0))
  | 0, _, _, _, _, _, hf, _, _, _, _ => absurd hf (Nat.not_lt_zero _)
  | fuel + 1, N, last, next, hN1, hN, hf, hl, hl48, hnx, hb => by
    rw [f_huff_Codes_L11, lt_of]
    by_cases hlt : N ≤ 48
    · rw [cond_tt (decide_eq_true (by omega)), lt_of]
      refine codes_in l N _ hm hg hk hN1 hlt _ (fun last' next' h1 h2 h3 => ?_) fu 0 last next (by omega) (by omega) hl hnx hb
      dsimp only
      rw [wsucc (by omega)]
      exact codes_out l kk fu hfu hm hg hk fuel (N + 1) last' next' (by omega) (by omega) (by omega) (by omega) (by omega) h2 h3
    · obtain rfl : N = 49 := by omega
      rw [cond_ff (decide_eq_false (by omega))]
def cd (l : List Int) : List Int × Int :=
  if (kr l).2 ≠ 0 then ([], (kr l).2) else if (kr l).1 > 281474976710656 then ([], 4) else (ints (implOut (nat l) 49 0), 0)
theorem kr_ok {l : List Int} (h : (kr l).2 = 0) : 1 ≤ l.length ∧ l.length ≤ 256 ∧ good l = true ∧ (kr l).1 = (kraftTo (nat l) l.length : Nat) := by
  unfold kr at h ⊢
  split at h
  · cases h
  · rename_i hn
    rw [if_neg hn]
    have h1 : ¬ l.length < 1 := fun h => hn (.inl h)
    have h2 : ¬ 256 < l.length := fun h => hn (.inr (.inl h))
    have h3 : good l = true := by
      cases hg : good l with
      | true => rfl
      | false => exact absurd (.inr (.inr hg)) hn
    exact ⟨by omega, by omega, h3, rfl⟩
theorem zeros (n : Nat) : List.replicate n (0 : Int) = ints (List.replicate n 0) := by unfold ints; simp
theorem codes_any (l : List Int) (fu : Nat) (hf : 257 ≤ fu) : f_huff_Codes fu l = some (cd l) := by
  unfold f_huff_Codes cd
  rw [kraft_any l fu hf, opt_of]
  by_cases h0 : (kr l).2 = 0
  · obtain ⟨h1, h2, hg, hk⟩ := kr_ok h0
    rw [cond_ff (by simp [h0]), if_neg (by simp [h0])]
    by_cases h3 : (kr l).1 > 281474976710656
    · rw [cond_tt (decide_eq_true h3), if_pos h3]
    · rw [cond_ff (decide_eq_false h3), if_neg h3, req_pos (by omega), lt_of, Int.toNat_natCast, zeros, ← nat_len l, ← implOut_first]
      have h9 : (ints (implOut (nat l) 1 0)) = ints (implOut (nat l) 1 0) := rfl
      refine (codes_out l _ fu hf h2 hg (by omega) fu 1 0 0 (by omega) (by omega) (by omega) (by omega) (by omega) (by omega) ?_).trans rfl
      rw [bef_first]
  · rw [cond_tt (by simp [h0]), if_pos h0]
theorem rcodes_in (l : List Int) (i : Nat) (kk : List Int → Option (List Int × Int)) (hm : l.length ≤ 256) (hg : good l = true) (hk : kraftTo (nat l) l.length ≤ 281474976710656) (hi : i < l.length) :
    ∀ (fuel j : Nat), j ≤ l.length → l.length - j < fuel →
    f_lumref_Codes_L21 l (i : Int) kk (mAt (nat l) i : Nat) fuel (ints (refOut (nat l) i j)) (j : Int) = kk (ints (refOut (nat l) (i + 1) 0))
  | 0, _, _, hf => absurd hf (Nat.not_lt_zero _)
  | fuel + 1, j, hj, hf => by
    have hL : (nat l).length = l.length := nat_len l
    rw [f_lumref_Codes_L21]
    by_cases hlt : j < l.length
    · obtain ⟨hx, hx48⟩ := good_get hg hlt
      obtain ⟨_, hi48⟩ := good_get hg hi
      have hstep := refTo_step (nat l) i j hi48
      have hset := refOut_set (nat l) i j
      have hat := refOut_at (nat l) i j (by omega)
      have hle := Nat.le_trans (refTo_le (nat l) i (j + 1)) (Nat.le_trans (kraftTo_mono (nat l) (show j + 1 ≤ l.length by omega)) hk)
      have ih := rcodes_in l i kk hm hg hk hi fuel (j + 1) (by omega) (by omega)
      have hno : refTo (nat l) i (j + 1) = refTo (nat l) i j → refOut (nat l) i (j + 1) = refOut (nat l) i j := fun h => by
        rw [← hset, h]
        apply List.ext_getElem?
        intro q
        rw [List.getElem?_set]
        split
        · rename_i e; subst e; rw [hat]; simp [refOut_len, hL, hi]
        · rfl
      have hcd : cond (nat l) (mAt (nat l) i) i j = (decide (0 < mAt (nat l) j) && (decide (mAt (nat l) j < mAt (nat l) i) || (decide (mAt (nat l) j = mAt (nat l) i) && decide (j < i)))) := rfl
      rw [hcd] at hstep
      rw [cond_tt (dlt (by omega)), lt_of, at_lt hlt, opt_of, hx, wsucc (by omega), lt_of]
      dsimp only
      have yes : (0 < mAt (nat l) j ∧ (mAt (nat l) j < mAt (nat l) i ∨ (mAt (nat l) j = mAt (nat l) i ∧ j < i))) →
          (opt (at? (ints (refOut (nat l) i j)) (i : Int)) fun (u31 : Int) => (req (0 ≤ (IntKind.i64.wrap (((mAt (nat l) i : Nat) : Int) - ((mAt (nat l) j : Nat) : Int)))) (opt (at? (ints (refOut (nat l) i j)) (i : Int)) fun (u36 : Int) => f_lumref_Codes_L21 l (i : Int) kk (mAt (nat l) i : Nat) fuel ((ints (refOut (nat l) i j)).set (i : Int).toNat (IntKind.i64.wrap (u31 + (IntKind.i64.wrap ((1 : Int) * 2 ^ min ((IntKind.i64.wrap (((mAt (nat l) i : Nat) : Int) - ((mAt (nat l) j : Nat) : Int)))).toNat (IntKind.bits .i64)))))) ((j + 1 : Nat) : Int)))) = kk (ints (refOut (nat l) (i + 1) 0)) := fun hc => by
        rw [if_pos (by simpa using hc)] at hstep
        have hw : IntKind.i64.wrap (((mAt (nat l) i : Nat) : Int) - ((mAt (nat l) j : Nat) : Int)) = ((mAt (nat l) i - mAt (nat l) j : Nat) : Int) := by rw [w64 (by omega) (by omega)]; omega
        rw [ints_at hat, opt_of, hw, req_pos (by omega), opt_of, Int.toNat_natCast, Int.toNat_natCast, shl_pow (by omega)]
        have hsum : IntKind.i64.wrap (((refTo (nat l) i j : Nat) : Int) + ((2 ^ (mAt (nat l) i - mAt (nat l) j) : Nat) : Int)) = ((refTo (nat l) i (j + 1) : Nat) : Int) := by
          rw [hstep]
          rw [hstep] at hle
          obtain ⟨p, hp⟩ : ∃ p, p = 2 ^ (mAt (nat l) i - mAt (nat l) j) := ⟨_, rfl⟩
          rw [← hp] at hle ⊢
          rw [w64 (by omega) (by omega)]; simp
        rw [hsum, ints_set, hset]
        exact ih
      have no : ¬ (0 < mAt (nat l) j ∧ (mAt (nat l) j < mAt (nat l) i ∨ (mAt (nat l) j = mAt (nat l) i ∧ j < i))) ∨ mAt (nat l) i = 0 → f_lumref_Codes_L21 l (i : Int) kk (mAt (nat l) i : Nat) fuel (ints (refOut (nat l) i j)) ((j + 1 : Nat) : Int) = kk (ints (refOut (nat l) (i + 1) 0)) := fun hc => by
        have h1 : refTo (nat l) i (j + 1) = refTo (nat l) i j := by
          rcases hc with hc | hc
          · rw [hstep, if_neg (by simpa using hc)]; rfl
          · rw [refTo_none _ _ _ hc, refTo_none _ _ _ hc]
        rw [hno h1] at ih
        exact ih
      by_cases hi0 : 0 < mAt (nat l) i
      · rw [cond_tt (decide_eq_true (by omega))]
        by_cases hj0 : 0 < mAt (nat l) j
        · rw [cond_tt (decide_eq_true (by omega))]
          by_cases h1 : mAt (nat l) j < mAt (nat l) i
          · rw [cond_tt (decide_eq_true (by omega))]
            exact yes ⟨hj0, .inl h1⟩
          · rw [cond_ff (decide_eq_false (by omega))]
            by_cases h2 : mAt (nat l) j = mAt (nat l) i
            · rw [cond_tt (by simp [h2])]
              by_cases h3 : j < i
              · rw [show decide ((j : Int) < (i : Int)) = true from decide_eq_true (by omega)]
                exact yes ⟨hj0, .inr ⟨h2, h3⟩⟩
              · rw [show decide ((j : Int) < (i : Int)) = false from decide_eq_false (by omega)]
                exact no (.inl (by omega))
            · rw [cond_ff (by simp; omega)]
              exact no (.inl (by omega))
        · rw [cond_ff (decide_eq_false (by omega))]
          exact no (.inl (by omega))
      · rw [cond_ff (decide_eq_false (by omega))]
        exact no (.inr (by omega))
    · obtain rfl : j = l.length := by omega
      rw [cond_ff (dge (by omega)), refOut_next, hL]
theorem rcodes_out (l : List Int) (kk : List Int → Option (List Int × Int)) (fu : Nat) (hfu : 257 ≤ fu) (hm : l.length ≤ 256) (hg : good l = true) (hk : kraftTo (nat l) l.length ≤ 281474976710656) :
    ∀ (fuel i : Nat), i ≤ l.length → l.length - i < fuel →
    f_lumref_Codes_L11 l kk fu fuel (ints (refOut (nat l) i 0)) (i : Int) = kk (ints (refOut (nat l) l.length 0))
  | 0, _, _, hf => absurd hf (Nat.not_lt_zero _)
  | fuel + 1, i, hi, hf => by
    rw [f_lumref_Codes_L11, lt_of]
    by_cases hlt : i < l.length
    · obtain ⟨hx, _⟩ := good_get hg hlt
      rw [cond_tt (dlt (by omega)), lt_of, at_lt hlt, opt_of, hx]
      refine (rcodes_in l i _ hm hg hk hlt fu 0 (by omega) (by omega)).trans ?_
      dsimp only
      rw [wsucc (by omega)]
      exact rcodes_out l kk fu hfu hm hg hk fuel (i + 1) (by omega) (by omega)
    · obtain rfl : i = l.length := by omega
      rw [cond_ff (dge (by omega))]
theorem rcodes_any (l : List Int) (fu : Nat) (hf : 257 ≤ fu) : f_lumref_Codes fu l = some (cd l) := by
  unfold f_lumref_Codes cd
  rw [rkraft_any l fu hf, opt_of]
  by_cases h0 : (kr l).2 = 0
  · obtain ⟨h1, h2, hg, hk⟩ := kr_ok h0
    rw [cond_ff (by simp [h0]), if_neg (by simp [h0])]
    by_cases h3 : (kr l).1 > 281474976710656
    · rw [cond_tt (decide_eq_true h3), if_pos h3]
    · rw [cond_ff (decide_eq_false h3), if_neg h3, req_pos (by omega), lt_of, Int.toNat_natCast, zeros, ← nat_len l, ← refOut_first]
      refine (rcodes_out l _ fu hf h2 hg (by omega) fu 0 (by omega) (by omega)).trans ?_
      rw [← nat_len l, ← out_same (nat l) (fun j => by
        by_cases hj : j < l.length
        · exact (good_get hg hj).2
        · rw [nat_at, List.getD_eq_getElem?_getD, List.getElem?_eq_none (by omega)]; simp)]
  · rw [cond_tt (by simp [h0]), if_pos h0]
end Go.Proofs.YtfhifdmbdkkgaaaDoor.Huf
namespace Go.Proofs.YtfhifdmbdkkgaaaDoor.Huf
def isBit (b : UInt8) : Prop := b = 48 ∨ b = 49
def bitB (n : Nat) : UInt8 := if n % 2 = 0 then 48 else 49
def valb : List UInt8 → Nat
  | [] => 0
  | b :: r => (if b = 49 then 2 ^ r.length else 0) + valb r
def bw : Nat → Nat → List UInt8
  | _, 0 => []
  | c, n + 1 => bw (c / 2) n ++ [bitB c]
theorem bw_len (c n : Nat) : (bw c n).length = n := by
  induction n generalizing c with
  | zero => rfl
  | succ n ih => rw [bw, List.length_append, ih]; rfl
theorem bitB_bit (n : Nat) : isBit (bitB n) := by unfold bitB isBit; split <;> simp
theorem bw_bits (c n : Nat) : ∀ b ∈ bw c n, isBit b := by
  induction n generalizing c with
  | zero => intro b hb; cases hb
  | succ n ih =>
    intro b hb
    rw [bw] at hb
    rcases List.mem_append.1 hb with hb | hb
    · exact ih _ b hb
    · rw [List.mem_singleton.1 hb]; exact bitB_bit c
theorem valb_app (a b : List UInt8) : valb (a ++ b) = valb a * 2 ^ b.length + valb b := by
  induction a with
  | nil => simp [valb]
  | cons x a ih =>
    rw [List.cons_append, valb, valb, ih, List.length_append, Nat.add_mul]
    by_cases h : x = 49
    · rw [if_pos h, if_pos h, Nat.pow_add]; omega
    · rw [if_neg h, if_neg h]; omega
theorem valb_one (n : Nat) : valb [bitB n] = n % 2 := by
  unfold bitB valb valb
  split
  · rename_i h; rw [h]; rfl
  · rename_i h
    rw [show n % 2 = 1 by omega]; rfl
theorem valb_lt (b : List UInt8) : valb b < 2 ^ b.length := by
  induction b with
  | nil => exact Nat.one_pos
  | cons x b ih =>
    rw [valb, List.length_cons, Nat.pow_succ]
    split <;> omega
theorem valb_bw {c n : Nat} (h : c < 2 ^ n) : valb (bw c n) = c := by
  induction n generalizing c with
  | zero =>
    have : c = 0 := by simpa using h
    subst this; rfl
  | succ n ih =>
    rw [bw, valb_app, valb_one, ih (by rw [Nat.pow_succ] at h; omega)]
    show c / 2 * 2 ^ 1 + c % 2 = c
    omega
theorem bw_valb : ∀ (n : Nat) (b : List UInt8), b.length = n → (∀ x ∈ b, isBit x) → bw (valb b) n = b
  | 0, b, h, _ => by rw [List.length_eq_zero_iff.1 h]; rfl
  | n + 1, b, h, hb => by
    rcases List.eq_nil_or_concat b with rfl | ⟨a, x, rfl⟩
    · cases h
    · have hx := hb x (by simp)
      have ha : a.length = n := by simpa using h
      rw [List.concat_eq_append, bw, valb_app]
      have h1 : valb [x] < 2 := valb_lt [x]
      have h2 : [x].length = 1 := rfl
      rw [h2]
      have h3 : (valb a * 2 ^ 1 + valb [x]) / 2 = valb a := by omega
      rw [h3, bw_valb n a ha (fun y hy => hb y (by simp [hy]))]
      congr 2
      unfold bitB
      rcases hx with rfl | rfl
      · have : valb [48] = 0 := rfl
        rw [this, if_pos (by omega)]
      · have : valb [49] = 1 := rfl
        rw [this, if_neg (by omega)]
end Go.Proofs.YtfhifdmbdkkgaaaDoor.Huf
namespace Go.Proofs.YtfhifdmbdkkgaaaDoor.Num
open Go.Lib
def digF : Nat → Nat → List UInt8
  | 0, _ => []
  | k + 1, n => if n = 0 then [] else digF k (n / 256) ++ [(n % 256).toUInt8]
theorem digF_nil : ∀ {k n : Nat}, n < 256 ^ k → (digF k n = [] ↔ n = 0)
  | 0, n, h => by simp [digF]; simpa using h
  | k + 1, n, h => by unfold digF; split <;> simp_all
theorem digF_len : ∀ (k n : Nat), (digF k n).length ≤ k
  | 0, n => by simp [digF]
  | k + 1, n => by
    unfold digF
    split
    · simp
    · have := digF_len k (n / 256); simp; omega
theorem be_succ (k n : Nat) : beBytes (k + 1) n = beBytes k (n / 256) ++ [(n % 256).toUInt8] := by unfold beBytes; rw [Lib.leBytes, List.reverse_cons]
theorem div_lt {k n : Nat} (h : n < 256 ^ (k + 1)) : n / 256 < 256 ^ k := by rw [Nat.pow_succ] at h; omega
theorem trim_be : ∀ {k n : Nat}, n < 256 ^ k → trimLeftB (beBytes k n) 0 = digF k n
  | 0, n, h => rfl
  | k + 1, n, h => by
    have ih := trim_be (div_lt h)
    have hn := digF_nil (div_lt h)
    unfold trimLeftB at ih ⊢
    rw [be_succ, List.dropWhile_append, ih]
    show _ = if n = 0 then [] else digF k (n / 256) ++ [(n % 256).toUInt8]
    by_cases h0 : n / 256 = 0
    · rw [hn.2 h0]
      by_cases h1 : n = 0
      · subst h1; rfl
      · have h2 : ((n % 256).toUInt8 == 0) = false := by
          rw [beq_eq_false_iff_ne]
          intro e
          have := congrArg UInt8.toNat e
          rw [toUInt8_mod] at this
          simp at this; omega
        rw [if_neg h1]; simp [h2]
    · have h3 : (digF k (n / 256)).isEmpty = false := by rw [List.isEmpty_eq_false_iff]; exact fun e => h0 (hn.1 e)
      rw [h3, if_neg (by simp), if_neg (by omega)]
end Go.Proofs.YtfhifdmbdkkgaaaDoor.Num
namespace Go.Proofs.YtfhifdmbdkkgaaaDoor.PPut
open Go.RowKit YtfhifdmbdkkgaaaDoor.En YtfhifdmbdkkgaaaDoor Num
open Go.Lib
set_option linter.unusedVariables false
set_option linter.unusedSimpArgs false
theorem uw {n : Nat} (h : n < 18446744073709551616) : IntKind.u64.wrap (n : Int) = (n : Int) := by
  unfold IntKind.wrap
  simp [IntKind.signed, IntKind.bits]
  omega
theorem bAt_lt {s : List UInt8} {j : Nat} (h : j < s.length) : En.bAt s (j : Int) = ((s[j].toNat : Nat) : Int) := by
  unfold En.bAt
  rw [Int.toNat_natCast, List.getD_eq_getElem?_getD, List.getElem?_eq_getElem h]; rfl
theorem p8 : 256 ^ 8 = 18446744073709551616 := by decide
theorem p7 : 256 ^ 7 = 72057594037927936 := by decide
theorem digits_ok (n : Nat) (hn : n < 18446744073709551616) (fu : Nat) : f_num_digits fu (n : Int) = some (digF 8 n) := by
  unfold f_num_digits f_binary_BEAppendUint64_nil
  rw [req_pos ⟨by omega, by omega⟩, opt_of, Int.toNat_natCast]
  show (opt (req ((0 : UInt8).toNat < 128) (some (trimLeftB (beBytes 8 n) 0))) fun r5 => some r5) = _
  rw [req_pos (by decide), opt_of, trim_be (by rw [p8]; exact hn)]
theorem rdigits_ok : ∀ (k n fu : Nat), n < 256 ^ k → k ≤ 8 → k < fu → f_lumref_digits fu (n : Int) = some (digF k n)
  | 0, n, fu + 1, h, _, _ => by
    have : n = 0 := by simpa using h
    subst this; rfl
  | k + 1, n, fu + 1, h, h8, hf => by
    rw [f_lumref_digits]
    by_cases h0 : n = 0
    · subst h0; rfl
    have hn8 : n < 18446744073709551616 := by
      rw [← p8]; exact Nat.lt_of_lt_of_le h (Nat.pow_le_pow_right (by omega) h8)
    have e1 : ((n : Int)).tdiv 256 = ((n / 256 : Nat) : Int) := by rw [Int.tdiv_eq_ediv_of_nonneg (by omega)]; omega
    have e2 : ((n : Int)).tmod 256 = ((n % 256 : Nat) : Int) := by rw [Int.tmod_eq_emod_of_nonneg (by omega)]; omega
    have hl := digF_len k (n / 256)
    rw [cond_ff (by rw [beq_eq_false_iff_ne]; omega), e1, e2, uw (by omega), rdigits_ok k (n / 256) fu (div_lt h) (by omega) (by omega), opt_of, u8w_in (by omega), req_pos ⟨by omega, by omega⟩, req_pos (by rw [List.length_singleton]; omega), Int.toNat_natCast]
    show _ = some (if n = 0 then [] else digF k (n / 256) ++ [(n % 256).toUInt8])
    rw [if_neg h0]
def putV (n : Nat) : List UInt8 := UInt8.ofNat (digF 8 n).length :: digF 8 n
theorem put_tail (d : List UInt8) (hd : d.length ≤ 8) : (req (0 ≤ (IntKind.u8.wrap (d.length : Int)) ∧ (IntKind.u8.wrap (d.length : Int)) ≤ 255) (req (([(UInt8.ofNat ((IntKind.u8.wrap (d.length : Int))).toNat)]).length + d.length ≤ 9223372036854775807) (some (([(UInt8.ofNat ((IntKind.u8.wrap (d.length : Int))).toNat)]) ++ d)))) = some (UInt8.ofNat d.length :: d) := by
  rw [u8w_in (by omega), req_pos ⟨by omega, by omega⟩, req_pos (by rw [List.length_singleton]; omega), Int.toNat_natCast]; rfl
theorem put_ok (n : Nat) (hn : n < 18446744073709551616) (fu : Nat) : f_num_Put fu (n : Int) = some (putV n) := by
  unfold f_num_Put putV
  rw [digits_ok n hn, opt_of, put_tail _ (digF_len 8 n)]
theorem rput_ok (n : Nat) (hn : n < 18446744073709551616) (fu : Nat) (hf : 9 ≤ fu) : f_lumref_Put fu (n : Int) = some (putV n) := by
  unfold f_lumref_Put putV
  rw [rdigits_ok 8 n fu (by rw [p8]; exact hn) (by omega) (by omega), opt_of, put_tail _ (digF_len 8 n)]
end Go.Proofs.YtfhifdmbdkkgaaaDoor.PPut
namespace Go.Proofs.YtfhifdmbdkkgaaaDoor.PTok
open Go.RowKit YtfhifdmbdkkgaaaDoor.En YtfhifdmbdkkgaaaDoor
set_option linter.unusedVariables false
set_option linter.unusedSimpArgs false
abbrev T := S_api_Token
def fB (t : T) : Bool := if t.Len = 0 then decide (t.Dist = 0) else (decide (t.Lit = 0) && (decide (1 ≤ t.Len) && (decide (t.Len ≤ 255) && (decide (1 ≤ t.Dist) && decide (t.Dist ≤ 1024)))))
theorem formed_ok (t : T) (fu : Nat) : f_lz_formed fu t = some (fB t) := by
  unfold f_lz_formed fB
  by_cases h : t.Len = 0
  · rw [cond_tt (by simp [h]), if_pos h]; rfl
  · rw [cond_ff (by simpa using h), if_neg h, lt_of]
    by_cases h1 : t.Lit = 0
    · rw [cond_tt (by simp [h1]), decide_eq_true h1]
      show (bif decide (1 ≤ t.Len) then _ else _) = _
      cases decide (1 ≤ t.Len) <;> cases h3 : decide (t.Len ≤ 255) <;> cases h4 : decide (1 ≤ t.Dist) <;> first | rfl | (simp only [ge_iff_le, h3, h4]; rfl)
    · rw [cond_ff (by simpa using h1), decide_eq_false h1]; rfl
def chk (l : List T) : Int := if 4096 < l.length then 2 else if l.all fB then 0 else 4
theorem lz_Check_loop (l : List T) (hl : l.length ≤ 4096) (kk : Unit → Option Int) (fu : Nat) : ∀ (fuel k : Nat), k ≤ l.length → l.length - k < fuel → f_lz_Check_L6 l kk fu fuel (k : Int) = if (l.drop k).all fB then kk () else some 4
  | 0, k, _, hf => absurd hf (Nat.not_lt_zero _)
  | fuel + 1, k, hk, hf => by
    rw [f_lz_Check_L6]
    by_cases hlt : k < l.length
    · rw [cond_tt (dlt (by omega)), at_lt hlt, opt_of, formed_ok, opt_of, List.drop_eq_getElem_cons hlt, List.all_cons]
      cases hf : fB l[k] with
      | true => rw [cond_ff (show (!true) = false from rfl), wsucc (by omega), lz_Check_loop l hl kk fu fuel (k + 1) hlt (by omega), Bool.true_and]
      | false => rw [cond_tt (show (!false) = true from rfl), Bool.false_and, if_neg (by simp)]
    · rw [cond_ff (dge (by omega)), List.drop_of_length_le (by omega)]; rfl
theorem lz_Check_ok (l : List T) (fu : Nat) (hf : 5000 ≤ fu) : f_lz_Check fu l = some (chk l) := by
  unfold f_lz_Check chk
  by_cases h : 4096 < l.length
  · rw [cond_tt (decide_eq_true (by omega)), if_pos h]
  · rw [cond_ff (decide_eq_false (by omega)), if_neg h, lt_of]
    have := lz_Check_loop l (by omega) (fun _ => some 0) fu fu 0 (by omega) (by omega)
    rw [List.drop_zero] at this
    refine Eq.trans this ?_
    split <;> rfl
def lit (t : T) : UInt8 := UInt8.ofNat t.Lit.toNat
structure Fm (t : T) : Prop where
  lit : 0 ≤ t.Lit ∧ t.Lit ≤ 255
  len : 0 ≤ t.Len ∧ t.Len ≤ 255
  dist : 0 ≤ t.Dist ∧ t.Dist ≤ 1024
  one : t.Len ≠ 0 → 1 ≤ t.Dist
def pk (t : T) : List UInt8 := if t.Len = 0 then [0, lit t] else [UInt8.ofNat t.Len.toNat, UInt8.ofNat (t.Dist.toNat % 256), UInt8.ofNat (t.Dist.toNat / 256)]
theorem pk_len (t : T) : (pk t).length ≤ 3 := by unfold pk; split <;> simp
def pks (l : List T) : List UInt8 := l.flatMap pk
theorem pks_len : ∀ l : List T, (pks l).length ≤ 3 * l.length
  | [] => by simp [pks]
  | t :: l => by
    have := pks_len l
    have h1 := pk_len t
    unfold pks at this ⊢
    rw [List.flatMap_cons, List.length_append, List.length_cons]; omega
theorem u8i {x : Int} (h : 0 ≤ x ∧ x ≤ 255) : IntKind.u8.wrap x = x := by
  obtain ⟨n, rfl⟩ : ∃ n : Nat, x = n := ⟨x.toNat, by omega⟩
  exact u8w_in (by omega)
theorem u8m {x : Int} (h : 0 ≤ x) : IntKind.u8.wrap x = ((x.toNat % 256 : Nat) : Int) := by
  obtain ⟨n, rfl⟩ : ∃ n : Nat, x = n := ⟨x.toNat, by omega⟩
  rw [u8w, Int.toNat_natCast]
theorem pack_loop (l : List T) (hl : l.length ≤ 4096) (hF : ∀ t ∈ l, Fm t) (kk : List UInt8 → Option (List UInt8 × Int)) : ∀ (fuel k : Nat) (out : List UInt8), k ≤ l.length → l.length - k < fuel → out.length ≤ 3 * k →
    f_lz_Pack_L8 l kk fuel out (k : Int) = kk (out ++ pks (l.drop k))
  | 0, k, _, _, hf, _ => absurd hf (Nat.not_lt_zero _)
  | fuel + 1, k, out, hk, hf, ho => by
    rw [f_lz_Pack_L8]
    by_cases hlt : k < l.length
    · have hF' := hF l[k] (List.getElem_mem hlt)
      rw [cond_tt (dlt (by omega)), lt_of, at_lt hlt, opt_of, List.drop_eq_getElem_cons hlt, wsucc (by omega)]
      have hpks : pks (l[k] :: l.drop (k + 1)) = pk l[k] ++ pks (l.drop (k + 1)) := by unfold pks; rw [List.flatMap_cons]
      rw [hpks]
      generalize l[k] = t at hF'
      have hlit := hF'.lit
      have hlen := hF'.len
      have hdist := hF'.dist
      have ih : f_lz_Pack_L8 l kk fuel (out ++ pk t) ((k + 1 : Nat) : Int) = kk ((out ++ pk t) ++ pks (l.drop (k + 1))) := pack_loop l hl hF kk fuel (k + 1) _ hlt (by omega) (by rw [List.length_append]; have := pk_len t; omega)
      rw [List.append_assoc] at ih
      by_cases h3 : t.Len = 0
      · rw [cond_tt (by simp [h3]), req_pos (by omega), req_pos (by omega), req_pos (by simp; omega)]
        unfold pk at ih ⊢; rw [if_pos h3] at ih ⊢
        exact ih
      · have e1 : (t.Dist).fdiv (2 ^ min ((8 : Int)).toNat (IntKind.bits .i64)) = ((t.Dist.toNat / 256 : Nat) : Int) := by
          have := shr_nat (x := t.Dist.toNat) (m := 8) (j := 8) (k := .i64) rfl (by decide)
          rw [show ((t.Dist.toNat : Nat) : Int) = t.Dist by omega] at this
          exact this
        have hq : t.Dist.toNat / 256 ≤ 4 := by omega
        rw [cond_ff (by simpa using h3), u8i hlen, u8m hdist.1, e1, u8w_in (by omega), req_pos hlen, req_pos (by omega), req_pos (by omega), req_pos (by simp; omega)]
        unfold pk at ih ⊢; rw [if_neg h3] at ih ⊢
        rw [Int.toNat_natCast, Int.toNat_natCast]
        exact ih
    · rw [cond_ff (dge (by omega)), List.drop_of_length_le (by omega)]; unfold pks; simp
theorem text_ok (t : T) (h : Fm t) (fu : Nat) : f_lumref_tokenText fu t = some (pk t) := by
  have hlit := h.lit
  have hlen := h.len
  have hdist := h.dist
  unfold f_lumref_tokenText pk
  by_cases h3 : t.Len = 0
  · rw [cond_tt (by simp [h3]), req_pos (by omega), req_pos (by omega), if_pos h3]; rfl
  · have e1 : (t.Dist).tmod 256 = ((t.Dist.toNat % 256 : Nat) : Int) := by rw [Int.tmod_eq_emod_of_nonneg hdist.1]; omega
    have e2 : (t.Dist).tdiv 256 = ((t.Dist.toNat / 256 : Nat) : Int) := by rw [Int.tdiv_eq_ediv_of_nonneg hdist.1]; omega
    rw [cond_ff (by simpa using h3), if_neg h3, u8i hlen, e1, e2, w64 (by omega) (by omega), u8w_in (by omega), u8w_in (by omega), req_pos hlen, req_pos (by omega), req_pos (by omega), Int.toNat_natCast, Int.toNat_natCast]
theorem texts_loop (l : List T) (hl : l.length ≤ 4096) (hF : ∀ t ∈ l, Fm t) (kk : List UInt8 → Option (List UInt8)) (fu : Nat) : ∀ (fuel k : Nat) (out : List UInt8), k ≤ l.length → l.length - k < fuel → out.length ≤ 3 * k →
    f_lumref_TokensText_L5 l kk fu fuel out (k : Int) = kk (out ++ pks (l.drop k))
  | 0, k, _, _, hf, _ => absurd hf (Nat.not_lt_zero _)
  | fuel + 1, k, out, hk, hf, ho => by
    rw [f_lumref_TokensText_L5]
    by_cases hlt : k < l.length
    · have hF' := hF l[k] (List.getElem_mem hlt)
      have h1 := pk_len l[k]
      have hpks : pks (l[k] :: l.drop (k + 1)) = pk l[k] ++ pks (l.drop (k + 1)) := by unfold pks; rw [List.flatMap_cons]
      rw [cond_tt (dlt (by omega)), at_lt hlt, opt_of, text_ok _ hF', opt_of, req_pos (by omega), wsucc (by omega), texts_loop l hl hF kk fu fuel (k + 1) _ hlt (by omega) (by rw [List.length_append]; omega), List.drop_eq_getElem_cons hlt, hpks, List.append_assoc]
    · rw [cond_ff (dge (by omega)), List.drop_of_length_le (by omega)]; unfold pks; simp
end Go.Proofs.YtfhifdmbdkkgaaaDoor.PTok
namespace Go.Proofs.YtfhifdmbdkkgaaaDoor.PGr
open Go.RowKit YtfhifdmbdkkgaaaDoor.En YtfhifdmbdkkgaaaDoor YtfhifdmbdkkgaaaDoor.PTok
set_option linter.unusedVariables false
set_option linter.unusedSimpArgs false
def eqAt (s : List UInt8) (p d j : Nat) : Bool := En.bAt s ((p + j : Nat) : Int) == En.bAt s ((p + j - d : Nat) : Int)
def mlenF (p : Nat → Bool) : Nat → Nat → Nat
  | 0, n => n
  | f + 1, n => if p n then mlenF p f (n + 1) else n
def mostAt (s : List UInt8) (p : Nat) : Nat := min 255 (s.length - p)
def lenAt (s : List UInt8) (p d : Nat) : Nat := mlenF (eqAt s p d) (mostAt s p) 0
theorem mlenF_le (p : Nat → Bool) (f n : Nat) : mlenF p f n ≤ n + f := by
  induction f generalizing n with
  | zero => simp [mlenF]
  | succ f ih => unfold mlenF; split
                 · have := ih (n + 1); omega
                 · omega
theorem lenAt_le (s : List UInt8) (p d : Nat) : lenAt s p d ≤ mostAt s p := by have := mlenF_le (eqAt s p d) (mostAt s p) 0; unfold lenAt; omega
def bestTo (s : List UInt8) (p : Nat) : Nat → Nat × Nat
  | 0 => (0, 0)
  | d + 1 => if (bestTo s p d).1 < lenAt s p (d + 1) then (lenAt s p (d + 1), d + 1) else bestTo s p d
theorem bestTo_le (s : List UInt8) (p d : Nat) : (bestTo s p d).1 ≤ mostAt s p := by
  induction d with
  | zero => simp [bestTo]
  | succ d ih => unfold bestTo; split
                 · exact lenAt_le s p (d + 1)
                 · exact ih
theorem bestTo_dist (s : List UInt8) (p d : Nat) : (bestTo s p d).2 ≤ d := by
  induction d with
  | zero => simp [bestTo]
  | succ d ih => unfold bestTo; split
                 · simp
                 · omega
theorem bestTo_pos (s : List UInt8) (p d : Nat) (h : (bestTo s p d).1 ≠ 0) : 1 ≤ (bestTo s p d).2 := by
  induction d with
  | zero => simp [bestTo] at h
  | succ d ih =>
    unfold bestTo at h ⊢
    split
    · simp
    · rename_i hlt; rw [if_neg hlt] at h; exact ih h
theorem bestTo_stop (s : List UInt8) (p d : Nat) (h : (bestTo s p d).1 = mostAt s p) : ∀ e, d ≤ e → bestTo s p e = bestTo s p d := by
  intro e he
  induction e with
  | zero => have : d = 0 := by omega
            subst this; rfl
  | succ e ih =>
    by_cases hd : d = e + 1
    · subst hd; rfl
    · have := ih (by omega)
      show (if (bestTo s p e).1 < lenAt s p (e + 1) then _ else _) = _
      rw [this, if_neg (by have := lenAt_le s p (e + 1); omega)]
def best (s : List UInt8) (p : Nat) : Nat × Nat := bestTo s p (min 1024 p)
theorem best_le (s : List UInt8) (p : Nat) : (best s p).1 ≤ mostAt s p := bestTo_le _ _ _
theorem best_dist (s : List UInt8) (p : Nat) : (best s p).2 ≤ 1024 := by have := bestTo_dist s p (min 1024 p); unfold best; omega
def tok (s : List UInt8) (p : Nat) : T := if (best s p).1 = 0 then ⟨En.bAt s (p : Int), 0, 0⟩ else ⟨0, ((best s p).1 : Nat), ((best s p).2 : Nat)⟩
def toks (s : List UInt8) : Nat → Nat → List T
  | 0, _ => []
  | f + 1, p => if p < s.length then tok s p :: toks s f (p + max (best s p).1 1) else []
theorem toks_len (s : List UInt8) : ∀ (f p : Nat), (toks s f p).length ≤ s.length - p
  | 0, p => by simp [toks]
  | f + 1, p => by
    unfold toks
    split
    · have := toks_len s f (p + max (best s p).1 1)
      rw [List.length_cons]; omega
    · simp
theorem bAt_byte (s : List UInt8) (i : Int) : 0 ≤ En.bAt s i ∧ En.bAt s i ≤ 255 := by
  unfold En.bAt
  have := (s.getD i.toNat 0).toNat_lt
  omega
theorem tok_ok (s : List UInt8) (p : Nat) : Fm (tok s p) ∧ fB (tok s p) = true := by
  have h1 := best_le s p
  have h2 := best_dist s p
  have h3 : (best s p).1 ≠ 0 → 1 ≤ (best s p).2 := bestTo_pos s p _
  have h4 : mostAt s p ≤ 255 := by unfold mostAt; omega
  unfold tok
  split
  · exact ⟨⟨bAt_byte s _, by simp, by simp, fun h => absurd rfl h⟩, by unfold fB; rw [if_pos rfl]; rfl⟩
  · rename_i h
    have h5 := h3 h
    refine ⟨⟨by simp, by dsimp only; omega, by dsimp only; omega, fun _ => by dsimp only; omega⟩, ?_⟩
    unfold fB
    rw [if_neg (by dsimp only; omega)]
    simp only [Bool.and_eq_true, decide_eq_true_eq]
    exact ⟨trivial, by omega, by omega, by omega, by omega⟩
theorem toks_ok (s : List UInt8) : ∀ (f p : Nat), ∀ t ∈ toks s f p, Fm t ∧ fB t = true
  | 0, p, t, h => by cases h
  | f + 1, p, t, h => by
    unfold toks at h
    split at h
    · rcases List.mem_cons.1 h with rfl | h
      · exact tok_ok s p
      · exact toks_ok s f _ t h
    · cases h
section
variable (s : List UInt8) (p : Nat) (hp : p < s.length) (hn : s.length ≤ 4096)
include hp hn
theorem most_eq : (if (IntKind.i64.wrap ((s.length : Int) - (p : Int))) < (255 : Int) then (IntKind.i64.wrap ((s.length : Int) - (p : Int))) else (255 : Int)) = ((mostAt s p : Nat) : Int) := by
  rw [w64 (by omega) (by omega)]
  unfold mostAt
  split <;> omega
theorem len_go (d : Nat) (hd : 1 ≤ d ∧ d ≤ p) (kk : Int → Option T) : ∀ (f k j : Nat), mostAt s p - j = f → f < k → j ≤ mostAt s p → f_lz_longest_L19 s (p : Int) (d : Int) kk k (j : Int) = kk ((mlenF (eqAt s p d) f j : Nat) : Int)
  | _, 0, _, _, hk, _ => absurd hk (Nat.not_lt_zero _)
  | 0, k + 1, j, hf, hk, hj => by
    rw [f_lz_longest_L19, lt_of, most_eq s p hp hn, cond_ff (dge (by omega))]
    rfl
  | f + 1, k + 1, j, hf, hk, hj => by
    have hm : mostAt s p ≤ s.length - p := by unfold mostAt; omega
    have h255 : mostAt s p ≤ 255 := by unfold mostAt; omega
    have e1 : IntKind.i64.wrap ((p : Int) + (j : Int)) = ((p + j : Nat) : Int) := by rw [w64 (by omega) (by omega)]; omega
    have e2 : IntKind.i64.wrap (((p + j : Nat) : Int) - (d : Int)) = ((p + j - d : Nat) : Int) := by rw [w64 (by omega) (by omega)]; omega
    rw [f_lz_longest_L19, lt_of, most_eq s p hp hn, cond_tt (dlt (by omega)), e1, e2, req_pos (by omega), req_pos (by omega), mlenF]
    show (bif eqAt s p d j then _ else _) = _
    cases h : eqAt s p d j with
    | true =>
      rw [cond_tt rfl, if_pos rfl, wsucc (by omega)]
      exact len_go d hd kk f k (j + 1) (by omega) (by omega) (by omega)
    | false => rw [cond_ff rfl, if_neg (by simp)]
theorem rlen_go (d : Nat) (hd : 1 ≤ d ∧ d ≤ p) (kk : Int → Option (List T)) : ∀ (f k j : Nat), mostAt s p - j = f → f < k → j ≤ mostAt s p → f_lumref_Greedy_L30 s (p : Int) (d : Int) kk k (j : Int) = kk ((mlenF (eqAt s p d) f j : Nat) : Int)
  | _, 0, _, _, hk, _ => absurd hk (Nat.not_lt_zero _)
  | 0, k + 1, j, hf, hk, hj => by
    have e1 : IntKind.i64.wrap ((p : Int) + (j : Int)) = ((p + j : Nat) : Int) := by
      have : mostAt s p ≤ 255 := by unfold mostAt; omega
      rw [w64 (by omega) (by omega)]; omega
    rw [f_lumref_Greedy_L30, lt_of, e1]
    by_cases h : j < 255
    · have h2 : ¬ ((p + j : Nat) : Int) < (s.length : Int) := by
        have : mostAt s p = j := by omega
        unfold mostAt at this; omega
      rw [cond_tt (dlt (by omega)), cond_ff (decide_eq_false h2)]
      rfl
    · rw [cond_ff (dge (by omega))]
      rfl
  | f + 1, k + 1, j, hf, hk, hj => by
    have hm : mostAt s p ≤ s.length - p := by unfold mostAt; omega
    have h255 : mostAt s p ≤ 255 := by unfold mostAt; omega
    have e1 : IntKind.i64.wrap ((p : Int) + (j : Int)) = ((p + j : Nat) : Int) := by rw [w64 (by omega) (by omega)]; omega
    have e2 : IntKind.i64.wrap (((p + j : Nat) : Int) - (d : Int)) = ((p + j - d : Nat) : Int) := by rw [w64 (by omega) (by omega)]; omega
    rw [f_lumref_Greedy_L30, lt_of, cond_tt (dlt (by omega)), e1, cond_tt (dlt (by omega)), e2, req_pos (by omega), req_pos (by omega), mlenF]
    show (bif eqAt s p d j then _ else _) = _
    cases h : eqAt s p d j with
    | true =>
      rw [cond_tt rfl, if_pos rfl, wsucc (by omega)]
      exact rlen_go d hd kk f k (j + 1) (by omega) (by omega) (by omega)
    | false => rw [cond_ff rfl, if_neg (by simp)]
theorem longest_go (fu : Nat) (hfu : 300 ≤ fu) (kk : Int → Int → Option T) : ∀ (g k e : Nat), min 1024 p - e = g → g < k → e ≤ min 1024 p →
    f_lz_longest_L7 s (p : Int) kk fu k ((bestTo s p e).1 : Nat) ((bestTo s p e).2 : Nat) ((e + 1 : Nat) : Int) = kk ((best s p).1 : Nat) ((best s p).2 : Nat)
  | _, 0, _, _, hk, _ => absurd hk (Nat.not_lt_zero _)
  | g, k + 1, e, hg, hk, he => by
    have hb := bestTo_le s p e
    have h255 : mostAt s p ≤ 255 := by unfold mostAt; omega
    have hmin : (if (p : Int) < 1024 then (p : Int) else 1024) = ((min 1024 p : Nat) : Int) := by split <;> omega
    rw [f_lz_longest_L7, lt_of, lt_of, hmin, most_eq s p hp hn]
    by_cases h1 : e + 1 ≤ min 1024 p
    · rw [cond_tt (decide_eq_true (show ((e + 1 : Nat) : Int) ≤ ((min 1024 p : Nat) : Int) by omega))]
      by_cases h2 : (bestTo s p e).1 < mostAt s p
      · rw [decide_eq_true (show (((bestTo s p e).1 : Nat) : Int) < ((mostAt s p : Nat) : Int) by omega)]
        dsimp only
        rw [cond_tt rfl, lt_of, lt_of, show f_lz_longest_L19 s (p : Int) ((e + 1 : Nat) : Int) _ fu (0 : Int) = _ from len_go s p hp hn (e + 1) (by omega) _ (mostAt s p) fu 0 (by omega) (by omega) (by omega), wsucc (by omega)]
        have ih := longest_go fu hfu kk (g - 1) k (e + 1) (by omega) (by omega) h1
        unfold bestTo at ih
        dsimp only
        by_cases h3 : (bestTo s p e).1 < lenAt s p (e + 1)
        · rw [if_pos h3] at ih
          rw [cond_tt (decide_eq_true (show ((mlenF (eqAt s p (e + 1)) (mostAt s p) 0 : Nat) : Int) > (((bestTo s p e).1 : Nat) : Int) by unfold lenAt at h3; omega))]
          exact ih
        · rw [if_neg h3] at ih
          rw [cond_ff (decide_eq_false (show ¬ ((mlenF (eqAt s p (e + 1)) (mostAt s p) 0 : Nat) : Int) > (((bestTo s p e).1 : Nat) : Int) by unfold lenAt at h3; omega))]
          exact ih
      · rw [decide_eq_false (show ¬ (((bestTo s p e).1 : Nat) : Int) < ((mostAt s p : Nat) : Int) by omega)]
        dsimp only
        rw [cond_ff rfl]
        unfold best
        rw [bestTo_stop s p e (by omega) (min 1024 p) he]
    · rw [cond_ff (decide_eq_false (show ¬ ((e + 1 : Nat) : Int) ≤ ((min 1024 p : Nat) : Int) by omega))]
      dsimp only
      rw [cond_ff rfl]
      unfold best
      rw [show min 1024 p = e by omega]
theorem longest_ok (fu : Nat) (hfu : 2000 ≤ fu) : f_lz_longest fu s (p : Int) = some ⟨0, ((best s p).1 : Nat), ((best s p).2 : Nat)⟩ := by
  unfold f_lz_longest
  rw [lt_of]
  exact longest_go s p hp hn fu (by omega) (fun a b => some ⟨0, a, b⟩) (min 1024 p) fu 0 (by omega) (by omega) (by omega)
theorem rbest_go (fu : Nat) (hfu : 300 ≤ fu) (kk : Int → Int → Int → Option (List T)) : ∀ (g k e : Nat), min 1024 p - e = g → g < k → e ≤ min 1024 p →
    f_lumref_Greedy_L18 s (p : Int) kk fu k (if (bestTo s p e).1 = 0 then En.bAt s (p : Int) else 0) ((bestTo s p e).1 : Nat) ((bestTo s p e).2 : Nat) ((e + 1 : Nat) : Int) = kk (if (best s p).1 = 0 then En.bAt s (p : Int) else 0) ((best s p).1 : Nat) ((best s p).2 : Nat)
  | _, 0, _, _, hk, _ => absurd hk (Nat.not_lt_zero _)
  | g, k + 1, e, hg, hk, he => by
    have hb := bestTo_le s p e
    have h255 : mostAt s p ≤ 255 := by unfold mostAt; omega
    rw [f_lumref_Greedy_L18, lt_of, lt_of]
    have out : ¬ e + 1 ≤ min 1024 p → kk (if (bestTo s p e).1 = 0 then En.bAt s (p : Int) else 0) ((bestTo s p e).1 : Nat) ((bestTo s p e).2 : Nat) = kk (if (best s p).1 = 0 then En.bAt s (p : Int) else 0) ((best s p).1 : Nat) ((best s p).2 : Nat) := fun h => by
      unfold best
      rw [show min 1024 p = e by omega]
    by_cases h1 : e + 1 ≤ 1024
    · rw [cond_tt (decide_eq_true (show ((e + 1 : Nat) : Int) ≤ 1024 by omega))]
      by_cases h2 : e + 1 ≤ p
      · rw [decide_eq_true (show ((e + 1 : Nat) : Int) ≤ (p : Int) by omega)]
        dsimp only
        rw [cond_tt rfl, lt_of, lt_of, show f_lumref_Greedy_L30 s (p : Int) ((e + 1 : Nat) : Int) _ fu (0 : Int) = _ from rlen_go s p hp hn (e + 1) (by omega) _ (mostAt s p) fu 0 (by omega) (by omega) (by omega), wsucc (by omega)]
        have ih := rbest_go fu hfu kk (g - 1) k (e + 1) (by omega) (by omega) (by omega)
        unfold bestTo at ih
        dsimp only
        by_cases h3 : (bestTo s p e).1 < lenAt s p (e + 1)
        · rw [if_pos h3] at ih
          rw [cond_tt (decide_eq_true (show ((mlenF (eqAt s p (e + 1)) (mostAt s p) 0 : Nat) : Int) > (((bestTo s p e).1 : Nat) : Int) by unfold lenAt at h3; omega))]
          dsimp only at ih
          rw [if_neg (by omega)] at ih
          exact ih
        · rw [if_neg h3] at ih
          rw [cond_ff (decide_eq_false (show ¬ ((mlenF (eqAt s p (e + 1)) (mostAt s p) 0 : Nat) : Int) > (((bestTo s p e).1 : Nat) : Int) by unfold lenAt at h3; omega))]
          exact ih
      · rw [decide_eq_false (show ¬ ((e + 1 : Nat) : Int) ≤ (p : Int) by omega)]
        dsimp only
        rw [cond_ff rfl]
        exact out (by omega)
    · rw [cond_ff (decide_eq_false (show ¬ ((e + 1 : Nat) : Int) ≤ 1024 by omega))]
      dsimp only
      rw [cond_ff rfl]
      exact out (by omega)
end
theorem next_at (s : List UInt8) (p : Nat) (hp : p < s.length) (hn : s.length ≤ 4096) : IntKind.i64.wrap ((p : Int) + (if (1 : Int) > (((best s p).1 : Nat) : Int) then (1 : Int) else (((best s p).1 : Nat) : Int))) = ((p + max (best s p).1 1 : Nat) : Int) := by
  have h1 := best_le s p
  have h255 : mostAt s p ≤ 255 := by unfold mostAt; omega
  split
  · rw [w64 (by omega) (by omega)]; omega
  · rw [w64 (by omega) (by omega)]; omega
theorem greedy_go (s : List UInt8) (hn : s.length ≤ 4096) (fu : Nat) (hfu : 2000 ≤ fu) (kk : List T → Option (List T × Int)) : ∀ (f k p : Nat) (out : List T), s.length - p ≤ f → f < k → out.length ≤ p → out.length ≤ 4096 → p ≤ 10000 → f_lz_Greedy_L6 s kk fu k out (p : Int) = kk (out ++ toks s f p)
  | _, 0, _, _, _, hk, _, _, _ => absurd hk (Nat.not_lt_zero _)
  | f, k + 1, p, out, hf, hk, ho, ho2, hp9 => by
    rw [f_lz_Greedy_L6]
    by_cases hp : p < s.length
    · obtain ⟨f, rfl⟩ : ∃ g, f = g + 1 := ⟨f - 1, by omega⟩
      have h1 := best_le s p
      have h255 : mostAt s p ≤ 255 := by unfold mostAt; omega
      have ih := greedy_go s hn fu hfu kk f k (p + max (best s p).1 1) (out ++ [tok s p]) (by omega) (by omega) (by rw [List.length_append, List.length_singleton]; omega) (by rw [List.length_append, List.length_singleton]; omega) (by omega)
      rw [cond_tt (dlt (by omega)), longest_ok s p hp hn fu hfu, opt_of, lt_of]
      dsimp only
      rw [next_at s p hp hn, toks, if_pos hp]
      rw [List.append_assoc, List.singleton_append] at ih
      rw [← ih]
      unfold tok
      by_cases h0 : (best s p).1 = 0
      · have h2 : (best s p).2 = 0 := by
          have : ∀ d, (bestTo s p d).1 = 0 → (bestTo s p d).2 = 0 := fun d => by
            induction d with
            | zero => intro _; rfl
            | succ d ih =>
              intro h
              unfold bestTo at h ⊢
              split
              · rename_i hlt; rw [if_pos hlt] at h; simp only at h; omega
              · rename_i hlt; rw [if_neg hlt] at h; exact ih h
          exact this _ h0
        rw [cond_tt (by rw [h0]; rfl), req_pos (by omega), req_pos (by rw [List.length_singleton]; omega), if_pos h0, h0, h2]
        rfl
      · rw [cond_ff (by rw [beq_eq_false_iff_ne]; omega), req_pos (by rw [List.length_singleton]; omega), if_neg h0]
    · rw [cond_ff (dge (by omega))]
      have : toks s f p = [] := by
        cases f with
        | zero => rfl
        | succ f => rw [toks, if_neg hp]
      rw [this, List.append_nil]
theorem rgreedy_go (s : List UInt8) (hn : s.length ≤ 4096) (fu : Nat) (hfu : 2000 ≤ fu) (kk : List T → Option (List T)) : ∀ (f k p : Nat) (out : List T), s.length - p ≤ f → f < k → out.length ≤ p → out.length ≤ 4096 → p ≤ 10000 → f_lumref_Greedy_L5 s kk fu k out (p : Int) = kk (out ++ toks s f p)
  | _, 0, _, _, _, hk, _, _, _ => absurd hk (Nat.not_lt_zero _)
  | f, k + 1, p, out, hf, hk, ho, ho2, hp9 => by
    rw [f_lumref_Greedy_L5, lt_of]
    by_cases hp : p < s.length
    · obtain ⟨f, rfl⟩ : ∃ g, f = g + 1 := ⟨f - 1, by omega⟩
      have h1 := best_le s p
      have h255 : mostAt s p ≤ 255 := by unfold mostAt; omega
      have ih := rgreedy_go s hn fu hfu kk f k (p + max (best s p).1 1) (out ++ [tok s p]) (by omega) (by omega) (by rw [List.length_append, List.length_singleton]; omega) (by rw [List.length_append, List.length_singleton]; omega) (by omega)
      rw [cond_tt (dlt (by omega)), req_pos (by omega), lt_of]
      have hb := rbest_go s p hp hn fu (by omega) (fun (j10i5_0 : Int) (j10i5_1 : Int) (j10i5_2 : Int) => (req (((out.length + ([(S_api_Token.mk j10i5_0 j10i5_1 j10i5_2)]).length) * 24 : Nat) ≤ 140737488355328 ∧ out.length + ([(S_api_Token.mk j10i5_0 j10i5_1 j10i5_2)]).length ≤ 9223372036854775807) (bif (j10i5_1 == (0 : Int)) then (f_lumref_Greedy_L5 s kk fu k (out ++ ([(S_api_Token.mk j10i5_0 j10i5_1 j10i5_2)])) (IntKind.i64.wrap ((p : Int) + (1 : Int)))) else (f_lumref_Greedy_L5 s kk fu k (out ++ ([(S_api_Token.mk j10i5_0 j10i5_1 j10i5_2)])) (IntKind.i64.wrap ((p : Int) + j10i5_1)))))) (min 1024 p) fu 0 (by omega) (by omega) (by omega)
      refine Eq.trans hb ?_
      rw [toks, if_pos hp]
      rw [List.append_assoc, List.singleton_append] at ih
      rw [← ih, req_pos (by rw [List.length_singleton]; omega)]
      unfold tok
      by_cases h0 : (best s p).1 = 0
      · have h2 : (best s p).2 = 0 := by
          have : ∀ d, (bestTo s p d).1 = 0 → (bestTo s p d).2 = 0 := fun d => by
            induction d with
            | zero => intro _; rfl
            | succ d ih =>
              intro h
              unfold bestTo at h ⊢
              split
              · rename_i hlt; rw [if_pos hlt] at h; simp only at h; omega
              · rename_i hlt; rw [if_neg hlt] at h; exact ih h
          exact this _ h0
        rw [cond_tt (by rw [h0]; rfl), if_pos h0, if_pos h0, h0, h2, wsucc (by omega)]
        rfl
      · rw [cond_ff (by rw [beq_eq_false_iff_ne]; omega), if_neg h0, if_neg h0, w64 (by omega) (by omega)]
        rw [show (p : Int) + (((best s p).1 : Nat) : Int) = ((p + max (best s p).1 1 : Nat) : Int) by omega]
    · rw [cond_ff (dge (by omega))]
      have : toks s f p = [] := by
        cases f with
        | zero => rfl
        | succ f => rw [toks, if_neg hp]
      rw [this, List.append_nil]
def tks (s : List UInt8) : List T := toks s s.length 0
theorem greedy_ok (s : List UInt8) (hn : s.length ≤ 4096) (fu : Nat) (hfu : 5000 ≤ fu) : f_lz_Greedy fu s = some (tks s, 0) ∧ f_lumref_Greedy fu s = some (tks s) := by
  constructor
  · unfold f_lz_Greedy
    rw [cond_ff (decide_eq_false (by omega)), lt_of]
    exact greedy_go s hn fu (by omega) (fun l => some (l, 0)) s.length fu 0 [] (by omega) (by omega) (Nat.le_refl _) (by simp) (by omega)
  · unfold f_lumref_Greedy
    rw [lt_of]
    exact rgreedy_go s hn fu (by omega) (fun l => some l) s.length fu 0 [] (by omega) (by omega) (Nat.le_refl _) (by simp) (by omega)
theorem greedy_large (s : List UInt8) (h : 4096 < s.length) (fu : Nat) : f_lz_Greedy fu s = some ([], 2) := by
  unfold f_lz_Greedy
  rw [cond_tt (decide_eq_true (by omega))]
def txt (s : List UInt8) : List UInt8 := pks (tks s)
theorem txt_len (s : List UInt8) (hn : s.length ≤ 4096) : (txt s).length ≤ 12288 := by
  have h1 := pks_len (tks s)
  have h2 := toks_len s s.length 0
  unfold txt tks at *
  omega
theorem pack_ok (s : List UInt8) (hn : s.length ≤ 4096) (fu : Nat) (hfu : 5000 ≤ fu) : f_lz_Pack fu (tks s) = some (txt s, 0) ∧ f_lumref_TokensText fu (tks s) = some (txt s) := by
  have hl : (tks s).length ≤ 4096 := by have := toks_len s s.length 0; unfold tks; omega
  have hF : ∀ t ∈ tks s, Fm t := fun t ht => (toks_ok s _ _ t ht).1
  constructor
  · unfold f_lz_Pack
    have hc : chk (tks s) = 0 := by
      unfold chk
      rw [if_neg (by omega), if_pos (show (tks s).all fB = true from List.all_eq_true.2 fun t ht => (toks_ok s _ _ t ht).2)]
    rw [lz_Check_ok _ fu hfu, opt_of, hc, cond_ff (by rfl), lt_of]
    exact pack_loop (tks s) hl hF (fun x => some (x, 0)) fu 0 [] (Nat.zero_le _) (by omega) (Nat.le_refl _)
  · unfold f_lumref_TokensText
    rw [lt_of]
    exact texts_loop (tks s) hl hF (fun x => some x) fu fu 0 [] (Nat.zero_le _) (by omega) (Nat.le_refl _)
end Go.Proofs.YtfhifdmbdkkgaaaDoor.PGr
namespace Go.Proofs.YtfhifdmbdkkgaaaDoor.PHl
open Go.RowKit YtfhifdmbdkkgaaaDoor.En YtfhifdmbdkkgaaaDoor YtfhifdmbdkkgaaaDoor.HeapM
set_option linter.unusedVariables false
set_option linter.unusedSimpArgs false
theorem sumW_append (l m : List B) : sumW (l ++ m) = sumW l + sumW m := by
  induction l with
  | nil => simp [sumW]
  | cons a l ih => simp only [List.cons_append, sumW, ih]; omega
theorem nd_len : ∀ (n : Nat) (l : List Nat), l.Nodup → (∀ x ∈ l, x < n) → l.length ≤ n
  | 0, l, _, h => by
    cases l with
    | nil => exact Nat.le_refl _
    | cons a l => exact absurd (h a List.mem_cons_self) (Nat.not_lt_zero _)
  | n + 1, l, hn, h => by
    have ih := nd_len n (l.erase n) (hn.erase n) (fun x hx => by
      have h1 := (hn.mem_erase_iff).1 hx
      have h2 := h x h1.2
      have h3 := h1.1
      omega)
    rw [List.length_erase] at ih
    split at ih <;> omega
theorem Mt.len {n : Nat} {t : T} {b : B} (h : Mt n t b) : t.symbols.length ≤ n := by
  have h1 : (t.symbols.map Int.toNat).Nodup := List.Pairwise.map _ (fun x y hxy => hxy) (h.nd.imp_of_mem fun {x y} hx hy hxy => by
    have a := h.rng x ((h.mem x).1 hx); have b := h.rng y ((h.mem y).1 hy)
    intro e; exact hxy (by omega))
  have h3 := nd_len n _ h1 fun x hx => by
    obtain ⟨y, hy, rfl⟩ := List.mem_map.1 hx
    have a := h.rng y ((h.mem y).1 hy)
    omega
  rw [List.length_map] at h3
  exact h3
def fb : Nat → Nat
  | 0 => 1
  | 1 => 1
  | k + 2 => fb (k + 1) + fb k
theorem fb_mono1 (k : Nat) : fb k ≤ fb (k + 1) := by
  cases k with
  | zero => exact Nat.le_refl _
  | succ k => rw [show fb (k + 1 + 1) = fb (k + 1) + fb k from rfl]; omega
theorem fb_mono {a b : Nat} (h : a ≤ b) : fb a ≤ fb b := by
  induction b with
  | zero => rw [show a = 0 by omega]; exact Nat.le_refl _
  | succ b ih =>
    by_cases e : a = b + 1
    · rw [e]; exact Nat.le_refl _
    · exact Nat.le_trans (ih (by omega)) (fb_mono1 b)
theorem fb_pow : ∀ k, 2 ^ k ≤ fb (2 * k)
  | 0 => Nat.le_refl _
  | k + 1 => by
    have h1 := fb_pow k
    have h2 := fb_mono1 (2 * k)
    rw [show 2 * (k + 1) = 2 * k + 2 by omega, show fb (2 * k + 2) = fb (2 * k + 1) + fb (2 * k) from rfl, Nat.pow_succ]
    omega
theorem fb_deep {k : Nat} (h : fb (k + 1) ≤ 12288) : k ≤ 26 := by
  refine Classical.byContradiction fun hk => ?_
  have h1 := fb_pow 14
  have h2 := fb_mono (show 2 * 14 ≤ k + 1 by omega)
  have h3 : (2 : Nat) ^ 14 = 16384 := by decide
  omega
def gI (out : List Int) (x : Int) : Nat := (out.getD x.toNat 0).toNat
def kq (out : List Int) (l : List Int) : Nat := (l.map fun x => 2 ^ (48 - gI out x)).sum
theorem kq_append (out a b : List Int) : kq out (a ++ b) = kq out a + kq out b := by unfold kq; rw [List.map_append, List.sum_append]
theorem kq_same {out out' : List Int} {l : List Int} (h : ∀ x ∈ l, gI out' x = gI out x) : kq out' l = kq out l := by
  unfold kq
  congr 1
  exact List.map_congr_left fun x hx => by rw [h x hx]
theorem kq_half {out out' : List Int} : ∀ {l : List Int}, (∀ x ∈ l, gI out' x = gI out x + 1 ∧ gI out x ≤ 47) → 2 * kq out' l = kq out l
  | [], _ => rfl
  | a :: l, h => by
    have h1 := h a List.mem_cons_self
    have ih := kq_half (l := l) fun x hx => h x (List.mem_cons_of_mem _ hx)
    have e : 2 ^ (48 - gI out a) = 2 * 2 ^ (48 - gI out' a) := by
      rw [h1.1, show 48 - gI out a = (48 - (gI out a + 1)) + 1 by omega, Nat.pow_succ, Nat.mul_comm]
    unfold kq at ih ⊢
    rw [List.map_cons, List.sum_cons, List.map_cons, List.sum_cons, e]
    omega
theorem gI_incs {out l : List Int} (hn : l.Nodup) (h0 : ∀ s ∈ l, 0 ≤ s) (hv : ∀ v ∈ out, 0 ≤ v) {x : Int} (hx : 0 ≤ x) (hl : x < (out.length : Int)) : gI (incs out l) x = if x ∈ l then gI out x + 1 else gI out x := by
  obtain ⟨k, rfl⟩ := Int.eq_ofNat_of_zero_le hx
  have hk : k < out.length := by omega
  have h := incs_at l out hn h0 k
  have hvk := hv _ (List.getElem_mem hk)
  unfold gI
  rw [Int.toNat_natCast, List.getD_eq_getElem?_getD, List.getD_eq_getElem?_getD, h, List.getElem?_eq_getElem hk, Option.map_some]
  show (if (k : Int) ∈ l then out[k] + 1 else out[k]).toNat = if (k : Int) ∈ l then out[k].toNat + 1 else out[k].toNat
  split <;> omega
structure Fb (n : Nat) (ts : List T) (out : List Int) (m : Int) : Prop where
  m1 : 1 ≤ m
  mw : ∀ t ∈ ts, m ≤ t.weight
  fb : ∀ t ∈ ts, ∀ x ∈ t.symbols, (fb (gI out x + 1) : Int) ≤ t.weight ∧ (PHl.fb (gI out x) : Int) ≤ m
  kr : ∀ t ∈ ts, kq out t.symbols = 2 ^ 48
  no : ∀ k : Nat, k < n → (∀ t ∈ ts, (k : Int) ∉ t.symbols) → out[k]? = some 0
theorem Fb.join {n : Nat} {ts ts1 ts2 ts3 : List T} {out : List Int} {m : Int} (h : Fb n ts out m) (ho : out.length = n) (hv : ∀ v ∈ out, 0 ≤ v) {t u v : T} (p2 : (t :: ts1).Perm ts) (p4 : ∀ x ∈ ts, le t x) (p6 : (u :: ts2).Perm ts1) (p8 : ∀ x ∈ ts1, le u x) (g2 : ts3.Perm (v :: ts2))
    (hw : v.weight = t.weight + u.weight) (hs : v.symbols = t.symbols ++ u.symbols) (hnd : (t.symbols ++ u.symbols).Nodup) (hr : ∀ x ∈ t.symbols ++ u.symbols, 0 ≤ x ∧ x < (n : Int)) (hd : ∀ y ∈ ts2, ∀ x ∈ y.symbols, x ∉ t.symbols ++ u.symbols ∧ 0 ≤ x ∧ x < (n : Int)) (hb : ∀ x ∈ ts, x.weight ≤ 12288) :
    Fb n ts3 (incs out (t.symbols ++ u.symbols)) u.weight ∧ ∀ x ∈ v.symbols, 1 ≤ gI (incs out (t.symbols ++ u.symbols)) x := by
  have mt : t ∈ ts := p2.mem_iff.1 List.mem_cons_self
  have mu1 : u ∈ ts1 := p6.mem_iff.1 List.mem_cons_self
  have mu : u ∈ ts := p2.mem_iff.1 (List.mem_cons_of_mem _ mu1)
  have m2 : ∀ y ∈ ts2, y ∈ ts1 := fun y hy => p6.mem_iff.1 (List.mem_cons_of_mem _ hy)
  have m2' : ∀ y ∈ ts2, y ∈ ts := fun y hy => p2.mem_iff.1 (List.mem_cons_of_mem _ (m2 y hy))
  have hg : ∀ x, 0 ≤ x → x < (n : Int) → gI (incs out (t.symbols ++ u.symbols)) x = if x ∈ t.symbols ++ u.symbols then gI out x + 1 else gI out x := fun x h0 h1 => gI_incs hnd (fun s hs => (hr s hs).1) hv h0 (by omega)
  have hin : ∀ x ∈ t.symbols ++ u.symbols, gI (incs out (t.symbols ++ u.symbols)) x = gI out x + 1 := fun x hx => by rw [hg x (hr x hx).1 (hr x hx).2, if_pos hx]
  have hout : ∀ y ∈ ts2, ∀ x ∈ y.symbols, gI (incs out (t.symbols ++ u.symbols)) x = gI out x := fun y hy x hx => by
    obtain ⟨h1, h2, h3⟩ := hd y hy x hx
    rw [hg x h2 h3, if_neg h1]
  have wtu : t.weight ≤ u.weight := by have := p4 u mu; unfold le at this; omega
  have wm := h.mw t mt
  have wu : ∀ y ∈ ts2, u.weight ≤ y.weight := fun y hy => by have := p8 y (m2 y hy); unfold le at this; omega
  have h1 := h.m1
  have hdeep : ∀ x ∈ t.symbols ++ u.symbols, gI out x ≤ 47 := fun x hx => by
    rcases List.mem_append.1 hx with hx | hx
    · have a := (h.fb t mt x hx).1
      have b := hb t mt
      have := fb_deep (k := gI out x) (by omega)
      omega
    · have a := (h.fb u mu x hx).1
      have b := hb u mu
      have := fb_deep (k := gI out x) (by omega)
      omega
  have hstep : ∀ k, PHl.fb (k + 1 + 1) = PHl.fb (k + 1) + PHl.fb k := fun k => rfl
  refine ⟨⟨by omega, fun y hy => ?_, fun y hy x hx => ?_, fun y hy => ?_, fun k hk hno => ?_⟩, fun x hx => ?_⟩
  · rcases List.mem_cons.1 (g2.mem_iff.1 hy) with rfl | hy
    · omega
    · exact wu y hy
  · rcases List.mem_cons.1 (g2.mem_iff.1 hy) with rfl | hy
    · rw [hs] at hx
      rw [hin x hx, hw, hstep]
      rcases List.mem_append.1 hx with hx | hx
      · obtain ⟨a, b⟩ := h.fb t mt x hx
        exact ⟨by omega, by omega⟩
      · obtain ⟨a, b⟩ := h.fb u mu x hx
        exact ⟨by omega, by omega⟩
    · rw [hout y hy x hx]
      obtain ⟨a, b⟩ := h.fb y (m2' y hy) x hx
      exact ⟨a, by omega⟩
  · rcases List.mem_cons.1 (g2.mem_iff.1 hy) with rfl | hy
    · have e1 := h.kr t mt
      have e2 := h.kr u mu
      have e3 := kq_half (out := out) (out' := incs out (t.symbols ++ u.symbols)) (l := t.symbols ++ u.symbols) fun x hx => ⟨hin x hx, hdeep x hx⟩
      rw [kq_append out] at e3
      rw [hs]; omega
    · rw [kq_same (out := out) (hout y hy)]; exact h.kr y (m2' y hy)
  · have hk1 : ∀ y ∈ ts, (k : Int) ∉ y.symbols := fun y hy hx => by
      rcases List.mem_cons.1 (p2.mem_iff.2 hy) with rfl | hy
      · exact hno v (g2.mem_iff.2 List.mem_cons_self) (by rw [hs]; exact List.mem_append_left _ hx)
      · rcases List.mem_cons.1 (p6.mem_iff.2 hy) with rfl | hy
        · exact hno v (g2.mem_iff.2 List.mem_cons_self) (by rw [hs]; exact List.mem_append_right _ hx)
        · exact hno y (g2.mem_iff.2 (List.mem_cons_of_mem _ hy)) hx
    have hz := h.no k hk hk1
    have hni : (k : Int) ∉ t.symbols ++ u.symbols := fun hx => (List.mem_append.1 hx).elim (hk1 t mt) (hk1 u mu)
    rw [incs_at _ out hnd (fun s hs => (hr s hs).1) k, hz, Option.map_some, if_neg hni]
  · rw [hs] at hx
    rw [hin x hx]; omega
def sumTo (f : Nat → Nat) : Nat → Nat
  | 0 => 0
  | k + 1 => sumTo f k + f k
theorem sumTo_congr {f g : Nat → Nat} : ∀ {n : Nat}, (∀ k, k < n → f k = g k) → sumTo f n = sumTo g n
  | 0, _ => rfl
  | n + 1, h => by rw [sumTo, sumTo, sumTo_congr fun k hk => h k (by omega), h n (by omega)]
theorem sumTo_add (f g : Nat → Nat) : ∀ n, sumTo (fun k => f k + g k) n = sumTo f n + sumTo g n
  | 0 => rfl
  | n + 1 => by rw [sumTo, sumTo, sumTo, sumTo_add f g n]; omega
theorem sumTo_zero : ∀ n, sumTo (fun _ => 0) n = 0
  | 0 => rfl
  | n + 1 => by rw [sumTo, sumTo_zero n]
theorem sumTo_one (a v : Nat) : ∀ n, sumTo (fun k => if k = a then v else 0) n = if a < n then v else 0
  | 0 => rfl
  | n + 1 => by
    rw [sumTo, sumTo_one a v n]
    by_cases h : n = a
    · rw [if_pos h, if_neg (by omega), if_pos (by omega), Nat.zero_add]
    · rw [if_neg h]
      by_cases h2 : a < n
      · rw [if_pos h2, if_pos (by omega), Nat.add_zero]
      · rw [if_neg h2, if_neg (by omega)]
theorem sumTo_list (g : Nat → Nat) (n : Nat) : ∀ (l : List Int), l.Nodup → (∀ x ∈ l, 0 ≤ x ∧ x < (n : Int)) → sumTo (fun k => if (k : Int) ∈ l then g k else 0) n = (l.map fun x => g x.toNat).sum
  | [], _, _ => by
    rw [sumTo_congr (g := fun _ => 0) fun k _ => by rw [if_neg List.not_mem_nil], sumTo_zero]; rfl
  | a :: l, hn, hr => by
    obtain ⟨h1, h2⟩ := List.nodup_cons.1 hn
    have ha := hr a List.mem_cons_self
    have ih := sumTo_list g n l h2 fun x hx => hr x (List.mem_cons_of_mem _ hx)
    rw [List.map_cons, List.sum_cons, ← ih, sumTo_congr (g := fun k => (if k = a.toNat then g a.toNat else 0) + (if (k : Int) ∈ l then g k else 0)) fun k hk => ?_, sumTo_add, sumTo_one, if_pos (by omega)]
    by_cases hk2 : k = a.toNat
    · have e : (k : Int) = a := by omega
      rw [if_pos (by rw [e]; exact List.mem_cons_self), if_pos hk2, if_neg (by rw [e]; exact h1), hk2, Nat.add_zero]
    · rw [if_neg hk2, Nat.zero_add]
      by_cases hm : (k : Int) ∈ l
      · rw [if_pos (List.mem_cons_of_mem _ hm), if_pos hm]
      · rw [if_neg (fun e => (List.mem_cons.1 e).elim (fun e => hk2 (by omega)) hm), if_neg hm]
theorem kraft_sum (l : List Nat) : ∀ k, Huf.kraftTo l k = sumTo (fun j => Huf.kpart (Huf.mAt l j)) k
  | 0 => rfl
  | k + 1 => by rw [Huf.kraftTo, sumTo, kraft_sum l k]
end Go.Proofs.YtfhifdmbdkkgaaaDoor.PHl
namespace Go.Proofs.YtfhifdmbdkkgaaaDoor.PHl
open Go.RowKit YtfhifdmbdkkgaaaDoor.En YtfhifdmbdkkgaaaDoor YtfhifdmbdkkgaaaDoor.HeapM
set_option linter.unusedVariables false
set_option linter.unusedSimpArgs false
theorem take_sum (F : List Int) (j : Nat) (h : j < F.length) : (F.take (j + 1)).sum = (F.take j).sum + F[j] := by
  rw [List.take_add_one, List.getElem?_eq_getElem h, List.sum_append]
  show _ + (F[j] + 0) = _
  omega
structure Bi (F : List Int) (j : Nat) (ps : List (T × B)) (ts : List T) (bs : List B) : Prop where
  rl : Rl F.length ps ts bs
  hp : H le ts
  len : ts.length ≤ j
  up : ∀ b ∈ bs, (∀ x ∈ b.signs, x < (j : Int)) ∧ b.signs.length ≤ 1
  sm : sumW bs ≤ (j : Int) * 1048576
  tm : ∀ t, t ∈ ts ↔ ∃ (s : Nat) (h : s < F.length), s < j ∧ F[s] > 0 ∧ t = ⟨F[s], (s : Int), [(s : Int)]⟩
  sT : sumW bs ≤ (F.take j).sum
theorem build_go (F : List Int) (hF : F.length ≤ 256) (hg : F.any badB = false) (h0F : ∀ v ∈ F, 0 ≤ v) (fu : Nat) (hf : 1000 ≤ fu) : ∀ (d k j : Nat) (ps : List (T × B)) (ts : List T) (bs : List B), F.length - j = d → d < k → j ≤ F.length → Bi F j ps ts bs →
    ∃ ps' ts' bs', (∀ kk, f_huff_Lengths_L67 F kk fu k ts (j : Int) = kk ts') ∧ (∀ kk, f_lumref_Lengths_L75 F kk k bs (j : Int) = kk bs') ∧ Bi F F.length ps' ts' bs'
  | _, 0, _, _, _, _, _, hk, _, _ => absurd hk (Nat.not_lt_zero _)
  | d, k + 1, j, ps, ts, bs, hd, hk, hj, hB => by
    by_cases h : j < F.length
    · have hgj : badB F[j] = false := by
        rw [List.any_eq_false] at hg
        have := hg _ (List.getElem_mem h)
        simpa using this
      have hg1 : ¬ F[j] < 0 := by unfold badB at hgj; simp at hgj; omega
      have hg2 : ¬ F[j] > 1048576 := by unfold badB at hgj; simp at hgj; omega
      by_cases h0 : F[j] > 0
      · have hlen := hB.rl.len
        have hb := hB.rl.tb (by omega)
        obtain ⟨l', e1, e2, e3⟩ := push_ok fu ts ⟨F[j], (j : Int), [(j : Int)]⟩ hB.hp (by have := hB.len; omega) (by have := hB.len; omega) hb ⟨⟨by show 0 ≤ F[j]; omega, by show F[j] ≤ _; omega⟩, ⟨by show 0 ≤ (j : Int); omega, by show (j : Int) ≤ _; omega⟩⟩
        have hl' := e2.length_eq
        rw [List.length_cons] at hl'
        have hsm := hB.sm
        have hsT := hB.sT
        have htk := take_sum F j h
        have hB' : Bi F (j + 1) ((⟨F[j], (j : Int), [(j : Int)]⟩, ⟨F[j], [(j : Int)]⟩) :: ps) l' (bs ++ [⟨F[j], [(j : Int)]⟩]) := by
          refine ⟨⟨?_, ?_, fun p hp => ?_, ?_, ?_⟩, e3, by have := hB.len; omega, fun b hb => ?_, ?_, fun t => ?_, ?_⟩
          · exact (List.Perm.cons _ hB.rl.fst).trans e2.symm
          · exact (List.Perm.cons _ hB.rl.snd).trans (List.perm_append_comm (l₁ := [_]))
          · rcases List.mem_cons.1 hp with rfl | hp
            · exact ⟨rfl, by show 0 ≤ F[j]; omega, rfl, by simp, fun x => Iff.rfl, by simp, fun x hx => by rw [List.mem_singleton.1 hx]; exact Int.le_refl _, fun x hx => by rw [List.mem_singleton.1 hx]; omega⟩
            · exact hB.rl.mt p hp
          · rw [List.flatMap_append, List.nodup_append]
            refine ⟨hB.rl.nd, by simp, fun x hx y hy e => ?_⟩
            obtain ⟨b, hb, hxb⟩ := List.mem_flatMap.1 hx
            have := (hB.up b hb).1 x hxb
            have hy' : y = (j : Int) := by simpa using hy
            omega
          · rw [sumW_append]; simp only [sumW]; omega
          · rcases List.mem_append.1 hb with hb | hb
            · exact ⟨fun x hx => by have := (hB.up b hb).1 x hx; omega, (hB.up b hb).2⟩
            · rw [List.mem_singleton.1 hb]; exact ⟨fun x hx => by rw [List.mem_singleton.1 hx]; omega, by simp⟩
          · rw [sumW_append]; simp only [sumW]; omega
          · rw [e2.mem_iff, List.mem_cons, hB.tm]
            constructor
            · rintro (rfl | ⟨s, hs, h1, h2, h3⟩)
              · exact ⟨j, h, by omega, h0, rfl⟩
              · exact ⟨s, hs, by omega, h2, h3⟩
            · rintro ⟨s, hs, h1, h2, h3⟩
              by_cases e : s = j
              · subst e; exact .inl h3
              · exact .inr ⟨s, hs, by omega, h2, h3⟩
          · rw [sumW_append, htk]; simp only [sumW]; omega
        obtain ⟨ps', ts', bs', f1, f2, f3⟩ := build_go F hF hg h0F fu hf (d - 1) k (j + 1) _ _ _ (by omega) (by omega) (by omega) hB'
        refine ⟨ps', ts', bs', fun kk => ?_, fun kk => ?_, f3⟩
        · rw [f_huff_Lengths_L67, cond_tt (dlt (by omega)), lt_of, at_lt h, opt_of, cond_tt (decide_eq_true h0), e1, opt_of, wsucc (by omega)]
          exact f1 kk
        · rw [f_lumref_Lengths_L75, cond_tt (dlt (by omega)), lt_of, at_lt h, opt_of, lt_of, cond_ff (decide_eq_false hg1), decide_eq_false hg2]
          dsimp only
          rw [cond_ff rfl, cond_tt (decide_eq_true h0), req_pos (by rw [List.length_singleton]; have := hB.len; omega), wsucc (by omega)]
          exact f2 kk
      · have hB' : Bi F (j + 1) ps ts bs := ⟨hB.rl, hB.hp, by have := hB.len; omega, fun b hb => ⟨fun x hx => by have := (hB.up b hb).1 x hx; omega, (hB.up b hb).2⟩, by have := hB.sm; omega, fun t => by
          rw [hB.tm]
          exact ⟨fun ⟨s, hs, h1, h2, h3⟩ => ⟨s, hs, by omega, h2, h3⟩, fun ⟨s, hs, h1, h2, h3⟩ => ⟨s, hs, by
            have : s ≠ j := fun e => by subst e; exact h0 h2
            omega, h2, h3⟩⟩, by
          have h1 := hB.sT
          have h2 := h0F _ (List.getElem_mem h)
          rw [take_sum F j h]; omega⟩
        obtain ⟨ps', ts', bs', f1, f2, f3⟩ := build_go F hF hg h0F fu hf (d - 1) k (j + 1) _ _ _ (by omega) (by omega) (by omega) hB'
        refine ⟨ps', ts', bs', fun kk => ?_, fun kk => ?_, f3⟩
        · rw [f_huff_Lengths_L67, cond_tt (dlt (by omega)), lt_of, at_lt h, opt_of, cond_ff (decide_eq_false h0), wsucc (by omega)]
          exact f1 kk
        · rw [f_lumref_Lengths_L75, cond_tt (dlt (by omega)), lt_of, at_lt h, opt_of, lt_of, cond_ff (decide_eq_false hg1), decide_eq_false hg2]
          dsimp only
          rw [cond_ff rfl, cond_ff (decide_eq_false h0), wsucc (by omega)]
          exact f2 kk
    · obtain rfl : j = F.length := by omega
      refine ⟨ps, ts, bs, fun kk => ?_, fun kk => ?_, hB⟩
      · rw [f_huff_Lengths_L67, cond_ff (dge (by omega))]
      · rw [f_lumref_Lengths_L75, cond_ff (dge (by omega))]
theorem main_go (F : List Int) (hF : F.length ≤ 256) (fu : Nat) (hf : 2000 ≤ fu) : ∀ (d k : Nat) (ps : List (T × B)) (ts : List T) (bs : List B) (out : List Int) (c : Int), ts.length = d → d < k → Rl F.length ps ts bs → H le ts → sumW bs ≤ 12288 → (∃ m, Fb F.length ts out m) → d ≤ 256 → (∀ b ∈ bs, b.signs.length ≤ 1000) → out.length = F.length → (∀ v ∈ out, 0 ≤ v ∧ v ≤ c) → c + d ≤ 300 →
    ∃ ps' ts' bs' out', out'.length = F.length ∧ (∀ kk, f_huff_Lengths_L15 kk fu k ts out = kk out') ∧ (∀ kk, f_lumref_Lengths_L14 F kk fu k bs out = kk out') ∧ Rl F.length ps' ts' bs' ∧ sumW bs' ≤ 12288 ∧ (∃ m, Fb F.length ts' out' m) ∧ (∀ v ∈ out', 0 ≤ v) ∧ ts'.length ≤ 1 ∧ (∀ x, (∃ t ∈ ts', x ∈ t.symbols) ↔ (∃ t ∈ ts, x ∈ t.symbols)) ∧ (1 < ts.length → ∀ t ∈ ts', ∀ x ∈ t.symbols, 1 ≤ gI out' x) ∧ (ts.length ≤ 1 → ts' = ts ∧ out' = out)
  | _, 0, _, _, _, _, _, _, hk, _, _, _, _, _, _, _, _, _ => absurd hk (Nat.not_lt_zero _)
  | d, k + 1, ps, ts, bs, out, c, hd, hk, hR, hH, hsW, ⟨m, hFb⟩, hd6, hsl, ho, hv, hc => by
    have hlen := hR.len
    by_cases h1 : 1 < ts.length
    · obtain ⟨t, ts1, p1, p2, p3, p4⟩ := pop_ok ts hH (by omega) (by omega) fu (by omega) (hR.tb (by omega))
      obtain ⟨b, bs1, q1, q2, q3⟩ := least_ok bs (by omega) (by omega) hR.ne fu (by omega)
      obtain ⟨ps1, m1, R1, n1, s1⟩ := hR.pop p2 q2 p4 q3
      have l1 := p2.length_eq
      have l1' := R1.len
      rw [List.length_cons] at l1
      obtain ⟨u, ts2, p5, p6, p7, p8⟩ := pop_ok ts1 p3 (by omega) (by omega) fu (by omega) (R1.tb (by omega))
      obtain ⟨e, bs2, q5, q6, q7⟩ := least_ok bs1 (by omega) (by omega) R1.ne fu (by omega)
      obtain ⟨ps2, m2, R2, n2, s2⟩ := R1.pop p6 q6 p8 q7
      have l2 := p6.length_eq
      have l2' := R2.len
      rw [List.length_cons] at l2
      have nd := nd_perm (List.Perm.cons b q6.symm) n1
      rw [List.flatMap_cons, List.flatMap_cons, List.nodup_append] at nd
      obtain ⟨nb, ne, nbe⟩ := nd
      rw [List.nodup_append] at ne
      obtain ⟨ne1, ne2, ne3⟩ := ne
      have sW := sumW_perm q6
      simp only [sumW] at s1 s2 sW
      have w1 := m1.pos
      have w2 := m2.pos
      have w3 : 0 ≤ sumW bs2 := by
        have : ∀ l : List B, (∀ c ∈ l, 0 ≤ c.weight) → 0 ≤ sumW l := fun l => by
          induction l with
          | nil => intro _; exact Int.le_refl _
          | cons a l ih => intro h; have h1 := h a List.mem_cons_self; have h2 := ih fun c hc => h c (List.mem_cons_of_mem _ hc); simp only [sumW]; omega
        exact this bs2 fun c hc => by obtain ⟨x, hx, -⟩ := R2.bmem hc; exact (R2.mt _ hx).pos
      have hd1 : ∀ x ∈ b.signs, x ∉ e.signs := fun x hx hy => nbe x hx x (List.mem_append_left _ hy) rfl
      have hJ := m1.join m2 (by omega) hd1
      have hbb := hsl b (q2.mem_iff.1 List.mem_cons_self)
      have hee : e.signs.length ≤ 1000 := hsl e (q2.mem_iff.1 (List.mem_cons_of_mem _ (q6.mem_iff.1 List.mem_cons_self)))
      have c1 := m1.len
      have c2 := m2.len
      have hwr : IntKind.i64.wrap (b.weight + e.weight) = b.weight + e.weight := w64 (by omega) (by omega)
      have hnd : (t.symbols ++ u.symbols).Nodup := hJ.nd
      have hrng : ∀ x ∈ t.symbols ++ u.symbols, 0 ≤ x ∧ x < (F.length : Int) := fun x hx => hJ.rng x ((hJ.mem x).1 hx)
      have hincs : incs out (t.symbols ++ u.symbols) = incs out (picks b.signs e.signs F.length 0) := incs_eq hnd (nodup_of_lt (picks_lt _ _ _ _)) (fun s hs => (hrng s hs).1) hJ.mem
      have hv' := incs_mem hnd (fun s hs => (hrng s hs).1) hv
      have R3 : Rl F.length ((⟨IntKind.i64.wrap (t.weight + u.weight), if u.least < t.least then u.least else t.least, t.symbols ++ u.symbols⟩, ⟨IntKind.i64.wrap (b.weight + e.weight), picks b.signs e.signs F.length 0⟩) :: ps2) (⟨IntKind.i64.wrap (t.weight + u.weight), if u.least < t.least then u.least else t.least, t.symbols ++ u.symbols⟩ :: ts2) (bs2 ++ [⟨IntKind.i64.wrap (b.weight + e.weight), picks b.signs e.signs F.length 0⟩]) := by
        refine ⟨List.Perm.cons _ R2.fst, (List.Perm.cons _ R2.snd).trans (List.perm_append_comm (l₁ := [_])), fun p hp => ?_, ?_, ?_⟩
        · rcases List.mem_cons.1 hp with rfl | hp
          · exact hJ
          · exact R2.mt p hp
        · rw [List.flatMap_append, List.nodup_append]
          refine ⟨ne2, by simpa using nodup_of_lt (picks_lt _ _ _ _), fun x hx y hy exy => ?_⟩
          subst exy
          have hy' : x ∈ picks b.signs e.signs F.length 0 := by simpa using hy
          rcases ((picks_mem _ _ _ _ _).1 hy').2.2 with h | h
          · exact nbe x h x (List.mem_append_right _ hx) rfl
          · exact ne3 x h x hx rfl
        · rw [sumW_append]; simp only [sumW]; rw [hwr]; omega
      obtain ⟨ts3, g1, g2, g3⟩ := push_ok fu ts2 ⟨IntKind.i64.wrap (t.weight + u.weight), if u.least < t.least then u.least else t.least, t.symbols ++ u.symbols⟩ p7 (by omega) (by omega) (R2.tb (by omega)) (R3.tb (by omega) _ List.mem_cons_self)
      have l3 := g2.length_eq
      rw [List.length_cons] at l3
      have R4 : Rl F.length _ ts3 _ := ⟨R3.fst.trans g2.symm, R3.snd, R3.mt, R3.nd, R3.sum⟩
      have hlp := picks_len b.signs e.signs F.length 0
      have h288 : ∀ x ∈ ts, x.weight ≤ 12288 := fun x hx => by
        obtain ⟨y, hy, hyb⟩ := hR.tmem hx
        have e1 := (hR.mt _ hy).w
        have e2 := sum_le (l := bs) (fun c hc => by obtain ⟨z, hz, -⟩ := hR.bmem hc; exact (hR.mt _ hz).pos) hyb
        dsimp only at e1
        omega
      have hw2 : t.weight = b.weight ∧ u.weight = e.weight := ⟨m1.w, m2.w⟩
      have hwr2 : IntKind.i64.wrap (t.weight + u.weight) = t.weight + u.weight := by rw [hw2.1, hw2.2]; exact hwr
      have hdis : ∀ y ∈ ts2, ∀ x ∈ y.symbols, x ∉ t.symbols ++ u.symbols ∧ 0 ≤ x ∧ x < (F.length : Int) := fun y hy x hx => by
        obtain ⟨z, hz, hzb⟩ := R2.tmem hy
        have mz := R2.mt _ hz
        have hxz : x ∈ z.signs := (mz.mem x).1 hx
        refine ⟨fun hxx => ?_, mz.rng x hxz⟩
        have hin : x ∈ bs2.flatMap (fun b => b.signs) := List.mem_flatMap.2 ⟨z, hzb, hxz⟩
        rcases List.mem_append.1 hxx with hxx | hxx
        · exact nbe x ((m1.mem x).1 hxx) x (List.mem_append_right _ hin) rfl
        · exact ne3 x ((m2.mem x).1 hxx) x hin rfl
      obtain ⟨hFb3, hpos⟩ := hFb.join ho (fun v hv' => (hv v hv').1) p2 p4 p6 p8 g2 hwr2 rfl hnd hrng hdis h288
      have hsum3 : sumW (bs2 ++ [(⟨IntKind.i64.wrap (b.weight + e.weight), picks b.signs e.signs F.length 0⟩ : B)]) ≤ 12288 := by
        rw [sumW_append]; simp only [sumW]; rw [hwr]
        have := sumW_perm q2
        simp only [sumW] at this
        omega
      have hcov : ∀ x, (∃ y ∈ ts3, x ∈ y.symbols) ↔ (∃ y ∈ ts, x ∈ y.symbols) := fun x => by
        constructor
        · rintro ⟨y, hy, hx⟩
          rcases List.mem_cons.1 (g2.mem_iff.1 hy) with rfl | hy
          · rcases List.mem_append.1 hx with hx | hx
            · exact ⟨t, p2.mem_iff.1 List.mem_cons_self, hx⟩
            · exact ⟨u, p2.mem_iff.1 (List.mem_cons_of_mem _ (p6.mem_iff.1 List.mem_cons_self)), hx⟩
          · exact ⟨y, p2.mem_iff.1 (List.mem_cons_of_mem _ (p6.mem_iff.1 (List.mem_cons_of_mem _ hy))), hx⟩
        · rintro ⟨y, hy, hx⟩
          rcases List.mem_cons.1 (p2.mem_iff.2 hy) with rfl | hy
          · exact ⟨_, g2.mem_iff.2 List.mem_cons_self, List.mem_append_left _ hx⟩
          · rcases List.mem_cons.1 (p6.mem_iff.2 hy) with rfl | hy
            · exact ⟨_, g2.mem_iff.2 List.mem_cons_self, List.mem_append_right _ hx⟩
            · exact ⟨y, g2.mem_iff.2 (List.mem_cons_of_mem _ hy), hx⟩
      obtain ⟨ps', ts', bs', out', o1, o2, o3, r1, r2, r3, r4, r5, r6, r7, r8⟩ := main_go F hF fu hf ts3.length k _ ts3 _ (incs out (t.symbols ++ u.symbols)) (c + 1) rfl (by omega) R4 g3 hsum3 ⟨_, hFb3⟩ (by omega) (fun x hx => by
        rcases List.mem_append.1 hx with hx | hx
        · exact hsl x (q2.mem_iff.1 (List.mem_cons_of_mem _ (q6.mem_iff.1 (List.mem_cons_of_mem _ hx))))
        · rw [List.mem_singleton.1 hx]; show (picks _ _ _ _).length ≤ _; omega) (by rw [incs_len]; exact ho) hv' (by omega)
      refine ⟨ps', ts', bs', out', o1, fun kk => ?_, fun kk => ?_, r1, r2, r3, r4, r5, fun x => (r6 x).trans (hcov x), fun _ => ?_, fun h => absurd h1 (by omega)⟩
      · rw [f_huff_Lengths_L15, lt_of, cond_tt (decide_eq_true (show (ts.length : Int) > 1 by omega)), p1, opt_of, p5, opt_of, concat_ok t.symbols u.symbols (by omega) fu (by omega), opt_of, lt_of]
        have := code_incs (t.symbols ++ u.symbols) (by rw [List.length_append]; omega) (fun (j33x7 : (List Int)) => (opt (f___huff_heap_huff_tree___push fu ⟨ts2⟩ (S_huff_tree.mk (IntKind.i64.wrap (t.weight + u.weight)) (if u.least < t.least then u.least else t.least) (t.symbols ++ u.symbols))) fun (r36 : D_huff_heap_huff_tree_) => (f_huff_Lengths_L15 kk fu k r36.items j33x7))) (t.symbols ++ u.symbols).length fu 0 out c rfl (by rw [List.length_append]; omega) (Nat.zero_le _) (by rw [ho]; exact hrng) hv (by omega)
        refine this.trans ?_
        rw [g1, opt_of, List.drop_zero]
        exact o2 kk
      · rw [f_lumref_Lengths_L14, lt_of, cond_tt (decide_eq_true (show (bs.length : Int) > 1 by omega)), q1, opt_of, q5, opt_of, lt_of]
        have := ref_incs F (by omega) (b, bs1) (e, bs2) hbb hee (fun (j28x7 : (List Int)) (j28x10_1 : (List Int)) => (req (((bs2.length + ([(S_lumref_bunch.mk (IntKind.i64.wrap (b.weight + e.weight)) j28x10_1)]).length) * 32 : Nat) ≤ 140737488355328 ∧ bs2.length + ([(S_lumref_bunch.mk (IntKind.i64.wrap (b.weight + e.weight)) j28x10_1)]).length ≤ 9223372036854775807) (f_lumref_Lengths_L14 F kk fu k (bs2 ++ ([(S_lumref_bunch.mk (IntKind.i64.wrap (b.weight + e.weight)) j28x10_1)])) j28x7))) fu (by omega) F.length fu 0 out [] c rfl (by omega) (Nat.zero_le _) ho (Nat.le_refl _) hv (by omega)
        refine this.trans ?_
        dsimp only
        rw [req_pos (by rw [List.length_singleton]; omega), List.nil_append, ← hincs]
        exact o3 kk
      · by_cases h3 : 1 < ts3.length
        · exact r7 h3
        · obtain ⟨rfl, rfl⟩ := r8 (by omega)
          intro y hy x hx
          have : ts2 = [] := List.length_eq_zero_iff.1 (by omega)
          subst this
          rcases List.mem_cons.1 (g2.mem_iff.1 hy) with rfl | hy
          · exact hpos x hx
          · cases hy
    · refine ⟨ps, ts, bs, out, ho, fun kk => ?_, fun kk => ?_, hR, hsW, ⟨m, hFb⟩, fun v hv' => (hv v hv').1, by omega, fun x => Iff.rfl, fun h => absurd h h1, fun _ => ⟨rfl, rfl⟩⟩
      · rw [f_huff_Lengths_L15, lt_of, cond_ff (decide_eq_false (by omega))]
      · rw [f_lumref_Lengths_L14, lt_of, cond_ff (decide_eq_false (by omega))]
end Go.Proofs.YtfhifdmbdkkgaaaDoor.PHl
namespace Go.Proofs.YtfhifdmbdkkgaaaDoor.PHl
open Go.RowKit YtfhifdmbdkkgaaaDoor.En YtfhifdmbdkkgaaaDoor YtfhifdmbdkkgaaaDoor.HeapM
set_option linter.unusedVariables false
set_option linter.unusedSimpArgs false
theorem le_sum : ∀ {l : List Int} {v : Int}, (∀ x ∈ l, 0 ≤ x) → v ∈ l → v ≤ l.sum
  | a :: l, v, h, hv => by
    have h0 : 0 ≤ l.sum := by
      have : ∀ l : List Int, (∀ x ∈ l, 0 ≤ x) → 0 ≤ l.sum := fun l => by
        induction l with
        | nil => intro _; exact Int.le_refl _
        | cons a l ih => intro h; have h1 := h a List.mem_cons_self; have h2 := ih fun c hc => h c (List.mem_cons_of_mem _ hc); rw [List.sum_cons]; omega
      exact this l fun x hx => h x (List.mem_cons_of_mem _ hx)
    have ha := h a List.mem_cons_self
    rw [List.sum_cons]
    rcases List.mem_cons.1 hv with rfl | hv
    · omega
    · have := le_sum (fun x hx => h x (List.mem_cons_of_mem _ hx)) hv; omega
structure Lg (F w : List Int) : Prop where
  len : w.length = F.length
  good : Huf.good w = true
  kraft : Huf.kraftTo (Huf.nat w) F.length ≤ 2 ^ 48
  pos : ∀ k, k < F.length → (0 < w.getD k 0 ↔ 0 < F.getD k 0)
theorem good_of {w : List Int} (h : ∀ v ∈ w, 0 ≤ v ∧ v ≤ 48) : Huf.good w = true := by
  unfold Huf.good
  rw [List.all_eq_true]
  intro v hv
  obtain ⟨h1, h2⟩ := h v hv
  unfold Huf.ok1
  rw [decide_eq_true h1, decide_eq_true h2]; rfl
theorem kpart_at (w : List Int) (k : Nat) : Huf.kpart (Huf.mAt (Huf.nat w) k) = if 0 < gI w (k : Int) then 2 ^ (48 - gI w (k : Int)) else 0 := by
  rw [Huf.nat_at]; rfl
theorem Lg.one {F : List Int} {s : Nat} (hs : s < F.length) (hF : ∀ k (h : k < F.length), F[k] > 0 ↔ k = s) : Lg F ((List.replicate F.length (0 : Int)).set s 1) := by
  have hat : ∀ k, k < F.length → ((List.replicate F.length (0 : Int)).set s 1).getD k 0 = if k = s then 1 else 0 := fun k hk => by
    rw [List.getD_eq_getElem?_getD, List.getElem?_set, List.length_replicate]
    by_cases h : s = k
    · rw [if_pos h, if_pos (by omega), if_pos h.symm]; rfl
    · rw [if_neg h, if_neg (fun e => h e.symm), List.getElem?_replicate, if_pos hk]; rfl
  refine ⟨by rw [List.length_set, List.length_replicate], good_of fun v hv => ?_, ?_, fun k hk => ?_⟩
  · rcases List.mem_or_eq_of_mem_set hv with h | h
    · rw [List.eq_of_mem_replicate h]; omega
    · omega
  · rw [kraft_sum, sumTo_congr (g := fun k => if k = s then 2 ^ 47 else 0) fun k hk => ?_, sumTo_one, if_pos hs]
    · exact Nat.pow_le_pow_right (by omega) (by omega)
    · rw [kpart_at]
      have e : gI ((List.replicate F.length (0 : Int)).set s 1) (k : Int) = if k = s then 1 else 0 := by
        unfold gI
        rw [Int.toNat_natCast, hat k hk]
        split <;> rfl
      rw [e]
      by_cases h : k = s
      · rw [if_pos h, if_pos h]; rfl
      · rw [if_neg h, if_neg h]; rfl
  · rw [hat k hk, List.getD_eq_getElem?_getD, List.getElem?_eq_getElem hk]
    have := hF k hk
    show _ ↔ 0 < F[k]
    by_cases h : k = s
    · rw [if_pos h]; exact ⟨fun _ => this.2 h, fun _ => by omega⟩
    · rw [if_neg h]; exact ⟨fun e => absurd e (by omega), fun e => absurd (this.1 e) h⟩
theorem Lg.many {F w : List Int} {ps : List (T × B)} {ts : List T} {bs : List B} (ho : w.length = F.length) (hR : Rl F.length ps ts bs) (hS : sumW bs ≤ 12288) (hFb : ∃ m, Fb F.length ts w m) (hv : ∀ v ∈ w, 0 ≤ v) (hl : ts.length ≤ 1) (hc : ∀ k : Nat, k < F.length → ((∃ t ∈ ts, (k : Int) ∈ t.symbols) ↔ F.getD k 0 > 0)) (hp : ∀ t ∈ ts, ∀ x ∈ t.symbols, 1 ≤ gI w x) : Lg F w := by
  obtain ⟨m, hFb⟩ := hFb
  have hw : ∀ t ∈ ts, t.weight ≤ 12288 := fun x hx => by
    obtain ⟨y, hy, hyb⟩ := hR.tmem hx
    have e1 := (hR.mt _ hy).w
    have e2 := sum_le (l := bs) (fun c hc => by obtain ⟨z, hz, -⟩ := hR.bmem hc; exact (hR.mt _ hz).pos) hyb
    dsimp only at e1
    omega
  have hdeep : ∀ t ∈ ts, ∀ x ∈ t.symbols, gI w x ≤ 26 := fun t ht x hx => by
    have a := (hFb.fb t ht x hx).1
    have b := hw t ht
    exact fb_deep (k := gI w x) (by omega)
  have hzero : ∀ k : Nat, k < F.length → (¬ ∃ t ∈ ts, (k : Int) ∈ t.symbols) → w[k]? = some 0 := fun k hk hn => hFb.no k hk fun t ht hx => hn ⟨t, ht, hx⟩
  have hgI : ∀ k (h : k < w.length), gI w (k : Int) = w[k].toNat := fun k h => by
    unfold gI
    rw [Int.toNat_natCast, List.getD_eq_getElem?_getD, List.getElem?_eq_getElem h]; rfl
  refine ⟨ho, good_of fun v hvm => ?_, ?_, fun k hk => ?_⟩
  · have h0 := hv v hvm
    refine ⟨h0, ?_⟩
    obtain ⟨k, hk, rfl⟩ := List.mem_iff_getElem.1 hvm
    by_cases hin : ∃ t ∈ ts, (k : Int) ∈ t.symbols
    · obtain ⟨t, ht, hx⟩ := hin
      have := hdeep t ht _ hx
      rw [hgI k hk] at this
      omega
    · have := hzero k (by omega) hin
      rw [List.getElem?_eq_getElem hk] at this
      rw [Option.some.inj this]; omega
  · cases ts with
    | nil =>
      rw [kraft_sum, sumTo_congr (g := fun _ => 0) (n := F.length) fun k hk => ?_, sumTo_zero]
      · exact Nat.zero_le _
      · have := hzero k hk (by rintro ⟨t, ht, _⟩; cases ht)
        rw [kpart_at]
        unfold gI
        rw [Int.toNat_natCast, List.getD_eq_getElem?_getD, this]; rfl
    | cons t r =>
      have hr : r = [] := List.length_eq_zero_iff.1 (by rw [List.length_cons] at hl; omega)
      subst hr
      obtain ⟨b, hb, -⟩ := hR.tmem List.mem_cons_self
      have mt := hR.mt _ hb
      have hk2 := hFb.kr t List.mem_cons_self
      have hs := sumTo_list (fun k => 2 ^ (48 - gI w (k : Int))) F.length t.symbols mt.nd (fun x hx => mt.rng x ((mt.mem x).1 hx))
      have e : (t.symbols.map fun x => (fun k : Nat => 2 ^ (48 - gI w (k : Int))) x.toNat).sum = kq w t.symbols := by
        unfold kq
        congr 1
      rw [kraft_sum, sumTo_congr (g := fun k => if (k : Int) ∈ t.symbols then 2 ^ (48 - gI w (k : Int)) else 0) fun k hk => ?_]
      · rw [hs, e, hk2]; exact Nat.le_refl _
      · rw [kpart_at]
        by_cases hm : (k : Int) ∈ t.symbols
        · rw [if_pos hm, if_pos (show 0 < gI w (k : Int) from hp t List.mem_cons_self _ hm)]
        · rw [if_neg hm]
          have := hzero k hk (by
            rintro ⟨t', ht', hx⟩
            rw [List.mem_singleton.1 ht'] at hx
            exact hm hx)
          have e0 : gI w (k : Int) = 0 := by
            unfold gI
            rw [Int.toNat_natCast, List.getD_eq_getElem?_getD, this]; rfl
          rw [e0]; rfl
  · show _ ↔ F.getD k 0 > 0
    rw [← hc k hk]
    have hkw : k < w.length := by omega
    have e : w.getD k 0 = w[k] := by rw [List.getD_eq_getElem?_getD, List.getElem?_eq_getElem hkw]; rfl
    rw [e]
    constructor
    · intro h
      refine Classical.byContradiction fun hn => ?_
      have := hzero k hk hn
      rw [List.getElem?_eq_getElem hkw] at this
      have := Option.some.inj this
      omega
    · rintro ⟨t, ht, hx⟩
      have := hp t ht _ hx
      rw [hgI k hkw] at this
      omega
theorem lens_ok (F : List Int) (hF : F.length = 256) (h0F : ∀ v ∈ F, 0 ≤ v) (hsF : F.sum ≤ 12288) (fu : Nat) (hf : 3000 ≤ fu) : ∃ w, f_huff_Lengths fu F = some (w, 0) ∧ f_lumref_Lengths fu F = some (w, 0) ∧ Lg F w := by
  have hb : F.any badB = false := by
    rw [List.any_eq_false]
    intro v hv
    have h1 := h0F v hv
    have h2 := le_sum h0F hv
    unfold badB
    rw [decide_eq_false (by omega), decide_eq_false (by omega)]; simp
  have cC : f_huff_Lengths fu F = bif F.any badB then some (([] : List Int), (1 : Int)) else f_huff_Lengths_L67 F (fun (j5x4_0 : (List S_huff_tree)) => (req (0 ≤ (F.length : Int) ∧ 8 * (F.length : Int) ≤ 281474976710656 ∧ (F.length : Int) ≤ 9223372036854775807) (lt (fun (j9x7 : (List Int)) => (lt (fun (j11x7 : (List Int)) => (some (j11x7, (0 : Int)))) fun (kk12 : (List Int) → Option ((List Int) × Int)) => (f_huff_Lengths_L15 kk12 fu fu j5x4_0 j9x7))) fun (kk10 : (List Int) → Option ((List Int) × Int)) => (bif ((j5x4_0.length : Int) == (1 : Int)) then (opt (at? j5x4_0 (0 : Int)) fun (u55 : S_huff_tree) => (opt (at? (List.replicate ((F.length : Int)).toNat 0) u55.least) fun (u61 : Int) => (kk10 ((List.replicate ((F.length : Int)).toNat 0).set (u55.least).toNat (1 : Int))))) else (kk10 (List.replicate ((F.length : Int)).toNat 0)))))) fu fu [] 0 := by
    unfold f_huff_Lengths
    rw [lt_of, cond_ff (decide_eq_false (show ¬ (F.length : Int) < 1 by omega)), cond_ff (decide_eq_false (show ¬ (F.length : Int) > 256 by omega)), contains_ok F (by omega) fu (by omega), opt_of]
    rfl
  have cR : f_lumref_Lengths fu F = f_lumref_Lengths_L75 F (fun (j4x4 : (List S_lumref_bunch)) => (req (0 ≤ (F.length : Int) ∧ 8 * (F.length : Int) ≤ 281474976710656 ∧ (F.length : Int) ≤ 9223372036854775807) (lt (fun (j8x7 : (List Int)) => (lt (fun (j10x7 : (List Int)) => (some (j10x7, (0 : Int)))) fun (kk11 : (List Int) → Option ((List Int) × Int)) => (f_lumref_Lengths_L14 F kk11 fu fu j4x4 j8x7))) fun (kk9 : (List Int) → Option ((List Int) × Int)) => (bif ((j4x4.length : Int) == (1 : Int)) then (opt (at? j4x4 (0 : Int)) fun (u59 : S_lumref_bunch) => (opt (at? u59.signs (0 : Int)) fun (u66 : Int) => (opt (at? (List.replicate ((F.length : Int)).toNat 0) u66) fun (u69 : Int) => (kk9 ((List.replicate ((F.length : Int)).toNat 0).set (u66).toNat (1 : Int)))))) else (kk9 (List.replicate ((F.length : Int)).toNat 0)))))) fu [] 0 := by
    unfold f_lumref_Lengths
    rw [lt_of, cond_ff (show ((F.length : Int) == 0) = false by rw [beq_eq_false_iff_ne]; omega), decide_eq_false (show ¬ (F.length : Int) > 256 by omega)]
    rfl
  rw [cC, cR, hb, cond_ff (b := false) rfl]
  obtain ⟨ps, ts, bs, f1, f2, B1⟩ := build_go F (by omega) hb h0F fu (by omega) F.length fu 0 [] [] [] rfl (by omega) (Nat.zero_le _) ⟨⟨List.Perm.refl _, List.Perm.refl _, fun p hp => (by cases hp), List.nodup_nil, by simp [sumW]⟩, fun i x y _ hx => (by simp at hx), Nat.le_refl _, fun b hb => (by cases hb), by simp [sumW], fun t => ⟨fun h => (by cases h), fun ⟨s, _, h, _⟩ => absurd h (Nat.not_lt_zero _)⟩, by simp [sumW]⟩
  have f1' := f1 (fun (j5x4_0 : (List S_huff_tree)) => (req (0 ≤ (F.length : Int) ∧ 8 * (F.length : Int) ≤ 281474976710656 ∧ (F.length : Int) ≤ 9223372036854775807) (lt (fun (j9x7 : (List Int)) => (lt (fun (j11x7 : (List Int)) => (some (j11x7, (0 : Int)))) fun (kk12 : (List Int) → Option ((List Int) × Int)) => (f_huff_Lengths_L15 kk12 fu fu j5x4_0 j9x7))) fun (kk10 : (List Int) → Option ((List Int) × Int)) => (bif ((j5x4_0.length : Int) == (1 : Int)) then (opt (at? j5x4_0 (0 : Int)) fun (u55 : S_huff_tree) => (opt (at? (List.replicate ((F.length : Int)).toNat 0) u55.least) fun (u61 : Int) => (kk10 ((List.replicate ((F.length : Int)).toNat 0).set (u55.least).toNat (1 : Int))))) else (kk10 (List.replicate ((F.length : Int)).toNat 0))))))
  have f2' := f2 (fun (j4x4 : (List S_lumref_bunch)) => (req (0 ≤ (F.length : Int) ∧ 8 * (F.length : Int) ≤ 281474976710656 ∧ (F.length : Int) ≤ 9223372036854775807) (lt (fun (j8x7 : (List Int)) => (lt (fun (j10x7 : (List Int)) => (some (j10x7, (0 : Int)))) fun (kk11 : (List Int) → Option ((List Int) × Int)) => (f_lumref_Lengths_L14 F kk11 fu fu j4x4 j8x7))) fun (kk9 : (List Int) → Option ((List Int) × Int)) => (bif ((j4x4.length : Int) == (1 : Int)) then (opt (at? j4x4 (0 : Int)) fun (u59 : S_lumref_bunch) => (opt (at? u59.signs (0 : Int)) fun (u66 : Int) => (opt (at? (List.replicate ((F.length : Int)).toNat 0) u66) fun (u69 : Int) => (kk9 ((List.replicate ((F.length : Int)).toNat 0).set (u66).toNat (1 : Int)))))) else (kk9 (List.replicate ((F.length : Int)).toNat 0))))))
  have hsW : sumW bs ≤ 12288 := by have := B1.sT; rw [List.take_of_length_le (by omega)] at this; omega
  have hlen := B1.rl.len
  have hFat : ∀ k (h : k < F.length), F.getD k 0 = F[k] := fun k h => by rw [List.getD_eq_getElem?_getD, List.getElem?_eq_getElem h]; rfl
  by_cases hone : ts.length = 1
  · obtain ⟨t, rfl⟩ := List.length_eq_one_iff.1 hone
    obtain ⟨b, rfl⟩ := List.length_eq_one_iff.1 (show bs.length = 1 by omega)
    obtain ⟨t', ht1, ht2⟩ := B1.rl.bmem List.mem_cons_self
    obtain rfl := List.mem_singleton.1 ht2
    have m := B1.rl.mt _ ht1
    obtain ⟨s, hs, -, h3, h4⟩ := (B1.tm t').1 List.mem_cons_self
    have hle : t'.least = (s : Int) := by rw [h4]
    have hkb : key b = (s : Int) := m.least.symm.trans hle
    have ha : at? (List.replicate F.length (0 : Int)) (s : Int) = some 0 := by
      rw [at_lt (by rw [List.length_replicate]; exact hs), List.getElem_replicate]
    refine ⟨(List.replicate F.length (0 : Int)).set s 1, ?_, ?_, Lg.one hs fun k hk => ⟨fun h => ?_, fun h => by subst h; exact h3⟩⟩
    · refine f1'.trans ?_
      rw [req_pos (by omega), lt_of, cond_tt (by rfl), show at? [t'] (0 : Int) = some t' from rfl, opt_of, hle, Int.toNat_natCast, Int.toNat_natCast, ha, opt_of]
      obtain ⟨g, rfl⟩ : ∃ g, fu = g + 1 := ⟨fu - 1, by omega⟩
      dsimp only
      rw [lt_of, f_huff_Lengths_L15, lt_of, cond_ff (by rfl)]
    · refine f2'.trans ?_
      rw [req_pos (by omega), lt_of, cond_tt (by rfl), show at? [b] (0 : Int) = some b from rfl, opt_of, key_at m.ne, opt_of, hkb, Int.toNat_natCast, Int.toNat_natCast, ha, opt_of]
      obtain ⟨g, rfl⟩ : ∃ g, fu = g + 1 := ⟨fu - 1, by omega⟩
      dsimp only
      rw [lt_of, f_lumref_Lengths_L14, lt_of, cond_ff (by rfl)]
    · have hin := (B1.tm ⟨F[k], (k : Int), [(k : Int)]⟩).2 ⟨k, hk, hk, h, rfl⟩
      have := List.mem_singleton.1 hin
      rw [h4] at this
      injection this with _ e _
      omega
  · have hz : ∀ v ∈ List.replicate F.length (0 : Int), 0 ≤ v ∧ v ≤ 0 := fun v hv => by rw [List.eq_of_mem_replicate hv]; omega
    have gz : ∀ x, gI (List.replicate F.length (0 : Int)) x = 0 := fun x => by
      unfold gI
      rw [List.getD_eq_getElem?_getD, List.getElem?_replicate]
      split <;> rfl
    have hFb : Fb F.length ts (List.replicate F.length (0 : Int)) 1 := by
      refine ⟨Int.le_refl _, fun t ht => ?_, fun t ht x hx => ?_, fun t ht => ?_, fun k hk _ => by rw [List.getElem?_replicate, if_pos hk]⟩
      · obtain ⟨s, hs, -, h3, rfl⟩ := (B1.tm t).1 ht
        show 1 ≤ F[s]; omega
      · obtain ⟨s, hs, -, h3, rfl⟩ := (B1.tm t).1 ht
        rw [gz]
        exact ⟨by show ((1 : Nat) : Int) ≤ F[s]; omega, by show ((1 : Nat) : Int) ≤ 1; omega⟩
      · obtain ⟨s, hs, -, h3, rfl⟩ := (B1.tm t).1 ht
        show kq _ [(s : Int)] = _
        unfold kq
        rw [List.map_singleton, gz]; rfl
    obtain ⟨ps', ts', bs', out', o1, o2, o3, r1, r2, r3, r4, r5, r6, r7, r8⟩ := main_go F (by omega) fu (by omega) ts.length fu ps ts bs (List.replicate F.length (0 : Int)) 0 rfl (by have := B1.len; omega) B1.rl B1.hp hsW ⟨1, hFb⟩ (by have := B1.len; omega) (fun b hb => by have := (B1.up b hb).2; omega) (by rw [List.length_replicate]) hz (by have := B1.len; omega)
    refine ⟨out', ?_, ?_, Lg.many o1 r1 r2 r3 r4 r5 (fun k hk => ?_) ?_⟩
    · refine f1'.trans ?_
      rw [req_pos (by omega), lt_of, cond_ff (by rw [beq_eq_false_iff_ne]; omega), Int.toNat_natCast]
      exact o2 _
    · refine f2'.trans ?_
      rw [req_pos (by omega), lt_of, cond_ff (by rw [beq_eq_false_iff_ne]; omega), Int.toNat_natCast]
      exact o3 _
    · rw [r6, hFat k hk]
      constructor
      · rintro ⟨t, ht, hx⟩
        obtain ⟨s, hs, -, h3, rfl⟩ := (B1.tm t).1 ht
        have : (k : Int) = (s : Int) := List.mem_singleton.1 hx
        obtain rfl : k = s := by omega
        exact h3
      · intro h
        exact ⟨_, (B1.tm _).2 ⟨k, hk, hk, h, rfl⟩, List.mem_cons_self⟩
    · by_cases h1 : 1 < ts.length
      · exact r7 h1
      · obtain ⟨rfl, -⟩ := r8 (by omega)
        intro t ht
        have : ts' = [] := List.length_eq_zero_iff.1 (by omega)
        subst this
        cases ht
end Go.Proofs.YtfhifdmbdkkgaaaDoor.PHl
namespace Go.Proofs.YtfhifdmbdkkgaaaDoor.PBit
open Go.RowKit YtfhifdmbdkkgaaaDoor.En YtfhifdmbdkkgaaaDoor YtfhifdmbdkkgaaaDoor.Huf
set_option linter.unusedVariables false
set_option linter.unusedSimpArgs false
theorem u8w {x : Int} (h : 0 ≤ x ∧ x ≤ 255) : IntKind.u8.wrap x = x := by
  unfold IntKind.wrap
  simp [IntKind.signed, IntKind.bits]
  omega
theorem tdivn {a b : Int} (h : 0 ≤ a) : a.tdiv b = a / b := Int.tdiv_eq_ediv_of_nonneg h
theorem tmodn {a b : Int} (h : 0 ≤ a) : a.tmod b = a % b := Int.tmod_eq_emod_of_nonneg h
theorem bits_ok : ∀ (n fu c : Nat), n < fu → n ≤ 48 → c < 4611686018427387904 → f_lumref_bitsOf fu (c : Int) (n : Int) = some (bw c n)
  | _, 0, _, h, _, _ => absurd h (Nat.not_lt_zero _)
  | 0, fu + 1, c, _, _, _ => by rw [f_lumref_bitsOf, cond_tt (show (((0 : Nat) : Int) == 0) = true by decide)]; rfl
  | n + 1, fu + 1, c, h, h48, hc => by
    rw [f_lumref_bitsOf, cond_ff (show (((n + 1 : Nat) : Int) == 0) = false from beq_false_of_ne (by omega)), tdivn (by omega), tmodn (by omega), w64 (x := ((n + 1 : Nat) : Int) - 1) (by omega) (by omega), w64 (x := (c : Int) / 2) (by omega) (by omega),
      show (c : Int) / 2 = ((c / 2 : Nat) : Int) by omega, show ((n + 1 : Nat) : Int) - 1 = (n : Int) by omega, bits_ok n fu (c / 2) (by omega) (by omega) (by omega), opt_of]
    rw [u8w (x := (c : Int) % 2) (by omega), u8w (x := 48 + (c : Int) % 2) (by omega), req_pos (by omega), req_pos (by rw [bw_len, List.length_singleton]; omega), bw]
    congr 2
    congr 1
    unfold bitB
    by_cases h2 : c % 2 = 0
    · rw [if_pos h2, show (48 : Int) + (c : Int) % 2 = 48 by omega]; rfl
    · rw [if_neg h2, show (48 : Int) + (c : Int) % 2 = 49 by omega]; rfl
def byteBits (b : UInt8) : List UInt8 := bw b.toNat 8
theorem bits_len (b : UInt8) : (byteBits b).length = 8 := bw_len _ _
theorem bw_cons : ∀ (m c : Nat), bw c (m + 1) = bitB (c / 2 ^ m) :: bw c m
  | 0, c => by show [] ++ [bitB c] = _; rw [Nat.pow_zero, Nat.div_one]; rfl
  | m + 1, c => by
    rw [bw, bw_cons m (c / 2), Nat.div_div_eq_div_mul, List.cons_append]
    congr 2
    rw [Nat.pow_succ, Nat.mul_comm]
theorem byte_bits {l : List UInt8} (h : l.length = 8) (hb : ∀ x ∈ l, isBit x) : byteBits (UInt8.ofNat (valb l)) = l := by
  have h1 := valb_lt l
  rw [h] at h1
  unfold byteBits
  rw [UInt8.toNat_ofNat', Nat.mod_eq_of_lt h1]
  exact bw_valb 8 l h hb
theorem keep8 (n : Int) (h0 : 0 ≤ n) (h1 : n < 2 ^ 8) : IntKind.u8.wrap n = n := u8w ⟨h0, by omega⟩
theorem u8_or (a b : Nat) (ha : a < 256) (hb : b < 256) : bits .or .u8 (a : Int) (b : Int) = ((a ||| b : Nat) : Int) := (bits_nat .u8 8 (by decide) keep8 a b ha hb).2
def Wr (B out : List UInt8) (free : Int) : Prop := ∃ fs r : List UInt8, B = fs.flatMap byteBits ++ r ∧ r.length < 8 ∧ (∀ x ∈ r, isBit x) ∧
  ((r = [] ∧ out = fs ∧ free = 0) ∨ (r ≠ [] ∧ out = fs ++ [UInt8.ofNat (valb r * 2 ^ (8 - r.length))] ∧ free = ((8 - r.length : Nat) : Int)))
theorem Wr.nil : Wr [] [] 0 := ⟨[], [], rfl, by simp, fun x hx => (by cases hx), .inl ⟨rfl, rfl, rfl⟩⟩
theorem last_set (fs : List UInt8) (y z : UInt8) : (fs ++ [y]).set fs.length z = fs ++ [z] := by
  rw [List.set_append_right _ _ (Nat.le_refl _), Nat.sub_self]; rfl
theorem shl_or {v m q : Nat} (hm : m < 8) (hv : v < 2 ^ m) (hq : q < 2) : (v * 2 ^ (8 - m)) ||| (q * 2 ^ (7 - m)) = (v * 2 + q) * 2 ^ (7 - m) ∧ v * 2 ^ (8 - m) < 256 ∧ q * 2 ^ (7 - m) < 256 ∧ (v * 2 + q) * 2 ^ (7 - m) < 256 := by
  have e : 8 - m = (7 - m) + 1 := by omega
  have h1 : q * 2 ^ (7 - m) < 2 ^ (7 - m + 1) := by
    rw [Nat.pow_succ, Nat.mul_comm (2 ^ (7 - m)) 2]
    exact Nat.mul_lt_mul_of_pos_right hq (Nat.two_pow_pos _)
  have h2 : (v * 2 + q) * 2 ^ (7 - m) < 2 ^ (m + 1) * 2 ^ (7 - m) := Nat.mul_lt_mul_of_pos_right (by rw [Nat.pow_succ]; omega) (Nat.two_pow_pos _)
  have h3 : 2 ^ (m + 1) * 2 ^ (7 - m) = 256 := by rw [← Nat.pow_add, show m + 1 + (7 - m) = 8 by omega]
  have h4 : v * 2 ^ (8 - m) < 2 ^ m * 2 ^ (8 - m) := Nat.mul_lt_mul_of_pos_right hv (Nat.two_pow_pos _)
  have h5 : 2 ^ m * 2 ^ (8 - m) = 256 := by rw [← Nat.pow_add, show m + (8 - m) = 8 by omega]
  have h6 : (2 : Nat) ^ (7 - m + 1) ≤ 2 ^ 8 := Nat.pow_le_pow_right (by omega) (by omega)
  refine ⟨?_, by omega, by omega, by omega⟩
  have := Nat.two_pow_add_eq_or_of_lt (i := 7 - m + 1) h1 v
  rw [e, Nat.mul_comm v, ← this, Nat.add_mul, Nat.pow_succ]
  congr 1
  rw [Nat.mul_comm (2 ^ (7 - m)) 2, Nat.mul_right_comm, Nat.mul_comm v 2]
theorem put_core (c i k : Nat) (hc : c < 4611686018427387904) (hi : i ≤ 48) (fs r : List UInt8) (hr : r.length < 8) (hfs : fs.length ≤ 10000000) :
    (opt (at? (fs ++ [UInt8.ofNat (valb r * 2 ^ (8 - r.length))]) (IntKind.i64.wrap (((fs ++ [UInt8.ofNat (valb r * 2 ^ (8 - r.length))]).length : Int) - (1 : Int)))) fun (u7 : UInt8) => (req (0 ≤ (i : Int)) (req (0 ≤ (IntKind.i64.wrap (((8 - r.length : Nat) : Int) - (1 : Int)))) (opt (at? (fs ++ [UInt8.ofNat (valb r * 2 ^ (8 - r.length))]) (IntKind.i64.wrap (((fs ++ [UInt8.ofNat (valb r * 2 ^ (8 - r.length))]).length : Int) - (1 : Int)))) fun (u13 : UInt8) => (req (0 ≤ (bits .or .u8 (u7.toNat : Int) (IntKind.u8.wrap ((IntKind.u8.wrap (bits .and .i64 ((c : Int).fdiv (2 ^ min (i : Int).toNat (IntKind.bits .i64))) (1 : Int))) * 2 ^ min ((IntKind.i64.wrap (((8 - r.length : Nat) : Int) - (1 : Int)))).toNat (IntKind.bits .u8)))) ∧ (bits .or .u8 (u7.toNat : Int) (IntKind.u8.wrap ((IntKind.u8.wrap (bits .and .i64 ((c : Int).fdiv (2 ^ min (i : Int).toNat (IntKind.bits .i64))) (1 : Int))) * 2 ^ min ((IntKind.i64.wrap (((8 - r.length : Nat) : Int) - (1 : Int)))).toNat (IntKind.bits .u8)))) ≤ 255) (f___press_writer__put_L3 (c : Int) k ((fs ++ [UInt8.ofNat (valb r * 2 ^ (8 - r.length))]).set ((IntKind.i64.wrap (((fs ++ [UInt8.ofNat (valb r * 2 ^ (8 - r.length))]).length : Int) - (1 : Int)))).toNat (UInt8.ofNat ((bits .or .u8 (u7.toNat : Int) (IntKind.u8.wrap ((IntKind.u8.wrap (bits .and .i64 ((c : Int).fdiv (2 ^ min (i : Int).toNat (IntKind.bits .i64))) (1 : Int))) * 2 ^ min ((IntKind.i64.wrap (((8 - r.length : Nat) : Int) - (1 : Int)))).toNat (IntKind.bits .u8))))).toNat)) (IntKind.i64.wrap (((8 - r.length : Nat) : Int) - (1 : Int))) (IntKind.i64.wrap ((i : Int) - (1 : Int)))))))))
    = f___press_writer__put_L3 (c : Int) k (fs ++ [UInt8.ofNat (valb (r ++ [bitB (c / 2 ^ i)]) * 2 ^ (7 - r.length))]) ((7 - r.length : Nat) : Int) ((i : Int) - 1) := by
  have e1 : IntKind.i64.wrap (((fs ++ [UInt8.ofNat (valb r * 2 ^ (8 - r.length))]).length : Int) - (1 : Int)) = (fs.length : Int) := by
    rw [List.length_append, List.length_singleton, w64 (by omega) (by omega)]; omega
  have e2 : IntKind.i64.wrap (((8 - r.length : Nat) : Int) - (1 : Int)) = ((7 - r.length : Nat) : Int) := by rw [w64 (by omega) (by omega)]; omega
  have e3 : IntKind.i64.wrap ((i : Int) - 1) = (i : Int) - 1 := w64 (by omega) (by omega)
  have e4 : (c : Int).fdiv (2 ^ min (i : Int).toNat (IntKind.bits .i64)) = ((c / 2 ^ i : Nat) : Int) := shr_nat rfl (by show i ≤ 64; omega)
  have hcd : c / 2 ^ i ≤ c := Nat.div_le_self _ _
  have e5 : bits .and .i64 ((c / 2 ^ i : Nat) : Int) 1 = ((c / 2 ^ i % 2 : Nat) : Int) := by
    have := i64_and_nat (c / 2 ^ i) 1 (by omega) (by omega)
    rw [Nat.and_one_is_mod] at this
    exact this
  have e6 : (((c / 2 ^ i % 2 : Nat) : Int)) * 2 ^ min (((7 - r.length : Nat) : Int)).toNat (IntKind.bits .u8) = ((c / 2 ^ i % 2 * 2 ^ (7 - r.length) : Nat) : Int) := shl_nat rfl (by show 7 - r.length ≤ 8; omega)
  have hv := valb_lt r
  obtain ⟨s1, s2, s3, s4⟩ := shl_or hr hv (show c / 2 ^ i % 2 < 2 by omega)
  have e7 : valb (r ++ [bitB (c / 2 ^ i)]) = valb r * 2 + c / 2 ^ i % 2 := by rw [valb_app, valb_one]; rfl
  have e8 : ((UInt8.ofNat (valb r * 2 ^ (8 - r.length))).toNat : Int) = ((valb r * 2 ^ (8 - r.length) : Nat) : Int) := byte_of s2
  rw [e1, e2, e3, e4, e5, u8w_in (by omega), e6, u8w_in s3, at_of (x := UInt8.ofNat (valb r * 2 ^ (8 - r.length))) (by simp), opt_of, req_pos (by omega), req_pos (by omega), opt_of, e8, u8_or _ _ s2 s3, s1, req_pos (by omega), Int.toNat_natCast, Int.toNat_natCast, last_set, e7]
theorem put_go (c : Nat) (hc : c < 4611686018427387904) : ∀ (m k : Nat) (B out : List UInt8) (free i : Int), i = (m : Int) - 1 → m < k → m ≤ 48 → Wr B out free → out.length + m ≤ 1000100 → ∃ out' free', f___press_writer__put_L3 (c : Int) k out free i = some ⟨out', free'⟩ ∧ Wr (B ++ bw c m) out' free' ∧ out'.length ≤ out.length + m
  | _, 0, _, _, _, _, _, hk, _, _, _ => absurd hk (Nat.not_lt_zero _)
  | 0, k + 1, B, out, free, i, hi, hk, hm, hW, ho => by
    subst hi
    rw [f___press_writer__put_L3, cond_ff (decide_eq_false (by omega))]
    exact ⟨out, free, rfl, by rw [bw, List.append_nil]; exact hW, by omega⟩
  | m + 1, k + 1, B, out, free, i, hi, hk, hm, hW, ho => by
    have hi' : i = (m : Int) := by omega
    subst hi'
    obtain ⟨fs, r, hB, hr, hbits, hor⟩ := hW
    have hx := bitB_bit (c / 2 ^ m)
    have hbits' : ∀ x ∈ r ++ [bitB (c / 2 ^ m)], isBit x := fun x hx' => by
      rcases List.mem_append.1 hx' with h | h
      · exact hbits x h
      · rw [List.mem_singleton.1 h]; exact hx
    have hW' : Wr (B ++ [bitB (c / 2 ^ m)]) (fs ++ [UInt8.ofNat (valb (r ++ [bitB (c / 2 ^ m)]) * 2 ^ (7 - r.length))]) ((7 - r.length : Nat) : Int) := by
      by_cases h7 : r.length = 7
      · refine ⟨fs ++ [UInt8.ofNat (valb (r ++ [bitB (c / 2 ^ m)]))], [], ?_, by simp, fun x hx => (by cases hx), .inl ⟨rfl, ?_, by rw [h7]; rfl⟩⟩
        · rw [hB, List.flatMap_append, List.flatMap_singleton, byte_bits (by rw [List.length_append, List.length_singleton, h7]) hbits', List.append_nil, List.append_assoc]
        · rw [h7, Nat.sub_self, Nat.pow_zero, Nat.mul_one]
      · refine ⟨fs, r ++ [bitB (c / 2 ^ m)], by rw [hB, List.append_assoc], by rw [List.length_append, List.length_singleton]; omega, hbits', .inr ⟨by simp, ?_, ?_⟩⟩
        · rw [List.length_append, List.length_singleton, show 8 - (r.length + 1) = 7 - r.length by omega]
        · rw [List.length_append, List.length_singleton, show 8 - (r.length + 1) = 7 - r.length by omega]
    have hfl : fs.length ≤ out.length := by
      rcases hor with ⟨_, rfl, _⟩ | ⟨_, rfl, _⟩
      · exact Nat.le_refl _
      · rw [List.length_append]; omega
    have key : f___press_writer__put_L3 (c : Int) (k + 1) out free (m : Int) = f___press_writer__put_L3 (c : Int) k (fs ++ [UInt8.ofNat (valb (r ++ [bitB (c / 2 ^ m)]) * 2 ^ (7 - r.length))]) ((7 - r.length : Nat) : Int) ((m : Int) - 1) := by
      rw [f___press_writer__put_L3, cond_tt (decide_eq_true (by omega)), lt_of]
      rcases hor with ⟨rfl, rfl, rfl⟩ | ⟨hne, rfl, rfl⟩
      · rw [cond_tt (by rfl), req_pos (by omega), req_pos (by rw [List.length_singleton]; omega)]
        exact put_core c m k hc (by omega) out [] hr (by omega)
      · rw [cond_ff (by rw [beq_eq_false_iff_ne]; omega)]
        exact put_core c m k hc (by omega) fs r hr (by omega)
    have hol : out.length ≤ fs.length + 1 := by
      rcases hor with ⟨_, rfl, _⟩ | ⟨_, rfl, _⟩
      · omega
      · rw [List.length_append, List.length_singleton]; exact Nat.le_refl _
    obtain ⟨out', free', g1, g2, g3⟩ := put_go c hc m k _ _ _ ((m : Int) - 1) rfl (by omega) (by omega) hW' (by rw [List.length_append, List.length_singleton]; omega)
    refine ⟨out', free', key.trans g1, ?_, by rw [List.length_append, List.length_singleton] at g3; omega⟩
    rw [bw_cons, show B ++ bitB (c / 2 ^ m) :: bw c m = (B ++ [bitB (c / 2 ^ m)]) ++ bw c m by simp]
    exact g2
theorem put_ok (c : Nat) (hc : c < 4611686018427387904) (m : Nat) (hm : m ≤ 48) (fu : Nat) (hf : 50 ≤ fu) (B out : List UInt8) (free : Int) (hW : Wr B out free) (ho : out.length ≤ 1000000) : ∃ out' free', f___press_writer__put fu ⟨out, free⟩ (c : Int) (m : Int) = some ⟨out', free'⟩ ∧ Wr (B ++ bw c m) out' free' ∧ out'.length ≤ out.length + m := by
  unfold f___press_writer__put
  dsimp only
  exact put_go c hc m fu B out free _ (by rw [w64 (by omega) (by omega)]) (by omega) hm hW (by omega)
theorem valb_zeros (n : Nat) : valb (List.replicate n 48) = 0 := by
  induction n with
  | zero => rfl
  | succ n ih => rw [List.replicate_succ, valb, ih]; rfl
theorem Wr.pad {B out : List UInt8} {free : Int} (h : Wr B out free) : B ++ List.replicate ((8 - B.length % 8) % 8) 48 = out.flatMap byteBits := by
  obtain ⟨fs, r, hB, hr, hbits, hor⟩ := h
  have hfl : (fs.flatMap byteBits).length = 8 * fs.length := by
    clear hB hor
    induction fs with
    | nil => rfl
    | cons b t ih => rw [List.flatMap_cons, List.length_append, bits_len, ih, List.length_cons]; omega
  have hBl : B.length % 8 = r.length := by rw [hB, List.length_append, hfl]; omega
  rw [hBl]
  rcases hor with ⟨rfl, rfl, _⟩ | ⟨hne, rfl, _⟩
  · rw [hB]; simp
  · have hr0 : 0 < r.length := List.length_pos_iff.2 hne
    rw [Nat.mod_eq_of_lt (show 8 - r.length < 8 by omega), hB, List.flatMap_append, List.flatMap_singleton, List.append_assoc]
    congr 1
    have hl : (r ++ List.replicate (8 - r.length) (48 : UInt8)).length = 8 := by rw [List.length_append, List.length_replicate]; omega
    have hv : valb (r ++ List.replicate (8 - r.length) (48 : UInt8)) = valb r * 2 ^ (8 - r.length) := by rw [valb_app, valb_zeros, List.length_replicate, Nat.add_zero]
    rw [← hv]
    exact (byte_bits hl fun x hx => by
      rcases List.mem_append.1 hx with h | h
      · exact hbits x h
      · rw [List.eq_of_mem_replicate h]; exact .inl rfl).symm
theorem chunk_go (s : List UInt8) (hs : (s.take 8).length = 8) (hb : ∀ x ∈ s.take 8, isBit x) (kk : Int → Option (List UInt8)) : ∀ (d k i n : Nat), 8 - i = d → d < k → i ≤ 8 → n < 2 ^ i → f_lumref_Coded_L58 s kk k (n : Int) (i : Int) = kk ((n * 2 ^ d + valb ((s.take 8).drop i) : Nat) : Int)
  | _, 0, _, _, _, hk, _, _ => absurd hk (Nat.not_lt_zero _)
  | 0, k + 1, i, n, hd, hk, hi, hn => by
    have h8 : ((8 : Int)).toNat = 8 := rfl
    rw [f_lumref_Coded_L58, h8, hs, cond_ff (dge (by omega)), List.drop_of_length_le (by omega), Nat.pow_zero, Nat.mul_one]
    rfl
  | d + 1, k + 1, i, n, hd, hk, hi, hn => by
    have h8 : ((8 : Int)).toNat = 8 := rfl
    have hlt : i < (s.take 8).length := by omega
    have hn2 : n < 2 ^ 7 := Nat.lt_of_lt_of_le hn (Nat.pow_le_pow_right (by omega) (by omega))
    have hn3 : n < 128 := hn2
    have hx := hb _ (List.getElem_mem hlt)
    have hv : valb ((s.take 8).drop i) = (if (s.take 8)[i] = 49 then 1 else 0) * 2 ^ d + valb ((s.take 8).drop (i + 1)) := by
      rw [List.drop_eq_getElem_cons hlt, valb, List.length_drop, hs, show 8 - (i + 1) = d by omega]
      split
      · rw [Nat.one_mul]
      · rw [Nat.zero_mul]
    have hq : IntKind.i64.wrap (IntKind.u8.wrap (((s.take 8)[i].toNat : Int) - 48)) = (((if (s.take 8)[i] = 49 then 1 else 0 : Nat)) : Int) := by
      rcases hx with h | h
      · rw [h]; decide
      · rw [h]; decide
    have hq2 : (if (s.take 8)[i] = 49 then 1 else 0 : Nat) ≤ 1 := by split <;> omega
    rw [f_lumref_Coded_L58, h8, cond_tt (by rw [hs]; exact dlt (by omega)), at_lt hlt, opt_of, hq, w64 (x := (2 : Int) * (n : Int)) (by omega) (by omega), w64 (x := (2 : Int) * (n : Int) + _) (by omega) (by omega), wsucc (by omega), show (2 : Int) * (n : Int) + (((if (s.take 8)[i] = 49 then 1 else 0 : Nat)) : Int) = ((2 * n + (if (s.take 8)[i] = 49 then 1 else 0) : Nat) : Int) by omega,
      chunk_go s hs hb kk d k (i + 1) _ (by omega) (by omega) (by omega) (by rw [Nat.pow_succ]; omega), hv]
    congr 2
    rw [Nat.add_mul, Nat.pow_succ, Nat.add_assoc, Nat.mul_comm 2 n, Nat.mul_assoc, Nat.mul_comm 2 (2 ^ d)]
theorem pack_go (fu : Nat) (hfu : 10 ≤ fu) (kk : List UInt8 → Option (List UInt8)) : ∀ (fs : List UInt8) (k : Nat) (out : List UInt8), fs.length < k → out.length + fs.length ≤ 10000000 → f_lumref_Coded_L41 kk fu k (fs.flatMap byteBits) out = kk (out ++ fs)
  | _, 0, _, hk, _ => absurd hk (Nat.not_lt_zero _)
  | [], k + 1, out, hk, ho => by
    rw [f_lumref_Coded_L41, lt_of, cond_ff (by rfl), List.append_nil]
  | b :: fs, k + 1, out, hk, ho => by
    have h8 : ((8 : Int)).toNat = 8 := rfl
    rw [List.length_cons] at hk ho
    have hfc : (b :: fs).flatMap byteBits = byteBits b ++ fs.flatMap byteBits := List.flatMap_cons
    have hne : (!((b :: fs).flatMap byteBits == ([] : List UInt8))) = true := by
      rw [hfc]
      have : byteBits b ≠ [] := fun e => by have := bits_len b; rw [e] at this; cases this
      cases hb : byteBits b with
      | nil => exact absurd hb this
      | cons x y => rfl
    have hlen : 8 ≤ ((b :: fs).flatMap byteBits).length := by rw [hfc, List.length_append, bits_len]; omega
    have htake : ((b :: fs).flatMap byteBits).take 8 = byteBits b := by
      rw [hfc, List.take_append_of_le_length (by rw [bits_len]; exact Nat.le_refl _), List.take_of_length_le (by rw [bits_len]; exact Nat.le_refl _)]
    have hdrop : ((b :: fs).flatMap byteBits).drop 8 = fs.flatMap byteBits := by
      rw [hfc, List.drop_append_of_le_length (by rw [bits_len]; exact Nat.le_refl _), List.drop_of_length_le (by rw [bits_len]; exact Nat.le_refl _), List.nil_append]
    have hv : valb (byteBits b) = b.toNat := valb_bw b.toNat_lt
    have hc := chunk_go ((b :: fs).flatMap byteBits) (by rw [htake, bits_len]) (by rw [htake]; exact bw_bits _ _)
    rw [f_lumref_Coded_L41, lt_of, cond_tt hne, lt_of, lt_of, req_pos (by omega), req_pos (by rw [h8, htake, bits_len]; omega)]
    have hc2 := hc (fun (j47i21 : Int) => (req (0 ≤ (IntKind.u8.wrap j47i21) ∧ (IntKind.u8.wrap j47i21) ≤ 255) (req (((out.length + ([(UInt8.ofNat ((IntKind.u8.wrap j47i21)).toNat)]).length) * 1 : Nat) ≤ 140737488355328 ∧ out.length + ([(UInt8.ofNat ((IntKind.u8.wrap j47i21)).toNat)]).length ≤ 9223372036854775807) (req (0 ≤ (8 : Int) ∧ (8 : Int) ≤ (((b :: fs).flatMap byteBits).length : Int)) (f_lumref_Coded_L41 kk fu k (((b :: fs).flatMap byteBits).drop ((8 : Int)).toNat) (out ++ ([(UInt8.ofNat ((IntKind.u8.wrap j47i21)).toNat)]))))))) 8 fu 0 0 rfl (by omega) (by omega) (by omega)
    refine Eq.trans hc2 ?_
    rw [htake, List.drop_zero, hv, Nat.zero_mul, Nat.zero_add, u8w_in b.toNat_lt, req_pos (by have := b.toNat_lt; omega), req_pos (by rw [List.length_singleton]; omega), req_pos (by omega), h8, hdrop, Int.toNat_natCast, UInt8.ofNat_toNat, pack_go fu hfu kk fs k (out ++ [b]) (by omega) (by rw [List.length_append, List.length_singleton]; omega), List.append_assoc]
    rfl
end Go.Proofs.YtfhifdmbdkkgaaaDoor.PBit
namespace Go.Proofs.YtfhifdmbdkkgaaaDoor.PPs
open Go.RowKit YtfhifdmbdkkgaaaDoor.En YtfhifdmbdkkgaaaDoor YtfhifdmbdkkgaaaDoor.Huf
set_option linter.unusedVariables false
set_option linter.unusedSimpArgs false
abbrev Rp := Option (List UInt8 × Int)
def Z : List Int := List.replicate 256 0
def cn (F : List Int) (t : List UInt8) : List Int := t.foldl (fun F b => PHl.inc F ((b.toNat : Nat) : Int)) F
theorem cn_snoc (F : List Int) (t : List UInt8) (b : UInt8) : cn F (t ++ [b]) = PHl.inc (cn F t) ((b.toNat : Nat) : Int) := by unfold cn; rw [List.foldl_append]; rfl
theorem cn_take (F : List Int) (t : List UInt8) (i : Nat) (h : i < t.length) : cn F (t.take (i + 1)) = PHl.inc (cn F (t.take i)) ((t[i].toNat : Nat) : Int) := by
  rw [List.take_add_one, List.getElem?_eq_getElem h]; exact cn_snoc _ _ _
theorem cn_len (F : List Int) : ∀ t : List UInt8, (cn F t).length = F.length := fun t => by
  induction t generalizing F with
  | nil => rfl
  | cons b t ih => show (cn (PHl.inc F _) t).length = _; rw [ih, PHl.inc_len]
theorem sum_set : ∀ (l : List Int) (k : Nat) (v : Int), k < l.length → (l.set k v).sum = l.sum + v - l.getD k 0
  | [], k, v, h => absurd h (Nat.not_lt_zero _)
  | a :: l, 0, v, _ => by rw [List.set_cons_zero, List.sum_cons, List.sum_cons]; show _ = a + l.sum + v - a; omega
  | a :: l, k + 1, v, h => by
    rw [List.set_cons_succ, List.sum_cons, List.sum_cons, sum_set l k v (by rw [List.length_cons] at h; omega)]
    show _ = a + l.sum + v - l.getD k 0
    omega
theorem Z_len : Z.length = 256 := List.length_replicate
theorem Z_mem : ∀ v ∈ Z, 0 ≤ v ∧ v ≤ 0 := fun v hv => by rw [List.eq_of_mem_replicate hv]; omega
theorem Z_sum : ∀ n : Nat, (List.replicate n (0 : Int)).sum = 0
  | 0 => rfl
  | n + 1 => by rw [List.replicate_succ, List.sum_cons, Z_sum n]; rfl
theorem cn_ok (t : List UInt8) (ht : t.length ≤ 100000) : ∀ i, i ≤ t.length → (∀ v ∈ cn Z (t.take i), 0 ≤ v ∧ v ≤ (i : Int)) ∧ (cn Z (t.take i)).sum = (i : Int)
  | 0, _ => ⟨fun v hv => Z_mem v hv, by show Z.sum = 0; exact Z_sum 256⟩
  | i + 1, h => by
    obtain ⟨h1, h2⟩ := cn_ok t ht i (by omega)
    have hl : (cn Z (t.take i)).length = 256 := by rw [cn_len]; exact Z_len
    have hb := t[i].toNat_lt
    rw [cn_take Z t i (by omega)]
    obtain ⟨v, v1, v2, v3⟩ := PHl.inc_step (out := cn Z (t.take i)) (s := ((t[i].toNat : Nat) : Int)) (by omega) (by omega) h1 (by omega)
    refine ⟨fun x hx => by have := v3 x hx; omega, ?_⟩
    unfold PHl.inc
    rw [sum_set _ _ _ (by rw [hl, Int.toNat_natCast]; omega), h2]
    omega
def nzc (F : List Int) : Nat := PHl.sumTo (fun k => if 0 < F.getD k 0 then 1 else 0) 256
theorem nzc_inc {F : List Int} (hl : F.length = 256) {b : UInt8} {v : Int} (hv : at? F ((b.toNat : Nat) : Int) = some v) (h0 : 0 ≤ v) : nzc (PHl.inc F ((b.toNat : Nat) : Int)) = nzc F + if v = 0 then 1 else 0 := by
  have hb := b.toNat_lt
  have hb2 : b.toNat < F.length := by omega
  have hvb : F[b.toNat] = v := by rw [at_lt hb2] at hv; exact Option.some.inj hv
  have e : ∀ k, k < 256 → (if 0 < (PHl.inc F ((b.toNat : Nat) : Int)).getD k 0 then 1 else 0) = (if 0 < F.getD k 0 then 1 else 0) + (if k = b.toNat then (if v = 0 then 1 else 0) else 0) := fun k hk => by
    have hk2 : k < F.length := by omega
    have h := PHl.inc_at F (s := ((b.toNat : Nat) : Int)) (by omega) k
    rw [List.getD_eq_getElem?_getD, h, List.getD_eq_getElem?_getD, List.getElem?_eq_getElem hk2, Option.map_some, Option.getD_some, Option.getD_some]
    by_cases hkb : k = b.toNat
    · subst hkb
      rw [if_pos rfl, if_pos rfl, hvb]
      by_cases hz : v = 0
      · rw [if_pos hz, hz]; rfl
      · rw [if_neg hz, if_pos (by omega), if_pos (by omega)]
    · rw [if_neg hkb, if_neg (show ¬ (k : Int) = ((b.toNat : Nat) : Int) by omega)]
      rfl
  unfold nzc
  rw [PHl.sumTo_congr e, PHl.sumTo_add, PHl.sumTo_one, if_pos hb]
theorem nzc_Z : nzc Z = 0 := by
  unfold nzc
  rw [PHl.sumTo_congr (g := fun _ => 0) fun k hk => ?_, PHl.sumTo_zero]
  rw [if_neg]
  rw [List.getD_eq_getElem?_getD]
  unfold Z
  rw [List.getElem?_replicate, if_pos hk]
  decide
theorem nzc_le (F : List Int) : nzc F ≤ 256 := by
  have : ∀ n, PHl.sumTo (fun k => if 0 < F.getD k 0 then 1 else 0) n ≤ n := fun n => by
    induction n with
    | zero => exact Nat.le_refl _
    | succ n ih => rw [PHl.sumTo]; split <;> omega
  exact this 256
theorem count_go (t : List UInt8) (ht : t.length ≤ 100000) (e : Int) (kk : List Int → Int → Rp) : ∀ (d k i : Nat), t.length - i = d → d < k → i ≤ t.length → f_press_Press_L80 (t, e) kk k (cn Z (t.take i)) ((nzc (cn Z (t.take i)) : Nat) : Int) (i : Int) = kk (cn Z t) ((nzc (cn Z t) : Nat) : Int)
  | _, 0, _, _, hk, _ => absurd hk (Nat.not_lt_zero _)
  | d, k + 1, i, hd, hk, hi => by
    rw [f_press_Press_L80]
    dsimp only
    by_cases h : i < t.length
    · obtain ⟨h1, h2⟩ := cn_ok t ht i hi
      have hl : (cn Z (t.take i)).length = 256 := by rw [cn_len]; exact Z_len
      have hb := t[i].toNat_lt
      obtain ⟨v, v1, v2, v3⟩ := PHl.inc_step (out := cn Z (t.take i)) (s := ((t[i].toNat : Nat) : Int)) (by omega) (by omega) h1 (by omega)
      have hv0 : 0 ≤ v := by
        rw [at_lt (by omega)] at v1
        have := h1 _ (List.getElem_mem (show t[i].toNat < (cn Z (t.take i)).length by omega))
        have := Option.some.inj v1
        omega
      have hle := nzc_le (cn Z (t.take i))
      have ih := count_go t ht e kk (d - 1) k (i + 1) (by omega) (by omega) (by omega)
      rw [cn_take Z t i h, nzc_inc hl v1 hv0] at ih
      rw [cond_tt (dlt (by omega)), lt_of, req_pos (by omega), PPut.bAt_lt h, v1, opt_of]
      by_cases hz : v = 0
      · rw [cond_tt (by rw [hz]; rfl)]
        dsimp only
        rw [req_pos (by omega), opt_of, opt_of, v2, wsucc (by omega), wsucc (by omega)]
        rw [if_pos hz] at ih
        exact ih
      · rw [cond_ff (by rw [beq_eq_false_iff_ne]; exact hz)]
        dsimp only
        rw [req_pos (by omega), opt_of, opt_of, v2, wsucc (by omega)]
        rw [if_neg hz, Nat.add_zero] at ih
        exact ih
    · rw [cond_ff (dge (by omega)), List.take_of_length_le (by omega)]
theorem rcount_go (t : List UInt8) (ht : t.length ≤ 100000) (kk : List Int → Option (List UInt8)) : ∀ (d k i : Nat), t.length - i = d → d < k → i ≤ t.length → f_lumref_Coded_L108 t kk k (cn Z (t.take i)) (i : Int) = kk (cn Z t)
  | _, 0, _, _, hk, _ => absurd hk (Nat.not_lt_zero _)
  | d, k + 1, i, hd, hk, hi => by
    rw [f_lumref_Coded_L108]
    by_cases h : i < t.length
    · obtain ⟨h1, h2⟩ := cn_ok t ht i hi
      have hl : (cn Z (t.take i)).length = 256 := by rw [cn_len]; exact Z_len
      have hb := t[i].toNat_lt
      obtain ⟨v, v1, v2, v3⟩ := PHl.inc_step (out := cn Z (t.take i)) (s := ((t[i].toNat : Nat) : Int)) (by omega) (by omega) h1 (by omega)
      have ih := rcount_go t ht kk (d - 1) k (i + 1) (by omega) (by omega) (by omega)
      rw [cn_take Z t i h] at ih
      rw [cond_tt (dlt (by omega)), at_lt h, opt_of, v1, opt_of, opt_of, v2, wsucc (by omega)]
      exact ih
    · rw [cond_ff (dge (by omega)), List.take_of_length_le (by omega)]
theorem codes_of {F w : List Int} (hF : F.length = 256) (h : PHl.Lg F w) : cd w = (Huf.ints (implOut (nat w) 49 0), 0) ∧ w.length = 256 ∧ (∀ k : Nat, k < 256 → w[k]? = some ((mAt (nat w) k : Nat) : Int) ∧ mAt (nat w) k ≤ 48) ∧ (∀ k : Nat, k < 256 → ∃ q : Nat, q < 4611686018427387904 ∧ at? (Huf.ints (implOut (nat w) 49 0)) (k : Int) = some ((q : Nat) : Int)) := by
  have hl : w.length = 256 := by rw [h.len, hF]
  have hk : kr w = (((kraftTo (nat w) w.length : Nat) : Int), 0) := by
    unfold kr
    rw [if_neg]
    rintro (h1 | h1 | h1)
    · omega
    · omega
    · rw [h.good] at h1; cases h1
  have hkr := h.kraft
  rw [hF] at hkr
  have h48 : (2 : Nat) ^ 48 = 281474976710656 := by decide
  refine ⟨?_, hl, fun k hk2 => ?_, fun k hk2 => ?_⟩
  · unfold cd
    rw [hk, if_neg (by simp), if_neg (by show ¬ ((kraftTo (nat w) w.length : Nat) : Int) > _; rw [hl]; omega)]
  · obtain ⟨g1, g2⟩ := good_get h.good (k := k) (by omega)
    exact ⟨by rw [List.getElem?_eq_getElem (by omega), g1], g2⟩
  · have hq : (implOut (nat w) 49 0)[k]? = some (if Huf.cond (nat w) 49 0 k = true then code (nat w) k else 0) := by
      unfold implOut
      rw [List.getElem?_map, List.getElem?_range (show k < (nat w).length by rw [nat_len]; omega)]; rfl
    refine ⟨if Huf.cond (nat w) 49 0 k = true then code (nat w) k else 0, ?_, Huf.ints_at hq⟩
    by_cases hc : Huf.cond (nat w) 49 0 k = true
    · rw [if_pos hc]
      have h0 : 0 < mAt (nat w) k := by
        unfold Huf.cond at hc
        rw [Bool.and_eq_true] at hc
        exact of_decide_eq_true hc.1
      have g2 := (good_get h.good (k := k) (by omega)).2
      have := code_lt (nat w) (mAt (nat w) k) k h0 g2 (by rw [nat_len]; omega) rfl (by rw [nat_len, hl]; exact hkr)
      omega
    · rw [if_neg hc]; omega
end Go.Proofs.YtfhifdmbdkkgaaaDoor.PPs
namespace Go.Proofs.YtfhifdmbdkkgaaaDoor.PPs
open Go.RowKit YtfhifdmbdkkgaaaDoor.En YtfhifdmbdkkgaaaDoor YtfhifdmbdkkgaaaDoor.Huf YtfhifdmbdkkgaaaDoor.PBit
set_option linter.unusedVariables false
set_option linter.unusedSimpArgs false
structure Cw (w c : List Int) (n q : Nat → Nat) : Prop where
  wl : w.length = 256
  wk : ∀ k : Nat, k < 256 → w[k]? = some ((n k : Nat) : Int)
  ck : ∀ k : Nat, k < 256 → at? c (k : Int) = some ((q k : Nat) : Int)
  n48 : ∀ k, k < 256 → n k ≤ 48
  q62 : ∀ k, k < 256 → q k < 4611686018427387904
def hdr (n : Nat → Nat) : Nat → Nat → List UInt8
  | 0, _ => []
  | d + 1, i => (if 0 < n i then [UInt8.ofNat i, UInt8.ofNat (n i)] else []) ++ hdr n d (i + 1)
def mny (n : Nat → Nat) : Nat → Nat → Nat
  | 0, _ => 0
  | d + 1, i => (if 0 < n i then 1 else 0) + mny n d (i + 1)
theorem hdr_len (n : Nat → Nat) : ∀ d i, (hdr n d i).length ≤ 2 * d
  | 0, _ => Nat.le_refl _
  | d + 1, i => by
    have := hdr_len n d (i + 1)
    rw [hdr, List.length_append]
    split
    · show 2 + _ ≤ _; omega
    · show 0 + _ ≤ _; omega
theorem mny_sum (n : Nat → Nat) : ∀ d i, mny n d i + PHl.sumTo (fun k => if 0 < n k then 1 else 0) i = PHl.sumTo (fun k => if 0 < n k then 1 else 0) (i + d)
  | 0, i => by rw [mny, Nat.zero_add, Nat.add_zero]
  | d + 1, i => by
    have := mny_sum n d (i + 1)
    rw [mny]
    rw [PHl.sumTo] at this
    rw [show i + (d + 1) = i + 1 + d by omega]
    omega
section
variable {w c : List Int} {n q : Nat → Nat} (h : Cw w c n q)
include h
theorem head_go (e : Int) (kk : List UInt8 → Rp) : ∀ (d k i : Nat) (out : List UInt8), 256 - i = d → d < k → i ≤ 256 → out.length ≤ 1000 + 2 * i → f_press_Press_L51 (w, e) kk k out (i : Int) = kk (out ++ hdr n d i)
  | _, 0, _, _, _, hk, _, _ => absurd hk (Nat.not_lt_zero _)
  | 0, k + 1, i, out, hd, hk, hi, ho => by
    have := h.wl
    rw [f_press_Press_L51]
    dsimp only
    rw [cond_ff (dge (by omega)), hdr, List.append_nil]
  | d + 1, k + 1, i, out, hd, hk, hi, ho => by
    have hwl := h.wl
    have hi2 : i < 256 := by omega
    have h48 := h.n48 i hi2
    rw [f_press_Press_L51]
    dsimp only
    rw [cond_tt (dlt (by omega)), lt_of, at_of (h.wk i hi2), opt_of, wsucc (by omega)]
    have ih := fun out ho => head_go e kk d k (i + 1) out (by omega) (by omega) (by omega) ho
    by_cases h0 : 0 < n i
    · rw [cond_tt (decide_eq_true (show ((n i : Nat) : Int) > 0 by omega)), u8w_in (x := i) (by omega), u8w_in (x := n i) (by omega), req_pos (by omega), req_pos (by omega), req_pos (by simp; omega), Int.toNat_natCast, Int.toNat_natCast]
      dsimp only
      rw [ih _ (by simp; omega), hdr, if_pos h0, List.append_assoc]
    · rw [cond_ff (decide_eq_false (show ¬ ((n i : Nat) : Int) > 0 by omega))]
      dsimp only
      rw [ih _ (by omega), hdr, if_neg h0, List.nil_append]
def wds (n q : Nat → Nat) (i : Nat) : List (List UInt8) := (List.range 256).map fun j => if j < i then bw (q j) (n j) else []
omit h in
theorem wds_zero (n q : Nat → Nat) : List.replicate ((256 : Int)).toNat ([] : List UInt8) = wds n q 0 := by
  unfold wds
  show List.replicate 256 [] = _
  rw [List.map_congr_left (g := fun _ => []) fun j _ => if_neg (Nat.not_lt_zero _), List.map_const', List.length_range]
omit h in
theorem wds_at (n q : Nat → Nat) (i j : Nat) (hj : j < 256) : (wds n q i)[j]? = some (if j < i then bw (q j) (n j) else []) := by
  unfold wds
  rw [List.getElem?_map, List.getElem?_range hj]; rfl
omit h in
theorem wds_set (n q : Nat → Nat) (i : Nat) : (wds n q i).set i (bw (q i) (n i)) = wds n q (i + 1) := map_set (fun _ => by rw [if_pos (by omega)]) fun j hj hne => by
  by_cases h : j < i
  · rw [if_pos h, if_pos (by omega)]
  · rw [if_neg h, if_neg (by omega)]
omit h in
theorem wds_skip (n q : Nat → Nat) (i : Nat) (h0 : n i = 0) : wds n q i = wds n q (i + 1) := map_eq fun j hj => by
  by_cases h : j < i
  · rw [if_pos h, if_pos (by omega)]
  · rw [if_neg h]
    by_cases h2 : j = i
    · subst h2; rw [if_pos (by omega), h0]; rfl
    · rw [if_neg (by omega)]
theorem rhead_go (e1 e2 : Int) (kk : List (List UInt8) → List UInt8 → Int → Option (List UInt8)) (fu : Nat) (hfu : 60 ≤ fu) : ∀ (d k i m : Nat) (out : List UInt8), 256 - i = d → d < k → i ≤ 256 → out.length ≤ 1000 + 2 * i → m ≤ i → f_lumref_Coded_L81 (w, e1) (c, e2) kk fu k (wds n q i) out (m : Int) (i : Int) = kk (wds n q 256) (out ++ hdr n d i) ((m + mny n d i : Nat) : Int)
  | _, 0, _, _, _, _, hk, _, _, _ => absurd hk (Nat.not_lt_zero _)
  | 0, k + 1, i, m, out, hd, hk, hi, ho, hm => by
    have := h.wl
    rw [f_lumref_Coded_L81]
    dsimp only
    rw [cond_ff (dge (by omega)), hdr, List.append_nil, mny, Nat.add_zero, show i = 256 by omega]
  | d + 1, k + 1, i, m, out, hd, hk, hi, ho, hm => by
    have hwl := h.wl
    have hi2 : i < 256 := by omega
    have h48 := h.n48 i hi2
    have hwlen : i < (wds n q i).length := by unfold wds; rw [List.length_map, List.length_range]; exact hi2
    rw [f_lumref_Coded_L81]
    dsimp only
    rw [cond_tt (dlt (by omega)), lt_of, at_of (h.wk i hi2), opt_of, wsucc (by omega)]
    have ih := fun m out ho hm => rhead_go e1 e2 kk fu hfu d k (i + 1) m out (by omega) (by omega) (by omega) ho hm
    by_cases h0 : 0 < n i
    · rw [cond_tt (decide_eq_true (show ((n i : Nat) : Int) > 0 by omega)), h.ck i hi2, opt_of, bits_ok (n i) fu (q i) (by omega) h48 (h.q62 i hi2), opt_of, at_lt hwlen, opt_of, PBit.u8w (x := (i : Int)) (by omega), PBit.u8w (x := ((n i : Nat) : Int)) (by omega), req_pos (by omega), req_pos (by omega), req_pos (by simp; omega), Int.toNat_natCast, Int.toNat_natCast, wds_set, wsucc (by omega)]
      dsimp only
      rw [ih (m + 1) _ (by simp; omega) (by omega), hdr, if_pos h0, List.append_assoc, mny, if_pos h0, Nat.add_assoc]
    · rw [cond_ff (decide_eq_false (show ¬ ((n i : Nat) : Int) > 0 by omega)), wds_skip n q i (by omega)]
      dsimp only
      rw [ih m _ (by omega) (by omega), hdr, if_neg h0, List.nil_append, mny, if_neg h0, Nat.zero_add]
def wt (n q : Nat → Nat) (l : List UInt8) : List UInt8 := l.flatMap fun b => bw (q b.toNat) (n b.toNat)
omit h in
theorem wt_cons (n q : Nat → Nat) (b : UInt8) (l : List UInt8) : wt n q (b :: l) = bw (q b.toNat) (n b.toNat) ++ wt n q l := List.flatMap_cons
theorem write_go (t : List UInt8) (ht : t.length ≤ 12288) (e1 e2 e3 : Int) (kk : List UInt8 → Int → Rp) (fu : Nat) (hfu : 60 ≤ fu) : ∀ (d k i : Nat) (B out : List UInt8) (free : Int), t.length - i = d → d < k → i ≤ t.length → Wr B out free → out.length ≤ 48 * i → ∃ out' free', f_press_Press_L34 (t, e1) (w, e2) (c, e3) kk fu k out free (i : Int) = kk out' free' ∧ Wr (B ++ wt n q (t.drop i)) out' free' ∧ out'.length ≤ 48 * t.length
  | _, 0, _, _, _, _, _, hk, _, _, _ => absurd hk (Nat.not_lt_zero _)
  | d, k + 1, i, B, out, free, hd, hk, hi, hW, ho => by
    rw [f_press_Press_L34]
    dsimp only
    by_cases hlt : i < t.length
    · have hb := t[i].toNat_lt
      have hb2 : t[i].toNat < 256 := hb
      have h48 := h.n48 _ hb2
      obtain ⟨o, f, p1, p2, p3⟩ := put_ok (q t[i].toNat) (h.q62 _ hb2) (n t[i].toNat) h48 fu (by omega) B out free hW (by omega)
      obtain ⟨out', free', g1, g2, g3⟩ := write_go t ht e1 e2 e3 kk fu hfu (d - 1) k (i + 1) _ o f (by omega) (by omega) (by omega) p2 (by omega)
      refine ⟨out', free', ?_, ?_, g3⟩
      · rw [cond_tt (dlt (by omega)), req_pos (by omega), PPut.bAt_lt hlt, h.ck _ hb2, opt_of, req_pos (by omega), at_of (h.wk _ hb2), opt_of, p1, opt_of, wsucc (by omega)]
        exact g1
      · rw [List.drop_eq_getElem_cons hlt, wt_cons, ← List.append_assoc]
        exact g2
    · refine ⟨out, free, by rw [cond_ff (dge (by omega))], ?_, by omega⟩
      rw [List.drop_of_length_le (by omega)]
      show Wr (B ++ []) out free
      rw [List.append_nil]; exact hW
theorem rwrite_go (t : List UInt8) (ht : t.length ≤ 12288) (kk : List UInt8 → Option (List UInt8)) (fu : Nat) : ∀ (d k i : Nat) (out : List UInt8), t.length - i = d → d < k → i ≤ t.length → out.length ≤ 48 * i → f_lumref_Coded_L67 t (wds n q 256) kk fu k out (i : Int) = kk (out ++ wt n q (t.drop i))
  | _, 0, _, _, _, hk, _, _ => absurd hk (Nat.not_lt_zero _)
  | d, k + 1, i, out, hd, hk, hi, ho => by
    rw [f_lumref_Coded_L67]
    by_cases hlt : i < t.length
    · have hb := t[i].toNat_lt
      have hb2 : t[i].toNat < 256 := hb
      have h48 := h.n48 _ hb2
      have hwa := wds_at n q 256 t[i].toNat hb2
      rw [if_pos hb2] at hwa
      rw [cond_tt (dlt (by omega)), at_lt hlt, opt_of, at_of hwa, opt_of]
      unfold f___strings_Builder__WriteString_sb
      rw [req_pos (by rw [bw_len]; omega), opt_of, wsucc (by omega)]
      dsimp only
      rw [rwrite_go t ht kk fu (d - 1) k (i + 1) _ (by omega) (by omega) (by omega) (by rw [List.length_append, bw_len]; omega), List.drop_eq_getElem_cons hlt, wt_cons, List.append_assoc]
    · rw [cond_ff (dge (by omega)), List.drop_of_length_le (by omega)]
      show _ = kk (out ++ [])
      rw [List.append_nil]
end
theorem wt_len (n q : Nat → Nat) (h48 : ∀ k, k < 256 → n k ≤ 48) : ∀ l : List UInt8, (wt n q l).length ≤ 48 * l.length
  | [] => Nat.le_refl _
  | b :: l => by
    have := wt_len n q h48 l
    have h1 := h48 b.toNat b.toNat_lt
    rw [wt_cons, List.length_append, bw_len, List.length_cons]; omega
end Go.Proofs.YtfhifdmbdkkgaaaDoor.PPs
namespace Go.Proofs.YtfhifdmbdkkgaaaDoor.PPs
open Go.RowKit YtfhifdmbdkkgaaaDoor.En YtfhifdmbdkkgaaaDoor YtfhifdmbdkkgaaaDoor.Huf YtfhifdmbdkkgaaaDoor.PBit
set_option linter.unusedVariables false
set_option linter.unusedSimpArgs false
theorem put_len (n : Nat) : (PPut.putV n).length ≤ 9 := by
  unfold PPut.putV
  have := Num.digF_len 8 n
  rw [List.length_cons]; omega
theorem nums_go (s t : List UInt8) (hs : s.length ≤ 4096) (ht : t.length ≤ 12288) (m : Nat) (hm : m ≤ 256) (e : Int) (kk : List UInt8 → Rp) (fu : Nat) (hfu : 10 ≤ fu) : f_press_Press_L68 s (t, e) (m : Int) kk fu fu [UInt8.ofNat ((1 : Int)).toNat] (0 : Int) = kk ([1] ++ PPut.putV s.length ++ PPut.putV t.length ++ PPut.putV m) := by
  obtain ⟨k, rfl⟩ : ∃ k, fu = k + 4 := ⟨fu - 4, by omega⟩
  have h1 := put_len s.length
  have h2 := put_len t.length
  have h3 := put_len m
  rw [f_press_Press_L68]
  dsimp only
  rw [cond_tt (by simp), show at? [(s.length : Int), (t.length : Int), (m : Int)] (0 : Int) = some (s.length : Int) from rfl, opt_of, PPut.uw (by omega), PPut.put_ok _ (by omega), opt_of, req_pos (by rw [List.length_singleton]; omega), show IntKind.i64.wrap ((0 : Int) + 1) = 1 by decide,
    f_press_Press_L68]
  dsimp only
  rw [cond_tt (by simp), show at? [(s.length : Int), (t.length : Int), (m : Int)] (1 : Int) = some (t.length : Int) from rfl, opt_of, PPut.uw (by omega), PPut.put_ok _ (by omega), opt_of, req_pos (by rw [List.length_append, List.length_singleton]; omega), show IntKind.i64.wrap ((1 : Int) + 1) = 2 by decide,
    f_press_Press_L68]
  dsimp only
  rw [cond_tt (by simp), show at? [(s.length : Int), (t.length : Int), (m : Int)] (2 : Int) = some (m : Int) from rfl, opt_of, PPut.uw (by omega), PPut.put_ok _ (by omega), opt_of, req_pos (by rw [List.length_append, List.length_append, List.length_singleton]; omega), show IntKind.i64.wrap ((2 : Int) + 1) = 3 by decide,
    f_press_Press_L68]
  dsimp only
  rw [cond_ff (by simp)]
  rfl
theorem press_ok (s : List UInt8) (fu : Nat) (hfu : 700000 ≤ fu) : ∃ r, f_press_Press fu s = some r ∧ f_lumref_Press fu s = some r ∧ r.1.length ≤ 4097 := by
  by_cases hs : 4096 < s.length
  · refine ⟨([], 2), ?_, ?_, by simp⟩
    · unfold f_press_Press
      rw [PGr.greedy_large s hs, opt_of, cond_tt (by rfl)]
    · unfold f_lumref_Press
      rw [cond_tt (decide_eq_true (by omega))]
  have hn : s.length ≤ 4096 := by omega
  obtain ⟨g1, g2⟩ := PGr.greedy_ok s hn fu (by omega)
  obtain ⟨t1, t2⟩ := PGr.pack_ok s hn fu (by omega)
  have ht := PGr.txt_len s hn
  generalize hT : PGr.txt s = t at t1 t2 ht
  obtain ⟨c1, c2⟩ := cn_ok t (by omega) t.length (Nat.le_refl _)
  rw [List.take_length] at c1 c2
  have hcl : (cn Z t).length = 256 := by rw [cn_len]; exact Z_len
  obtain ⟨w, w1, w2, Lw⟩ := PHl.lens_ok (cn Z t) hcl (fun v hv => (c1 v hv).1) (by omega) fu (by omega)
  obtain ⟨k1, k2, k3, k4⟩ := codes_of hcl Lw
  generalize hC : Huf.ints (implOut (nat w) 49 0) = c at k1 k4
  have hq : ∃ q : Nat → Nat, ∀ k : Nat, k < 256 → q k < 4611686018427387904 ∧ at? c (k : Int) = some ((q k : Nat) : Int) := by
    refine ⟨fun k => if h : k < 256 then (k4 k h).choose else 0, fun k hk => ?_⟩
    dsimp only
    rw [dif_pos hk]
    exact (k4 k hk).choose_spec
  obtain ⟨q, hq⟩ := hq
  have hCw : Cw w c (mAt (nat w)) q := ⟨k2, fun k hk => (k3 k hk).1, fun k hk => (hq k hk).2, fun k hk => (k3 k hk).2, fun k hk => (hq k hk).1⟩
  have hmny : mny (mAt (nat w)) 256 0 = nzc (cn Z t) := by
    have h := mny_sum (mAt (nat w)) 256 0
    rw [PHl.sumTo, Nat.add_zero] at h
    rw [h, Nat.zero_add]
    unfold nzc
    refine PHl.sumTo_congr fun k hk => ?_
    have hp := Lw.pos k (by omega)
    have e : (0 < mAt (nat w) k) ↔ 0 < w.getD k 0 := by rw [nat_at]; omega
    by_cases h0 : 0 < (cn Z t).getD k 0
    · rw [if_pos h0, if_pos (e.2 (hp.2 h0))]
    · rw [if_neg h0, if_neg (fun x => h0 (hp.1 (e.1 x)))]
  have hm := nzc_le (cn Z t)
  -- the words
  obtain ⟨body, free, b1, b2, b3⟩ := write_go hCw t ht 0 0 0 (fun j24x20_0 j24i20_1 => (req (((([1] ++ PPut.putV s.length ++ PPut.putV t.length ++ PPut.putV (nzc (cn Z t)) ++ hdr (mAt (nat w)) 256 0).length + j24x20_0.length) * 1 : Nat) ≤ 140737488355328 ∧ ([1] ++ PPut.putV s.length ++ PPut.putV t.length ++ PPut.putV (nzc (cn Z t)) ++ hdr (mAt (nat w)) 256 0).length + j24x20_0.length ≤ 9223372036854775807) (bif (decide ((([1] ++ PPut.putV s.length ++ PPut.putV t.length ++ PPut.putV (nzc (cn Z t)) ++ hdr (mAt (nat w)) 256 0 ++ j24x20_0).length : Int) < (IntKind.i64.wrap ((1 : Int) + (s.length : Int))))) then (some (([1] ++ PPut.putV s.length ++ PPut.putV t.length ++ PPut.putV (nzc (cn Z t)) ++ hdr (mAt (nat w)) 256 0 ++ j24x20_0), (0 : Int))) else (req (0 ≤ (0 : Int) ∧ (0 : Int) ≤ 255) (req (([(UInt8.ofNat ((0 : Int)).toNat)]).length + s.length ≤ 9223372036854775807) (some ((([(UInt8.ofNat ((0 : Int)).toNat)]) ++ s), (0 : Int)))))))) fu (by omega) t.length fu 0 [] [] 0 rfl (by omega) (Nat.zero_le _) Wr.nil (Nat.le_refl _)
  rw [List.drop_zero, List.nil_append] at b2
  have p1 := put_len s.length
  have p2 := put_len t.length
  have p3 := put_len (nzc (cn Z t))
  have p4 := hdr_len (mAt (nat w)) 256 0
  have hwl := wt_len (mAt (nat w)) q (fun k hk => (k3 k hk).2) t
  -- the code
  have code : f_press_Press fu s = if ([1] ++ PPut.putV s.length ++ PPut.putV t.length ++ PPut.putV (nzc (cn Z t)) ++ hdr (mAt (nat w)) 256 0 ++ body).length ≤ s.length then some ([1] ++ PPut.putV s.length ++ PPut.putV t.length ++ PPut.putV (nzc (cn Z t)) ++ hdr (mAt (nat w)) 256 0 ++ body, 0) else some ([0] ++ s, 0) := by
    unfold f_press_Press
    rw [g1, opt_of, cond_ff (by rfl)]
    dsimp only
    rw [t1, opt_of, req_pos (by omega), lt_of]
    have hcg := count_go t (by omega) 0 (fun (j9x8 : (List Int)) (j9i9 : Int) => (opt (f_huff_Lengths fu j9x8) fun (r12 : ((List Int) × Int)) => (opt (f_huff_Codes fu r12.1) fun (r15 : ((List Int) × Int)) => (req (0 ≤ (1 : Int) ∧ (1 : Int) ≤ 255) (lt (fun (j19x15 : (List UInt8)) => (lt (fun (j21x15 : (List UInt8)) => (lt (fun (j24x20_0 : (List UInt8)) (j24i20_1 : Int) => (req (((j21x15.length + j24x20_0.length) * 1 : Nat) ≤ 140737488355328 ∧ j21x15.length + j24x20_0.length ≤ 9223372036854775807) (bif (decide (((j21x15 ++ j24x20_0).length : Int) < (IntKind.i64.wrap ((1 : Int) + (s.length : Int))))) then (some ((j21x15 ++ j24x20_0), (0 : Int))) else (req (0 ≤ (0 : Int) ∧ (0 : Int) ≤ 255) (req (([(UInt8.ofNat ((0 : Int)).toNat)]).length + s.length ≤ 9223372036854775807) (some ((([(UInt8.ofNat ((0 : Int)).toNat)]) ++ s), (0 : Int)))))))) fun (kk25 : (List UInt8) → Int → Option ((List UInt8) × Int)) => (f_press_Press_L34 (t, 0) r12 r15 kk25 fu fu ([] : List UInt8) (0 : Int) (0 : Int)))) fun (kk22 : (List UInt8) → Option ((List UInt8) × Int)) => (f_press_Press_L51 r12 kk22 fu j19x15 (0 : Int)))) fun (kk20 : (List UInt8) → Option ((List UInt8) × Int)) => (f_press_Press_L68 s (t, 0) j9i9 kk20 fu fu ([(UInt8.ofNat ((1 : Int)).toNat)]) (0 : Int))))))) t.length fu 0 rfl (by omega) (Nat.zero_le _)
    rw [List.take_zero, show cn Z ([] : List UInt8) = Z from rfl, nzc_Z] at hcg
    refine Eq.trans hcg ?_
    rw [w1, opt_of, codes_any w fu (by omega), k1, opt_of, req_pos (by omega), lt_of, nums_go s t hn ht _ hm 0 _ fu (by omega), lt_of]
    refine Eq.trans (head_go hCw 0 _ 256 fu 0 _ rfl (by omega) (by omega) (by simp only [List.length_append, List.length_singleton]; omega)) ?_
    rw [lt_of]
    refine Eq.trans b1 ?_
    rw [req_pos (by simp only [List.length_append, List.length_singleton]; omega), w64 (x := (1 : Int) + (s.length : Int)) (by omega) (by omega)]
    by_cases hle : ([1] ++ PPut.putV s.length ++ PPut.putV t.length ++ PPut.putV (nzc (cn Z t)) ++ hdr (mAt (nat w)) 256 0 ++ body).length ≤ s.length
    · rw [cond_tt (decide_eq_true (by omega)), if_pos hle]
    · rw [cond_ff (decide_eq_false (by omega)), if_neg hle, req_pos (by omega), req_pos (by rw [List.length_singleton]; omega)]
      rfl
  have ref : f_lumref_Coded fu s = some ([1] ++ PPut.putV s.length ++ PPut.putV t.length ++ PPut.putV (nzc (cn Z t)) ++ hdr (mAt (nat w)) 256 0 ++ body) := by
    unfold f_lumref_Coded
    rw [g2, opt_of, t2, opt_of, req_pos (by omega), lt_of, req_pos (by omega)]
    have hcg := rcount_go t (by omega) (fun (j8x4 : (List Int)) => (opt (f_lumref_Lengths fu j8x4) fun (r11 : ((List Int) × Int)) => (opt (f_lumref_Codes fu r11.1) fun (r14 : ((List Int) × Int)) => (req (0 ≤ (256 : Int) ∧ 16 * (256 : Int) ≤ 281474976710656 ∧ (256 : Int) ≤ 9223372036854775807) (lt (fun (j18x11 : (List (List UInt8))) (j18s12 : (List UInt8)) (j18i13 : Int) => (lt (fun (j21x16_0 : (List UInt8)) => (opt (f_strings_Repeat fu ([48] : List UInt8) (((IntKind.i64.wrap ((8 : Int) - (((j21x16_0.length : Int)).tmod (8 : Int))))).tmod (8 : Int))) fun (r24 : (List UInt8)) => (req (j21x16_0.length + r24.length ≤ 9223372036854775807) (lt (fun (j26x20 : (List UInt8)) => (opt (f_lumref_Put fu (IntKind.u64.wrap (s.length : Int))) fun (r29 : (List UInt8)) => (req (([1] : List UInt8).length + r29.length ≤ 9223372036854775807) (opt (f_lumref_Put fu (IntKind.u64.wrap (t.length : Int))) fun (r32 : (List UInt8)) => (req ((([1] : List UInt8) ++ r29).length + r32.length ≤ 9223372036854775807) (opt (f_lumref_Put fu (IntKind.u64.wrap j18i13)) fun (r35 : (List UInt8)) => (req (((([1] : List UInt8) ++ r29) ++ r32).length + r35.length ≤ 9223372036854775807) (req ((((([1] : List UInt8) ++ r29) ++ r32) ++ r35).length + j18s12.length ≤ 9223372036854775807) (req (((((([1] : List UInt8) ++ r29) ++ r32) ++ r35) ++ j18s12).length + j26x20.length ≤ 9223372036854775807) (some (((((([1] : List UInt8) ++ r29) ++ r32) ++ r35) ++ j18s12) ++ j26x20))))))))))) fun (kk27 : (List UInt8) → Option (List UInt8)) => (f_lumref_Coded_L41 kk27 fu fu (j21x16_0 ++ r24) ([] : List UInt8)))))) fun (kk22 : (List UInt8) → Option (List UInt8)) => (req (t.length ≤ 9223372036854775807) (f_lumref_Coded_L67 t j18x11 kk22 fu fu ([] : List UInt8) (0 : Int))))) fun (kk19 : (List (List UInt8)) → (List UInt8) → Int → Option (List UInt8)) => (f_lumref_Coded_L81 r11 r14 kk19 fu fu (List.replicate ((256 : Int)).toNat ([] : (List UInt8))) ([] : List UInt8) (0 : Int) (0 : Int))))))) t.length fu 0 rfl (by omega) (Nat.zero_le _)
    rw [List.take_zero, show cn Z ([] : List UInt8) = Z from rfl] at hcg
    refine Eq.trans hcg ?_
    rw [w2, opt_of, rcodes_any w fu (by omega), k1, opt_of, req_pos (by omega), lt_of, wds_zero (mAt (nat w)) q]
    refine Eq.trans (rhead_go hCw 0 0 _ fu (by omega) 256 fu 0 0 [] rfl (by omega) (by omega) (by simp) (Nat.le_refl _)) ?_
    rw [Nat.zero_add, hmny, List.nil_append, lt_of, req_pos (by omega)]
    refine Eq.trans (rwrite_go hCw t ht _ fu t.length fu 0 [] rfl (by omega) (Nat.zero_le _) (Nat.le_refl _)) ?_
    rw [List.drop_zero, List.nil_append]
    have hpad : ((IntKind.i64.wrap ((8 : Int) - ((((wt (mAt (nat w)) q t).length : Int)).tmod (8 : Int))))).tmod (8 : Int) = (((8 - (wt (mAt (nat w)) q t).length % 8) % 8 : Nat) : Int) := by
      rw [tmodn (a := ((wt (mAt (nat w)) q t).length : Int)) (by omega), w64 (by omega) (by omega), tmodn (by omega)]
      omega
    unfold f_strings_Repeat
    rw [hpad, req_pos (by refine ⟨by omega, by omega, ?_⟩; rw [List.length_singleton, Int.toNat_natCast]; omega), opt_of, Int.toNat_natCast]
    have hrep : Lib.repeatL [48] ((8 - (wt (mAt (nat w)) q t).length % 8) % 8) = List.replicate ((8 - (wt (mAt (nat w)) q t).length % 8) % 8) 48 := by
      have := Lib.repeatL_replicate 48 1 ((8 - (wt (mAt (nat w)) q t).length % 8) % 8)
      rw [Nat.mul_one] at this
      exact this
    rw [hrep, req_pos (by rw [List.length_replicate]; omega), b2.pad, lt_of]
    refine Eq.trans (pack_go fu (by omega) _ body fu [] (by omega) (by simp; omega)) ?_
    rw [List.nil_append, PPut.uw (n := s.length) (by omega), PPut.uw (n := t.length) (by omega), PPut.uw (n := nzc (cn Z t)) (by omega), PPut.rput_ok _ (by omega) fu (by omega), opt_of, PPut.rput_ok _ (by omega) fu (by omega), PPut.rput_ok _ (by omega) fu (by omega)]
    rw [req_pos (by simp only [List.length_append, List.length_singleton]; omega), opt_of, req_pos (by simp only [List.length_append, List.length_singleton]; omega), opt_of, req_pos (by simp only [List.length_append, List.length_singleton]; omega), req_pos (by simp only [List.length_append, List.length_singleton]; omega), req_pos (by simp only [List.length_append, List.length_singleton]; omega)]
  have refp : f_lumref_Press fu s = if ([1] ++ PPut.putV s.length ++ PPut.putV t.length ++ PPut.putV (nzc (cn Z t)) ++ hdr (mAt (nat w)) 256 0 ++ body).length ≤ s.length then some ([1] ++ PPut.putV s.length ++ PPut.putV t.length ++ PPut.putV (nzc (cn Z t)) ++ hdr (mAt (nat w)) 256 0 ++ body, 0) else some ([0] ++ s, 0) := by
    unfold f_lumref_Press
    rw [cond_ff (decide_eq_false (by omega)), ref, opt_of]
    by_cases hle : ([1] ++ PPut.putV s.length ++ PPut.putV t.length ++ PPut.putV (nzc (cn Z t)) ++ hdr (mAt (nat w)) 256 0 ++ body).length ≤ s.length
    · rw [cond_tt (decide_eq_true (by omega)), if_pos hle]
    · rw [cond_ff (decide_eq_false (by omega)), if_neg hle, req_pos (by rw [List.length_singleton]; omega)]
  by_cases hle : ([1] ++ PPut.putV s.length ++ PPut.putV t.length ++ PPut.putV (nzc (cn Z t)) ++ hdr (mAt (nat w)) 256 0 ++ body).length ≤ s.length
  · rw [if_pos hle] at code refp
    exact ⟨_, code, refp, by dsimp only; omega⟩
  · rw [if_neg hle] at code refp
    exact ⟨_, code, refp, by simp; omega⟩
end Go.Proofs.YtfhifdmbdkkgaaaDoor.PPs
