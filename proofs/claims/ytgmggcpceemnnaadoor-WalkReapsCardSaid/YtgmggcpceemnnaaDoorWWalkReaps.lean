/- Walks by program. No condition. -/
import Derived.Test.YtgmggcpceemnnaaDoorEn21
import Derived.Test.YtgmggcpceemnnaaDoorChecked
import Derived.Test.YtgmggcpceemnnaaDoorShBEPut
import Derived.Test.YtgmggcpceemnnaaDoorEn23
import Derived.Test.YtgmggcpceemnnaaDoorEnU
import Derived.Test.YtgmggcpceemnnaaDoorEn25
import Derived.Test.YtgmggcpceemnnaaDoorShRepeat
import Derived.Test.YtgmggcpceemnnaaDoorEnJ
import Derived.Test.YtgmggcpceemnnaaDoorWWalkReaps_c
namespace Go.Proofs.YtgmggcpceemnnaaDoor
open Go.RowKit YtgmggcpceemnnaaDoor.En
set_option linter.unusedVariables false
set_option linter.unusedSimpArgs false
open Go.Value (int bool)
set_option maxRecDepth 100000 in
set_option maxHeartbeats 2000000 in
theorem f_lumref_Reap_ok (fu : Nat) (v0_0 : Value) (a0 : (List S_api_Blob)) (a1 : A8u8) {r : ((List S_api_Item) × Int)} (h : f_lumref_Reap fu a0 a1 = some r) : FnOk Tryd.prog 21 [v0_0, (ag (cA8u8 a1))] [(fDat (tyList tyS_api_Blob) [v0_0] a0)] [] (fun (i : Value) => { val := (Value.tuple #[i, (int .i64 r.2)]), own := [(oRow i 42 tyS_api_Item r.1)] }) := by
 unfold f_lumref_Reap at h
 refine fn_enter Tryd.func21 rfl Tryd.ntmps21 rfl (fun w0 Z0 => ?_)
 refine aw_sr ?_
 refine al_box (vs := (cA8u8 a1)) rfl (cv_rfl rfl) rfl (fun g1 => ?_)
 refine al_as rfl rfl ?_
 refine al_as rfl rfl ?_
 refine al_nt ?_
 refine aw_seq ?_
 refine aw_sr ?_
 refine al_mv rfl rfl ?_
 refine al_val (ov_lenD 0 rfl rfl Tryd.underlying28 rfl) ?_
 refine al_in rfl rfl rfl rfl ?_
 refine al_nt ?_
 refine aw_cond rfl (fun hb2 => ?_) (fun hb2 => ?_)
 ·replace h := bif_t hb2 h
  refine aw_sr ?_
  refine al_as rfl rfl ?_
  refine al_as rfl rfl ?_
  refine al_nt ?_
  refine aw_ret ?_
  refine aq_then_ret ?_
  refine aq_nilR 42 tyS_api_Item ?_
  obtain rfl := Option.some.inj h
  exact fn_ret (Value.slice none 0 0) [0] [] rfl rfl rfl rfl (res2 rfl rfl rfl) rfl rfl rfl (by decide)
 ·replace h := bif_f hb2 h
  refine aw_skip ?_
  refine aq_tr ?_
  refine al_as rfl rfl ?_
  refine al_nt ?_
  obtain ⟨kk4, hkk4, h⟩ := lt_some h
  refine aw_seq_join (ι := Value × (List A8u8)) (fun i => (memOf w0 Z0 [] [(oBox g1 47 (cA8u8 a1)), (oRow i.1 47 tyA8u8 i.2)] [(fDat (tyList tyS_api_Blob) [v0_0] a0)])) (fun i => (tab [(0, v0_0), (3, (ptr g1 0)), (6, i.1)])) (fun i => kk4 i.2 = some r) ?_ ?_
  ·rintro ⟨j3v6, j3x6⟩ h
   have h : kk4 j3x6 = some r := h
   rw [hkk4] at h
   dsimp only at h
   clear hkk4
   refine aw_show (m := (memOf w0 Z0 [] [(oBox g1 47 (cA8u8 a1)), (oRow j3v6 47 tyA8u8 j3x6)] [(fDat (tyList tyS_api_Blob) [v0_0] a0)])) (S := (tab [(0, v0_0), (3, (ptr g1 0)), (6, j3v6)])) ?_
   refine aw_sr ?_
   refine al_mv rfl rfl ?_
   refine al_mv rfl rfl ?_
   refine al_val (ov_load (i := 0) (v := (ag (cA8u8 a1))) rfl rfl Tryd.underlying47 sz47 rfl rfl rfl rfl) ?_
   refine al_nilR 42 tyS_api_Item ?_
   obtain ⟨r6, hc5, h⟩ := opt_some h
   refine al_call (vs := [v0_0, j3v6, (ag (cA8u8 a1)), (Value.slice none 0 0), (Value.slice none 0 0)]) (f_lumref_reapDir_own_ok fu v0_0 a0 j3v6 j3x6 a1 (Value.slice none 0 0) ([] : (List (List UInt8))) (Value.slice none 0 0) ([] : List S_api_Item) hc5) [2] [0] [1, 2] (pre_fz 0 rfl (pre_own 2 rfl rfl (pre_nilD pre_nil))) rfl (by simp) (by decide) (.inr (flat_res1 (fun _ => flat_row flatS_api_Item))) rfl Tryd.func59 rfl rfl rfl (fun v7 => ?_)
   refine al_ex rfl rfl rfl ?_
   refine al_ex rfl rfl rfl ?_
   refine al_as rfl rfl ?_
   refine al_as rfl rfl ?_
   refine al_nt ?_
   refine aw_ret ?_
   obtain rfl := Option.some.inj h
   exact fn_ret v7 [0] [] rfl rfl rfl rfl (res2 rfl rfl rfl) rfl rfl rfl (by decide)
  ·clear hkk4
   refine aw_sr ?_
   refine al_mv rfl rfl ?_
   refine al_val (ov_lenD 0 rfl rfl Tryd.underlying28 rfl) ?_
   refine al_mv rfl rfl ?_
   refine al_nt ?_
   refine aw_block ?_
   refine aw_nilR 47 tyA8u8 ?_
   refine aw_state (aw_loop (ι := Value × (List A8u8) × Int) (fun i => (memOf w0 Z0 [] [(oBox g1 47 (cA8u8 a1)), (oRow i.1 47 tyA8u8 i.2.1)] [(fDat (tyList tyS_api_Blob) [v0_0] a0)])) (fun i => (tab [(0, v0_0), (3, (ptr g1 0)), (6, i.1), (15, v0_0), (16, (int .i64 (a0.length : Int))), (17, (int .i64 i.2.2))])) (fun q i => f_lumref_Reap_L10 a0 kk4 fu q i.2.1 i.2.2 = some r) ?_ fu ((Value.slice none 0 0), ([] : List A8u8), (0 : Int)) h) (fun w a hm hs => norm hm hs [1, 0] [0] [(0, v0_0), (3, (ptr g1 0)), (6, (Value.slice none 0 0)), (15, v0_0), (16, (int .i64 (a0.length : Int))), (17, (int .i64 (0 : Int)))] (by decide) ⟨rfl, rfl, rfl, rfl, rfl, rfl, trivial⟩)
   clear h
   rintro k9 ⟨l8v6, l8x6, l8i17⟩ h
   have h : f_lumref_Reap_L10 a0 kk4 fu k9 l8x6 l8i17 = some r := h
   obtain _ | k9 := k9
   · rw [f_lumref_Reap_L10] at h; cases h
   rw [f_lumref_Reap_L10] at h
   refine aw_show (m := (memOf w0 Z0 [] [(oBox g1 47 (cA8u8 a1)), (oRow l8v6 47 tyA8u8 l8x6)] [(fDat (tyList tyS_api_Blob) [v0_0] a0)])) (S := (tab [(0, v0_0), (3, (ptr g1 0)), (6, l8v6), (15, v0_0), (16, (int .i64 (a0.length : Int))), (17, (int .i64 l8i17))])) ?_
   obtain ⟨kk11, hkk11, h⟩ := lt_some h
   refine aw_body_join (ι := Value × (List A8u8) × Int) (fun i => (memOf w0 Z0 [] [(oBox g1 47 (cA8u8 a1)), (oRow i.1 47 tyA8u8 i.2.1)] [(fDat (tyList tyS_api_Blob) [v0_0] a0)])) (fun i => (tab [(0, v0_0), (3, (ptr g1 0)), (6, i.1), (15, v0_0), (16, (int .i64 (a0.length : Int))), (17, (int .i64 i.2.2))])) (fun i => kk11 i.2.1 i.2.2 = some r) (fun i h => aq_again k9 i (Nat.lt_succ_self _) (by rw [hkk11] at h; exact h) (fun w a hm hs => ⟨hm, hs⟩)) ?_
   clear hkk11
   refine aw_sr ?_
   refine al_in rfl rfl rfl rfl ?_
   refine al_nt ?_
   refine aw_seq ?_
   refine aw_cond rfl (fun hb12 => ?_) (fun hb12 => ?_)
   ·replace h := bif_t hb12 h
    refine aw_skip ?_
    refine aq_then ?_
    obtain ⟨kk14, hkk14, h⟩ := lt_some h
    refine aw_seq_join (ι := Value × (List A8u8)) (fun i => (memOf w0 Z0 [] [(oBox g1 47 (cA8u8 a1)), (oRow i.1 47 tyA8u8 i.2)] [(fDat (tyList tyS_api_Blob) [v0_0] a0)])) (fun i => (tab [(0, v0_0), (3, (ptr g1 0)), (6, i.1), (15, v0_0), (16, (int .i64 (a0.length : Int))), (17, (int .i64 l8i17))])) (fun i => kk14 i.2 = some r) ?_ ?_
    ·rintro ⟨j13v6, j13x6⟩ h
     have h : kk14 j13x6 = some r := h
     rw [hkk14] at h
     dsimp only at h
     clear hkk14
     refine aw_show (m := (memOf w0 Z0 [] [(oBox g1 47 (cA8u8 a1)), (oRow j13v6 47 tyA8u8 j13x6)] [(fDat (tyList tyS_api_Blob) [v0_0] a0)])) (S := (tab [(0, v0_0), (3, (ptr g1 0)), (6, j13v6), (15, v0_0), (16, (int .i64 (a0.length : Int))), (17, (int .i64 l8i17))])) ?_
     refine aw_region ?_
     refine al_in rfl rfl rfl rfl ?_
     refine al_mv rfl rfl ?_
     refine al_nil ?_
     exact aq_join (j13v6, j13x6, (IntKind.i64.wrap (l8i17 + (1 : Int)))) h (fun w a hm hs => norm hm hs [0, 1] [0] [(0, v0_0), (3, (ptr g1 0)), (6, j13v6), (15, v0_0), (16, (int .i64 (a0.length : Int))), (17, (int .i64 (IntKind.i64.wrap (l8i17 + (1 : Int)))))] (by decide) ⟨rfl, rfl, rfl, rfl, rfl, rfl, trivial⟩)
    ·clear hkk14
     refine aw_block ?_
     refine aw_sr ?_
     refine al_mv rfl rfl ?_
     obtain ⟨u15, hu16, h⟩ := opt_some h
     refine al_idxD 0 hu16 rfl rfl rfl Tryd.underlying28 sz34 rfl (fun p17 => ?_)
     refine al_val (ov_loadP (ds := [(int .i64 u15.Kind), (str u15.Bytes)]) 0 rfl encS_api_Blob rfl Tryd.underlying34 sz34 rfl rfl rfl) ?_
     refine al_alloc (zs := [(int .i64 (0 : Int)), (str ([] : List UInt8))]) (zeroOf_to to34) rfl rfl (fun g18 => ?_)
     refine al_as rfl rfl ?_
     refine al_store (i := 0) (vs := [(int .i64 u15.Kind), (str u15.Bytes)]) (cs' := [(int .i64 u15.Kind), (str u15.Bytes)]) rfl rfl rfl sz34 (cv_rfl rfl) rfl (co_val rfl (co_val rfl co_nil)) (Nat.le_of_ble_eq_true rfl) rfl rfl ?_
     refine al_nt ?_
     refine aw_sr ?_
     refine al_val (ov_load (i := 0) (v := (ag [(int .i64 u15.Kind), (str u15.Bytes)])) rfl rfl Tryd.underlying34 sz34 rfl rfl rfl rfl) ?_
     obtain ⟨r20, hc19, h⟩ := opt_some h
     refine al_call (vs := [(ag [(int .i64 u15.Kind), (str u15.Bytes)])]) (f_lumref_BlobID_ok fu u15 hc19) [] [] [0, 1, 2] pre_nil rfl (by simp) (by decide) (.inl rfl) rfl Tryd.func32 rfl rfl rfl (fun _ => ?_)
     refine al_mv rfl rfl ?_
     refine al_ex rfl rfl rfl ?_
     refine al_ex rfl rfl rfl ?_
     refine al_alloc (zs := (cA8u8 (A8u8.mk (0 : UInt8) (0 : UInt8) (0 : UInt8) (0 : UInt8) (0 : UInt8) (0 : UInt8) (0 : UInt8) (0 : UInt8)))) (zeroOf_to to47) rfl rfl (fun g21 => ?_)
     refine al_store (i := 0) (vs := (cA8u8 r20.1)) (cs' := (cA8u8 r20.1)) rfl rfl rfl sz47 (cv_rfl rfl) rfl (co_all (oneA8u8 r20.1)) (Nat.le_of_ble_eq_true rfl) rfl rfl ?_
     refine al_as rfl rfl ?_
     refine al_nt ?_
     refine aw_seq ?_
     refine aw_sr ?_
     refine al_mv rfl rfl ?_
     refine al_in rfl rfl rfl rfl ?_
     refine al_nt ?_
     refine aw_cond rfl (fun hb22 => ?_) (fun hb22 => ?_)
     ·replace h := bif_t hb22 h
      refine aw_sr ?_
      refine al_mv rfl rfl ?_
      refine al_as rfl rfl ?_
      refine al_as rfl rfl ?_
      refine al_nt ?_
      refine aw_ret ?_
      refine aq_then_ret ?_
      refine aq_block_ret ?_
      refine aq_then_ret ?_
      refine aq_then_ret ?_
      refine aq_block_ret ?_
      refine aq_then_ret ?_
      refine aq_nilR 42 tyS_api_Item ?_
      obtain rfl := Option.some.inj h
      exact fn_ret (Value.slice none 0 0) [0] [] rfl rfl rfl rfl (res2 rfl rfl rfl) rfl rfl rfl (by decide)
     ·replace h := bif_f hb22 h
      refine aw_skip ?_
      refine aq_then ?_
      obtain ⟨kk24, hkk24, h⟩ := lt_some h
      refine aw_seq_join (ι := Unit) (fun i => (memOf w0 Z0 [] [(oBox g1 47 (cA8u8 a1)), (oRow l8v6 47 tyA8u8 l8x6), (oBox g21 47 (cA8u8 r20.1))] [(fDat (tyList tyS_api_Blob) [v0_0] a0), (fPtr tyS_api_Blob p17 u15)])) (fun i => (tab [(0, v0_0), (3, (ptr g1 0)), (6, l8v6), (9, (ptr g21 0)), (15, v0_0), (16, (int .i64 (a0.length : Int))), (17, (int .i64 l8i17))])) (fun i => kk24 () = some r) ?_ ?_
      ·rintro _ h
       have h : kk24 () = some r := h
       rw [hkk24] at h
       dsimp only at h
       clear hkk24
       refine aw_show (m := (memOf w0 Z0 [] [(oBox g1 47 (cA8u8 a1)), (oRow l8v6 47 tyA8u8 l8x6), (oBox g21 47 (cA8u8 r20.1))] [(fDat (tyList tyS_api_Blob) [v0_0] a0), (fPtr tyS_api_Blob p17 u15)])) (S := (tab [(0, v0_0), (3, (ptr g1 0)), (6, l8v6), (9, (ptr g21 0)), (15, v0_0), (16, (int .i64 (a0.length : Int))), (17, (int .i64 l8i17))])) ?_
       refine aw_region ?_
       refine al_mv rfl rfl ?_
       refine al_val (ov_load (i := 2) (v := (ag (cA8u8 r20.1))) rfl rfl Tryd.underlying47 sz47 rfl rfl rfl rfl) ?_
       refine al_buildSlice (τ := tyA8u8) (e := 47) (k := 1) (sz := 0) (by_ := 0) (z := undef) (cs := (cA8u8 r20.1)) (xs := [r20.1]) rfl (by decide) (fun w a hm hs => ⟨((cA8u8 r20.1)).toArray, rfl, by simp only [List.map_toArray, List.map_cons, List.map_nil, hs.ev (x := .tmp 50) rfl]; exact run_bs [(ag (cA8u8 r20.1))] (cA8u8 r20.1) Tryd.underlying27 to47 rfl rfl (bs_cons (l := (cA8u8 r20.1)) (cs := []) (cv_rfl rfl) rfl bs_nil) hm⟩) (fun hm => ⟨(cA8u8 r20.1), [], rfl, mkA8u8 rfl, rfl⟩) rfl (fun v25 => ?_)
       obtain ⟨hc26, h⟩ := req_some h
       refine al_append 2 hc26.1 hc26.2 rfl (src_own (i := 2) 0 rfl) rfl rfl Tryd.underlying27 to47 rfl rfl rfl (fun v27 => ?_)
       refine al_as rfl rfl ?_
       refine al_nil ?_
       refine aq_block ?_
       exact aq_join (v27, (l8x6 ++ ([r20.1]))) h (fun w a hm hs => norm hm hs [1, 2] [0] [(0, v0_0), (3, (ptr g1 0)), (6, v27), (15, v0_0), (16, (int .i64 (a0.length : Int))), (17, (int .i64 l8i17))] (by decide) ⟨rfl, rfl, rfl, rfl, rfl, rfl, trivial⟩)
      ·clear hkk24
       refine aw_sr ?_
       refine al_mv rfl rfl ?_
       refine al_mv rfl rfl ?_
       refine al_nt ?_
       refine aw_block ?_
       refine aw_state (aw_loop (ι := Int) (fun i => (memOf w0 Z0 [] [(oBox g1 47 (cA8u8 a1)), (oRow l8v6 47 tyA8u8 l8x6), (oBox g18 34 [(int .i64 u15.Kind), (str u15.Bytes)]), (oBox g21 47 (cA8u8 r20.1))] [(fDat (tyList tyS_api_Blob) [v0_0] a0), (fPtr tyS_api_Blob p17 u15)])) (fun i => (tab [(0, v0_0), (3, (ptr g1 0)), (6, l8v6), (8, (ptr g18 0)), (9, (ptr g21 0)), (15, v0_0), (16, (int .i64 (a0.length : Int))), (17, (int .i64 l8i17)), (30, (int .i64 l8i17)), (31, (int .i64 i))])) (fun q i => f_lumref_Reap_L30 a0 l8x6 l8i17 u15 r20 kk24 q i = some r) ?_ fu (0 : Int) h) (fun w a hm hs => norm hm hs [2, 3, 1, 0] [1, 0] [(0, v0_0), (3, (ptr g1 0)), (6, l8v6), (8, (ptr g18 0)), (9, (ptr g21 0)), (15, v0_0), (16, (int .i64 (a0.length : Int))), (17, (int .i64 l8i17)), (30, (int .i64 l8i17)), (31, (int .i64 (0 : Int)))] (by decide) ⟨rfl, rfl, rfl, rfl, rfl, rfl, rfl, rfl, rfl, rfl, trivial⟩)
       clear h
       rintro k29 l28i31 h
       have h : f_lumref_Reap_L30 a0 l8x6 l8i17 u15 r20 kk24 k29 l28i31 = some r := h
       obtain _ | k29 := k29
       · rw [f_lumref_Reap_L30] at h; cases h
       rw [f_lumref_Reap_L30] at h
       refine aw_show (m := (memOf w0 Z0 [] [(oBox g1 47 (cA8u8 a1)), (oRow l8v6 47 tyA8u8 l8x6), (oBox g18 34 [(int .i64 u15.Kind), (str u15.Bytes)]), (oBox g21 47 (cA8u8 r20.1))] [(fDat (tyList tyS_api_Blob) [v0_0] a0), (fPtr tyS_api_Blob p17 u15)])) (S := (tab [(0, v0_0), (3, (ptr g1 0)), (6, l8v6), (8, (ptr g18 0)), (9, (ptr g21 0)), (15, v0_0), (16, (int .i64 (a0.length : Int))), (17, (int .i64 l8i17)), (30, (int .i64 l8i17)), (31, (int .i64 l28i31))])) ?_
       refine aw_sr ?_
       refine al_in rfl rfl rfl rfl ?_
       refine al_nt ?_
       refine aw_seq ?_
       refine aw_cond rfl (fun hb31 => ?_) (fun hb31 => ?_)
       ·replace h := bif_t hb31 h
        refine aw_skip ?_
        refine aq_then ?_
        refine aw_seq ?_
        refine aw_block ?_
        refine aw_sr ?_
        refine al_mv rfl rfl ?_
        refine al_as rfl rfl ?_
        refine al_nt ?_
        obtain ⟨kk33, hkk33, h⟩ := lt_some h
        refine aw_seq_join (ι := Bool) (fun i => (memOf w0 Z0 [] [(oBox g1 47 (cA8u8 a1)), (oRow l8v6 47 tyA8u8 l8x6), (oBox g18 34 [(int .i64 u15.Kind), (str u15.Bytes)]), (oBox g21 47 (cA8u8 r20.1))] [(fDat (tyList tyS_api_Blob) [v0_0] a0), (fPtr tyS_api_Blob p17 u15)])) (fun i => (tab [(0, v0_0), (3, (ptr g1 0)), (6, l8v6), (8, (ptr g18 0)), (9, (ptr g21 0)), (15, v0_0), (16, (int .i64 (a0.length : Int))), (17, (int .i64 l8i17)), (30, (int .i64 l8i17)), (31, (int .i64 l28i31)), (47, (bool i))])) (fun i => kk33 i = some r) ?_ ?_
        ·rintro j32b47 h
         have h : kk33 j32b47 = some r := h
         rw [hkk33] at h
         dsimp only at h
         clear hkk33
         refine aw_show (m := (memOf w0 Z0 [] [(oBox g1 47 (cA8u8 a1)), (oRow l8v6 47 tyA8u8 l8x6), (oBox g18 34 [(int .i64 u15.Kind), (str u15.Bytes)]), (oBox g21 47 (cA8u8 r20.1))] [(fDat (tyList tyS_api_Blob) [v0_0] a0), (fPtr tyS_api_Blob p17 u15)])) (S := (tab [(0, v0_0), (3, (ptr g1 0)), (6, l8v6), (8, (ptr g18 0)), (9, (ptr g21 0)), (15, v0_0), (16, (int .i64 (a0.length : Int))), (17, (int .i64 l8i17)), (30, (int .i64 l8i17)), (31, (int .i64 l28i31)), (47, (bool j32b47))])) ?_
         refine aw_cond rfl (fun hb34 => ?_) (fun hb34 => ?_)
         ·replace h := bif_t hb34 h
          refine aw_sr ?_
          refine al_as rfl rfl ?_
          refine al_as rfl rfl ?_
          refine al_nt ?_
          refine aw_ret ?_
          refine aq_block_ret ?_
          refine aq_then_ret ?_
          refine aq_then_ret ?_
          refine aq_block_ret ?_
          refine aq_then_ret ?_
          refine aq_block_ret ?_
          refine aq_then_ret ?_
          refine aq_then_ret ?_
          refine aq_block_ret ?_
          refine aq_then_ret ?_
          refine aq_nilR 42 tyS_api_Item ?_
          obtain rfl := Option.some.inj h
          exact fn_ret (Value.slice none 0 0) [0] [] rfl rfl rfl rfl (res2 rfl rfl rfl) rfl rfl rfl (by decide)
         ·replace h := bif_f hb34 h
          refine aw_skip ?_
          refine aq_block ?_
          refine aq_then ?_
          refine aw_region ?_
          refine al_in rfl rfl rfl rfl ?_
          refine al_mv rfl rfl ?_
          refine al_nil ?_
          exact aq_again k29 (IntKind.i64.wrap (l28i31 + (1 : Int))) (Nat.lt_succ_self _) h (fun w a hm hs => norm hm hs [0, 1, 2, 3] [0, 1] [(0, v0_0), (3, (ptr g1 0)), (6, l8v6), (8, (ptr g18 0)), (9, (ptr g21 0)), (15, v0_0), (16, (int .i64 (a0.length : Int))), (17, (int .i64 l8i17)), (30, (int .i64 l8i17)), (31, (int .i64 (IntKind.i64.wrap (l28i31 + (1 : Int)))))] (by decide) ⟨rfl, rfl, rfl, rfl, rfl, rfl, rfl, rfl, rfl, rfl, trivial⟩)
        ·clear hkk33
         obtain ⟨u35, hu36, h⟩ := opt_some h
         rcases Bool.eq_false_or_eq_true (u35 == r20.1) with hb39 | hb39
         ·replace h := bif_t hb39 h
          obtain ⟨u40, hu41, h⟩ := opt_some h
          obtain ⟨hc43, h⟩ := req_some h
          obtain ⟨hc44, h⟩ := req_some h
          obtain ⟨hc45, h⟩ := req_some h
          obtain ⟨hc46, h⟩ := req_some h
          refine aw_region_draw 13 [(34, (fun u => fEq u l8v6)), (35, (fun u => fEq u (int .i64 l28i31))), (36, (fun p => fElt l8v6 p ((l28i31).toNat * Ty.size tyA8u8))), (37, (fun u => fEq u (ag (cA8u8 u35)))), (38, (fun u => fEq u (ag (cA8u8 r20.1)))), (39, (fun u => fEq u (bool true))), (40, (fun u => fEq u (bool true))), (41, (fun u => fEq u v0_0)), (42, (fun u => fEq u (int .i64 l28i31))), (43, (fun p42 => (fPtr tyS_api_Blob p42 u40))), (44, (fun u => fEq u (ag [(int .i64 u40.Kind), (str u40.Bytes)]))), (45, (fun u => fEq u (ag [(int .i64 u15.Kind), (str u15.Bytes)]))), (46, (fun u => fEq u (bool (!(u40 == u15)))))] (tab [(0, v0_0), (3, (ptr g1 0)), (6, l8v6), (8, (ptr g18 0)), (9, (ptr g21 0)), (11, (int .i64 l28i31)), (15, v0_0), (16, (int .i64 (a0.length : Int))), (17, (int .i64 l8i17)), (30, (int .i64 l8i17)), (31, (int .i64 l28i31))]) mixed (by kernel_rfl) rfl rfl rfl (fun a hs => hs.tab _ (allT_mem ⟨rfl, rfl, rfl, rfl, rfl, rfl, rfl, rfl, rfl, rfl, rfl, trivial⟩)) ⟨⟨rfl, ld_val (ov_move rfl rfl)⟩, ⟨rfl, ld_val (ov_move rfl rfl)⟩, ⟨rfl, ld_eq (j := 0) rfl rfl (ld_eq (j := 1) rfl rfl (ld_of (of_idxR 1 (at_some hu36).1 (at_some hu36).2.1 rfl rfl rfl Tryd.underlying27 sz47 rfl)))⟩, ⟨rfl, ld_elt (j := 2) rfl rfl (fun p37 hp38 => ld_val (ov_loadR (ds := (cA8u8 u35)) 1 rfl hp38 (at_some hu36).2.2 encA8u8 rfl Tryd.underlying47 sz47 rfl rfl rfl))⟩, ⟨rfl, ld_val (ov_load (i := 3) (v := (ag (cA8u8 r20.1))) rfl rfl Tryd.underlying47 sz47 rfl rfl rfl rfl)⟩, ⟨rfl, ld_eq (j := 3) rfl rfl (ld_eq (j := 4) rfl rfl (ld_val (ov_cast (by first | rw [hb39] | rfl) (ov_eqlA (cs := (cA8u8 u35)) (ds := (cA8u8 r20.1)) (ls := [5, 5, 5, 5, 5, 5, 5, 5]) (p := (u35 == r20.1)) eg47 kt47 lv47 rfl rfl (by kernel_rfl) (by kernel_rfl) (fit_cons (fit_u8 Tryd.underlying5) (fit_cons (fit_u8 Tryd.underlying5) (fit_cons (fit_u8 Tryd.underlying5) (fit_cons (fit_u8 Tryd.underlying5) (fit_cons (fit_u8 Tryd.underlying5) (fit_cons (fit_u8 Tryd.underlying5) (fit_cons (fit_u8 Tryd.underlying5) (fit_cons (fit_u8 Tryd.underlying5) fit_nil)))))))) (fit_cons (fit_u8 Tryd.underlying5) (fit_cons (fit_u8 Tryd.underlying5) (fit_cons (fit_u8 Tryd.underlying5) (fit_cons (fit_u8 Tryd.underlying5) (fit_cons (fit_u8 Tryd.underlying5) (fit_cons (fit_u8 Tryd.underlying5) (fit_cons (fit_u8 Tryd.underlying5) (fit_cons (fit_u8 Tryd.underlying5) fit_nil)))))))) (injA8u8 (x := u35) (y := r20.1)) rfl))))⟩, ⟨rfl, ld_eq (j := 5) rfl rfl (ld_val (ov_cast (by first | rw [hb39] | rfl) (ov_move rfl rfl)))⟩, ⟨rfl, ld_eq (j := 6) rfl rfl (ld_val (ov_move rfl rfl))⟩, ⟨rfl, ld_eq (j := 6) rfl rfl (ld_val (ov_move rfl rfl))⟩, ⟨rfl, ld_eq (j := 6) rfl rfl (ld_eq (j := 7) rfl rfl (ld_eq (j := 8) rfl rfl (ld_of (of_idxD 0 hu41 rfl rfl rfl Tryd.underlying28 sz34 rfl))))⟩, ⟨rfl, ld_eq (j := 6) rfl rfl (ld_fact (j := 9) rfl rfl (fun p42 => ld_val (ov_loadP (ds := [(int .i64 u40.Kind), (str u40.Bytes)]) 0 rfl encS_api_Blob rfl Tryd.underlying34 sz34 rfl rfl rfl)))⟩, ⟨rfl, ld_eq (j := 6) rfl rfl (ld_val (ov_load (i := 2) (v := (ag [(int .i64 u15.Kind), (str u15.Bytes)])) rfl rfl Tryd.underlying34 sz34 rfl rfl rfl rfl))⟩, ⟨rfl, ld_eq (j := 6) rfl rfl (ld_eq (j := 10) rfl rfl (ld_eq (j := 11) rfl rfl (ld_val (ov_neqA (cs := [(int .i64 u40.Kind), (str u40.Bytes)]) (ds := [(int .i64 u15.Kind), (str u15.Bytes)]) (ls := [3, 9]) (p := (u40 == u15)) eg34 kt34 lv34 rfl rfl (by kernel_rfl) (by kernel_rfl) (fit_cons (fit_int Tryd.underlying3 hc43) (fit_cons (fit_str Tryd.underlying9 hc44) fit_nil)) (fit_cons (fit_int Tryd.underlying3 hc45) (fit_cons (fit_str Tryd.underlying9 hc46) fit_nil)) (injS_api_Blob (x := u40) (y := u15)) rfl))))⟩, trivial⟩ ?_
          refine tl_eq 6 rfl ?_
          refine tl_eq 12 rfl ?_
          refine tl_done ?_
          refine al_val (ov_pick_t rfl rfl rfl) ?_
          refine al_nil ?_
          exact aq_join (!(u40 == u15)) h (fun w a hm hs => norm hm hs [0, 1, 2, 3] [0, 1] [(0, v0_0), (3, (ptr g1 0)), (6, l8v6), (8, (ptr g18 0)), (9, (ptr g21 0)), (15, v0_0), (16, (int .i64 (a0.length : Int))), (17, (int .i64 l8i17)), (30, (int .i64 l8i17)), (31, (int .i64 l28i31)), (47, (bool (!(u40 == u15))))] (by decide) ⟨rfl, rfl, rfl, rfl, rfl, rfl, rfl, rfl, rfl, rfl, rfl, trivial⟩)
         ·replace h := bif_f hb39 h
          refine aw_region_draw 13 [(34, (fun u => fEq u l8v6)), (35, (fun u => fEq u (int .i64 l28i31))), (36, (fun p => fElt l8v6 p ((l28i31).toNat * Ty.size tyA8u8))), (37, (fun u => fEq u (ag (cA8u8 u35)))), (38, (fun u => fEq u (ag (cA8u8 r20.1)))), (39, (fun u => fEq u (bool false))), (40, (fun u => fEq u (bool false))), (41, (fun u => fEq u undef)), (42, (fun u => fEq u undef)), (43, (fun u => fEq u undef)), (44, (fun u => fEq u undef)), (45, (fun u => fEq u undef)), (46, (fun u => fEq u undef))] (tab [(0, v0_0), (3, (ptr g1 0)), (6, l8v6), (8, (ptr g18 0)), (9, (ptr g21 0)), (11, (int .i64 l28i31)), (15, v0_0), (16, (int .i64 (a0.length : Int))), (17, (int .i64 l8i17)), (30, (int .i64 l8i17)), (31, (int .i64 l28i31))]) mixed (by kernel_rfl) rfl rfl rfl (fun a hs => hs.tab _ (allT_mem ⟨rfl, rfl, rfl, rfl, rfl, rfl, rfl, rfl, rfl, rfl, rfl, trivial⟩)) ⟨⟨rfl, ld_val (ov_move rfl rfl)⟩, ⟨rfl, ld_val (ov_move rfl rfl)⟩, ⟨rfl, ld_eq (j := 0) rfl rfl (ld_eq (j := 1) rfl rfl (ld_of (of_idxR 1 (at_some hu36).1 (at_some hu36).2.1 rfl rfl rfl Tryd.underlying27 sz47 rfl)))⟩, ⟨rfl, ld_elt (j := 2) rfl rfl (fun p37 hp38 => ld_val (ov_loadR (ds := (cA8u8 u35)) 1 rfl hp38 (at_some hu36).2.2 encA8u8 rfl Tryd.underlying47 sz47 rfl rfl rfl))⟩, ⟨rfl, ld_val (ov_load (i := 3) (v := (ag (cA8u8 r20.1))) rfl rfl Tryd.underlying47 sz47 rfl rfl rfl rfl)⟩, ⟨rfl, ld_eq (j := 3) rfl rfl (ld_eq (j := 4) rfl rfl (ld_val (ov_cast (by first | rw [hb39] | rfl) (ov_eqlA (cs := (cA8u8 u35)) (ds := (cA8u8 r20.1)) (ls := [5, 5, 5, 5, 5, 5, 5, 5]) (p := (u35 == r20.1)) eg47 kt47 lv47 rfl rfl (by kernel_rfl) (by kernel_rfl) (fit_cons (fit_u8 Tryd.underlying5) (fit_cons (fit_u8 Tryd.underlying5) (fit_cons (fit_u8 Tryd.underlying5) (fit_cons (fit_u8 Tryd.underlying5) (fit_cons (fit_u8 Tryd.underlying5) (fit_cons (fit_u8 Tryd.underlying5) (fit_cons (fit_u8 Tryd.underlying5) (fit_cons (fit_u8 Tryd.underlying5) fit_nil)))))))) (fit_cons (fit_u8 Tryd.underlying5) (fit_cons (fit_u8 Tryd.underlying5) (fit_cons (fit_u8 Tryd.underlying5) (fit_cons (fit_u8 Tryd.underlying5) (fit_cons (fit_u8 Tryd.underlying5) (fit_cons (fit_u8 Tryd.underlying5) (fit_cons (fit_u8 Tryd.underlying5) (fit_cons (fit_u8 Tryd.underlying5) fit_nil)))))))) (injA8u8 (x := u35) (y := r20.1)) rfl))))⟩, ⟨rfl, ld_eq (j := 5) rfl rfl (ld_val (ov_cast (by first | rw [hb39] | rfl) (ov_move rfl rfl)))⟩, ⟨rfl, ld_eq (j := 6) rfl rfl (ld_skip)⟩, ⟨rfl, ld_eq (j := 6) rfl rfl (ld_skip)⟩, ⟨rfl, ld_eq (j := 6) rfl rfl (ld_skip)⟩, ⟨rfl, ld_eq (j := 6) rfl rfl (ld_skip)⟩, ⟨rfl, ld_eq (j := 6) rfl rfl (ld_skip)⟩, ⟨rfl, ld_eq (j := 6) rfl rfl (ld_skip)⟩, trivial⟩ ?_
          refine tl_eq 6 rfl ?_
          refine tl_eq 12 rfl ?_
          refine tl_done ?_
          refine al_val (ov_pick_f rfl rfl rfl) ?_
          refine al_nil ?_
          exact aq_join false h (fun w a hm hs => norm hm hs [0, 1, 2, 3] [0, 1] [(0, v0_0), (3, (ptr g1 0)), (6, l8v6), (8, (ptr g18 0)), (9, (ptr g21 0)), (15, v0_0), (16, (int .i64 (a0.length : Int))), (17, (int .i64 l8i17)), (30, (int .i64 l8i17)), (31, (int .i64 l28i31)), (47, (bool false))] (by decide) ⟨rfl, rfl, rfl, rfl, rfl, rfl, rfl, rfl, rfl, rfl, rfl, trivial⟩)
       ·replace h := bif_f hb31 h
        refine aw_exit ?_
        refine aq_then_exit ?_
        refine aq_then_exit ?_
        refine aq_block_exit ?_
        exact aq_join () h (fun w a hm hs => norm hm hs [0, 1, 3] [0, 1] [(0, v0_0), (3, (ptr g1 0)), (6, l8v6), (9, (ptr g21 0)), (15, v0_0), (16, (int .i64 (a0.length : Int))), (17, (int .i64 l8i17))] (by decide) ⟨rfl, rfl, rfl, rfl, rfl, rfl, rfl, trivial⟩)
   ·replace h := bif_f hb12 h
    refine aw_exit ?_
    refine aq_then_exit ?_
    refine aq_then_exit ?_
    refine aq_block_exit ?_
    exact aq_join (l8v6, l8x6) h (fun w a hm hs => norm hm hs [0, 1] [0] [(0, v0_0), (3, (ptr g1 0)), (6, l8v6)] (by decide) ⟨rfl, rfl, rfl, trivial⟩)
def f_slices_Equal___api_Item_api_Item__L6 (a0 : (List S_api_Item)) (a1 : (List S_api_Item)) (kk3 : (Unit → Option Bool)) : Nat → Int → Option Bool
  | 0, _ => none
  | k5 + 1, l4i13 => (bif (decide (l4i13 < (a0.length : Int))) then (opt (at? a0 l4i13) fun (u8 : S_api_Item) => (opt (at? a1 l4i13) fun (u11 : S_api_Item) => (req (u8.Path.length ≤ 9223372036854775807) (req ((Lit.int .i64 u8.Kind).wf = true) (req ((Lit.int .i64 u8.Mode).wf = true) (req ((Lit.int .i64 u8.Time).wf = true) (req (u8.Bytes.length ≤ 9223372036854775807) (req (u11.Path.length ≤ 9223372036854775807) (req ((Lit.int .i64 u11.Kind).wf = true) (req ((Lit.int .i64 u11.Mode).wf = true) (req ((Lit.int .i64 u11.Time).wf = true) (req (u11.Bytes.length ≤ 9223372036854775807) (bif (!(u8 == u11)) then (some false) else (f_slices_Equal___api_Item_api_Item__L6 a0 a1 kk3 k5 (IntKind.i64.wrap (l4i13 + (1 : Int))))))))))))))))) else (kk3 ()))
def f_slices_Equal___api_Item_api_Item_ (fu : Nat) (a0 : (List S_api_Item)) (a1 : (List S_api_Item)) : Option Bool := (bif ((a0.length : Int) != (a1.length : Int)) then (some false) else (lt (fun (_ : Unit) => (some true)) fun (kk3 : Unit → Option Bool) => (f_slices_Equal___api_Item_api_Item__L6 a0 a1 kk3 fu (0 : Int))))
set_option maxRecDepth 100000 in
theorem f_slices_Equal___api_Item_api_Item__ok (fu : Nat) (v0_0 : Value) (a0 : (List S_api_Item)) (v1_0 : Value) (a1 : (List S_api_Item)) {r : Bool} (h : f_slices_Equal___api_Item_api_Item_ fu a0 a1 = some r) : FnOk Tryd.prog 22 [v0_0, v1_0] [(fDat (tyList tyS_api_Item) [v0_0] a0), (fDat (tyList tyS_api_Item) [v1_0] a1)] [] (fun (i : Unit) => { val := (bool r) }) := by
 unfold f_slices_Equal___api_Item_api_Item_ at h
 refine fn_enter Tryd.func22 rfl Tryd.ntmps22 rfl (fun w0 Z0 => ?_)
 refine aw_sr ?_
 refine al_as rfl rfl ?_
 refine al_nt ?_
 refine aw_seq ?_
 refine aw_sr ?_
 refine al_mv rfl rfl ?_
 refine al_val (ov_lenD 0 rfl rfl Tryd.underlying36 rfl) ?_
 refine al_mv rfl rfl ?_
 refine al_val (ov_lenD 1 rfl rfl Tryd.underlying36 rfl) ?_
 refine al_in rfl rfl rfl rfl ?_
 refine al_nt ?_
 refine aw_cond rfl (fun hb1 => ?_) (fun hb1 => ?_)
 ·replace h := bif_t hb1 h
  refine aw_sr ?_
  refine al_as rfl rfl ?_
  refine al_nt ?_
  refine aw_ret ?_
  refine aq_then_ret ?_
  obtain rfl := Option.some.inj h
  exact fn_ret () [] [] rfl rfl rfl rfl (res1 rfl rfl) rfl rfl rfl (by decide)
 ·replace h := bif_f hb1 h
  refine aw_skip ?_
  refine aq_then ?_
  obtain ⟨kk3, hkk3, h⟩ := lt_some h
  refine aw_seq_join (ι := Unit) (fun i => (memOf w0 Z0 [] [] [(fDat (tyList tyS_api_Item) [v0_0] a0), (fDat (tyList tyS_api_Item) [v1_0] a1)])) (fun i => (tab [])) (fun i => kk3 () = some r) ?_ ?_
  ·rintro _ h
   have h : kk3 () = some r := h
   rw [hkk3] at h
   dsimp only at h
   clear hkk3
   refine aw_show (m := (memOf w0 Z0 [] [] [(fDat (tyList tyS_api_Item) [v0_0] a0), (fDat (tyList tyS_api_Item) [v1_0] a1)])) (S := (tab [])) ?_
   refine aw_sr ?_
   refine al_as rfl rfl ?_
   refine al_nt ?_
   refine aw_ret ?_
   obtain rfl := Option.some.inj h
   exact fn_ret () [] [] rfl rfl rfl rfl (res1 rfl rfl) rfl rfl rfl (by decide)
  ·clear hkk3
   refine aw_sr ?_
   refine al_mv rfl rfl ?_
   refine al_val (ov_lenD 0 rfl rfl Tryd.underlying36 rfl) ?_
   refine al_mv rfl rfl ?_
   refine al_nt ?_
   refine aw_block ?_
   refine aw_state (aw_loop (ι := Int) (fun i => (memOf w0 Z0 [] [] [(fDat (tyList tyS_api_Item) [v0_0] a0), (fDat (tyList tyS_api_Item) [v1_0] a1)])) (fun i => (tab [(0, v0_0), (1, v1_0), (12, (int .i64 (a0.length : Int))), (13, (int .i64 i))])) (fun q i => f_slices_Equal___api_Item_api_Item__L6 a0 a1 kk3 q i = some r) ?_ fu (0 : Int) h) (fun w a hm hs => norm hm hs [] [0, 1] [(0, v0_0), (1, v1_0), (12, (int .i64 (a0.length : Int))), (13, (int .i64 (0 : Int)))] (by decide) ⟨rfl, rfl, rfl, rfl, trivial⟩)
   clear h
   rintro k5 l4i13 h
   have h : f_slices_Equal___api_Item_api_Item__L6 a0 a1 kk3 k5 l4i13 = some r := h
   obtain _ | k5 := k5
   · rw [f_slices_Equal___api_Item_api_Item__L6] at h; cases h
   rw [f_slices_Equal___api_Item_api_Item__L6] at h
   refine aw_show (m := (memOf w0 Z0 [] [] [(fDat (tyList tyS_api_Item) [v0_0] a0), (fDat (tyList tyS_api_Item) [v1_0] a1)])) (S := (tab [(0, v0_0), (1, v1_0), (12, (int .i64 (a0.length : Int))), (13, (int .i64 l4i13))])) ?_
   refine aw_sr ?_
   refine al_in rfl rfl rfl rfl ?_
   refine al_nt ?_
   refine aw_seq ?_
   refine aw_cond rfl (fun hb7 => ?_) (fun hb7 => ?_)
   ·replace h := bif_t hb7 h
    refine aw_skip ?_
    refine aq_then ?_
    refine aw_seq ?_
    refine aw_block ?_
    refine aw_sr ?_
    refine al_mv rfl rfl ?_
    refine al_as rfl rfl ?_
    refine al_nt ?_
    refine aw_seq ?_
    obtain ⟨u8, hu9, h⟩ := opt_some h
    obtain ⟨u11, hu12, h⟩ := opt_some h
    refine aw_region_draw 8 [(16, (fun u => fEq u v0_0)), (17, (fun u => fEq u (int .i64 l4i13))), (18, (fun p10 => (fPtr tyS_api_Item p10 u8))), (19, (fun u => fEq u (ag [(str u8.Path), (int .i64 u8.Kind), (int .i64 u8.Mode), (int .i64 u8.Time), (str u8.Bytes)]))), (20, (fun u => fEq u v1_0)), (21, (fun u => fEq u (int .i64 l4i13))), (22, (fun p13 => (fPtr tyS_api_Item p13 u11))), (23, (fun u => fEq u (ag [(str u11.Path), (int .i64 u11.Kind), (int .i64 u11.Mode), (int .i64 u11.Time), (str u11.Bytes)])))] (tab [(0, v0_0), (1, v1_0), (5, (int .i64 l4i13)), (12, (int .i64 (a0.length : Int))), (13, (int .i64 l4i13))]) mixed (by kernel_rfl) rfl rfl rfl (fun a hs => hs.tab _ (allT_mem ⟨rfl, rfl, rfl, rfl, rfl, trivial⟩)) ⟨⟨rfl, ld_val (ov_move rfl rfl)⟩, ⟨rfl, ld_val (ov_move rfl rfl)⟩, ⟨rfl, ld_eq (j := 0) rfl rfl (ld_eq (j := 1) rfl rfl (ld_of (of_idxD 0 hu9 rfl rfl rfl Tryd.underlying36 sz42 rfl)))⟩, ⟨rfl, ld_fact (j := 2) rfl rfl (fun p10 => ld_val (ov_loadP (ds := [(str u8.Path), (int .i64 u8.Kind), (int .i64 u8.Mode), (int .i64 u8.Time), (str u8.Bytes)]) 0 rfl encS_api_Item rfl Tryd.underlying42 sz42 rfl rfl rfl))⟩, ⟨rfl, ld_val (ov_move rfl rfl)⟩, ⟨rfl, ld_val (ov_move rfl rfl)⟩, ⟨rfl, ld_eq (j := 4) rfl rfl (ld_eq (j := 5) rfl rfl (ld_of (of_idxD 1 hu12 rfl rfl rfl Tryd.underlying36 sz42 rfl)))⟩, ⟨rfl, ld_fact (j := 6) rfl rfl (fun p13 => ld_val (ov_loadP (ds := [(str u11.Path), (int .i64 u11.Kind), (int .i64 u11.Mode), (int .i64 u11.Time), (str u11.Bytes)]) 0 rfl encS_api_Item rfl Tryd.underlying42 sz42 rfl rfl rfl))⟩, trivial⟩ ?_
    refine tl_eq 3 rfl ?_
    refine tl_eq 7 rfl ?_
    refine tl_done ?_
    obtain ⟨hc14, h⟩ := req_some h
    obtain ⟨hc15, h⟩ := req_some h
    obtain ⟨hc16, h⟩ := req_some h
    obtain ⟨hc17, h⟩ := req_some h
    obtain ⟨hc18, h⟩ := req_some h
    obtain ⟨hc19, h⟩ := req_some h
    obtain ⟨hc20, h⟩ := req_some h
    obtain ⟨hc21, h⟩ := req_some h
    obtain ⟨hc22, h⟩ := req_some h
    obtain ⟨hc23, h⟩ := req_some h
    refine al_val (ov_neqA (cs := [(str u8.Path), (int .i64 u8.Kind), (int .i64 u8.Mode), (int .i64 u8.Time), (str u8.Bytes)]) (ds := [(str u11.Path), (int .i64 u11.Kind), (int .i64 u11.Mode), (int .i64 u11.Time), (str u11.Bytes)]) (ls := [9, 3, 3, 3, 9]) (p := (u8 == u11)) eg42 kt42 lv42 rfl rfl (by kernel_rfl) (by kernel_rfl) (fit_cons (fit_str Tryd.underlying9 hc14) (fit_cons (fit_int Tryd.underlying3 hc15) (fit_cons (fit_int Tryd.underlying3 hc16) (fit_cons (fit_int Tryd.underlying3 hc17) (fit_cons (fit_str Tryd.underlying9 hc18) fit_nil))))) (fit_cons (fit_str Tryd.underlying9 hc19) (fit_cons (fit_int Tryd.underlying3 hc20) (fit_cons (fit_int Tryd.underlying3 hc21) (fit_cons (fit_int Tryd.underlying3 hc22) (fit_cons (fit_str Tryd.underlying9 hc23) fit_nil))))) (injS_api_Item (x := u8) (y := u11)) rfl) ?_
    refine al_nt ?_
    refine aw_cond rfl (fun hb24 => ?_) (fun hb24 => ?_)
    ·replace h := bif_t hb24 h
     refine aw_sr ?_
     refine al_as rfl rfl ?_
     refine al_nt ?_
     refine aw_ret ?_
     refine aq_block_ret ?_
     refine aq_then_ret ?_
     refine aq_then_ret ?_
     refine aq_block_ret ?_
     refine aq_then_ret ?_
     obtain rfl := Option.some.inj h
     exact fn_ret () [] [] rfl rfl rfl rfl (res1 rfl rfl) rfl rfl rfl (by decide)
    ·replace h := bif_f hb24 h
     refine aw_skip ?_
     refine aq_block ?_
     refine aq_then ?_
     refine aw_region ?_
     refine al_in rfl rfl rfl rfl ?_
     refine al_mv rfl rfl ?_
     refine al_nil ?_
     exact aq_again k5 (IntKind.i64.wrap (l4i13 + (1 : Int))) (Nat.lt_succ_self _) h (fun w a hm hs => norm hm hs [] [0, 1] [(0, v0_0), (1, v1_0), (12, (int .i64 (a0.length : Int))), (13, (int .i64 (IntKind.i64.wrap (l4i13 + (1 : Int)))))] (by decide) ⟨rfl, rfl, rfl, rfl, trivial⟩)
   ·replace h := bif_f hb7 h
    refine aw_exit ?_
    refine aq_then_exit ?_
    refine aq_then_exit ?_
    refine aq_block_exit ?_
    exact aq_join () h (fun w a hm hs => norm hm hs [] [0, 1] [] (by decide) trivial)
def f_lumlaw_WalkReaps (fu : Nat) (a0 : (List S_api_Blob)) (a1 : A8u8) : Option Bool := (opt (f_walk_Reap fu a0 a1) fun (r3 : ((List S_api_Item) × Int)) => (opt (f_lumref_Reap fu a0 a1) fun (r6 : ((List S_api_Item) × Int)) => (bif (r6.2 != (0 : Int)) then (lt (fun (j9b4 : Bool) => (some j9b4)) fun (kk10 : Bool → Option Bool) => (bif ((r3.1.length : Int) == (0 : Int)) then (kk10 (r3.2 == r6.2)) else (kk10 false))) else (lt (fun (j12b4 : Bool) => (some j12b4)) fun (kk13 : Bool → Option Bool) => (opt (f_slices_Equal___api_Item_api_Item_ fu r3.1 r6.1) fun (r15 : Bool) => (bif r15 then (kk13 (r3.2 == r6.2)) else (kk13 false)))))))
set_option maxRecDepth 100000 in
theorem f_lumlaw_WalkReaps_ok (fu : Nat) (v0_0 : Value) (a0 : (List S_api_Blob)) (a1 : A8u8) {r : Bool} (h : f_lumlaw_WalkReaps fu a0 a1 = some r) : FnOk Tryd.prog 6 [v0_0, (ag (cA8u8 a1))] [(fDat (tyList tyS_api_Blob) [v0_0] a0), uTabs] [] (fun (i : Unit) => { val := (bool r) }) := by
 unfold f_lumlaw_WalkReaps at h
 refine fn_enter Tryd.func6 rfl Tryd.ntmps6 rfl (fun w0 Z0 => ?_)
 refine aw_sr ?_
 refine al_box (vs := (cA8u8 a1)) rfl (cv_rfl rfl) rfl (fun g1 => ?_)
 refine al_as rfl rfl ?_
 refine al_nt ?_
 refine aw_sr ?_
 refine al_mv rfl rfl ?_
 refine al_val (ov_load (i := 0) (v := (ag (cA8u8 a1))) rfl rfl Tryd.underlying47 sz47 rfl rfl rfl rfl) ?_
 obtain ⟨r3, hc2, h⟩ := opt_some h
 refine al_call (vs := [v0_0, (ag (cA8u8 a1))]) (f_walk_Reap_ok fu v0_0 a0 a1 hc2) [] [] [0] (pre_fz 0 rfl (pre_fz 1 rfl pre_nil)) rfl (by simp) (by decide) (.inl rfl) rfl Tryd.func20 rfl rfl rfl (fun v4 => ?_)
 refine al_mv rfl rfl ?_
 refine al_ex rfl rfl rfl ?_
 refine al_ex rfl rfl rfl ?_
 refine al_as rfl rfl ?_
 refine al_as rfl rfl ?_
 refine al_nt ?_
 refine aw_sr ?_
 refine al_mv rfl rfl ?_
 refine al_val (ov_load (i := 1) (v := (ag (cA8u8 a1))) rfl rfl Tryd.underlying47 sz47 rfl rfl rfl rfl) ?_
 obtain ⟨r6, hc5, h⟩ := opt_some h
 refine al_call (vs := [v0_0, (ag (cA8u8 a1))]) (f_lumref_Reap_ok fu v0_0 a0 a1 hc5) [] [] [0, 1] (pre_fz 0 rfl pre_nil) rfl (by simp) (by decide) (.inl rfl) rfl Tryd.func21 rfl rfl rfl (fun v7 => ?_)
 refine al_mv rfl rfl ?_
 refine al_ex rfl rfl rfl ?_
 refine al_ex rfl rfl rfl ?_
 refine al_as rfl rfl ?_
 refine al_as rfl rfl ?_
 refine al_nt ?_
 refine aw_seq ?_
 refine aw_sr ?_
 refine al_mv rfl rfl ?_
 refine al_in rfl rfl rfl rfl ?_
 refine al_nt ?_
 refine aw_cond rfl (fun hb8 => ?_) (fun hb8 => ?_)
 ·replace h := bif_t hb8 h
  obtain ⟨kk10, hkk10, h⟩ := lt_some h
  refine aw_seq_join (ι := Bool) (fun i => (memOf w0 Z0 [] [] [(fDat (tyList tyS_api_Blob) [v0_0] a0), uTabs])) (fun i => (tab [(4, (bool i))])) (fun i => kk10 i = some r) ?_ ?_
  ·rintro j9b4 h
   have h : kk10 j9b4 = some r := h
   rw [hkk10] at h
   dsimp only at h
   clear hkk10
   refine aw_show (m := (memOf w0 Z0 [] [] [(fDat (tyList tyS_api_Blob) [v0_0] a0), uTabs])) (S := (tab [(4, (bool j9b4))])) ?_
   refine aw_ret ?_
   refine aq_then_ret ?_
   obtain rfl := Option.some.inj h
   exact fn_ret () [] [] rfl rfl rfl rfl (res1 rfl rfl) rfl rfl rfl (by decide)
  ·clear hkk10
   refine aw_region ?_
   refine al_mv rfl rfl ?_
   refine al_val (ov_lenR 1 rfl rfl Tryd.underlying36 rfl) ?_
   refine al_in rfl rfl rfl rfl ?_
   refine al_mv rfl rfl ?_
   refine al_caseB 26 rfl (fun hb11 => ?_) (fun hb11 => ?_)
   ·replace h := bif_t hb11 h
    refine al_mv rfl rfl ?_
    refine al_mv rfl rfl ?_
    refine al_in rfl rfl rfl rfl ?_
    refine al_val (ov_pick_t rfl rfl rfl) ?_
    refine al_as rfl rfl ?_
    refine al_nil ?_
    exact aq_join (r3.2 == r6.2) h (fun w a hm hs => norm hm hs [] [0, 1] [(4, (bool (r3.2 == r6.2)))] (by decide) ⟨rfl, trivial⟩)
   ·replace h := bif_f hb11 h
    refine al_skip ?_
    refine al_skip ?_
    refine al_skip ?_
    refine al_val (ov_pick_f rfl rfl rfl) ?_
    refine al_as rfl rfl ?_
    refine al_nil ?_
    exact aq_join false h (fun w a hm hs => norm hm hs [] [0, 1] [(4, (bool false))] (by decide) ⟨rfl, trivial⟩)
 ·replace h := bif_f hb8 h
  refine aw_skip ?_
  refine aq_then ?_
  obtain ⟨kk13, hkk13, h⟩ := lt_some h
  refine aw_seq_join (ι := Bool) (fun i => (memOf w0 Z0 [] [] [(fDat (tyList tyS_api_Blob) [v0_0] a0), uTabs])) (fun i => (tab [(4, (bool i))])) (fun i => kk13 i = some r) ?_ ?_
  ·rintro j12b4 h
   have h : kk13 j12b4 = some r := h
   rw [hkk13] at h
   dsimp only at h
   clear hkk13
   refine aw_show (m := (memOf w0 Z0 [] [] [(fDat (tyList tyS_api_Blob) [v0_0] a0), uTabs])) (S := (tab [(4, (bool j12b4))])) ?_
   refine aw_ret ?_
   obtain rfl := Option.some.inj h
   exact fn_ret () [] [] rfl rfl rfl rfl (res1 rfl rfl) rfl rfl rfl (by decide)
  ·clear hkk13
   refine aw_region ?_
   refine al_mv rfl rfl ?_
   refine al_mv rfl rfl ?_
   obtain ⟨r15, hc14, h⟩ := opt_some h
   refine al_call (vs := [v4, v7]) (f_slices_Equal___api_Item_api_Item__ok fu v4 r3.1 v7 r6.1 hc14) [0, 1] [] [0, 1, 2] (pre_own 1 rfl rfl (pre_own 0 rfl rfl pre_nil)) rfl (by simp) (by decide) (.inr flat_res0) rfl Tryd.func22 rfl rfl rfl (fun _ => ?_)
   refine al_mv rfl rfl ?_
   refine al_caseB 34 rfl (fun hb16 => ?_) (fun hb16 => ?_)
   ·replace h := bif_t hb16 h
    refine al_mv rfl rfl ?_
    refine al_mv rfl rfl ?_
    refine al_in rfl rfl rfl rfl ?_
    refine al_val (ov_pick_t rfl rfl rfl) ?_
    refine al_as rfl rfl ?_
    refine al_nil ?_
    exact aq_join (r3.2 == r6.2) h (fun w a hm hs => norm hm hs [] [0, 1] [(4, (bool (r3.2 == r6.2)))] (by decide) ⟨rfl, trivial⟩)
   ·replace h := bif_f hb16 h
    refine al_skip ?_
    refine al_skip ?_
    refine al_skip ?_
    refine al_val (ov_pick_f rfl rfl rfl) ?_
    refine al_as rfl rfl ?_
    refine al_nil ?_
    exact aq_join false h (fun w a hm hs => norm hm hs [] [0, 1] [(4, (bool false))] (by decide) ⟨rfl, trivial⟩)
end Go.Proofs.YtgmggcpceemnnaaDoor
