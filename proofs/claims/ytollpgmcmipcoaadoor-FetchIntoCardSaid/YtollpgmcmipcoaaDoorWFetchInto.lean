/- Walks by program. No condition. -/
import Derived.Test.YtollpgmcmipcoaaDoorEn21
import Derived.Test.YtollpgmcmipcoaaDoorChecked
import Derived.Test.YtollpgmcmipcoaaDoorShBEPut
import Derived.Test.YtollpgmcmipcoaaDoorEn23
import Derived.Test.YtollpgmcmipcoaaDoorEnU
import Derived.Test.YtollpgmcmipcoaaDoorShRepeat
import Derived.Test.YtollpgmcmipcoaaDoorWFetchInto_c
namespace Go.Proofs.YtollpgmcmipcoaaDoor
open Go.RowKit YtollpgmcmipcoaaDoor.En
set_option linter.unusedVariables false
set_option linter.unusedSimpArgs false
set_option maxRecDepth 100000 in
set_option maxHeartbeats 2000000 in
theorem f_lumref_Into_ok (fu : Nat) (v0_0 : Value) (a0 : (List S_api_Blob)) (v1_0 : Value) (a1 : (List S_api_Blob)) {r : ((List S_api_Blob) × Int)} (h : f_lumref_Into fu a0 a1 = some r) : FnOk Tryd.prog 7 [v0_0, v1_0] [(fDat (tyList tyS_api_Blob) [v0_0] a0), (fDat (tyList tyS_api_Blob) [v1_0] a1)] [] (fun (i : Value) => { val := (Value.tuple #[i, (Value.int .i64 r.2)]), own := [(oRow i 28 tyS_api_Blob r.1)] }) := by
  unfold f_lumref_Into at h
  refine fn_enter Tryd.func7 rfl Tryd.ntmps7 rfl (fun w0 Z0 => ?_)
  refine aw_seq ?_
  refine aw_region ?_
  refine al_val (ov_assign rfl rfl) ?_
  refine al_val (ov_assign rfl rfl) ?_
  refine al_nil ?_
  refine aq_then ?_
  refine aw_seq ?_
  refine aw_region ?_
  refine al_val (ov_move rfl rfl) ?_
  obtain ⟨r2, hc1, h⟩ := opt_some h
  refine al_call (vs := [v0_0]) (f_lumref_BlobHeap_ok fu v0_0 a0 hc1) [] [] [] (pre_fz 0 rfl pre_nil) rfl (by simp) (by decide) (.inl rfl) rfl Tryd.func22 rfl rfl rfl (fun v3 => ?_)
  refine al_val (ov_move rfl rfl) ?_
  refine al_val (ov_extract rfl rfl rfl) ?_
  refine al_val (ov_extract rfl rfl rfl) ?_
  refine al_val (ov_assign rfl rfl) ?_
  refine al_val (ov_assign rfl rfl) ?_
  refine al_nil ?_
  refine aq_then ?_
  refine aw_seq ?_
  refine aw_seq ?_
  refine aw_region ?_
  refine al_val (ov_move rfl rfl) ?_
  refine al_val (ov_int rfl rfl rfl rfl) ?_
  refine al_nil ?_
  refine aq_then ?_
  refine aw_cond rfl (fun hb4 => ?_) (fun hb4 => ?_)
  · replace h := bif_t hb4 h
    refine aw_seq ?_
    refine aw_region ?_
    refine al_val (ov_move rfl rfl) ?_
    refine al_val (ov_assign rfl rfl) ?_
    refine al_val (ov_assign rfl rfl) ?_
    refine al_nil ?_
    refine aq_then ?_
    refine aw_ret ?_
    refine aq_then_ret ?_
    refine aq_nilR 28 tyS_api_Blob ?_
    obtain rfl := Option.some.inj h
    exact fn_ret (Value.slice none 0 0) [0] [] rfl rfl rfl rfl (res2 rfl rfl rfl) rfl rfl rfl (by decide)
  · replace h := bif_f hb4 h
    refine aw_skip ?_
    refine aq_then ?_
    refine aw_seq ?_
    refine aw_region ?_
    refine al_val (ov_move rfl rfl) ?_
    obtain ⟨r6, hc5, h⟩ := opt_some h
    refine al_call (vs := [v0_0]) (f_slices_Clone___api_Blob_api_Blob__ok fu v0_0 a0 hc5) [] [] [0] (pre_fz 0 rfl pre_nil) rfl (by simp) (by decide) (.inl rfl) rfl Tryd.func19 rfl rfl rfl (fun v7 => ?_)
    refine al_val (ov_assign rfl rfl) ?_
    refine al_nil ?_
    refine aq_then ?_
    obtain ⟨kk9, hkk9, h⟩ := lt_some h
    refine aw_seq_join (ι := Value × (List S_api_Blob)) (fun i => (memOf w0 Z0 [] [(oRow i.1 28 tyS_api_Blob i.2)] [(fDat (tyList tyS_api_Blob) [v0_0] a0), (fDat (tyList tyS_api_Blob) [v1_0] a1)])) (fun i => (tab [(8, i.1)])) (fun i => kk9 i.2 = some r) ?_ ?_
    · rintro ⟨j8v8, j8x8⟩ h
      have h : kk9 j8x8 = some r := h
      rw [hkk9] at h
      dsimp only at h
      clear hkk9
      refine aw_show (m := (memOf w0 Z0 [] [(oRow j8v8 28 tyS_api_Blob j8x8)] [(fDat (tyList tyS_api_Blob) [v0_0] a0), (fDat (tyList tyS_api_Blob) [v1_0] a1)])) (S := (tab [(8, j8v8)])) ?_
      refine aw_seq ?_
      refine aw_region ?_
      refine al_val (ov_move rfl rfl) ?_
      refine al_val (ov_assign rfl rfl) ?_
      refine al_val (ov_assign rfl rfl) ?_
      refine al_nil ?_
      refine aq_then ?_
      refine aw_ret ?_
      obtain rfl := Option.some.inj h
      exact fn_ret j8v8 [0] [] rfl rfl rfl rfl (res2 rfl rfl rfl) rfl rfl rfl (by decide)
    · clear hkk9
      refine aw_seq ?_
      refine aw_region ?_
      refine al_val (ov_move rfl rfl) ?_
      refine al_val (ov_lenD 1 rfl rfl Tryd.underlying22 rfl) ?_
      refine al_val (ov_move rfl rfl) ?_
      refine al_nil ?_
      refine aq_then ?_
      refine aw_block ?_
      refine aw_state (aw_loop (ι := Value × (List A8u8) × Value × (List S_api_Blob) × Int) (fun i => (memOf w0 Z0 [] [(oRow i.1 48 tyA8u8 i.2.1), (oRow i.2.2.1 28 tyS_api_Blob i.2.2.2.1)] [(fDat (tyList tyS_api_Blob) [v1_0] a1), (fDat (tyList tyS_api_Blob) [v0_0] a0)])) (fun i => (tab [(6, i.1), (8, i.2.2.1), (25, v1_0), (26, (Value.int .i64 (a1.length : Int))), (27, (Value.int .i64 i.2.2.2.2))])) (fun q i => f_lumref_Into_L12 a1 kk9 fu q i.2.1 i.2.2.2.1 i.2.2.2.2 = some r) ?_ fu (v3, r2.1, v7, r6, (0 : Int)) h) (fun w a hm hs => norm hm hs [1, 0] [1, 0] [(6, v3), (8, v7), (25, v1_0), (26, (Value.int .i64 (a1.length : Int))), (27, (Value.int .i64 (0 : Int)))] (by decide) ⟨rfl, rfl, rfl, rfl, rfl, trivial⟩)
      clear h
      rintro k11 ⟨l10v6, l10x6, l10v8, l10x8, l10i27⟩ h
      have h : f_lumref_Into_L12 a1 kk9 fu k11 l10x6 l10x8 l10i27 = some r := h
      obtain _ | k11 := k11
      · rw [f_lumref_Into_L12] at h; cases h
      rw [f_lumref_Into_L12] at h
      refine aw_show (m := (memOf w0 Z0 [] [(oRow l10v6 48 tyA8u8 l10x6), (oRow l10v8 28 tyS_api_Blob l10x8)] [(fDat (tyList tyS_api_Blob) [v1_0] a1), (fDat (tyList tyS_api_Blob) [v0_0] a0)])) (S := (tab [(6, l10v6), (8, l10v8), (25, v1_0), (26, (Value.int .i64 (a1.length : Int))), (27, (Value.int .i64 l10i27))])) ?_
      refine aw_seq ?_
      refine aw_region ?_
      refine al_val (ov_int rfl rfl rfl rfl) ?_
      refine al_nil ?_
      refine aq_then ?_
      refine aw_seq ?_
      refine aw_cond rfl (fun hb13 => ?_) (fun hb13 => ?_)
      · replace h := bif_t hb13 h
        refine aw_skip ?_
        refine aq_then ?_
        obtain ⟨kk15, hkk15, h⟩ := lt_some h
        refine aw_seq_join (ι := Value × (List A8u8) × Value × (List S_api_Blob)) (fun i => (memOf w0 Z0 [] [(oRow i.1 48 tyA8u8 i.2.1), (oRow i.2.2.1 28 tyS_api_Blob i.2.2.2)] [(fDat (tyList tyS_api_Blob) [v1_0] a1), (fDat (tyList tyS_api_Blob) [v0_0] a0)])) (fun i => (tab [(6, i.1), (8, i.2.2.1), (25, v1_0), (26, (Value.int .i64 (a1.length : Int))), (27, (Value.int .i64 l10i27))])) (fun i => kk15 i.2.1 i.2.2.2 = some r) ?_ ?_
        · rintro ⟨j14v6, j14x6, j14v8, j14x8⟩ h
          have h : kk15 j14x6 j14x8 = some r := h
          rw [hkk15] at h
          dsimp only at h
          clear hkk15
          refine aw_show (m := (memOf w0 Z0 [] [(oRow j14v6 48 tyA8u8 j14x6), (oRow j14v8 28 tyS_api_Blob j14x8)] [(fDat (tyList tyS_api_Blob) [v1_0] a1), (fDat (tyList tyS_api_Blob) [v0_0] a0)])) (S := (tab [(6, j14v6), (8, j14v8), (25, v1_0), (26, (Value.int .i64 (a1.length : Int))), (27, (Value.int .i64 l10i27))])) ?_
          refine aw_region ?_
          refine al_val (ov_int rfl rfl rfl rfl) ?_
          refine al_val (ov_move rfl rfl) ?_
          refine al_nil ?_
          exact aq_again k11 (j14v6, j14x6, j14v8, j14x8, (IntKind.i64.wrap (l10i27 + (1 : Int)))) (Nat.lt_succ_self _) h (fun w a hm hs => norm hm hs [0, 1] [0, 1] [(6, j14v6), (8, j14v8), (25, v1_0), (26, (Value.int .i64 (a1.length : Int))), (27, (Value.int .i64 (IntKind.i64.wrap (l10i27 + (1 : Int)))))] (by decide) ⟨rfl, rfl, rfl, rfl, rfl, trivial⟩)
        · clear hkk15
          refine aw_block ?_
          refine aw_seq ?_
          refine aw_region ?_
          obtain ⟨u16, hu17, h⟩ := opt_some h
          refine al_idxD 0 hu17 rfl rfl rfl Tryd.underlying22 sz28 rfl (fun p18 => ?_)
          refine al_val (ov_loadP (ds := [(Value.int .i64 u16.Kind), (str u16.Bytes)]) 0 rfl encS_api_Blob rfl Tryd.underlying28 sz28 rfl rfl rfl) ?_
          refine al_alloc (zs := [(Value.int .i64 (0 : Int)), (str ([] : List UInt8))]) (zeroOf_to to28) rfl rfl (fun g19 => ?_)
          refine al_store (i := 0) (vs := [(Value.int .i64 u16.Kind), (str u16.Bytes)]) (cs' := [(Value.int .i64 u16.Kind), (str u16.Bytes)]) rfl rfl rfl sz28 (cv_rfl rfl) rfl (co_val rfl (co_val rfl co_nil)) (Nat.le_of_ble_eq_true rfl) rfl rfl ?_
          refine al_nil ?_
          refine aq_then ?_
          refine aw_seq ?_
          refine aw_region ?_
          refine al_val (ov_load (i := 0) (v := (ag [(Value.int .i64 u16.Kind), (str u16.Bytes)])) rfl rfl Tryd.underlying28 sz28 rfl rfl rfl rfl) ?_
          obtain ⟨r21, hc20, h⟩ := opt_some h
          refine al_call (vs := [(ag [(Value.int .i64 u16.Kind), (str u16.Bytes)])]) (f_lumref_BlobID_ok fu u16 hc20) [] [] [0, 1, 2] pre_nil rfl (by simp) (by decide) (.inl rfl) rfl Tryd.func23 rfl rfl rfl (fun _ => ?_)
          refine al_val (ov_move rfl rfl) ?_
          refine al_val (ov_extract rfl rfl rfl) ?_
          refine al_val (ov_extract rfl rfl rfl) ?_
          refine al_alloc (zs := (cA8u8 (A8u8.mk (0 : UInt8) (0 : UInt8) (0 : UInt8) (0 : UInt8) (0 : UInt8) (0 : UInt8) (0 : UInt8) (0 : UInt8)))) (zeroOf_to to48) rfl rfl (fun g22 => ?_)
          refine al_store (i := 0) (vs := (cA8u8 r21.1)) (cs' := (cA8u8 r21.1)) rfl rfl rfl sz48 (cv_rfl rfl) rfl (co_all (oneA8u8 r21.1)) (Nat.le_of_ble_eq_true rfl) rfl rfl ?_
          refine al_val (ov_assign rfl rfl) ?_
          refine al_nil ?_
          refine aq_then ?_
          refine aw_seq ?_
          refine aw_seq ?_
          refine aw_region ?_
          refine al_val (ov_move rfl rfl) ?_
          refine al_val (ov_int rfl rfl rfl rfl) ?_
          refine al_nil ?_
          refine aq_then ?_
          refine aw_cond rfl (fun hb23 => ?_) (fun hb23 => ?_)
          · replace h := bif_t hb23 h
            refine aw_seq ?_
            refine aw_region ?_
            refine al_val (ov_move rfl rfl) ?_
            refine al_val (ov_assign rfl rfl) ?_
            refine al_val (ov_assign rfl rfl) ?_
            refine al_nil ?_
            refine aq_then ?_
            refine aw_ret ?_
            refine aq_then_ret ?_
            refine aq_block_ret ?_
            refine aq_then_ret ?_
            refine aq_then_ret ?_
            refine aq_block_ret ?_
            refine aq_then_ret ?_
            refine aq_nilR 28 tyS_api_Blob ?_
            obtain rfl := Option.some.inj h
            exact fn_ret (Value.slice none 0 0) [0] [] rfl rfl rfl rfl (res2 rfl rfl rfl) rfl rfl rfl (by decide)
          · replace h := bif_f hb23 h
            refine aw_skip ?_
            refine aq_then ?_
            refine aw_seq ?_
            refine aw_seq ?_
            refine aw_region ?_
            refine al_val (ov_move rfl rfl) ?_
            refine al_val (ov_load (i := 0) (v := (ag (cA8u8 r21.1))) rfl rfl Tryd.underlying48 sz48 rfl rfl rfl rfl) ?_
            obtain ⟨r25, hc24, h⟩ := opt_some h
            refine al_call (vs := [l10v6, (ag (cA8u8 r21.1))]) (f_slices_Index___api_ID_api_ID__ok fu l10v6 l10x6 r21.1 hc24) [2] [] [0, 1, 2, 3] (pre_own 2 rfl rfl pre_nil) rfl (by simp) (by decide) (.inr flat_res0) rfl Tryd.func24 rfl rfl rfl (fun _ => ?_)
            refine al_val (ov_assign rfl rfl) ?_
            refine al_nil ?_
            refine aq_then ?_
            refine aw_seq ?_
            refine aw_region ?_
            refine al_val (ov_move rfl rfl) ?_
            refine al_val (ov_int rfl rfl rfl rfl) ?_
            refine al_nil ?_
            refine aq_then ?_
            refine aw_cond rfl (fun hb26 => ?_) (fun hb26 => ?_)
            · replace h := bif_t hb26 h
              refine aw_seq ?_
              refine aw_seq ?_
              obtain ⟨u27, hu28, h⟩ := opt_some h
              refine aw_region_draw 5 [(44, (fun u => fEq u l10v8)), (45, (fun u => fEq u (Value.int .i64 r25))), (46, (fun p => fElt l10v8 p ((r25).toNat * Ty.size tyS_api_Blob))), (47, (fun u => fEq u (ag [(Value.int .i64 u27.Kind), (str u27.Bytes)]))), (48, (fun u => fEq u (ag [(Value.int .i64 u16.Kind), (str u16.Bytes)])))] (tab [(6, l10v6), (8, l10v8), (10, (ptr g19 0)), (13, (Value.int .i64 r25)), (25, v1_0), (26, (Value.int .i64 (a1.length : Int))), (27, (Value.int .i64 l10i27))]) mixed (by kernel_rfl) rfl rfl rfl (fun a hs => hs.tab _ (allT_mem ⟨rfl, rfl, rfl, rfl, rfl, rfl, rfl, trivial⟩)) ⟨⟨rfl, ld_val (ov_move rfl rfl)⟩, ⟨rfl, ld_val (ov_move rfl rfl)⟩, ⟨rfl, ld_eq (j := 0) rfl rfl (ld_eq (j := 1) rfl rfl (ld_of (of_idxR 3 (at_some hu28).1 (at_some hu28).2.1 rfl rfl rfl Tryd.underlying22 sz28 rfl)))⟩, ⟨rfl, ld_elt (j := 2) rfl rfl (fun p29 hp30 => ld_val (ov_loadR (ds := [(Value.int .i64 u27.Kind), (str u27.Bytes)]) 3 rfl hp30 (at_some hu28).2.2 encS_api_Blob rfl Tryd.underlying28 sz28 rfl rfl rfl))⟩, ⟨rfl, ld_val (ov_load (i := 1) (v := (ag [(Value.int .i64 u16.Kind), (str u16.Bytes)])) rfl rfl Tryd.underlying28 sz28 rfl rfl rfl rfl)⟩, trivial⟩ ?_
              refine tl_eq 3 rfl ?_
              refine tl_eq 4 rfl ?_
              refine tl_done ?_
              obtain ⟨hc31, h⟩ := req_some h
              obtain ⟨hc32, h⟩ := req_some h
              obtain ⟨hc33, h⟩ := req_some h
              obtain ⟨hc34, h⟩ := req_some h
              refine al_val (ov_neqA (cs := [(Value.int .i64 u27.Kind), (str u27.Bytes)]) (ds := [(Value.int .i64 u16.Kind), (str u16.Bytes)]) (ls := [3, 9]) (p := (u27 == u16)) eg28 kt28 lv28 rfl rfl (by kernel_rfl) (by kernel_rfl) (fit_cons (fit_int Tryd.underlying3 hc31) (fit_cons (fit_str Tryd.underlying9 hc32) fit_nil)) (fit_cons (fit_int Tryd.underlying3 hc33) (fit_cons (fit_str Tryd.underlying9 hc34) fit_nil)) (injS_api_Blob (x := u27) (y := u16)) rfl) ?_
              refine al_nil ?_
              refine aq_then ?_
              refine aw_cond rfl (fun hb35 => ?_) (fun hb35 => ?_)
              · replace h := bif_t hb35 h
                refine aw_seq ?_
                refine aw_region ?_
                refine al_val (ov_assign rfl rfl) ?_
                refine al_val (ov_assign rfl rfl) ?_
                refine al_nil ?_
                refine aq_then ?_
                refine aw_ret ?_
                refine aq_then_ret ?_
                refine aq_then_ret ?_
                refine aq_block_ret ?_
                refine aq_then_ret ?_
                refine aq_then_ret ?_
                refine aq_block_ret ?_
                refine aq_then_ret ?_
                refine aq_nilR 28 tyS_api_Blob ?_
                obtain rfl := Option.some.inj h
                exact fn_ret (Value.slice none 0 0) [0] [] rfl rfl rfl rfl (res2 rfl rfl rfl) rfl rfl rfl (by decide)
              · replace h := bif_f hb35 h
                refine aw_skip ?_
                refine aq_then ?_
                refine aw_exit ?_
                refine aq_then_exit ?_
                refine aq_block_exit ?_
                exact aq_join (l10v6, l10x6, l10v8, l10x8) h (fun w a hm hs => norm hm hs [2, 3] [1, 2] [(6, l10v6), (8, l10v8), (25, v1_0), (26, (Value.int .i64 (a1.length : Int))), (27, (Value.int .i64 l10i27))] (by decide) ⟨rfl, rfl, rfl, rfl, rfl, trivial⟩)
            · replace h := bif_f hb26 h
              refine aw_skip ?_
              refine aq_then ?_
              refine aw_seq ?_
              refine aw_seq ?_
              refine aw_region ?_
              refine al_val (ov_load (i := 1) (v := (ag [(Value.int .i64 u16.Kind), (str u16.Bytes)])) rfl rfl Tryd.underlying28 sz28 rfl rfl rfl rfl) ?_
              refine al_val (ov_move rfl rfl) ?_
              obtain ⟨r37, hc36, h⟩ := opt_some h
              refine al_call (vs := [(ag [(Value.int .i64 u16.Kind), (str u16.Bytes)]), l10v6]) (f_lumref_lacks_ok fu u16 l10v6 l10x6 hc36) [2] [] [0, 1, 2, 3] (pre_own 2 rfl rfl pre_nil) rfl (by simp) (by decide) (.inr flat_res0) rfl Tryd.func25 rfl rfl rfl (fun _ => ?_)
              refine al_val (ov_assign rfl rfl) ?_
              refine al_nil ?_
              refine aq_then ?_
              refine aw_seq ?_
              refine aw_region ?_
              refine al_val (ov_move rfl rfl) ?_
              refine al_val (ov_int rfl rfl rfl rfl) ?_
              refine al_nil ?_
              refine aq_then ?_
              refine aw_cond rfl (fun hb38 => ?_) (fun hb38 => ?_)
              · replace h := bif_t hb38 h
                refine aw_seq ?_
                refine aw_region ?_
                refine al_val (ov_move rfl rfl) ?_
                refine al_val (ov_assign rfl rfl) ?_
                refine al_val (ov_assign rfl rfl) ?_
                refine al_nil ?_
                refine aq_then ?_
                refine aw_ret ?_
                refine aq_then_ret ?_
                refine aq_block_ret ?_
                refine aq_then_ret ?_
                refine aq_then_ret ?_
                refine aq_block_ret ?_
                refine aq_then_ret ?_
                refine aq_nilR 28 tyS_api_Blob ?_
                obtain rfl := Option.some.inj h
                exact fn_ret (Value.slice none 0 0) [0] [] rfl rfl rfl rfl (res2 rfl rfl rfl) rfl rfl rfl (by decide)
              · replace h := bif_f hb38 h
                refine aw_skip ?_
                refine aq_then ?_
                refine aw_seq ?_
                refine aw_seq ?_
                refine aw_region ?_
                refine al_val (ov_move rfl rfl) ?_
                refine al_val (ov_lenR 3 rfl rfl Tryd.underlying22 rfl) ?_
                refine al_val (ov_int rfl rfl rfl rfl) ?_
                refine al_nil ?_
                refine aq_then ?_
                refine aw_cond rfl (fun hb39 => ?_) (fun hb39 => ?_)
                · replace h := bif_t hb39 h
                  refine aw_seq ?_
                  refine aw_region ?_
                  refine al_val (ov_assign rfl rfl) ?_
                  refine al_val (ov_assign rfl rfl) ?_
                  refine al_nil ?_
                  refine aq_then ?_
                  refine aw_ret ?_
                  refine aq_then_ret ?_
                  refine aq_block_ret ?_
                  refine aq_then_ret ?_
                  refine aq_then_ret ?_
                  refine aq_block_ret ?_
                  refine aq_then_ret ?_
                  refine aq_nilR 28 tyS_api_Blob ?_
                  obtain rfl := Option.some.inj h
                  exact fn_ret (Value.slice none 0 0) [0] [] rfl rfl rfl rfl (res2 rfl rfl rfl) rfl rfl rfl (by decide)
                · replace h := bif_f hb39 h
                  refine aw_skip ?_
                  refine aq_then ?_
                  refine aw_region_open [⟨0, 59, Unit, fun _ => { val := l10v6 }⟩, ⟨1, 60, Unit, fun _ => { val := (ag (cA8u8 r21.1)) }⟩, ⟨2, 61, Value, fun (i : Value) => { val := i, own := [(oRow i 48 tyA8u8 [r21.1])] }⟩, ⟨4, 63, Unit, fun _ => { val := l10v8 }⟩, ⟨5, 64, Unit, fun _ => { val := (ag [(Value.int .i64 u16.Kind), (str u16.Bytes)]) }⟩, ⟨6, 65, Value, fun (i : Value) => { val := i, own := [(oRow i 28 tyS_api_Blob [u16])] }⟩] (tab [(6, l10v6), (8, l10v8), (10, (ptr g19 0)), (11, (ptr g22 0)), (25, v1_0), (26, (Value.int .i64 (a1.length : Int))), (27, (Value.int .i64 l10i27))]) mixed (fun a hs => hs.tab _ (allT_mem ⟨rfl, rfl, rfl, rfl, rfl, rfl, rfl, trivial⟩)) ?_
                  refine ta_show (m := (memOf w0 Z0 [] [(oBox g22 48 (cA8u8 r21.1)), (oBox g19 28 [(Value.int .i64 u16.Kind), (str u16.Bytes)]), (oRow l10v6 48 tyA8u8 l10x6), (oRow l10v8 28 tyS_api_Blob l10x8)] [(fPtr tyS_api_Blob p18 u16), (fDat (tyList tyS_api_Blob) [v1_0] a1), (fDat (tyList tyS_api_Blob) [v0_0] a0)])) (S := (tab [(6, l10v6), (8, l10v8), (10, (ptr g19 0)), (11, (ptr g22 0)), (25, v1_0), (26, (Value.int .i64 (a1.length : Int))), (27, (Value.int .i64 l10i27))])) ?_
                  refine ta_step 3 _ [0, 1, 2, 4, 5, 6] [59, 60, 61, 63, 64, 65] [0, 1, 2] [] [⟨0, 59, Unit, fun _ => { val := l10v6 }⟩, ⟨1, 60, Unit, fun _ => { val := (ag (cA8u8 r21.1)) }⟩, ⟨2, 61, Value, fun (i : Value) => { val := i, own := [(oRow i 48 tyA8u8 [r21.1])] }⟩] [⟨4, 63, Unit, fun _ => { val := l10v8 }⟩, ⟨5, 64, Unit, fun _ => { val := (ag [(Value.int .i64 u16.Kind), (str u16.Bytes)]) }⟩, ⟨6, 65, Value, fun (i : Value) => { val := i, own := [(oRow i 28 tyS_api_Blob [u16])] }⟩] rfl rfl rfl (by kernel_rfl) rfl rfl rfl ⟨⟨_, rfl, [], rfl, by
    intro X_ Y_ F_ K_ hK_
    refine al_show (m := Mem.plus (memOf w0 Z0 [] [(oBox g22 48 (cA8u8 r21.1)), (oBox g19 28 [(Value.int .i64 u16.Kind), (str u16.Bytes)]), (oRow l10v6 48 tyA8u8 l10x6), (oRow l10v8 28 tyS_api_Blob l10x8)] [(fPtr tyS_api_Blob p18 u16), (fDat (tyList tyS_api_Blob) [v1_0] a1), (fDat (tyList tyS_api_Blob) [v0_0] a0)]) X_ Y_) (S := over (tab [(6, l10v6), (8, l10v8), (10, (ptr g19 0)), (11, (ptr g22 0)), (25, v1_0), (26, (Value.int .i64 (a1.length : Int))), (27, (Value.int .i64 l10i27))]) F_) ?_
    refine al_val (ov_move rfl rfl) ?_
    refine al_nil ?_
    exact fr_fin hK_ ()⟩, ⟨_, rfl, [], rfl, by
    intro X_ Y_ F_ K_ hK_
    refine al_show (m := Mem.plus (memOf w0 Z0 [] [(oBox g22 48 (cA8u8 r21.1)), (oBox g19 28 [(Value.int .i64 u16.Kind), (str u16.Bytes)]), (oRow l10v6 48 tyA8u8 l10x6), (oRow l10v8 28 tyS_api_Blob l10x8)] [(fPtr tyS_api_Blob p18 u16), (fDat (tyList tyS_api_Blob) [v1_0] a1), (fDat (tyList tyS_api_Blob) [v0_0] a0)]) X_ Y_) (S := over (tab [(6, l10v6), (8, l10v8), (10, (ptr g19 0)), (11, (ptr g22 0)), (25, v1_0), (26, (Value.int .i64 (a1.length : Int))), (27, (Value.int .i64 l10i27))]) F_) ?_
    refine al_val (ov_load (i := 0) (v := (ag (cA8u8 r21.1))) rfl rfl Tryd.underlying48 sz48 rfl rfl rfl rfl) ?_
    refine al_nil ?_
    exact fr_fin hK_ ()⟩, ⟨_, rfl, [1], rfl, by
    intro _
    intro X_ Y_ F_ K_ hK_
    refine al_show (m := Mem.plus (memOf w0 Z0 [] [(oBox g22 48 (cA8u8 r21.1)), (oBox g19 28 [(Value.int .i64 u16.Kind), (str u16.Bytes)]), (oRow l10v6 48 tyA8u8 l10x6), (oRow l10v8 28 tyS_api_Blob l10x8)] [(fPtr tyS_api_Blob p18 u16), (fDat (tyList tyS_api_Blob) [v1_0] a1), (fDat (tyList tyS_api_Blob) [v0_0] a0)]) X_ Y_) (S := over (put (tab [(6, l10v6), (8, l10v8), (10, (ptr g19 0)), (11, (ptr g22 0)), (25, v1_0), (26, (Value.int .i64 (a1.length : Int))), (27, (Value.int .i64 l10i27))]) 60 (ag (cA8u8 r21.1))) F_) ?_
    refine al_buildSlice (τ := tyA8u8) (e := 48) (k := 1) (sz := 0) (by_ := 0) (z := undef) (cs := (cA8u8 r21.1)) (xs := [r21.1]) rfl (by decide) (fun w a hm hs => ⟨((cA8u8 r21.1)).toArray, rfl, by simp only [List.map_toArray, List.map_cons, List.map_nil, hs.ev (x := .tmp 60) rfl]; exact run_bs [(ag (cA8u8 r21.1))] (cA8u8 r21.1) Tryd.underlying53 to48 rfl rfl (bs_cons (l := (cA8u8 r21.1)) (cs := []) (cv_rfl rfl) rfl bs_nil) hm⟩) (fun hm => ⟨(cA8u8 r21.1), [], rfl, mkA8u8 rfl, rfl⟩) rfl (fun v40 => ?_)
    refine al_nil ?_
    exact fr_fin hK_ v40⟩, ⟨_, rfl, [], rfl, by
    intro X_ Y_ F_ K_ hK_
    refine al_show (m := Mem.plus (memOf w0 Z0 [] [(oBox g22 48 (cA8u8 r21.1)), (oBox g19 28 [(Value.int .i64 u16.Kind), (str u16.Bytes)]), (oRow l10v6 48 tyA8u8 l10x6), (oRow l10v8 28 tyS_api_Blob l10x8)] [(fPtr tyS_api_Blob p18 u16), (fDat (tyList tyS_api_Blob) [v1_0] a1), (fDat (tyList tyS_api_Blob) [v0_0] a0)]) X_ Y_) (S := over (tab [(6, l10v6), (8, l10v8), (10, (ptr g19 0)), (11, (ptr g22 0)), (25, v1_0), (26, (Value.int .i64 (a1.length : Int))), (27, (Value.int .i64 l10i27))]) F_) ?_
    refine al_val (ov_move rfl rfl) ?_
    refine al_nil ?_
    exact fr_fin hK_ ()⟩, ⟨_, rfl, [], rfl, by
    intro X_ Y_ F_ K_ hK_
    refine al_show (m := Mem.plus (memOf w0 Z0 [] [(oBox g22 48 (cA8u8 r21.1)), (oBox g19 28 [(Value.int .i64 u16.Kind), (str u16.Bytes)]), (oRow l10v6 48 tyA8u8 l10x6), (oRow l10v8 28 tyS_api_Blob l10x8)] [(fPtr tyS_api_Blob p18 u16), (fDat (tyList tyS_api_Blob) [v1_0] a1), (fDat (tyList tyS_api_Blob) [v0_0] a0)]) X_ Y_) (S := over (tab [(6, l10v6), (8, l10v8), (10, (ptr g19 0)), (11, (ptr g22 0)), (25, v1_0), (26, (Value.int .i64 (a1.length : Int))), (27, (Value.int .i64 l10i27))]) F_) ?_
    refine al_val (ov_load (i := 1) (v := (ag [(Value.int .i64 u16.Kind), (str u16.Bytes)])) rfl rfl Tryd.underlying28 sz28 rfl rfl rfl rfl) ?_
    refine al_nil ?_
    exact fr_fin hK_ ()⟩, ⟨_, rfl, [4], rfl, by
    intro _
    intro X_ Y_ F_ K_ hK_
    refine al_show (m := Mem.plus (memOf w0 Z0 [] [(oBox g22 48 (cA8u8 r21.1)), (oBox g19 28 [(Value.int .i64 u16.Kind), (str u16.Bytes)]), (oRow l10v6 48 tyA8u8 l10x6), (oRow l10v8 28 tyS_api_Blob l10x8)] [(fPtr tyS_api_Blob p18 u16), (fDat (tyList tyS_api_Blob) [v1_0] a1), (fDat (tyList tyS_api_Blob) [v0_0] a0)]) X_ Y_) (S := over (put (tab [(6, l10v6), (8, l10v8), (10, (ptr g19 0)), (11, (ptr g22 0)), (25, v1_0), (26, (Value.int .i64 (a1.length : Int))), (27, (Value.int .i64 l10i27))]) 64 (ag [(Value.int .i64 u16.Kind), (str u16.Bytes)])) F_) ?_
    refine al_buildSlice (τ := tyS_api_Blob) (e := 28) (k := 1) (sz := 0) (by_ := 0) (z := undef) (cs := [(Value.int .i64 u16.Kind), (str u16.Bytes)]) (xs := [u16]) rfl (by decide) (fun w a hm hs => ⟨([(Value.int .i64 u16.Kind), (str u16.Bytes)]).toArray, rfl, by simp only [List.map_toArray, List.map_cons, List.map_nil, hs.ev (x := .tmp 64) rfl]; exact run_bs [(ag [(Value.int .i64 u16.Kind), (str u16.Bytes)])] [(Value.int .i64 u16.Kind), (str u16.Bytes)] Tryd.underlying22 to28 rfl rfl (bs_cons (l := [(Value.int .i64 u16.Kind), (str u16.Bytes)]) (cs := []) (cv_rfl rfl) rfl bs_nil) hm⟩) (fun hm => ⟨_, _, rfl, (fun _ => mkS_api_Blob rfl) hm, rfl⟩) rfl (fun v41 => ?_)
    refine al_nil ?_
    exact fr_fin hK_ v41⟩, trivial⟩ ?_
                  intro _
                  intro _
                  intro v40
                  intro X_ Y_ F_ K_ hK_
                  refine al_show (m := Mem.plus (memOf w0 Z0 [] [(oRow v40 48 tyA8u8 [r21.1]), (oBox g22 48 (cA8u8 r21.1)), (oBox g19 28 [(Value.int .i64 u16.Kind), (str u16.Bytes)]), (oRow l10v6 48 tyA8u8 l10x6), (oRow l10v8 28 tyS_api_Blob l10x8)] [(fPtr tyS_api_Blob p18 u16), (fDat (tyList tyS_api_Blob) [v1_0] a1), (fDat (tyList tyS_api_Blob) [v0_0] a0)]) X_ Y_) (S := over (put (put (put (tab [(6, l10v6), (8, l10v8), (10, (ptr g19 0)), (11, (ptr g22 0)), (25, v1_0), (26, (Value.int .i64 (a1.length : Int))), (27, (Value.int .i64 l10i27))]) 59 l10v6) 60 (ag (cA8u8 r21.1))) 61 v40) F_) ?_
                  obtain ⟨hc42, h⟩ := req_some h
                  refine al_append 3 hc42.1 hc42.2 rfl (src_own (i := 3) 0 rfl) rfl rfl Tryd.underlying53 to48 rfl rfl rfl (fun v43 => ?_)
                  refine al_nil ?_
                  refine aq_show (m := Mem.plus (memOf w0 Z0 [] [(oRow v40 48 tyA8u8 [r21.1]), (oBox g22 48 (cA8u8 r21.1)), (oBox g19 28 [(Value.int .i64 u16.Kind), (str u16.Bytes)]), (oRow v43 48 tyA8u8 (l10x6 ++ ([r21.1]))), (oRow l10v8 28 tyS_api_Blob l10x8)] [(fPtr tyS_api_Blob p18 u16), (fDat (tyList tyS_api_Blob) [v1_0] a1), (fDat (tyList tyS_api_Blob) [v0_0] a0)]) X_ Y_) ?_
                  refine aq_next hK_ [0, 1, 2, 3, 4] [0, 1, 2] [(6, l10v6), (8, l10v8), (10, (ptr g19 0)), (25, v1_0), (26, (Value.int .i64 (a1.length : Int))), (27, (Value.int .i64 l10i27)), (62, v43)] [63, 64, 65] [] rfl rfl (by decide) rfl ⟨rfl, rfl, rfl, rfl, rfl, rfl, rfl, trivial⟩ ⟨rfl, rfl, rfl, trivial⟩ ?_
                  clear hK_ K_ F_ X_ Y_
                  refine ta_show (m := (memOf w0 Z0 [] [(oRow v40 48 tyA8u8 [r21.1]), (oBox g22 48 (cA8u8 r21.1)), (oBox g19 28 [(Value.int .i64 u16.Kind), (str u16.Bytes)]), (oRow v43 48 tyA8u8 (l10x6 ++ ([r21.1]))), (oRow l10v8 28 tyS_api_Blob l10x8)] [(fPtr tyS_api_Blob p18 u16), (fDat (tyList tyS_api_Blob) [v1_0] a1), (fDat (tyList tyS_api_Blob) [v0_0] a0)])) (S := (tab [(6, l10v6), (8, l10v8), (10, (ptr g19 0)), (25, v1_0), (26, (Value.int .i64 (a1.length : Int))), (27, (Value.int .i64 l10i27)), (62, v43)])) ?_
                  refine ta_step 7 _ [4, 5, 6] [63, 64, 65] [4, 5, 6] [] [⟨4, 63, Unit, fun _ => { val := l10v8 }⟩, ⟨5, 64, Unit, fun _ => { val := (ag [(Value.int .i64 u16.Kind), (str u16.Bytes)]) }⟩, ⟨6, 65, Value, fun (i : Value) => { val := i, own := [(oRow i 28 tyS_api_Blob [u16])] }⟩] [] rfl rfl rfl (by kernel_rfl) rfl rfl rfl ⟨⟨_, rfl, [], rfl, by
    intro X_ Y_ F_ K_ hK_
    refine al_show (m := Mem.plus (memOf w0 Z0 [] [(oRow v40 48 tyA8u8 [r21.1]), (oBox g22 48 (cA8u8 r21.1)), (oBox g19 28 [(Value.int .i64 u16.Kind), (str u16.Bytes)]), (oRow v43 48 tyA8u8 (l10x6 ++ ([r21.1]))), (oRow l10v8 28 tyS_api_Blob l10x8)] [(fPtr tyS_api_Blob p18 u16), (fDat (tyList tyS_api_Blob) [v1_0] a1), (fDat (tyList tyS_api_Blob) [v0_0] a0)]) X_ Y_) (S := over (tab [(6, l10v6), (8, l10v8), (10, (ptr g19 0)), (25, v1_0), (26, (Value.int .i64 (a1.length : Int))), (27, (Value.int .i64 l10i27)), (62, v43)]) F_) ?_
    refine al_val (ov_move rfl rfl) ?_
    refine al_nil ?_
    exact fr_fin hK_ ()⟩, ⟨_, rfl, [], rfl, by
    intro X_ Y_ F_ K_ hK_
    refine al_show (m := Mem.plus (memOf w0 Z0 [] [(oRow v40 48 tyA8u8 [r21.1]), (oBox g22 48 (cA8u8 r21.1)), (oBox g19 28 [(Value.int .i64 u16.Kind), (str u16.Bytes)]), (oRow v43 48 tyA8u8 (l10x6 ++ ([r21.1]))), (oRow l10v8 28 tyS_api_Blob l10x8)] [(fPtr tyS_api_Blob p18 u16), (fDat (tyList tyS_api_Blob) [v1_0] a1), (fDat (tyList tyS_api_Blob) [v0_0] a0)]) X_ Y_) (S := over (tab [(6, l10v6), (8, l10v8), (10, (ptr g19 0)), (25, v1_0), (26, (Value.int .i64 (a1.length : Int))), (27, (Value.int .i64 l10i27)), (62, v43)]) F_) ?_
    refine al_val (ov_load (i := 2) (v := (ag [(Value.int .i64 u16.Kind), (str u16.Bytes)])) rfl rfl Tryd.underlying28 sz28 rfl rfl rfl rfl) ?_
    refine al_nil ?_
    exact fr_fin hK_ ()⟩, ⟨_, rfl, [1], rfl, by
    intro _
    intro X_ Y_ F_ K_ hK_
    refine al_show (m := Mem.plus (memOf w0 Z0 [] [(oRow v40 48 tyA8u8 [r21.1]), (oBox g22 48 (cA8u8 r21.1)), (oBox g19 28 [(Value.int .i64 u16.Kind), (str u16.Bytes)]), (oRow v43 48 tyA8u8 (l10x6 ++ ([r21.1]))), (oRow l10v8 28 tyS_api_Blob l10x8)] [(fPtr tyS_api_Blob p18 u16), (fDat (tyList tyS_api_Blob) [v1_0] a1), (fDat (tyList tyS_api_Blob) [v0_0] a0)]) X_ Y_) (S := over (put (tab [(6, l10v6), (8, l10v8), (10, (ptr g19 0)), (25, v1_0), (26, (Value.int .i64 (a1.length : Int))), (27, (Value.int .i64 l10i27)), (62, v43)]) 64 (ag [(Value.int .i64 u16.Kind), (str u16.Bytes)])) F_) ?_
    refine al_buildSlice (τ := tyS_api_Blob) (e := 28) (k := 1) (sz := 0) (by_ := 0) (z := undef) (cs := [(Value.int .i64 u16.Kind), (str u16.Bytes)]) (xs := [u16]) rfl (by decide) (fun w a hm hs => ⟨([(Value.int .i64 u16.Kind), (str u16.Bytes)]).toArray, rfl, by simp only [List.map_toArray, List.map_cons, List.map_nil, hs.ev (x := .tmp 64) rfl]; exact run_bs [(ag [(Value.int .i64 u16.Kind), (str u16.Bytes)])] [(Value.int .i64 u16.Kind), (str u16.Bytes)] Tryd.underlying22 to28 rfl rfl (bs_cons (l := [(Value.int .i64 u16.Kind), (str u16.Bytes)]) (cs := []) (cv_rfl rfl) rfl bs_nil) hm⟩) (fun hm => ⟨_, _, rfl, (fun _ => mkS_api_Blob rfl) hm, rfl⟩) rfl (fun v41 => ?_)
    refine al_nil ?_
    exact fr_fin hK_ v41⟩, trivial⟩ ?_
                  intro _
                  intro _
                  intro v41
                  intro X_ Y_ F_ K_ hK_
                  refine al_show (m := Mem.plus (memOf w0 Z0 [] [(oRow v41 28 tyS_api_Blob [u16]), (oRow v40 48 tyA8u8 [r21.1]), (oBox g22 48 (cA8u8 r21.1)), (oBox g19 28 [(Value.int .i64 u16.Kind), (str u16.Bytes)]), (oRow v43 48 tyA8u8 (l10x6 ++ ([r21.1]))), (oRow l10v8 28 tyS_api_Blob l10x8)] [(fPtr tyS_api_Blob p18 u16), (fDat (tyList tyS_api_Blob) [v1_0] a1), (fDat (tyList tyS_api_Blob) [v0_0] a0)]) X_ Y_) (S := over (put (put (put (tab [(6, l10v6), (8, l10v8), (10, (ptr g19 0)), (25, v1_0), (26, (Value.int .i64 (a1.length : Int))), (27, (Value.int .i64 l10i27)), (62, v43)]) 63 l10v8) 64 (ag [(Value.int .i64 u16.Kind), (str u16.Bytes)])) 65 v41) F_) ?_
                  obtain ⟨hc44, h⟩ := req_some h
                  refine al_append 5 hc44.1 hc44.2 rfl (src_own (i := 5) 0 rfl) rfl rfl Tryd.underlying22 to28 rfl rfl rfl (fun v45 => ?_)
                  refine al_nil ?_
                  refine aq_show (m := Mem.plus (memOf w0 Z0 [] [(oRow v41 28 tyS_api_Blob [u16]), (oRow v40 48 tyA8u8 [r21.1]), (oBox g22 48 (cA8u8 r21.1)), (oBox g19 28 [(Value.int .i64 u16.Kind), (str u16.Bytes)]), (oRow v43 48 tyA8u8 (l10x6 ++ ([r21.1]))), (oRow v45 28 tyS_api_Blob (l10x8 ++ ([u16])))] [(fPtr tyS_api_Blob p18 u16), (fDat (tyList tyS_api_Blob) [v1_0] a1), (fDat (tyList tyS_api_Blob) [v0_0] a0)]) X_ Y_) ?_
                  refine aq_next hK_ [0, 1, 2, 3, 4, 5] [0, 1, 2] [(6, l10v6), (8, l10v8), (25, v1_0), (26, (Value.int .i64 (a1.length : Int))), (27, (Value.int .i64 l10i27)), (62, v43), (66, v45)] [] [] rfl rfl (by decide) rfl ⟨rfl, rfl, rfl, rfl, rfl, rfl, rfl, trivial⟩ trivial ?_
                  clear hK_ K_ F_ X_ Y_
                  refine ta_show (m := (memOf w0 Z0 [] [(oRow v41 28 tyS_api_Blob [u16]), (oRow v40 48 tyA8u8 [r21.1]), (oBox g22 48 (cA8u8 r21.1)), (oBox g19 28 [(Value.int .i64 u16.Kind), (str u16.Bytes)]), (oRow v43 48 tyA8u8 (l10x6 ++ ([r21.1]))), (oRow v45 28 tyS_api_Blob (l10x8 ++ ([u16])))] [(fPtr tyS_api_Blob p18 u16), (fDat (tyList tyS_api_Blob) [v1_0] a1), (fDat (tyList tyS_api_Blob) [v0_0] a0)])) (S := (tab [(6, l10v6), (8, l10v8), (25, v1_0), (26, (Value.int .i64 (a1.length : Int))), (27, (Value.int .i64 l10i27)), (62, v43), (66, v45)])) ?_
                  refine ta_step 8 _ [] [] [] [] [] [] rfl rfl rfl (by kernel_rfl) rfl rfl rfl trivial ?_
                  intro X_ Y_ F_ K_ hK_
                  refine al_show (m := Mem.plus (memOf w0 Z0 [] [(oRow v41 28 tyS_api_Blob [u16]), (oRow v40 48 tyA8u8 [r21.1]), (oBox g22 48 (cA8u8 r21.1)), (oBox g19 28 [(Value.int .i64 u16.Kind), (str u16.Bytes)]), (oRow v43 48 tyA8u8 (l10x6 ++ ([r21.1]))), (oRow v45 28 tyS_api_Blob (l10x8 ++ ([u16])))] [(fPtr tyS_api_Blob p18 u16), (fDat (tyList tyS_api_Blob) [v1_0] a1), (fDat (tyList tyS_api_Blob) [v0_0] a0)]) X_ Y_) (S := over (tab [(6, l10v6), (8, l10v8), (25, v1_0), (26, (Value.int .i64 (a1.length : Int))), (27, (Value.int .i64 l10i27)), (62, v43), (66, v45)]) F_) ?_
                  refine al_val (ov_assign rfl rfl) ?_
                  refine al_nil ?_
                  refine aq_show (m := Mem.plus (memOf w0 Z0 [] [(oRow v41 28 tyS_api_Blob [u16]), (oRow v40 48 tyA8u8 [r21.1]), (oBox g22 48 (cA8u8 r21.1)), (oBox g19 28 [(Value.int .i64 u16.Kind), (str u16.Bytes)]), (oRow v43 48 tyA8u8 (l10x6 ++ ([r21.1]))), (oRow v45 28 tyS_api_Blob (l10x8 ++ ([u16])))] [(fPtr tyS_api_Blob p18 u16), (fDat (tyList tyS_api_Blob) [v1_0] a1), (fDat (tyList tyS_api_Blob) [v0_0] a0)]) X_ Y_) ?_
                  refine aq_next hK_ [0, 1, 2, 3, 4, 5] [0, 1, 2] [(6, v43), (8, l10v8), (25, v1_0), (26, (Value.int .i64 (a1.length : Int))), (27, (Value.int .i64 l10i27)), (66, v45)] [] [] rfl rfl (by decide) rfl ⟨rfl, rfl, rfl, rfl, rfl, rfl, trivial⟩ trivial ?_
                  clear hK_ K_ F_ X_ Y_
                  refine ta_show (m := (memOf w0 Z0 [] [(oRow v41 28 tyS_api_Blob [u16]), (oRow v40 48 tyA8u8 [r21.1]), (oBox g22 48 (cA8u8 r21.1)), (oBox g19 28 [(Value.int .i64 u16.Kind), (str u16.Bytes)]), (oRow v43 48 tyA8u8 (l10x6 ++ ([r21.1]))), (oRow v45 28 tyS_api_Blob (l10x8 ++ ([u16])))] [(fPtr tyS_api_Blob p18 u16), (fDat (tyList tyS_api_Blob) [v1_0] a1), (fDat (tyList tyS_api_Blob) [v0_0] a0)])) (S := (tab [(6, v43), (8, l10v8), (25, v1_0), (26, (Value.int .i64 (a1.length : Int))), (27, (Value.int .i64 l10i27)), (66, v45)])) ?_
                  refine ta_step 9 _ [] [] [] [] [] [] rfl rfl rfl (by kernel_rfl) rfl rfl rfl trivial ?_
                  intro X_ Y_ F_ K_ hK_
                  refine al_show (m := Mem.plus (memOf w0 Z0 [] [(oRow v41 28 tyS_api_Blob [u16]), (oRow v40 48 tyA8u8 [r21.1]), (oBox g22 48 (cA8u8 r21.1)), (oBox g19 28 [(Value.int .i64 u16.Kind), (str u16.Bytes)]), (oRow v43 48 tyA8u8 (l10x6 ++ ([r21.1]))), (oRow v45 28 tyS_api_Blob (l10x8 ++ ([u16])))] [(fPtr tyS_api_Blob p18 u16), (fDat (tyList tyS_api_Blob) [v1_0] a1), (fDat (tyList tyS_api_Blob) [v0_0] a0)]) X_ Y_) (S := over (tab [(6, v43), (8, l10v8), (25, v1_0), (26, (Value.int .i64 (a1.length : Int))), (27, (Value.int .i64 l10i27)), (66, v45)]) F_) ?_
                  refine al_val (ov_assign rfl rfl) ?_
                  refine al_nil ?_
                  refine aq_show (m := Mem.plus (memOf w0 Z0 [] [(oRow v41 28 tyS_api_Blob [u16]), (oRow v40 48 tyA8u8 [r21.1]), (oBox g22 48 (cA8u8 r21.1)), (oBox g19 28 [(Value.int .i64 u16.Kind), (str u16.Bytes)]), (oRow v43 48 tyA8u8 (l10x6 ++ ([r21.1]))), (oRow v45 28 tyS_api_Blob (l10x8 ++ ([u16])))] [(fPtr tyS_api_Blob p18 u16), (fDat (tyList tyS_api_Blob) [v1_0] a1), (fDat (tyList tyS_api_Blob) [v0_0] a0)]) X_ Y_) ?_
                  refine aq_next hK_ [0, 1, 2, 3, 4, 5] [0, 1, 2] [(6, v43), (8, v45), (25, v1_0), (26, (Value.int .i64 (a1.length : Int))), (27, (Value.int .i64 l10i27))] [] [] rfl rfl (by decide) rfl ⟨rfl, rfl, rfl, rfl, rfl, trivial⟩ trivial ?_
                  clear hK_ K_ F_ X_ Y_
                  refine ta_show (m := (memOf w0 Z0 [] [(oRow v41 28 tyS_api_Blob [u16]), (oRow v40 48 tyA8u8 [r21.1]), (oBox g22 48 (cA8u8 r21.1)), (oBox g19 28 [(Value.int .i64 u16.Kind), (str u16.Bytes)]), (oRow v43 48 tyA8u8 (l10x6 ++ ([r21.1]))), (oRow v45 28 tyS_api_Blob (l10x8 ++ ([u16])))] [(fPtr tyS_api_Blob p18 u16), (fDat (tyList tyS_api_Blob) [v1_0] a1), (fDat (tyList tyS_api_Blob) [v0_0] a0)])) (S := (tab [(6, v43), (8, v45), (25, v1_0), (26, (Value.int .i64 (a1.length : Int))), (27, (Value.int .i64 l10i27))])) ?_
                  refine ta_end [] [] rfl rfl (by kernel_rfl) rfl trivial ?_
                  refine aq_show (m := (memOf w0 Z0 [] [(oRow v41 28 tyS_api_Blob [u16]), (oRow v40 48 tyA8u8 [r21.1]), (oBox g22 48 (cA8u8 r21.1)), (oBox g19 28 [(Value.int .i64 u16.Kind), (str u16.Bytes)]), (oRow v43 48 tyA8u8 (l10x6 ++ ([r21.1]))), (oRow v45 28 tyS_api_Blob (l10x8 ++ ([u16])))] [(fPtr tyS_api_Blob p18 u16), (fDat (tyList tyS_api_Blob) [v1_0] a1), (fDat (tyList tyS_api_Blob) [v0_0] a0)])) (S := (tab [(6, v43), (8, v45), (25, v1_0), (26, (Value.int .i64 (a1.length : Int))), (27, (Value.int .i64 l10i27))])) ?_
                  refine aq_block ?_
                  exact aq_join (v43, (l10x6 ++ ([r21.1])), v45, (l10x8 ++ ([u16]))) h (fun w a hm hs => norm hm hs [4, 5] [1, 2] [(6, v43), (8, v45), (25, v1_0), (26, (Value.int .i64 (a1.length : Int))), (27, (Value.int .i64 l10i27))] (by decide) ⟨rfl, rfl, rfl, rfl, rfl, trivial⟩)
      · replace h := bif_f hb13 h
        refine aw_exit ?_
        refine aq_then_exit ?_
        refine aq_then_exit ?_
        refine aq_block_exit ?_
        exact aq_join (l10v8, l10x8) h (fun w a hm hs => norm hm hs [1] [1, 0] [(8, l10v8)] (by decide) ⟨rfl, trivial⟩)
def f_slices_Equal___api_Blob_api_Blob__L6 (a0 : (List S_api_Blob)) (a1 : (List S_api_Blob)) (kk3 : (Unit → Option Bool)) : Nat → Int → Option Bool
  | 0, _ => none
  | k5 + 1, l4i13 => (bif (decide (l4i13 < (a0.length : Int))) then (opt (at? a0 l4i13) fun (u8 : S_api_Blob) => (opt (at? a1 l4i13) fun (u11 : S_api_Blob) => (req ((Lit.int .i64 u8.Kind).wf = true) (req (u8.Bytes.length ≤ 9223372036854775807) (req ((Lit.int .i64 u11.Kind).wf = true) (req (u11.Bytes.length ≤ 9223372036854775807) (bif (!(u8 == u11)) then (some false) else (f_slices_Equal___api_Blob_api_Blob__L6 a0 a1 kk3 k5 (IntKind.i64.wrap (l4i13 + (1 : Int))))))))))) else (kk3 ()))
def f_slices_Equal___api_Blob_api_Blob_ (fu : Nat) (a0 : (List S_api_Blob)) (a1 : (List S_api_Blob)) : Option Bool := (bif ((a0.length : Int) != (a1.length : Int)) then (some false) else (lt (fun (_ : Unit) => (some true)) fun (kk3 : Unit → Option Bool) => (f_slices_Equal___api_Blob_api_Blob__L6 a0 a1 kk3 fu (0 : Int))))
set_option maxRecDepth 100000 in
theorem f_slices_Equal___api_Blob_api_Blob__ok (fu : Nat) (v0_0 : Value) (a0 : (List S_api_Blob)) (v1_0 : Value) (a1 : (List S_api_Blob)) {r : Bool} (h : f_slices_Equal___api_Blob_api_Blob_ fu a0 a1 = some r) : FnOk Tryd.prog 8 [v0_0, v1_0] [(fDat (tyList tyS_api_Blob) [v0_0] a0), (fDat (tyList tyS_api_Blob) [v1_0] a1)] [] (fun (i : Unit) => { val := (Value.bool r) }) := by
  unfold f_slices_Equal___api_Blob_api_Blob_ at h
  refine fn_enter Tryd.func8 rfl Tryd.ntmps8 rfl (fun w0 Z0 => ?_)
  refine aw_seq ?_
  refine aw_region ?_
  refine al_val (ov_assign rfl rfl) ?_
  refine al_nil ?_
  refine aq_then ?_
  refine aw_seq ?_
  refine aw_seq ?_
  refine aw_region ?_
  refine al_val (ov_move rfl rfl) ?_
  refine al_val (ov_lenD 0 rfl rfl Tryd.underlying22 rfl) ?_
  refine al_val (ov_move rfl rfl) ?_
  refine al_val (ov_lenD 1 rfl rfl Tryd.underlying22 rfl) ?_
  refine al_val (ov_int rfl rfl rfl rfl) ?_
  refine al_nil ?_
  refine aq_then ?_
  refine aw_cond rfl (fun hb1 => ?_) (fun hb1 => ?_)
  · replace h := bif_t hb1 h
    refine aw_seq ?_
    refine aw_region ?_
    refine al_val (ov_assign rfl rfl) ?_
    refine al_nil ?_
    refine aq_then ?_
    refine aw_ret ?_
    refine aq_then_ret ?_
    obtain rfl := Option.some.inj h
    exact fn_ret () [] [] rfl rfl rfl rfl (res1 rfl rfl) rfl rfl rfl (by decide)
  · replace h := bif_f hb1 h
    refine aw_skip ?_
    refine aq_then ?_
    obtain ⟨kk3, hkk3, h⟩ := lt_some h
    refine aw_seq_join (ι := Unit) (fun i => (memOf w0 Z0 [] [] [(fDat (tyList tyS_api_Blob) [v0_0] a0), (fDat (tyList tyS_api_Blob) [v1_0] a1)])) (fun i => (tab [])) (fun i => kk3 () = some r) ?_ ?_
    · rintro _ h
      have h : kk3 () = some r := h
      rw [hkk3] at h
      dsimp only at h
      clear hkk3
      refine aw_show (m := (memOf w0 Z0 [] [] [(fDat (tyList tyS_api_Blob) [v0_0] a0), (fDat (tyList tyS_api_Blob) [v1_0] a1)])) (S := (tab [])) ?_
      refine aw_seq ?_
      refine aw_region ?_
      refine al_val (ov_assign rfl rfl) ?_
      refine al_nil ?_
      refine aq_then ?_
      refine aw_ret ?_
      obtain rfl := Option.some.inj h
      exact fn_ret () [] [] rfl rfl rfl rfl (res1 rfl rfl) rfl rfl rfl (by decide)
    · clear hkk3
      refine aw_seq ?_
      refine aw_region ?_
      refine al_val (ov_move rfl rfl) ?_
      refine al_val (ov_lenD 0 rfl rfl Tryd.underlying22 rfl) ?_
      refine al_val (ov_move rfl rfl) ?_
      refine al_nil ?_
      refine aq_then ?_
      refine aw_block ?_
      refine aw_state (aw_loop (ι := Int) (fun i => (memOf w0 Z0 [] [] [(fDat (tyList tyS_api_Blob) [v0_0] a0), (fDat (tyList tyS_api_Blob) [v1_0] a1)])) (fun i => (tab [(0, v0_0), (1, v1_0), (12, (Value.int .i64 (a0.length : Int))), (13, (Value.int .i64 i))])) (fun q i => f_slices_Equal___api_Blob_api_Blob__L6 a0 a1 kk3 q i = some r) ?_ fu (0 : Int) h) (fun w a hm hs => norm hm hs [] [0, 1] [(0, v0_0), (1, v1_0), (12, (Value.int .i64 (a0.length : Int))), (13, (Value.int .i64 (0 : Int)))] (by decide) ⟨rfl, rfl, rfl, rfl, trivial⟩)
      clear h
      rintro k5 l4i13 h
      have h : f_slices_Equal___api_Blob_api_Blob__L6 a0 a1 kk3 k5 l4i13 = some r := h
      obtain _ | k5 := k5
      · rw [f_slices_Equal___api_Blob_api_Blob__L6] at h; cases h
      rw [f_slices_Equal___api_Blob_api_Blob__L6] at h
      refine aw_show (m := (memOf w0 Z0 [] [] [(fDat (tyList tyS_api_Blob) [v0_0] a0), (fDat (tyList tyS_api_Blob) [v1_0] a1)])) (S := (tab [(0, v0_0), (1, v1_0), (12, (Value.int .i64 (a0.length : Int))), (13, (Value.int .i64 l4i13))])) ?_
      refine aw_seq ?_
      refine aw_region ?_
      refine al_val (ov_int rfl rfl rfl rfl) ?_
      refine al_nil ?_
      refine aq_then ?_
      refine aw_seq ?_
      refine aw_cond rfl (fun hb7 => ?_) (fun hb7 => ?_)
      · replace h := bif_t hb7 h
        refine aw_skip ?_
        refine aq_then ?_
        refine aw_seq ?_
        refine aw_block ?_
        refine aw_seq ?_
        refine aw_region ?_
        refine al_val (ov_move rfl rfl) ?_
        refine al_val (ov_assign rfl rfl) ?_
        refine al_nil ?_
        refine aq_then ?_
        refine aw_seq ?_
        obtain ⟨u8, hu9, h⟩ := opt_some h
        obtain ⟨u11, hu12, h⟩ := opt_some h
        refine aw_region_draw 8 [(16, (fun u => fEq u v0_0)), (17, (fun u => fEq u (Value.int .i64 l4i13))), (18, (fun p10 => (fPtr tyS_api_Blob p10 u8))), (19, (fun u => fEq u (ag [(Value.int .i64 u8.Kind), (str u8.Bytes)]))), (20, (fun u => fEq u v1_0)), (21, (fun u => fEq u (Value.int .i64 l4i13))), (22, (fun p13 => (fPtr tyS_api_Blob p13 u11))), (23, (fun u => fEq u (ag [(Value.int .i64 u11.Kind), (str u11.Bytes)])))] (tab [(0, v0_0), (1, v1_0), (5, (Value.int .i64 l4i13)), (12, (Value.int .i64 (a0.length : Int))), (13, (Value.int .i64 l4i13))]) mixed (by kernel_rfl) rfl rfl rfl (fun a hs => hs.tab _ (allT_mem ⟨rfl, rfl, rfl, rfl, rfl, trivial⟩)) ⟨⟨rfl, ld_val (ov_move rfl rfl)⟩, ⟨rfl, ld_val (ov_move rfl rfl)⟩, ⟨rfl, ld_eq (j := 0) rfl rfl (ld_eq (j := 1) rfl rfl (ld_of (of_idxD 0 hu9 rfl rfl rfl Tryd.underlying22 sz28 rfl)))⟩, ⟨rfl, ld_fact (j := 2) rfl rfl (fun p10 => ld_val (ov_loadP (ds := [(Value.int .i64 u8.Kind), (str u8.Bytes)]) 0 rfl encS_api_Blob rfl Tryd.underlying28 sz28 rfl rfl rfl))⟩, ⟨rfl, ld_val (ov_move rfl rfl)⟩, ⟨rfl, ld_val (ov_move rfl rfl)⟩, ⟨rfl, ld_eq (j := 4) rfl rfl (ld_eq (j := 5) rfl rfl (ld_of (of_idxD 1 hu12 rfl rfl rfl Tryd.underlying22 sz28 rfl)))⟩, ⟨rfl, ld_fact (j := 6) rfl rfl (fun p13 => ld_val (ov_loadP (ds := [(Value.int .i64 u11.Kind), (str u11.Bytes)]) 0 rfl encS_api_Blob rfl Tryd.underlying28 sz28 rfl rfl rfl))⟩, trivial⟩ ?_
        refine tl_eq 3 rfl ?_
        refine tl_eq 7 rfl ?_
        refine tl_done ?_
        obtain ⟨hc14, h⟩ := req_some h
        obtain ⟨hc15, h⟩ := req_some h
        obtain ⟨hc16, h⟩ := req_some h
        obtain ⟨hc17, h⟩ := req_some h
        refine al_val (ov_neqA (cs := [(Value.int .i64 u8.Kind), (str u8.Bytes)]) (ds := [(Value.int .i64 u11.Kind), (str u11.Bytes)]) (ls := [3, 9]) (p := (u8 == u11)) eg28 kt28 lv28 rfl rfl (by kernel_rfl) (by kernel_rfl) (fit_cons (fit_int Tryd.underlying3 hc14) (fit_cons (fit_str Tryd.underlying9 hc15) fit_nil)) (fit_cons (fit_int Tryd.underlying3 hc16) (fit_cons (fit_str Tryd.underlying9 hc17) fit_nil)) (injS_api_Blob (x := u8) (y := u11)) rfl) ?_
        refine al_nil ?_
        refine aq_then ?_
        refine aw_cond rfl (fun hb18 => ?_) (fun hb18 => ?_)
        · replace h := bif_t hb18 h
          refine aw_seq ?_
          refine aw_region ?_
          refine al_val (ov_assign rfl rfl) ?_
          refine al_nil ?_
          refine aq_then ?_
          refine aw_ret ?_
          refine aq_block_ret ?_
          refine aq_then_ret ?_
          refine aq_then_ret ?_
          refine aq_block_ret ?_
          refine aq_then_ret ?_
          obtain rfl := Option.some.inj h
          exact fn_ret () [] [] rfl rfl rfl rfl (res1 rfl rfl) rfl rfl rfl (by decide)
        · replace h := bif_f hb18 h
          refine aw_skip ?_
          refine aq_block ?_
          refine aq_then ?_
          refine aw_region ?_
          refine al_val (ov_int rfl rfl rfl rfl) ?_
          refine al_val (ov_move rfl rfl) ?_
          refine al_nil ?_
          exact aq_again k5 (IntKind.i64.wrap (l4i13 + (1 : Int))) (Nat.lt_succ_self _) h (fun w a hm hs => norm hm hs [] [0, 1] [(0, v0_0), (1, v1_0), (12, (Value.int .i64 (a0.length : Int))), (13, (Value.int .i64 (IntKind.i64.wrap (l4i13 + (1 : Int)))))] (by decide) ⟨rfl, rfl, rfl, rfl, trivial⟩)
      · replace h := bif_f hb7 h
        refine aw_exit ?_
        refine aq_then_exit ?_
        refine aq_then_exit ?_
        refine aq_block_exit ?_
        exact aq_join () h (fun w a hm hs => norm hm hs [] [0, 1] [] (by decide) trivial)
def f_lumlaw_FetchInto (fu : Nat) (a0 : (List S_api_Blob)) (a1 : (List S_api_Blob)) : Option Bool := (opt (f_fetch_Into fu a0 a1) fun (r2 : ((List S_api_Blob) × Int)) => (opt (f_lumref_Into fu a0 a1) fun (r5 : ((List S_api_Blob) × Int)) => (lt (fun (j7b4 : Bool) => (some j7b4)) fun (kk8 : Bool → Option Bool) => (opt (f_slices_Equal___api_Blob_api_Blob_ fu r2.1 r5.1) fun (r10 : Bool) => (bif r10 then (kk8 (r2.2 == r5.2)) else (kk8 false))))))
set_option maxRecDepth 100000 in
theorem f_lumlaw_FetchInto_ok (fu : Nat) (v0_0 : Value) (a0 : (List S_api_Blob)) (v1_0 : Value) (a1 : (List S_api_Blob)) {r : Bool} (h : f_lumlaw_FetchInto fu a0 a1 = some r) : FnOk Tryd.prog 3 [v0_0, v1_0] [(fDat (tyList tyS_api_Blob) [v0_0] a0), (fDat (tyList tyS_api_Blob) [v1_0] a1), uTabs] [] (fun (i : Unit) => { val := (Value.bool r) }) := by
  unfold f_lumlaw_FetchInto at h
  refine fn_enter Tryd.func3 rfl Tryd.ntmps3 rfl (fun w0 Z0 => ?_)
  refine aw_seq ?_
  refine aw_region ?_
  refine al_val (ov_assign rfl rfl) ?_
  refine al_nil ?_
  refine aq_then ?_
  refine aw_seq ?_
  refine aw_region ?_
  refine al_val (ov_move rfl rfl) ?_
  refine al_val (ov_move rfl rfl) ?_
  obtain ⟨r2, hc1, h⟩ := opt_some h
  refine al_call (vs := [v0_0, v1_0]) (f_fetch_Into_ok fu v0_0 a0 v1_0 a1 hc1) [] [] [] (pre_fz 0 rfl (pre_fz 1 rfl (pre_fz 2 rfl pre_nil))) rfl (by simp) (by decide) (.inl rfl) rfl Tryd.func6 rfl rfl rfl (fun v3 => ?_)
  refine al_val (ov_move rfl rfl) ?_
  refine al_val (ov_extract rfl rfl rfl) ?_
  refine al_val (ov_extract rfl rfl rfl) ?_
  refine al_val (ov_assign rfl rfl) ?_
  refine al_val (ov_assign rfl rfl) ?_
  refine al_nil ?_
  refine aq_then ?_
  refine aw_seq ?_
  refine aw_region ?_
  refine al_val (ov_move rfl rfl) ?_
  refine al_val (ov_move rfl rfl) ?_
  obtain ⟨r5, hc4, h⟩ := opt_some h
  refine al_call (vs := [v0_0, v1_0]) (f_lumref_Into_ok fu v0_0 a0 v1_0 a1 hc4) [] [] [0] (pre_fz 0 rfl (pre_fz 1 rfl pre_nil)) rfl (by simp) (by decide) (.inl rfl) rfl Tryd.func7 rfl rfl rfl (fun v6 => ?_)
  refine al_val (ov_move rfl rfl) ?_
  refine al_val (ov_extract rfl rfl rfl) ?_
  refine al_val (ov_extract rfl rfl rfl) ?_
  refine al_val (ov_assign rfl rfl) ?_
  refine al_val (ov_assign rfl rfl) ?_
  refine al_nil ?_
  refine aq_then ?_
  obtain ⟨kk8, hkk8, h⟩ := lt_some h
  refine aw_seq_join (ι := Bool) (fun i => (memOf w0 Z0 [] [] [(fDat (tyList tyS_api_Blob) [v0_0] a0), (fDat (tyList tyS_api_Blob) [v1_0] a1), uTabs])) (fun i => (tab [(4, (Value.bool i))])) (fun i => kk8 i = some r) ?_ ?_
  · rintro j7b4 h
    have h : kk8 j7b4 = some r := h
    rw [hkk8] at h
    dsimp only at h
    clear hkk8
    refine aw_show (m := (memOf w0 Z0 [] [] [(fDat (tyList tyS_api_Blob) [v0_0] a0), (fDat (tyList tyS_api_Blob) [v1_0] a1), uTabs])) (S := (tab [(4, (Value.bool j7b4))])) ?_
    refine aw_ret ?_
    obtain rfl := Option.some.inj h
    exact fn_ret () [] [] rfl rfl rfl rfl (res1 rfl rfl) rfl rfl rfl (by decide)
  · clear hkk8
    refine aw_region ?_
    refine al_val (ov_move rfl rfl) ?_
    refine al_val (ov_move rfl rfl) ?_
    obtain ⟨r10, hc9, h⟩ := opt_some h
    refine al_call (vs := [v3, v6]) (f_slices_Equal___api_Blob_api_Blob__ok fu v3 r2.1 v6 r5.1 hc9) [0, 1] [] [0, 1] (pre_own 1 rfl rfl (pre_own 0 rfl rfl pre_nil)) rfl (by simp) (by decide) (.inr flat_res0) rfl Tryd.func8 rfl rfl rfl (fun _ => ?_)
    refine al_val (ov_move rfl rfl) ?_
    refine al_caseB 24 rfl (fun hb11 => ?_) (fun hb11 => ?_)
    · replace h := bif_t hb11 h
      refine al_val (ov_move rfl rfl) ?_
      refine al_val (ov_move rfl rfl) ?_
      refine al_val (ov_int rfl rfl rfl rfl) ?_
      refine al_val (ov_pick_t rfl rfl rfl) ?_
      refine al_val (ov_assign rfl rfl) ?_
      refine al_nil ?_
      exact aq_join (r2.2 == r5.2) h (fun w a hm hs => norm hm hs [] [0, 1, 2] [(4, (Value.bool (r2.2 == r5.2)))] (by decide) ⟨rfl, trivial⟩)
    · replace h := bif_f hb11 h
      refine al_skip ?_
      refine al_skip ?_
      refine al_skip ?_
      refine al_val (ov_pick_f rfl rfl rfl) ?_
      refine al_val (ov_assign rfl rfl) ?_
      refine al_nil ?_
      exact aq_join false h (fun w a hm hs => norm hm hs [] [0, 1, 2] [(4, (Value.bool false))] (by decide) ⟨rfl, trivial⟩)
end Go.Proofs.YtollpgmcmipcoaaDoor
