/- Walks by program. No condition. -/
import Derived.Test.YtjbgahmcobcojaaDoorEn20
import Derived.Test.YtjbgahmcobcojaaDoorChecked
import Derived.Test.YtjbgahmcobcojaaDoorShTrim
import Derived.Test.YtjbgahmcobcojaaDoorShBEApp
import Derived.Test.YtjbgahmcobcojaaDoorWIndexReads_a
namespace Go.Proofs.YtjbgahmcobcojaaDoor
open Go.RowKit YtjbgahmcobcojaaDoor.En
set_option linter.unusedVariables false
set_option linter.unusedSimpArgs false
set_option maxRecDepth 100000 in
theorem f_lumref_IndexRead_ok (fu : Nat) (a0 : (List UInt8)) {r : ((List S_api_Place) × Int)} (h : f_lumref_IndexRead fu a0 = some r) : FnOk Tryd.prog 52 [(str a0)] [] [] (fun (i : Value) => { val := (Value.tuple #[i, (Value.int .i64 r.2)]), own := [(oRow i 84 tyS_api_Place r.1)] }) := by
  unfold f_lumref_IndexRead at h
  refine fn_enter Tryd.func52 rfl Tryd.ntmps52 rfl (fun w0 Z0 => ?_)
  refine aw_seq ?_
  refine aw_region ?_
  refine al_val (ov_assign rfl rfl) ?_
  refine al_val (ov_assign rfl rfl) ?_
  refine al_nil ?_
  refine aq_then ?_
  refine aw_seq ?_
  refine aw_region ?_
  refine al_val (ov_move rfl rfl) ?_
  obtain ⟨r2, hc1, h⟩ := opt_some h
  refine al_call (vs := [(str a0)]) (f_lumref_Get_ok fu a0 hc1) [] [] [] pre_nil rfl (by simp) (by decide) (.inl rfl) rfl Tryd.func59 rfl rfl rfl (fun _ => ?_)
  refine al_val (ov_move rfl rfl) ?_
  refine al_val (ov_extract rfl rfl rfl) ?_
  refine al_val (ov_extract rfl rfl rfl) ?_
  refine al_val (ov_extract rfl rfl rfl) ?_
  refine al_val (ov_assign rfl rfl) ?_
  refine al_val (ov_assign rfl rfl) ?_
  refine al_val (ov_assign rfl rfl) ?_
  refine al_nil ?_
  refine aq_then ?_
  refine aw_seq ?_
  refine aw_seq ?_
  refine aw_region ?_
  refine al_val (ov_move rfl rfl) ?_
  refine al_val (ov_int rfl rfl rfl rfl) ?_
  refine al_nil ?_
  refine aq_then ?_
  refine aw_cond rfl (fun hb3 => ?_) (fun hb3 => ?_)
  · replace h := bif_t hb3 h
    refine aw_seq ?_
    refine aw_region ?_
    refine al_val (ov_move rfl rfl) ?_
    refine al_val (ov_assign rfl rfl) ?_
    refine al_val (ov_assign rfl rfl) ?_
    refine al_nil ?_
    refine aq_then ?_
    refine aw_ret ?_
    refine aq_then_ret ?_
    refine aq_nilR 84 tyS_api_Place ?_
    obtain rfl := Option.some.inj h
    exact fn_ret (Value.slice none 0 0) [0] [] rfl rfl rfl rfl (res2 rfl rfl rfl) rfl rfl rfl (by decide)
  · replace h := bif_f hb3 h
    refine aw_skip ?_
    refine aq_then ?_
    refine aw_seq ?_
    refine aw_seq ?_
    refine aw_region ?_
    refine al_val (ov_move rfl rfl) ?_
    refine al_val (ov_int rfl rfl rfl rfl) ?_
    refine al_nil ?_
    refine aq_then ?_
    refine aw_cond rfl (fun hb4 => ?_) (fun hb4 => ?_)
    · replace h := bif_t hb4 h
      refine aw_seq ?_
      refine aw_region ?_
      refine al_val (ov_assign rfl rfl) ?_
      refine al_val (ov_assign rfl rfl) ?_
      refine al_nil ?_
      refine aq_then ?_
      refine aw_ret ?_
      refine aq_then_ret ?_
      refine aq_nilR 84 tyS_api_Place ?_
      obtain rfl := Option.some.inj h
      exact fn_ret (Value.slice none 0 0) [0] [] rfl rfl rfl rfl (res2 rfl rfl rfl) rfl rfl rfl (by decide)
    · replace h := bif_f hb4 h
      refine aw_skip ?_
      refine aq_then ?_
      refine aw_seq ?_
      refine aw_region ?_
      refine al_val (ov_move rfl rfl) ?_
      refine al_val (ov_move rfl rfl) ?_
      obtain ⟨hc5, h⟩ := req_some h
      refine al_val (ov_strFrom hc5.1 hc5.2 Tryd.underlying9 rfl rfl rfl) ?_
      refine al_val (ov_assign rfl rfl) ?_
      refine al_nil ?_
      refine aq_then ?_
      refine aw_seq ?_
      refine aw_region ?_
      refine al_val (ov_assign rfl rfl) ?_
      refine al_nil ?_
      refine aq_then ?_
      obtain ⟨kk7, hkk7, h⟩ := lt_some h
      refine aw_seq_join (ι := (List UInt8) × Value × (List S_api_Place)) (fun i => (memOf w0 Z0 [] [(oRow i.2.1 84 tyS_api_Place i.2.2)] [])) (fun i => (tab [(0, (str i.1)), (7, i.2.1)])) (fun i => kk7 i.1 i.2.2 = some r) ?_ ?_
      · rintro ⟨j6s0, j6v7, j6x7⟩ h
        have h : kk7 j6s0 j6x7 = some r := h
        rw [hkk7] at h
        dsimp only at h
        clear hkk7
        refine aw_show (m := (memOf w0 Z0 [] [(oRow j6v7 84 tyS_api_Place j6x7)] [])) (S := (tab [(0, (str j6s0)), (7, j6v7)])) ?_
        refine aw_seq ?_
        refine aw_seq ?_
        refine aw_region ?_
        refine al_val (ov_move rfl rfl) ?_
        refine al_val (ov_strLen Tryd.underlying9 rfl rfl) ?_
        refine al_val (ov_int rfl rfl rfl rfl) ?_
        refine al_nil ?_
        refine aq_then ?_
        refine aw_cond rfl (fun hb8 => ?_) (fun hb8 => ?_)
        · replace h := bif_t hb8 h
          refine aw_seq ?_
          refine aw_region ?_
          refine al_val (ov_assign rfl rfl) ?_
          refine al_val (ov_assign rfl rfl) ?_
          refine al_nil ?_
          refine aq_then ?_
          refine aw_ret ?_
          refine aq_then_ret ?_
          refine aq_nilR 84 tyS_api_Place ?_
          obtain rfl := Option.some.inj h
          exact fn_ret (Value.slice none 0 0) [0] [] rfl rfl rfl rfl (res2 rfl rfl rfl) rfl rfl rfl (by decide)
        · replace h := bif_f hb8 h
          refine aw_skip ?_
          refine aq_then ?_
          refine aw_seq ?_
          refine aw_seq ?_
          refine aw_region ?_
          refine al_val (ov_move rfl rfl) ?_
          obtain ⟨r10, hc9, h⟩ := opt_some h
          refine al_call (vs := [j6v7]) (f_lumref_Index_ok fu j6v7 j6x7 hc9) [0] [] [0] (pre_own 0 rfl rfl pre_nil) rfl (by simp) (by decide) (.inr flat_res0) rfl Tryd.func49 rfl rfl rfl (fun _ => ?_)
          refine al_val (ov_assign rfl rfl) ?_
          refine al_nil ?_
          refine aq_then ?_
          refine aw_seq ?_
          refine aw_region ?_
          refine al_val (ov_move rfl rfl) ?_
          refine al_val (ov_int rfl rfl rfl rfl) ?_
          refine al_nil ?_
          refine aq_then ?_
          refine aw_cond rfl (fun hb11 => ?_) (fun hb11 => ?_)
          · replace h := bif_t hb11 h
            refine aw_seq ?_
            refine aw_region ?_
            refine al_val (ov_move rfl rfl) ?_
            refine al_val (ov_assign rfl rfl) ?_
            refine al_val (ov_assign rfl rfl) ?_
            refine al_nil ?_
            refine aq_then ?_
            refine aw_ret ?_
            refine aq_then_ret ?_
            refine aq_nilR 84 tyS_api_Place ?_
            obtain rfl := Option.some.inj h
            exact fn_ret (Value.slice none 0 0) [0] [] rfl rfl rfl rfl (res2 rfl rfl rfl) rfl rfl rfl (by decide)
          · replace h := bif_f hb11 h
            refine aw_skip ?_
            refine aq_then ?_
            refine aw_seq ?_
            refine aw_region ?_
            refine al_val (ov_move rfl rfl) ?_
            refine al_val (ov_assign rfl rfl) ?_
            refine al_val (ov_assign rfl rfl) ?_
            refine al_nil ?_
            refine aq_then ?_
            refine aw_ret ?_
            obtain rfl := Option.some.inj h
            exact fn_ret j6v7 [0] [] rfl rfl rfl rfl (res2 rfl rfl rfl) rfl rfl rfl (by decide)
      · clear hkk7
        refine aw_seq ?_
        refine aw_region ?_
        refine al_val (ov_move rfl rfl) ?_
        refine al_val (ov_move rfl rfl) ?_
        refine al_nil ?_
        refine aq_then ?_
        refine aw_block ?_
        refine aw_nilR 84 tyS_api_Place ?_
        refine aw_state (aw_loop (ι := (List UInt8) × Value × (List S_api_Place) × Int) (fun i => (memOf w0 Z0 [] [(oRow i.2.1 84 tyS_api_Place i.2.2.1)] [])) (fun i => (tab [(0, (str i.1)), (7, i.2.1), (29, (Value.int .u64 r2.1)), (30, (Value.int .u64 i.2.2.2))])) (fun q i => f_lumref_IndexRead_L14 r2 kk7 fu q i.1 i.2.2.1 i.2.2.2 = some r) ?_ fu ((a0.drop (r2.2.1).toNat), (Value.slice none 0 0), ([] : List S_api_Place), (0 : Int)) h) (fun w a hm hs => norm hm hs [0] [] [(0, (str (a0.drop (r2.2.1).toNat))), (7, (Value.slice none 0 0)), (29, (Value.int .u64 r2.1)), (30, (Value.int .u64 (0 : Int)))] (by decide) ⟨rfl, rfl, rfl, rfl, trivial⟩)
        clear h
        rintro k13 ⟨l12s0, l12v7, l12x7, l12i30⟩ h
        have h : f_lumref_IndexRead_L14 r2 kk7 fu k13 l12s0 l12x7 l12i30 = some r := h
        obtain _ | k13 := k13
        · rw [f_lumref_IndexRead_L14] at h; cases h
        rw [f_lumref_IndexRead_L14] at h
        refine aw_show (m := (memOf w0 Z0 [] [(oRow l12v7 84 tyS_api_Place l12x7)] [])) (S := (tab [(0, (str l12s0)), (7, l12v7), (29, (Value.int .u64 r2.1)), (30, (Value.int .u64 l12i30))])) ?_
        obtain ⟨kk15, hkk15, h⟩ := lt_some h
        refine aw_body_join (ι := (List UInt8) × Value × (List S_api_Place) × Int) (fun i => (memOf w0 Z0 [] [(oRow i.2.1 84 tyS_api_Place i.2.2.1)] [])) (fun i => (tab [(0, (str i.1)), (7, i.2.1), (29, (Value.int .u64 r2.1)), (30, (Value.int .u64 i.2.2.2))])) (fun i => kk15 i.1 i.2.2.1 i.2.2.2 = some r) (fun i h => aq_again k13 i (Nat.lt_succ_self _) (by rw [hkk15] at h; exact h) (fun w a hm hs => ⟨hm, hs⟩)) ?_
        clear hkk15
        refine aw_seq ?_
        refine aw_region ?_
        refine al_val (ov_int rfl rfl rfl rfl) ?_
        refine al_nil ?_
        refine aq_then ?_
        refine aw_seq ?_
        refine aw_cond rfl (fun hb16 => ?_) (fun hb16 => ?_)
        · replace h := bif_t hb16 h
          refine aw_skip ?_
          refine aq_then ?_
          obtain ⟨kk18, hkk18, h⟩ := lt_some h
          refine aw_seq_join (ι := (List UInt8) × Value × (List S_api_Place)) (fun i => (memOf w0 Z0 [] [(oRow i.2.1 84 tyS_api_Place i.2.2)] [])) (fun i => (tab [(0, (str i.1)), (7, i.2.1), (29, (Value.int .u64 r2.1)), (30, (Value.int .u64 l12i30))])) (fun i => kk18 i.1 i.2.2 = some r) ?_ ?_
          · rintro ⟨j17s0, j17v7, j17x7⟩ h
            have h : kk18 j17s0 j17x7 = some r := h
            rw [hkk18] at h
            dsimp only at h
            clear hkk18
            refine aw_show (m := (memOf w0 Z0 [] [(oRow j17v7 84 tyS_api_Place j17x7)] [])) (S := (tab [(0, (str j17s0)), (7, j17v7), (29, (Value.int .u64 r2.1)), (30, (Value.int .u64 l12i30))])) ?_
            refine aw_region ?_
            refine al_val (ov_int rfl rfl rfl rfl) ?_
            refine al_val (ov_move rfl rfl) ?_
            refine al_nil ?_
            exact aq_join (j17s0, j17v7, j17x7, (IntKind.u64.wrap (l12i30 + (1 : Int)))) h (fun w a hm hs => norm hm hs [0] [] [(0, (str j17s0)), (7, j17v7), (29, (Value.int .u64 r2.1)), (30, (Value.int .u64 (IntKind.u64.wrap (l12i30 + (1 : Int)))))] (by decide) ⟨rfl, rfl, rfl, rfl, trivial⟩)
          · clear hkk18
            refine aw_block ?_
            refine aw_seq ?_
            refine aw_seq ?_
            refine aw_region ?_
            refine al_val (ov_move rfl rfl) ?_
            refine al_val (ov_strLen Tryd.underlying9 rfl rfl) ?_
            refine al_val (ov_int rfl rfl rfl rfl) ?_
            refine al_nil ?_
            refine aq_then ?_
            refine aw_cond rfl (fun hb19 => ?_) (fun hb19 => ?_)
            · replace h := bif_t hb19 h
              refine aw_seq ?_
              refine aw_region ?_
              refine al_val (ov_assign rfl rfl) ?_
              refine al_val (ov_assign rfl rfl) ?_
              refine al_nil ?_
              refine aq_then ?_
              refine aw_ret ?_
              refine aq_then_ret ?_
              refine aq_block_ret ?_
              refine aq_then_ret ?_
              refine aq_then_ret ?_
              refine aq_block_ret ?_
              refine aq_then_ret ?_
              refine aq_nilR 84 tyS_api_Place ?_
              obtain rfl := Option.some.inj h
              exact fn_ret (Value.slice none 0 0) [0] [] rfl rfl rfl rfl (res2 rfl rfl rfl) rfl rfl rfl (by decide)
            · replace h := bif_f hb19 h
              refine aw_skip ?_
              refine aq_then ?_
              refine aw_seq ?_
              refine aw_region ?_
              refine al_alloc (zs := ((cA8u8 (A8u8.mk (0 : UInt8) (0 : UInt8) (0 : UInt8) (0 : UInt8) (0 : UInt8) (0 : UInt8) (0 : UInt8) (0 : UInt8))) ++ [(Value.int .i64 (0 : Int)), (Value.int .i64 (0 : Int)), (Value.int .i64 (0 : Int)), (Value.int .i64 (0 : Int))])) (zeroOf_to to84) rfl rfl (fun g20 => ?_)
              refine al_nil ?_
              refine aq_then ?_
              refine aw_seq ?_
              refine aw_region ?_
              refine al_val (ov_fieldA (p := 0) rfl Tryd.underlying84 rfl sz49 rfl rfl rfl) ?_
              refine al_val (ov_sliceBox (i := 0) rfl rfl Tryd.underlying49 sz5 rfl) ?_
              refine al_val (ov_move rfl rfl) ?_
              refine al_copyS (i := 0) (cs := ((cA8u8 (A8u8.mk (0 : UInt8) (0 : UInt8) (0 : UInt8) (0 : UInt8) (0 : UInt8) (0 : UInt8) (0 : UInt8) (0 : UInt8))) ++ [(Value.int .i64 (0 : Int)), (Value.int .i64 (0 : Int)), (Value.int .i64 (0 : Int)), (Value.int .i64 (0 : Int))])) (cs' := ((cA8u8 (cpA8u8 (A8u8.mk (0 : UInt8) (0 : UInt8) (0 : UInt8) (0 : UInt8) (0 : UInt8) (0 : UInt8) (0 : UInt8) (0 : UInt8)) l12s0)) ++ [(Value.int .i64 (0 : Int)), (Value.int .i64 (0 : Int)), (Value.int .i64 (0 : Int)), (Value.int .i64 (0 : Int))])) rfl rfl rfl Tryd.underlying89 sz5 rfl (cpcA8u8 (A8u8.mk (0 : UInt8) (0 : UInt8) (0 : UInt8) (0 : UInt8) (0 : UInt8) (0 : UInt8) (0 : UInt8) (0 : UInt8)) l12s0 [] [(Value.int .i64 (0 : Int)), (Value.int .i64 (0 : Int)), (Value.int .i64 (0 : Int)), (Value.int .i64 (0 : Int))]) rfl ?_
              refine al_nil ?_
              refine aq_then ?_
              refine aw_seq ?_
              refine aw_region ?_
              refine al_val (ov_move rfl rfl) ?_
              obtain ⟨hc21, h⟩ := req_some h
              refine al_val (ov_strIdx hc21.1 hc21.2 Tryd.underlying9 rfl rfl rfl) ?_
              refine al_val (ov_convInt (by rw [Tryd.underlying5]; rfl) Tryd.underlying3 rfl rfl) ?_
              refine al_val (ov_fieldA (p := 8) rfl Tryd.underlying84 rfl sz3 rfl rfl rfl) ?_
              refine al_store (i := 0) (vs := [(Value.int .i64 (IntKind.i64.wrap (En.bAt l12s0 (8 : Int))))]) (cs' := ((cA8u8 (cpA8u8 (A8u8.mk (0 : UInt8) (0 : UInt8) (0 : UInt8) (0 : UInt8) (0 : UInt8) (0 : UInt8) (0 : UInt8) (0 : UInt8)) l12s0)) ++ [(Value.int .i64 (IntKind.i64.wrap (En.bAt l12s0 (8 : Int)))), (Value.int .i64 (0 : Int)), (Value.int .i64 (0 : Int)), (Value.int .i64 (0 : Int))])) rfl rfl rfl sz3 (cv_rfl rfl) rfl (co_val rfl co_nil) (Nat.le_of_ble_eq_true rfl) rfl rfl ?_
              refine al_nil ?_
              refine aq_then ?_
              refine aw_seq ?_
              refine aw_region ?_
              refine al_val (ov_move rfl rfl) ?_
              obtain ⟨hc22, h⟩ := req_some h
              refine al_val (ov_strFrom hc22.1 hc22.2 Tryd.underlying9 rfl rfl rfl) ?_
              refine al_val (ov_assign rfl rfl) ?_
              refine al_nil ?_
              refine aq_then ?_
              refine aw_seq ?_
              refine aw_region ?_
              refine al_alloc (zs := (cA3u64 (A3u64.mk (0 : Int) (0 : Int) (0 : Int)))) (zeroOf_to to126) rfl rfl (fun g23 => ?_)
              refine al_nil ?_
              refine aq_then ?_
              obtain ⟨kk25, hkk25, h⟩ := lt_some h
              refine aw_seq_join (ι := (List UInt8) × A3u64) (fun i => (memOf w0 Z0 [] [(oRow l12v7 84 tyS_api_Place l12x7), (oBox g20 84 ((cA8u8 (cpA8u8 (A8u8.mk (0 : UInt8) (0 : UInt8) (0 : UInt8) (0 : UInt8) (0 : UInt8) (0 : UInt8) (0 : UInt8) (0 : UInt8)) l12s0)) ++ [(Value.int .i64 (IntKind.i64.wrap (En.bAt l12s0 (8 : Int)))), (Value.int .i64 (0 : Int)), (Value.int .i64 (0 : Int)), (Value.int .i64 (0 : Int))])), (oBox g23 126 (cA3u64 i.2))] [])) (fun i => (tab [(0, (str i.1)), (7, l12v7), (8, (ptr g20 0)), (9, (ptr g23 0)), (29, (Value.int .u64 r2.1)), (30, (Value.int .u64 l12i30))])) (fun i => kk25 i.1 i.2 = some r) ?_ ?_
              · rintro ⟨j24s0, j24A9_0⟩ h
                have h : kk25 j24s0 j24A9_0 = some r := h
                rw [hkk25] at h
                dsimp only at h
                clear hkk25
                refine aw_show (m := (memOf w0 Z0 [] [(oRow l12v7 84 tyS_api_Place l12x7), (oBox g20 84 ((cA8u8 (cpA8u8 (A8u8.mk (0 : UInt8) (0 : UInt8) (0 : UInt8) (0 : UInt8) (0 : UInt8) (0 : UInt8) (0 : UInt8) (0 : UInt8)) l12s0)) ++ [(Value.int .i64 (IntKind.i64.wrap (En.bAt l12s0 (8 : Int)))), (Value.int .i64 (0 : Int)), (Value.int .i64 (0 : Int)), (Value.int .i64 (0 : Int))])), (oBox g23 126 (cA3u64 j24A9_0))] [])) (S := (tab [(0, (str j24s0)), (7, l12v7), (8, (ptr g20 0)), (9, (ptr g23 0)), (29, (Value.int .u64 r2.1)), (30, (Value.int .u64 l12i30))])) ?_
                refine aw_seq ?_
                refine aw_region_open [⟨0, 66, Unit, fun _ => { val := (ptr g23 0) }⟩, ⟨1, 67, Unit, fun _ => { val := (Value.int .u64 j24A9_0.e0) }⟩, ⟨2, 68, Unit, fun _ => { val := (Value.int .i64 (IntKind.i64.wrap j24A9_0.e0)) }⟩, ⟨3, 69, Unit, fun _ => { val := (ptr g23 1) }⟩, ⟨4, 70, Unit, fun _ => { val := (Value.int .u64 j24A9_0.e1) }⟩, ⟨5, 71, Unit, fun _ => { val := (Value.int .i64 (IntKind.i64.wrap j24A9_0.e1)) }⟩, ⟨6, 72, Unit, fun _ => { val := (ptr g23 2) }⟩, ⟨7, 73, Unit, fun _ => { val := (Value.int .u64 j24A9_0.e2) }⟩, ⟨8, 74, Unit, fun _ => { val := (Value.int .i64 (IntKind.i64.wrap j24A9_0.e2)) }⟩, ⟨9, 75, Unit, fun _ => { val := (ptr g20 9) }⟩] (tab [(0, (str j24s0)), (7, l12v7), (8, (ptr g20 0)), (9, (ptr g23 0)), (29, (Value.int .u64 r2.1)), (30, (Value.int .u64 l12i30))]) mixed (fun a hs => hs.tab _ (allT_mem ⟨rfl, rfl, rfl, rfl, rfl, rfl, trivial⟩)) ?_
                refine ta_show (m := (memOf w0 Z0 [] [(oRow l12v7 84 tyS_api_Place l12x7), (oBox g20 84 ((cA8u8 (cpA8u8 (A8u8.mk (0 : UInt8) (0 : UInt8) (0 : UInt8) (0 : UInt8) (0 : UInt8) (0 : UInt8) (0 : UInt8) (0 : UInt8)) l12s0)) ++ [(Value.int .i64 (IntKind.i64.wrap (En.bAt l12s0 (8 : Int)))), (Value.int .i64 (0 : Int)), (Value.int .i64 (0 : Int)), (Value.int .i64 (0 : Int))])), (oBox g23 126 (cA3u64 j24A9_0))] [])) (S := (tab [(0, (str j24s0)), (7, l12v7), (8, (ptr g20 0)), (9, (ptr g23 0)), (29, (Value.int .u64 r2.1)), (30, (Value.int .u64 l12i30))])) ?_
                refine ta_step 10 _ [0, 1, 2, 3, 4, 5, 6, 7, 8, 9] [66, 67, 68, 69, 70, 71, 72, 73, 74, 75] [0, 1, 2, 9] [11] [⟨0, 66, Unit, fun _ => { val := (ptr g23 0) }⟩, ⟨1, 67, Unit, fun _ => { val := (Value.int .u64 j24A9_0.e0) }⟩, ⟨2, 68, Unit, fun _ => { val := (Value.int .i64 (IntKind.i64.wrap j24A9_0.e0)) }⟩, ⟨9, 75, Unit, fun _ => { val := (ptr g20 9) }⟩] [⟨3, 69, Unit, fun _ => { val := (ptr g23 1) }⟩, ⟨4, 70, Unit, fun _ => { val := (Value.int .u64 j24A9_0.e1) }⟩, ⟨5, 71, Unit, fun _ => { val := (Value.int .i64 (IntKind.i64.wrap j24A9_0.e1)) }⟩, ⟨6, 72, Unit, fun _ => { val := (ptr g23 2) }⟩, ⟨7, 73, Unit, fun _ => { val := (Value.int .u64 j24A9_0.e2) }⟩, ⟨8, 74, Unit, fun _ => { val := (Value.int .i64 (IntKind.i64.wrap j24A9_0.e2)) }⟩] rfl rfl rfl (by kernel_rfl) rfl rfl rfl ⟨⟨_, rfl, [], rfl, by
    intro X_ Y_ F_ K_ hK_
    refine al_show (m := Mem.plus (memOf w0 Z0 [] [(oRow l12v7 84 tyS_api_Place l12x7), (oBox g20 84 ((cA8u8 (cpA8u8 (A8u8.mk (0 : UInt8) (0 : UInt8) (0 : UInt8) (0 : UInt8) (0 : UInt8) (0 : UInt8) (0 : UInt8) (0 : UInt8)) l12s0)) ++ [(Value.int .i64 (IntKind.i64.wrap (En.bAt l12s0 (8 : Int)))), (Value.int .i64 (0 : Int)), (Value.int .i64 (0 : Int)), (Value.int .i64 (0 : Int))])), (oBox g23 126 (cA3u64 j24A9_0))] []) X_ Y_) (S := over (tab [(0, (str j24s0)), (7, l12v7), (8, (ptr g20 0)), (9, (ptr g23 0)), (29, (Value.int .u64 r2.1)), (30, (Value.int .u64 l12i30))]) F_) ?_
    refine al_val (ov_idxArr (by decide) (by decide) rfl rfl Tryd.underlying126 sz87 rfl) ?_
    refine al_nil ?_
    exact fr_fin hK_ ()⟩, ⟨_, rfl, [0], rfl, by
    intro _
    intro X_ Y_ F_ K_ hK_
    refine al_show (m := Mem.plus (memOf w0 Z0 [] [(oRow l12v7 84 tyS_api_Place l12x7), (oBox g20 84 ((cA8u8 (cpA8u8 (A8u8.mk (0 : UInt8) (0 : UInt8) (0 : UInt8) (0 : UInt8) (0 : UInt8) (0 : UInt8) (0 : UInt8) (0 : UInt8)) l12s0)) ++ [(Value.int .i64 (IntKind.i64.wrap (En.bAt l12s0 (8 : Int)))), (Value.int .i64 (0 : Int)), (Value.int .i64 (0 : Int)), (Value.int .i64 (0 : Int))])), (oBox g23 126 (cA3u64 j24A9_0))] []) X_ Y_) (S := over (put (tab [(0, (str j24s0)), (7, l12v7), (8, (ptr g20 0)), (9, (ptr g23 0)), (29, (Value.int .u64 r2.1)), (30, (Value.int .u64 l12i30))]) 66 (ptr g23 0)) F_) ?_
    refine al_val (ov_load (i := 2) (v := (Value.int .u64 j24A9_0.e0)) rfl rfl Tryd.underlying87 sz87 rfl rfl rfl rfl) ?_
    refine al_nil ?_
    exact fr_fin hK_ ()⟩, ⟨_, rfl, [1], rfl, by
    intro _
    intro X_ Y_ F_ K_ hK_
    refine al_show (m := Mem.plus (memOf w0 Z0 [] [(oRow l12v7 84 tyS_api_Place l12x7), (oBox g20 84 ((cA8u8 (cpA8u8 (A8u8.mk (0 : UInt8) (0 : UInt8) (0 : UInt8) (0 : UInt8) (0 : UInt8) (0 : UInt8) (0 : UInt8) (0 : UInt8)) l12s0)) ++ [(Value.int .i64 (IntKind.i64.wrap (En.bAt l12s0 (8 : Int)))), (Value.int .i64 (0 : Int)), (Value.int .i64 (0 : Int)), (Value.int .i64 (0 : Int))])), (oBox g23 126 (cA3u64 j24A9_0))] []) X_ Y_) (S := over (put (tab [(0, (str j24s0)), (7, l12v7), (8, (ptr g20 0)), (9, (ptr g23 0)), (29, (Value.int .u64 r2.1)), (30, (Value.int .u64 l12i30))]) 67 (Value.int .u64 j24A9_0.e0)) F_) ?_
    refine al_val (ov_convInt (by rw [Tryd.underlying87]; rfl) Tryd.underlying3 rfl rfl) ?_
    refine al_nil ?_
    exact fr_fin hK_ ()⟩, ⟨_, rfl, [], rfl, by
    intro X_ Y_ F_ K_ hK_
    refine al_show (m := Mem.plus (memOf w0 Z0 [] [(oRow l12v7 84 tyS_api_Place l12x7), (oBox g20 84 ((cA8u8 (cpA8u8 (A8u8.mk (0 : UInt8) (0 : UInt8) (0 : UInt8) (0 : UInt8) (0 : UInt8) (0 : UInt8) (0 : UInt8) (0 : UInt8)) l12s0)) ++ [(Value.int .i64 (IntKind.i64.wrap (En.bAt l12s0 (8 : Int)))), (Value.int .i64 (0 : Int)), (Value.int .i64 (0 : Int)), (Value.int .i64 (0 : Int))])), (oBox g23 126 (cA3u64 j24A9_0))] []) X_ Y_) (S := over (tab [(0, (str j24s0)), (7, l12v7), (8, (ptr g20 0)), (9, (ptr g23 0)), (29, (Value.int .u64 r2.1)), (30, (Value.int .u64 l12i30))]) F_) ?_
    refine al_val (ov_idxArr (by decide) (by decide) rfl rfl Tryd.underlying126 sz87 rfl) ?_
    refine al_nil ?_
    exact fr_fin hK_ ()⟩, ⟨_, rfl, [3], rfl, by
    intro _
    intro X_ Y_ F_ K_ hK_
    refine al_show (m := Mem.plus (memOf w0 Z0 [] [(oRow l12v7 84 tyS_api_Place l12x7), (oBox g20 84 ((cA8u8 (cpA8u8 (A8u8.mk (0 : UInt8) (0 : UInt8) (0 : UInt8) (0 : UInt8) (0 : UInt8) (0 : UInt8) (0 : UInt8) (0 : UInt8)) l12s0)) ++ [(Value.int .i64 (IntKind.i64.wrap (En.bAt l12s0 (8 : Int)))), (Value.int .i64 (0 : Int)), (Value.int .i64 (0 : Int)), (Value.int .i64 (0 : Int))])), (oBox g23 126 (cA3u64 j24A9_0))] []) X_ Y_) (S := over (put (tab [(0, (str j24s0)), (7, l12v7), (8, (ptr g20 0)), (9, (ptr g23 0)), (29, (Value.int .u64 r2.1)), (30, (Value.int .u64 l12i30))]) 69 (ptr g23 1)) F_) ?_
    refine al_val (ov_load (i := 2) (v := (Value.int .u64 j24A9_0.e1)) rfl rfl Tryd.underlying87 sz87 rfl rfl rfl rfl) ?_
    refine al_nil ?_
    exact fr_fin hK_ ()⟩, ⟨_, rfl, [4], rfl, by
    intro _
    intro X_ Y_ F_ K_ hK_
    refine al_show (m := Mem.plus (memOf w0 Z0 [] [(oRow l12v7 84 tyS_api_Place l12x7), (oBox g20 84 ((cA8u8 (cpA8u8 (A8u8.mk (0 : UInt8) (0 : UInt8) (0 : UInt8) (0 : UInt8) (0 : UInt8) (0 : UInt8) (0 : UInt8) (0 : UInt8)) l12s0)) ++ [(Value.int .i64 (IntKind.i64.wrap (En.bAt l12s0 (8 : Int)))), (Value.int .i64 (0 : Int)), (Value.int .i64 (0 : Int)), (Value.int .i64 (0 : Int))])), (oBox g23 126 (cA3u64 j24A9_0))] []) X_ Y_) (S := over (put (tab [(0, (str j24s0)), (7, l12v7), (8, (ptr g20 0)), (9, (ptr g23 0)), (29, (Value.int .u64 r2.1)), (30, (Value.int .u64 l12i30))]) 70 (Value.int .u64 j24A9_0.e1)) F_) ?_
    refine al_val (ov_convInt (by rw [Tryd.underlying87]; rfl) Tryd.underlying3 rfl rfl) ?_
    refine al_nil ?_
    exact fr_fin hK_ ()⟩, ⟨_, rfl, [], rfl, by
    intro X_ Y_ F_ K_ hK_
    refine al_show (m := Mem.plus (memOf w0 Z0 [] [(oRow l12v7 84 tyS_api_Place l12x7), (oBox g20 84 ((cA8u8 (cpA8u8 (A8u8.mk (0 : UInt8) (0 : UInt8) (0 : UInt8) (0 : UInt8) (0 : UInt8) (0 : UInt8) (0 : UInt8) (0 : UInt8)) l12s0)) ++ [(Value.int .i64 (IntKind.i64.wrap (En.bAt l12s0 (8 : Int)))), (Value.int .i64 (0 : Int)), (Value.int .i64 (0 : Int)), (Value.int .i64 (0 : Int))])), (oBox g23 126 (cA3u64 j24A9_0))] []) X_ Y_) (S := over (tab [(0, (str j24s0)), (7, l12v7), (8, (ptr g20 0)), (9, (ptr g23 0)), (29, (Value.int .u64 r2.1)), (30, (Value.int .u64 l12i30))]) F_) ?_
    refine al_val (ov_idxArr (by decide) (by decide) rfl rfl Tryd.underlying126 sz87 rfl) ?_
    refine al_nil ?_
    exact fr_fin hK_ ()⟩, ⟨_, rfl, [6], rfl, by
    intro _
    intro X_ Y_ F_ K_ hK_
    refine al_show (m := Mem.plus (memOf w0 Z0 [] [(oRow l12v7 84 tyS_api_Place l12x7), (oBox g20 84 ((cA8u8 (cpA8u8 (A8u8.mk (0 : UInt8) (0 : UInt8) (0 : UInt8) (0 : UInt8) (0 : UInt8) (0 : UInt8) (0 : UInt8) (0 : UInt8)) l12s0)) ++ [(Value.int .i64 (IntKind.i64.wrap (En.bAt l12s0 (8 : Int)))), (Value.int .i64 (0 : Int)), (Value.int .i64 (0 : Int)), (Value.int .i64 (0 : Int))])), (oBox g23 126 (cA3u64 j24A9_0))] []) X_ Y_) (S := over (put (tab [(0, (str j24s0)), (7, l12v7), (8, (ptr g20 0)), (9, (ptr g23 0)), (29, (Value.int .u64 r2.1)), (30, (Value.int .u64 l12i30))]) 72 (ptr g23 2)) F_) ?_
    refine al_val (ov_load (i := 2) (v := (Value.int .u64 j24A9_0.e2)) rfl rfl Tryd.underlying87 sz87 rfl rfl rfl rfl) ?_
    refine al_nil ?_
    exact fr_fin hK_ ()⟩, ⟨_, rfl, [7], rfl, by
    intro _
    intro X_ Y_ F_ K_ hK_
    refine al_show (m := Mem.plus (memOf w0 Z0 [] [(oRow l12v7 84 tyS_api_Place l12x7), (oBox g20 84 ((cA8u8 (cpA8u8 (A8u8.mk (0 : UInt8) (0 : UInt8) (0 : UInt8) (0 : UInt8) (0 : UInt8) (0 : UInt8) (0 : UInt8) (0 : UInt8)) l12s0)) ++ [(Value.int .i64 (IntKind.i64.wrap (En.bAt l12s0 (8 : Int)))), (Value.int .i64 (0 : Int)), (Value.int .i64 (0 : Int)), (Value.int .i64 (0 : Int))])), (oBox g23 126 (cA3u64 j24A9_0))] []) X_ Y_) (S := over (put (tab [(0, (str j24s0)), (7, l12v7), (8, (ptr g20 0)), (9, (ptr g23 0)), (29, (Value.int .u64 r2.1)), (30, (Value.int .u64 l12i30))]) 73 (Value.int .u64 j24A9_0.e2)) F_) ?_
    refine al_val (ov_convInt (by rw [Tryd.underlying87]; rfl) Tryd.underlying3 rfl rfl) ?_
    refine al_nil ?_
    exact fr_fin hK_ ()⟩, ⟨_, rfl, [0, 1, 2], rfl, by
    intro _
    intro _
    intro _
    intro X_ Y_ F_ K_ hK_
    refine al_show (m := Mem.plus (memOf w0 Z0 [] [(oRow l12v7 84 tyS_api_Place l12x7), (oBox g20 84 ((cA8u8 (cpA8u8 (A8u8.mk (0 : UInt8) (0 : UInt8) (0 : UInt8) (0 : UInt8) (0 : UInt8) (0 : UInt8) (0 : UInt8) (0 : UInt8)) l12s0)) ++ [(Value.int .i64 (IntKind.i64.wrap (En.bAt l12s0 (8 : Int)))), (Value.int .i64 (0 : Int)), (Value.int .i64 (0 : Int)), (Value.int .i64 (0 : Int))])), (oBox g23 126 (cA3u64 j24A9_0))] []) X_ Y_) (S := over (put (put (put (tab [(0, (str j24s0)), (7, l12v7), (8, (ptr g20 0)), (9, (ptr g23 0)), (29, (Value.int .u64 r2.1)), (30, (Value.int .u64 l12i30))]) 66 (ptr g23 0)) 67 (Value.int .u64 j24A9_0.e0)) 68 (Value.int .i64 (IntKind.i64.wrap j24A9_0.e0))) F_) ?_
    refine al_val (ov_fieldA (p := 9) rfl Tryd.underlying84 rfl sz3 rfl rfl rfl) ?_
    refine al_nil ?_
    exact fr_fin hK_ ()⟩, trivial⟩ ?_
                intro _
                intro _
                intro _
                intro _
                intro X_ Y_ F_ K_ hK_
                refine al_show (m := Mem.plus (memOf w0 Z0 [] [(oRow l12v7 84 tyS_api_Place l12x7), (oBox g20 84 ((cA8u8 (cpA8u8 (A8u8.mk (0 : UInt8) (0 : UInt8) (0 : UInt8) (0 : UInt8) (0 : UInt8) (0 : UInt8) (0 : UInt8) (0 : UInt8)) l12s0)) ++ [(Value.int .i64 (IntKind.i64.wrap (En.bAt l12s0 (8 : Int)))), (Value.int .i64 (0 : Int)), (Value.int .i64 (0 : Int)), (Value.int .i64 (0 : Int))])), (oBox g23 126 (cA3u64 j24A9_0))] []) X_ Y_) (S := over (put (put (put (put (tab [(0, (str j24s0)), (7, l12v7), (8, (ptr g20 0)), (9, (ptr g23 0)), (29, (Value.int .u64 r2.1)), (30, (Value.int .u64 l12i30))]) 66 (ptr g23 0)) 67 (Value.int .u64 j24A9_0.e0)) 68 (Value.int .i64 (IntKind.i64.wrap j24A9_0.e0))) 75 (ptr g20 9)) F_) ?_
                refine al_store (i := 1) (vs := [(Value.int .i64 (IntKind.i64.wrap j24A9_0.e0))]) (cs' := ((cA8u8 (cpA8u8 (A8u8.mk (0 : UInt8) (0 : UInt8) (0 : UInt8) (0 : UInt8) (0 : UInt8) (0 : UInt8) (0 : UInt8) (0 : UInt8)) l12s0)) ++ [(Value.int .i64 (IntKind.i64.wrap (En.bAt l12s0 (8 : Int)))), (Value.int .i64 (IntKind.i64.wrap j24A9_0.e0)), (Value.int .i64 (0 : Int)), (Value.int .i64 (0 : Int))])) rfl rfl rfl sz3 (cv_rfl rfl) rfl (co_val rfl co_nil) (Nat.le_of_ble_eq_true rfl) rfl rfl ?_
                refine al_nil ?_
                refine aq_show (m := Mem.plus (memOf w0 Z0 [] [(oRow l12v7 84 tyS_api_Place l12x7), (oBox g20 84 ((cA8u8 (cpA8u8 (A8u8.mk (0 : UInt8) (0 : UInt8) (0 : UInt8) (0 : UInt8) (0 : UInt8) (0 : UInt8) (0 : UInt8) (0 : UInt8)) l12s0)) ++ [(Value.int .i64 (IntKind.i64.wrap (En.bAt l12s0 (8 : Int)))), (Value.int .i64 (IntKind.i64.wrap j24A9_0.e0)), (Value.int .i64 (0 : Int)), (Value.int .i64 (0 : Int))])), (oBox g23 126 (cA3u64 j24A9_0))] []) X_ Y_) ?_
                refine aq_next hK_ [0, 1, 2] [] [(0, (str j24s0)), (7, l12v7), (8, (ptr g20 0)), (9, (ptr g23 0)), (29, (Value.int .u64 r2.1)), (30, (Value.int .u64 l12i30))] [69, 70, 71, 72, 73, 74] [⟨11, 76, Unit, fun _ => { val := (ptr g20 10) }⟩] rfl rfl (by decide) rfl ⟨rfl, rfl, rfl, rfl, rfl, rfl, trivial⟩ ⟨rfl, rfl, rfl, rfl, rfl, rfl, trivial⟩ ?_
                clear hK_ K_ F_ X_ Y_
                refine ta_show (m := (memOf w0 Z0 [] [(oRow l12v7 84 tyS_api_Place l12x7), (oBox g20 84 ((cA8u8 (cpA8u8 (A8u8.mk (0 : UInt8) (0 : UInt8) (0 : UInt8) (0 : UInt8) (0 : UInt8) (0 : UInt8) (0 : UInt8) (0 : UInt8)) l12s0)) ++ [(Value.int .i64 (IntKind.i64.wrap (En.bAt l12s0 (8 : Int)))), (Value.int .i64 (IntKind.i64.wrap j24A9_0.e0)), (Value.int .i64 (0 : Int)), (Value.int .i64 (0 : Int))])), (oBox g23 126 (cA3u64 j24A9_0))] [])) (S := (tab [(0, (str j24s0)), (7, l12v7), (8, (ptr g20 0)), (9, (ptr g23 0)), (29, (Value.int .u64 r2.1)), (30, (Value.int .u64 l12i30))])) ?_
                refine ta_step 12 _ [3, 4, 5, 6, 7, 8, 11] [69, 70, 71, 72, 73, 74, 76] [3, 4, 5, 11] [13] [⟨3, 69, Unit, fun _ => { val := (ptr g23 1) }⟩, ⟨4, 70, Unit, fun _ => { val := (Value.int .u64 j24A9_0.e1) }⟩, ⟨5, 71, Unit, fun _ => { val := (Value.int .i64 (IntKind.i64.wrap j24A9_0.e1)) }⟩, ⟨11, 76, Unit, fun _ => { val := (ptr g20 10) }⟩] [⟨6, 72, Unit, fun _ => { val := (ptr g23 2) }⟩, ⟨7, 73, Unit, fun _ => { val := (Value.int .u64 j24A9_0.e2) }⟩, ⟨8, 74, Unit, fun _ => { val := (Value.int .i64 (IntKind.i64.wrap j24A9_0.e2)) }⟩] rfl rfl rfl (by kernel_rfl) rfl rfl rfl ⟨⟨_, rfl, [], rfl, by
    intro X_ Y_ F_ K_ hK_
    refine al_show (m := Mem.plus (memOf w0 Z0 [] [(oRow l12v7 84 tyS_api_Place l12x7), (oBox g20 84 ((cA8u8 (cpA8u8 (A8u8.mk (0 : UInt8) (0 : UInt8) (0 : UInt8) (0 : UInt8) (0 : UInt8) (0 : UInt8) (0 : UInt8) (0 : UInt8)) l12s0)) ++ [(Value.int .i64 (IntKind.i64.wrap (En.bAt l12s0 (8 : Int)))), (Value.int .i64 (IntKind.i64.wrap j24A9_0.e0)), (Value.int .i64 (0 : Int)), (Value.int .i64 (0 : Int))])), (oBox g23 126 (cA3u64 j24A9_0))] []) X_ Y_) (S := over (tab [(0, (str j24s0)), (7, l12v7), (8, (ptr g20 0)), (9, (ptr g23 0)), (29, (Value.int .u64 r2.1)), (30, (Value.int .u64 l12i30))]) F_) ?_
    refine al_val (ov_idxArr (by decide) (by decide) rfl rfl Tryd.underlying126 sz87 rfl) ?_
    refine al_nil ?_
    exact fr_fin hK_ ()⟩, ⟨_, rfl, [0], rfl, by
    intro _
    intro X_ Y_ F_ K_ hK_
    refine al_show (m := Mem.plus (memOf w0 Z0 [] [(oRow l12v7 84 tyS_api_Place l12x7), (oBox g20 84 ((cA8u8 (cpA8u8 (A8u8.mk (0 : UInt8) (0 : UInt8) (0 : UInt8) (0 : UInt8) (0 : UInt8) (0 : UInt8) (0 : UInt8) (0 : UInt8)) l12s0)) ++ [(Value.int .i64 (IntKind.i64.wrap (En.bAt l12s0 (8 : Int)))), (Value.int .i64 (IntKind.i64.wrap j24A9_0.e0)), (Value.int .i64 (0 : Int)), (Value.int .i64 (0 : Int))])), (oBox g23 126 (cA3u64 j24A9_0))] []) X_ Y_) (S := over (put (tab [(0, (str j24s0)), (7, l12v7), (8, (ptr g20 0)), (9, (ptr g23 0)), (29, (Value.int .u64 r2.1)), (30, (Value.int .u64 l12i30))]) 69 (ptr g23 1)) F_) ?_
    refine al_val (ov_load (i := 2) (v := (Value.int .u64 j24A9_0.e1)) rfl rfl Tryd.underlying87 sz87 rfl rfl rfl rfl) ?_
    refine al_nil ?_
    exact fr_fin hK_ ()⟩, ⟨_, rfl, [1], rfl, by
    intro _
    intro X_ Y_ F_ K_ hK_
    refine al_show (m := Mem.plus (memOf w0 Z0 [] [(oRow l12v7 84 tyS_api_Place l12x7), (oBox g20 84 ((cA8u8 (cpA8u8 (A8u8.mk (0 : UInt8) (0 : UInt8) (0 : UInt8) (0 : UInt8) (0 : UInt8) (0 : UInt8) (0 : UInt8) (0 : UInt8)) l12s0)) ++ [(Value.int .i64 (IntKind.i64.wrap (En.bAt l12s0 (8 : Int)))), (Value.int .i64 (IntKind.i64.wrap j24A9_0.e0)), (Value.int .i64 (0 : Int)), (Value.int .i64 (0 : Int))])), (oBox g23 126 (cA3u64 j24A9_0))] []) X_ Y_) (S := over (put (tab [(0, (str j24s0)), (7, l12v7), (8, (ptr g20 0)), (9, (ptr g23 0)), (29, (Value.int .u64 r2.1)), (30, (Value.int .u64 l12i30))]) 70 (Value.int .u64 j24A9_0.e1)) F_) ?_
    refine al_val (ov_convInt (by rw [Tryd.underlying87]; rfl) Tryd.underlying3 rfl rfl) ?_
    refine al_nil ?_
    exact fr_fin hK_ ()⟩, ⟨_, rfl, [], rfl, by
    intro X_ Y_ F_ K_ hK_
    refine al_show (m := Mem.plus (memOf w0 Z0 [] [(oRow l12v7 84 tyS_api_Place l12x7), (oBox g20 84 ((cA8u8 (cpA8u8 (A8u8.mk (0 : UInt8) (0 : UInt8) (0 : UInt8) (0 : UInt8) (0 : UInt8) (0 : UInt8) (0 : UInt8) (0 : UInt8)) l12s0)) ++ [(Value.int .i64 (IntKind.i64.wrap (En.bAt l12s0 (8 : Int)))), (Value.int .i64 (IntKind.i64.wrap j24A9_0.e0)), (Value.int .i64 (0 : Int)), (Value.int .i64 (0 : Int))])), (oBox g23 126 (cA3u64 j24A9_0))] []) X_ Y_) (S := over (tab [(0, (str j24s0)), (7, l12v7), (8, (ptr g20 0)), (9, (ptr g23 0)), (29, (Value.int .u64 r2.1)), (30, (Value.int .u64 l12i30))]) F_) ?_
    refine al_val (ov_idxArr (by decide) (by decide) rfl rfl Tryd.underlying126 sz87 rfl) ?_
    refine al_nil ?_
    exact fr_fin hK_ ()⟩, ⟨_, rfl, [3], rfl, by
    intro _
    intro X_ Y_ F_ K_ hK_
    refine al_show (m := Mem.plus (memOf w0 Z0 [] [(oRow l12v7 84 tyS_api_Place l12x7), (oBox g20 84 ((cA8u8 (cpA8u8 (A8u8.mk (0 : UInt8) (0 : UInt8) (0 : UInt8) (0 : UInt8) (0 : UInt8) (0 : UInt8) (0 : UInt8) (0 : UInt8)) l12s0)) ++ [(Value.int .i64 (IntKind.i64.wrap (En.bAt l12s0 (8 : Int)))), (Value.int .i64 (IntKind.i64.wrap j24A9_0.e0)), (Value.int .i64 (0 : Int)), (Value.int .i64 (0 : Int))])), (oBox g23 126 (cA3u64 j24A9_0))] []) X_ Y_) (S := over (put (tab [(0, (str j24s0)), (7, l12v7), (8, (ptr g20 0)), (9, (ptr g23 0)), (29, (Value.int .u64 r2.1)), (30, (Value.int .u64 l12i30))]) 72 (ptr g23 2)) F_) ?_
    refine al_val (ov_load (i := 2) (v := (Value.int .u64 j24A9_0.e2)) rfl rfl Tryd.underlying87 sz87 rfl rfl rfl rfl) ?_
    refine al_nil ?_
    exact fr_fin hK_ ()⟩, ⟨_, rfl, [4], rfl, by
    intro _
    intro X_ Y_ F_ K_ hK_
    refine al_show (m := Mem.plus (memOf w0 Z0 [] [(oRow l12v7 84 tyS_api_Place l12x7), (oBox g20 84 ((cA8u8 (cpA8u8 (A8u8.mk (0 : UInt8) (0 : UInt8) (0 : UInt8) (0 : UInt8) (0 : UInt8) (0 : UInt8) (0 : UInt8) (0 : UInt8)) l12s0)) ++ [(Value.int .i64 (IntKind.i64.wrap (En.bAt l12s0 (8 : Int)))), (Value.int .i64 (IntKind.i64.wrap j24A9_0.e0)), (Value.int .i64 (0 : Int)), (Value.int .i64 (0 : Int))])), (oBox g23 126 (cA3u64 j24A9_0))] []) X_ Y_) (S := over (put (tab [(0, (str j24s0)), (7, l12v7), (8, (ptr g20 0)), (9, (ptr g23 0)), (29, (Value.int .u64 r2.1)), (30, (Value.int .u64 l12i30))]) 73 (Value.int .u64 j24A9_0.e2)) F_) ?_
    refine al_val (ov_convInt (by rw [Tryd.underlying87]; rfl) Tryd.underlying3 rfl rfl) ?_
    refine al_nil ?_
    exact fr_fin hK_ ()⟩, ⟨_, rfl, [0, 1, 2], rfl, by
    intro _
    intro _
    intro _
    intro X_ Y_ F_ K_ hK_
    refine al_show (m := Mem.plus (memOf w0 Z0 [] [(oRow l12v7 84 tyS_api_Place l12x7), (oBox g20 84 ((cA8u8 (cpA8u8 (A8u8.mk (0 : UInt8) (0 : UInt8) (0 : UInt8) (0 : UInt8) (0 : UInt8) (0 : UInt8) (0 : UInt8) (0 : UInt8)) l12s0)) ++ [(Value.int .i64 (IntKind.i64.wrap (En.bAt l12s0 (8 : Int)))), (Value.int .i64 (IntKind.i64.wrap j24A9_0.e0)), (Value.int .i64 (0 : Int)), (Value.int .i64 (0 : Int))])), (oBox g23 126 (cA3u64 j24A9_0))] []) X_ Y_) (S := over (put (put (put (tab [(0, (str j24s0)), (7, l12v7), (8, (ptr g20 0)), (9, (ptr g23 0)), (29, (Value.int .u64 r2.1)), (30, (Value.int .u64 l12i30))]) 69 (ptr g23 1)) 70 (Value.int .u64 j24A9_0.e1)) 71 (Value.int .i64 (IntKind.i64.wrap j24A9_0.e1))) F_) ?_
    refine al_val (ov_fieldA (p := 10) rfl Tryd.underlying84 rfl sz3 rfl rfl rfl) ?_
    refine al_nil ?_
    exact fr_fin hK_ ()⟩, trivial⟩ ?_
                intro _
                intro _
                intro _
                intro _
                intro X_ Y_ F_ K_ hK_
                refine al_show (m := Mem.plus (memOf w0 Z0 [] [(oRow l12v7 84 tyS_api_Place l12x7), (oBox g20 84 ((cA8u8 (cpA8u8 (A8u8.mk (0 : UInt8) (0 : UInt8) (0 : UInt8) (0 : UInt8) (0 : UInt8) (0 : UInt8) (0 : UInt8) (0 : UInt8)) l12s0)) ++ [(Value.int .i64 (IntKind.i64.wrap (En.bAt l12s0 (8 : Int)))), (Value.int .i64 (IntKind.i64.wrap j24A9_0.e0)), (Value.int .i64 (0 : Int)), (Value.int .i64 (0 : Int))])), (oBox g23 126 (cA3u64 j24A9_0))] []) X_ Y_) (S := over (put (put (put (put (tab [(0, (str j24s0)), (7, l12v7), (8, (ptr g20 0)), (9, (ptr g23 0)), (29, (Value.int .u64 r2.1)), (30, (Value.int .u64 l12i30))]) 69 (ptr g23 1)) 70 (Value.int .u64 j24A9_0.e1)) 71 (Value.int .i64 (IntKind.i64.wrap j24A9_0.e1))) 76 (ptr g20 10)) F_) ?_
                refine al_store (i := 1) (vs := [(Value.int .i64 (IntKind.i64.wrap j24A9_0.e1))]) (cs' := ((cA8u8 (cpA8u8 (A8u8.mk (0 : UInt8) (0 : UInt8) (0 : UInt8) (0 : UInt8) (0 : UInt8) (0 : UInt8) (0 : UInt8) (0 : UInt8)) l12s0)) ++ [(Value.int .i64 (IntKind.i64.wrap (En.bAt l12s0 (8 : Int)))), (Value.int .i64 (IntKind.i64.wrap j24A9_0.e0)), (Value.int .i64 (IntKind.i64.wrap j24A9_0.e1)), (Value.int .i64 (0 : Int))])) rfl rfl rfl sz3 (cv_rfl rfl) rfl (co_val rfl co_nil) (Nat.le_of_ble_eq_true rfl) rfl rfl ?_
                refine al_nil ?_
                refine aq_show (m := Mem.plus (memOf w0 Z0 [] [(oRow l12v7 84 tyS_api_Place l12x7), (oBox g20 84 ((cA8u8 (cpA8u8 (A8u8.mk (0 : UInt8) (0 : UInt8) (0 : UInt8) (0 : UInt8) (0 : UInt8) (0 : UInt8) (0 : UInt8) (0 : UInt8)) l12s0)) ++ [(Value.int .i64 (IntKind.i64.wrap (En.bAt l12s0 (8 : Int)))), (Value.int .i64 (IntKind.i64.wrap j24A9_0.e0)), (Value.int .i64 (IntKind.i64.wrap j24A9_0.e1)), (Value.int .i64 (0 : Int))])), (oBox g23 126 (cA3u64 j24A9_0))] []) X_ Y_) ?_
                refine aq_next hK_ [0, 1, 2] [] [(0, (str j24s0)), (7, l12v7), (8, (ptr g20 0)), (9, (ptr g23 0)), (29, (Value.int .u64 r2.1)), (30, (Value.int .u64 l12i30))] [72, 73, 74] [⟨13, 77, Unit, fun _ => { val := (ptr g20 11) }⟩] rfl rfl (by decide) rfl ⟨rfl, rfl, rfl, rfl, rfl, rfl, trivial⟩ ⟨rfl, rfl, rfl, trivial⟩ ?_
                clear hK_ K_ F_ X_ Y_
                refine ta_show (m := (memOf w0 Z0 [] [(oRow l12v7 84 tyS_api_Place l12x7), (oBox g20 84 ((cA8u8 (cpA8u8 (A8u8.mk (0 : UInt8) (0 : UInt8) (0 : UInt8) (0 : UInt8) (0 : UInt8) (0 : UInt8) (0 : UInt8) (0 : UInt8)) l12s0)) ++ [(Value.int .i64 (IntKind.i64.wrap (En.bAt l12s0 (8 : Int)))), (Value.int .i64 (IntKind.i64.wrap j24A9_0.e0)), (Value.int .i64 (IntKind.i64.wrap j24A9_0.e1)), (Value.int .i64 (0 : Int))])), (oBox g23 126 (cA3u64 j24A9_0))] [])) (S := (tab [(0, (str j24s0)), (7, l12v7), (8, (ptr g20 0)), (9, (ptr g23 0)), (29, (Value.int .u64 r2.1)), (30, (Value.int .u64 l12i30))])) ?_
                refine ta_step 14 _ [6, 7, 8, 13] [72, 73, 74, 77] [6, 7, 8, 13] [] [⟨6, 72, Unit, fun _ => { val := (ptr g23 2) }⟩, ⟨7, 73, Unit, fun _ => { val := (Value.int .u64 j24A9_0.e2) }⟩, ⟨8, 74, Unit, fun _ => { val := (Value.int .i64 (IntKind.i64.wrap j24A9_0.e2)) }⟩, ⟨13, 77, Unit, fun _ => { val := (ptr g20 11) }⟩] [] rfl rfl rfl (by kernel_rfl) rfl rfl rfl ⟨⟨_, rfl, [], rfl, by
    intro X_ Y_ F_ K_ hK_
    refine al_show (m := Mem.plus (memOf w0 Z0 [] [(oRow l12v7 84 tyS_api_Place l12x7), (oBox g20 84 ((cA8u8 (cpA8u8 (A8u8.mk (0 : UInt8) (0 : UInt8) (0 : UInt8) (0 : UInt8) (0 : UInt8) (0 : UInt8) (0 : UInt8) (0 : UInt8)) l12s0)) ++ [(Value.int .i64 (IntKind.i64.wrap (En.bAt l12s0 (8 : Int)))), (Value.int .i64 (IntKind.i64.wrap j24A9_0.e0)), (Value.int .i64 (IntKind.i64.wrap j24A9_0.e1)), (Value.int .i64 (0 : Int))])), (oBox g23 126 (cA3u64 j24A9_0))] []) X_ Y_) (S := over (tab [(0, (str j24s0)), (7, l12v7), (8, (ptr g20 0)), (9, (ptr g23 0)), (29, (Value.int .u64 r2.1)), (30, (Value.int .u64 l12i30))]) F_) ?_
    refine al_val (ov_idxArr (by decide) (by decide) rfl rfl Tryd.underlying126 sz87 rfl) ?_
    refine al_nil ?_
    exact fr_fin hK_ ()⟩, ⟨_, rfl, [0], rfl, by
    intro _
    intro X_ Y_ F_ K_ hK_
    refine al_show (m := Mem.plus (memOf w0 Z0 [] [(oRow l12v7 84 tyS_api_Place l12x7), (oBox g20 84 ((cA8u8 (cpA8u8 (A8u8.mk (0 : UInt8) (0 : UInt8) (0 : UInt8) (0 : UInt8) (0 : UInt8) (0 : UInt8) (0 : UInt8) (0 : UInt8)) l12s0)) ++ [(Value.int .i64 (IntKind.i64.wrap (En.bAt l12s0 (8 : Int)))), (Value.int .i64 (IntKind.i64.wrap j24A9_0.e0)), (Value.int .i64 (IntKind.i64.wrap j24A9_0.e1)), (Value.int .i64 (0 : Int))])), (oBox g23 126 (cA3u64 j24A9_0))] []) X_ Y_) (S := over (put (tab [(0, (str j24s0)), (7, l12v7), (8, (ptr g20 0)), (9, (ptr g23 0)), (29, (Value.int .u64 r2.1)), (30, (Value.int .u64 l12i30))]) 72 (ptr g23 2)) F_) ?_
    refine al_val (ov_load (i := 2) (v := (Value.int .u64 j24A9_0.e2)) rfl rfl Tryd.underlying87 sz87 rfl rfl rfl rfl) ?_
    refine al_nil ?_
    exact fr_fin hK_ ()⟩, ⟨_, rfl, [1], rfl, by
    intro _
    intro X_ Y_ F_ K_ hK_
    refine al_show (m := Mem.plus (memOf w0 Z0 [] [(oRow l12v7 84 tyS_api_Place l12x7), (oBox g20 84 ((cA8u8 (cpA8u8 (A8u8.mk (0 : UInt8) (0 : UInt8) (0 : UInt8) (0 : UInt8) (0 : UInt8) (0 : UInt8) (0 : UInt8) (0 : UInt8)) l12s0)) ++ [(Value.int .i64 (IntKind.i64.wrap (En.bAt l12s0 (8 : Int)))), (Value.int .i64 (IntKind.i64.wrap j24A9_0.e0)), (Value.int .i64 (IntKind.i64.wrap j24A9_0.e1)), (Value.int .i64 (0 : Int))])), (oBox g23 126 (cA3u64 j24A9_0))] []) X_ Y_) (S := over (put (tab [(0, (str j24s0)), (7, l12v7), (8, (ptr g20 0)), (9, (ptr g23 0)), (29, (Value.int .u64 r2.1)), (30, (Value.int .u64 l12i30))]) 73 (Value.int .u64 j24A9_0.e2)) F_) ?_
    refine al_val (ov_convInt (by rw [Tryd.underlying87]; rfl) Tryd.underlying3 rfl rfl) ?_
    refine al_nil ?_
    exact fr_fin hK_ ()⟩, ⟨_, rfl, [0, 1, 2], rfl, by
    intro _
    intro _
    intro _
    intro X_ Y_ F_ K_ hK_
    refine al_show (m := Mem.plus (memOf w0 Z0 [] [(oRow l12v7 84 tyS_api_Place l12x7), (oBox g20 84 ((cA8u8 (cpA8u8 (A8u8.mk (0 : UInt8) (0 : UInt8) (0 : UInt8) (0 : UInt8) (0 : UInt8) (0 : UInt8) (0 : UInt8) (0 : UInt8)) l12s0)) ++ [(Value.int .i64 (IntKind.i64.wrap (En.bAt l12s0 (8 : Int)))), (Value.int .i64 (IntKind.i64.wrap j24A9_0.e0)), (Value.int .i64 (IntKind.i64.wrap j24A9_0.e1)), (Value.int .i64 (0 : Int))])), (oBox g23 126 (cA3u64 j24A9_0))] []) X_ Y_) (S := over (put (put (put (tab [(0, (str j24s0)), (7, l12v7), (8, (ptr g20 0)), (9, (ptr g23 0)), (29, (Value.int .u64 r2.1)), (30, (Value.int .u64 l12i30))]) 72 (ptr g23 2)) 73 (Value.int .u64 j24A9_0.e2)) 74 (Value.int .i64 (IntKind.i64.wrap j24A9_0.e2))) F_) ?_
    refine al_val (ov_fieldA (p := 11) rfl Tryd.underlying84 rfl sz3 rfl rfl rfl) ?_
    refine al_nil ?_
    exact fr_fin hK_ ()⟩, trivial⟩ ?_
                intro _
                intro _
                intro _
                intro _
                intro X_ Y_ F_ K_ hK_
                refine al_show (m := Mem.plus (memOf w0 Z0 [] [(oRow l12v7 84 tyS_api_Place l12x7), (oBox g20 84 ((cA8u8 (cpA8u8 (A8u8.mk (0 : UInt8) (0 : UInt8) (0 : UInt8) (0 : UInt8) (0 : UInt8) (0 : UInt8) (0 : UInt8) (0 : UInt8)) l12s0)) ++ [(Value.int .i64 (IntKind.i64.wrap (En.bAt l12s0 (8 : Int)))), (Value.int .i64 (IntKind.i64.wrap j24A9_0.e0)), (Value.int .i64 (IntKind.i64.wrap j24A9_0.e1)), (Value.int .i64 (0 : Int))])), (oBox g23 126 (cA3u64 j24A9_0))] []) X_ Y_) (S := over (put (put (put (put (tab [(0, (str j24s0)), (7, l12v7), (8, (ptr g20 0)), (9, (ptr g23 0)), (29, (Value.int .u64 r2.1)), (30, (Value.int .u64 l12i30))]) 72 (ptr g23 2)) 73 (Value.int .u64 j24A9_0.e2)) 74 (Value.int .i64 (IntKind.i64.wrap j24A9_0.e2))) 77 (ptr g20 11)) F_) ?_
                refine al_store (i := 1) (vs := [(Value.int .i64 (IntKind.i64.wrap j24A9_0.e2))]) (cs' := ((cA8u8 (cpA8u8 (A8u8.mk (0 : UInt8) (0 : UInt8) (0 : UInt8) (0 : UInt8) (0 : UInt8) (0 : UInt8) (0 : UInt8) (0 : UInt8)) l12s0)) ++ [(Value.int .i64 (IntKind.i64.wrap (En.bAt l12s0 (8 : Int)))), (Value.int .i64 (IntKind.i64.wrap j24A9_0.e0)), (Value.int .i64 (IntKind.i64.wrap j24A9_0.e1)), (Value.int .i64 (IntKind.i64.wrap j24A9_0.e2))])) rfl rfl rfl sz3 (cv_rfl rfl) rfl (co_val rfl co_nil) (Nat.le_of_ble_eq_true rfl) rfl rfl ?_
                refine al_nil ?_
                refine aq_show (m := Mem.plus (memOf w0 Z0 [] [(oRow l12v7 84 tyS_api_Place l12x7), (oBox g20 84 ((cA8u8 (cpA8u8 (A8u8.mk (0 : UInt8) (0 : UInt8) (0 : UInt8) (0 : UInt8) (0 : UInt8) (0 : UInt8) (0 : UInt8) (0 : UInt8)) l12s0)) ++ [(Value.int .i64 (IntKind.i64.wrap (En.bAt l12s0 (8 : Int)))), (Value.int .i64 (IntKind.i64.wrap j24A9_0.e0)), (Value.int .i64 (IntKind.i64.wrap j24A9_0.e1)), (Value.int .i64 (IntKind.i64.wrap j24A9_0.e2))])), (oBox g23 126 (cA3u64 j24A9_0))] []) X_ Y_) ?_
                refine aq_next hK_ [0, 1, 2] [] [(0, (str j24s0)), (7, l12v7), (8, (ptr g20 0)), (29, (Value.int .u64 r2.1)), (30, (Value.int .u64 l12i30))] [] [] rfl rfl (by decide) rfl ⟨rfl, rfl, rfl, rfl, rfl, trivial⟩ trivial ?_
                clear hK_ K_ F_ X_ Y_
                refine ta_show (m := (memOf w0 Z0 [] [(oRow l12v7 84 tyS_api_Place l12x7), (oBox g20 84 ((cA8u8 (cpA8u8 (A8u8.mk (0 : UInt8) (0 : UInt8) (0 : UInt8) (0 : UInt8) (0 : UInt8) (0 : UInt8) (0 : UInt8) (0 : UInt8)) l12s0)) ++ [(Value.int .i64 (IntKind.i64.wrap (En.bAt l12s0 (8 : Int)))), (Value.int .i64 (IntKind.i64.wrap j24A9_0.e0)), (Value.int .i64 (IntKind.i64.wrap j24A9_0.e1)), (Value.int .i64 (IntKind.i64.wrap j24A9_0.e2))])), (oBox g23 126 (cA3u64 j24A9_0))] [])) (S := (tab [(0, (str j24s0)), (7, l12v7), (8, (ptr g20 0)), (29, (Value.int .u64 r2.1)), (30, (Value.int .u64 l12i30))])) ?_
                refine ta_end [] [] rfl rfl (by kernel_rfl) rfl trivial ?_
                refine aq_show (m := (memOf w0 Z0 [] [(oRow l12v7 84 tyS_api_Place l12x7), (oBox g20 84 ((cA8u8 (cpA8u8 (A8u8.mk (0 : UInt8) (0 : UInt8) (0 : UInt8) (0 : UInt8) (0 : UInt8) (0 : UInt8) (0 : UInt8) (0 : UInt8)) l12s0)) ++ [(Value.int .i64 (IntKind.i64.wrap (En.bAt l12s0 (8 : Int)))), (Value.int .i64 (IntKind.i64.wrap j24A9_0.e0)), (Value.int .i64 (IntKind.i64.wrap j24A9_0.e1)), (Value.int .i64 (IntKind.i64.wrap j24A9_0.e2))])), (oBox g23 126 (cA3u64 j24A9_0))] [])) (S := (tab [(0, (str j24s0)), (7, l12v7), (8, (ptr g20 0)), (29, (Value.int .u64 r2.1)), (30, (Value.int .u64 l12i30))])) ?_
                refine aq_then ?_
                refine aw_region ?_
                refine al_val (ov_move rfl rfl) ?_
                refine al_val (ov_load (i := 1) (v := (ag ((cA8u8 (cpA8u8 (A8u8.mk (0 : UInt8) (0 : UInt8) (0 : UInt8) (0 : UInt8) (0 : UInt8) (0 : UInt8) (0 : UInt8) (0 : UInt8)) l12s0)) ++ [(Value.int .i64 (IntKind.i64.wrap (En.bAt l12s0 (8 : Int)))), (Value.int .i64 (IntKind.i64.wrap j24A9_0.e0)), (Value.int .i64 (IntKind.i64.wrap j24A9_0.e1)), (Value.int .i64 (IntKind.i64.wrap j24A9_0.e2))]))) rfl rfl Tryd.underlying84 sz84 rfl rfl rfl rfl) ?_
                refine al_buildSlice (τ := tyS_api_Place) (e := 84) (k := 1) (sz := 0) (by_ := 0) (z := undef) (cs := ((cA8u8 (cpA8u8 (A8u8.mk (0 : UInt8) (0 : UInt8) (0 : UInt8) (0 : UInt8) (0 : UInt8) (0 : UInt8) (0 : UInt8) (0 : UInt8)) l12s0)) ++ [(Value.int .i64 (IntKind.i64.wrap (En.bAt l12s0 (8 : Int)))), (Value.int .i64 (IntKind.i64.wrap j24A9_0.e0)), (Value.int .i64 (IntKind.i64.wrap j24A9_0.e1)), (Value.int .i64 (IntKind.i64.wrap j24A9_0.e2))])) (xs := [(S_api_Place.mk (cpA8u8 (A8u8.mk (0 : UInt8) (0 : UInt8) (0 : UInt8) (0 : UInt8) (0 : UInt8) (0 : UInt8) (0 : UInt8) (0 : UInt8)) l12s0) (IntKind.i64.wrap (En.bAt l12s0 (8 : Int))) (IntKind.i64.wrap j24A9_0.e0) (IntKind.i64.wrap j24A9_0.e1) (IntKind.i64.wrap j24A9_0.e2))]) rfl (by decide) (fun w a hm hs => ⟨(((cA8u8 (cpA8u8 (A8u8.mk (0 : UInt8) (0 : UInt8) (0 : UInt8) (0 : UInt8) (0 : UInt8) (0 : UInt8) (0 : UInt8) (0 : UInt8)) l12s0)) ++ [(Value.int .i64 (IntKind.i64.wrap (En.bAt l12s0 (8 : Int)))), (Value.int .i64 (IntKind.i64.wrap j24A9_0.e0)), (Value.int .i64 (IntKind.i64.wrap j24A9_0.e1)), (Value.int .i64 (IntKind.i64.wrap j24A9_0.e2))])).toArray, rfl, by simp only [List.map_toArray, List.map_cons, List.map_nil, hs.ev (x := .tmp 79) rfl]; exact run_bs [(ag ((cA8u8 (cpA8u8 (A8u8.mk (0 : UInt8) (0 : UInt8) (0 : UInt8) (0 : UInt8) (0 : UInt8) (0 : UInt8) (0 : UInt8) (0 : UInt8)) l12s0)) ++ [(Value.int .i64 (IntKind.i64.wrap (En.bAt l12s0 (8 : Int)))), (Value.int .i64 (IntKind.i64.wrap j24A9_0.e0)), (Value.int .i64 (IntKind.i64.wrap j24A9_0.e1)), (Value.int .i64 (IntKind.i64.wrap j24A9_0.e2))]))] ((cA8u8 (cpA8u8 (A8u8.mk (0 : UInt8) (0 : UInt8) (0 : UInt8) (0 : UInt8) (0 : UInt8) (0 : UInt8) (0 : UInt8) (0 : UInt8)) l12s0)) ++ [(Value.int .i64 (IntKind.i64.wrap (En.bAt l12s0 (8 : Int)))), (Value.int .i64 (IntKind.i64.wrap j24A9_0.e0)), (Value.int .i64 (IntKind.i64.wrap j24A9_0.e1)), (Value.int .i64 (IntKind.i64.wrap j24A9_0.e2))]) Tryd.underlying76 to84 rfl rfl (bs_cons (l := ((cA8u8 (cpA8u8 (A8u8.mk (0 : UInt8) (0 : UInt8) (0 : UInt8) (0 : UInt8) (0 : UInt8) (0 : UInt8) (0 : UInt8) (0 : UInt8)) l12s0)) ++ [(Value.int .i64 (IntKind.i64.wrap (En.bAt l12s0 (8 : Int)))), (Value.int .i64 (IntKind.i64.wrap j24A9_0.e0)), (Value.int .i64 (IntKind.i64.wrap j24A9_0.e1)), (Value.int .i64 (IntKind.i64.wrap j24A9_0.e2))])) (cs := []) (cv_rfl rfl) rfl bs_nil) hm⟩) (fun hm => ⟨((cA8u8 (cpA8u8 (A8u8.mk (0 : UInt8) (0 : UInt8) (0 : UInt8) (0 : UInt8) (0 : UInt8) (0 : UInt8) (0 : UInt8) (0 : UInt8)) l12s0)) ++ [(Value.int .i64 (IntKind.i64.wrap (En.bAt l12s0 (8 : Int)))), (Value.int .i64 (IntKind.i64.wrap j24A9_0.e0)), (Value.int .i64 (IntKind.i64.wrap j24A9_0.e1)), (Value.int .i64 (IntKind.i64.wrap j24A9_0.e2))]), [], rfl, mkS_api_Place rfl, rfl⟩) rfl (fun v26 => ?_)
                obtain ⟨hc27, h⟩ := req_some h
                refine al_append 1 hc27.1 hc27.2 rfl (src_own (i := 1) 0 rfl) rfl rfl Tryd.underlying76 to84 rfl rfl rfl (fun v28 => ?_)
                refine al_val (ov_assign rfl rfl) ?_
                refine al_nil ?_
                refine aq_block ?_
                exact aq_join (j24s0, v28, (l12x7 ++ ([(S_api_Place.mk (cpA8u8 (A8u8.mk (0 : UInt8) (0 : UInt8) (0 : UInt8) (0 : UInt8) (0 : UInt8) (0 : UInt8) (0 : UInt8) (0 : UInt8)) l12s0) (IntKind.i64.wrap (En.bAt l12s0 (8 : Int))) (IntKind.i64.wrap j24A9_0.e0) (IntKind.i64.wrap j24A9_0.e1) (IntKind.i64.wrap j24A9_0.e2))]))) h (fun w a hm hs => norm hm hs [1] [] [(0, (str j24s0)), (7, v28), (29, (Value.int .u64 r2.1)), (30, (Value.int .u64 l12i30))] (by decide) ⟨rfl, rfl, rfl, rfl, trivial⟩)
              · clear hkk25
                refine aw_seq ?_
                refine aw_region ?_
                refine al_val (ov_move rfl rfl) ?_
                refine al_nil ?_
                refine aq_then ?_
                refine aw_block ?_
                refine aw_state (aw_loop (ι := (List UInt8) × A3u64 × Int) (fun i => (memOf w0 Z0 [] [(oRow l12v7 84 tyS_api_Place l12x7), (oBox g20 84 ((cA8u8 (cpA8u8 (A8u8.mk (0 : UInt8) (0 : UInt8) (0 : UInt8) (0 : UInt8) (0 : UInt8) (0 : UInt8) (0 : UInt8) (0 : UInt8)) l12s0)) ++ [(Value.int .i64 (IntKind.i64.wrap (En.bAt l12s0 (8 : Int)))), (Value.int .i64 (0 : Int)), (Value.int .i64 (0 : Int)), (Value.int .i64 (0 : Int))])), (oBox g23 126 (cA3u64 i.2.1))] [])) (fun i => (tab [(0, (str i.1)), (7, l12v7), (8, (ptr g20 0)), (9, (ptr g23 0)), (29, (Value.int .u64 r2.1)), (30, (Value.int .u64 l12i30)), (45, (Value.int .i64 i.2.2))])) (fun q i => f_lumref_IndexRead_L31 kk25 fu q i.1 i.2.1 i.2.2 = some r) ?_ fu ((l12s0.drop ((9 : Int)).toNat), (A3u64.mk (0 : Int) (0 : Int) (0 : Int)), (0 : Int)) h) (fun w a hm hs => norm hm hs [2, 1, 0] [] [(0, (str (l12s0.drop ((9 : Int)).toNat))), (7, l12v7), (8, (ptr g20 0)), (9, (ptr g23 0)), (29, (Value.int .u64 r2.1)), (30, (Value.int .u64 l12i30)), (45, (Value.int .i64 (0 : Int)))] (by decide) ⟨rfl, rfl, rfl, rfl, rfl, rfl, rfl, trivial⟩)
                clear h
                rintro k30 ⟨l29s0, l29A9_0, l29i45⟩ h
                have h : f_lumref_IndexRead_L31 kk25 fu k30 l29s0 l29A9_0 l29i45 = some r := h
                obtain _ | k30 := k30
                · rw [f_lumref_IndexRead_L31] at h; cases h
                rw [f_lumref_IndexRead_L31] at h
                refine aw_show (m := (memOf w0 Z0 [] [(oRow l12v7 84 tyS_api_Place l12x7), (oBox g20 84 ((cA8u8 (cpA8u8 (A8u8.mk (0 : UInt8) (0 : UInt8) (0 : UInt8) (0 : UInt8) (0 : UInt8) (0 : UInt8) (0 : UInt8) (0 : UInt8)) l12s0)) ++ [(Value.int .i64 (IntKind.i64.wrap (En.bAt l12s0 (8 : Int)))), (Value.int .i64 (0 : Int)), (Value.int .i64 (0 : Int)), (Value.int .i64 (0 : Int))])), (oBox g23 126 (cA3u64 l29A9_0))] [])) (S := (tab [(0, (str l29s0)), (7, l12v7), (8, (ptr g20 0)), (9, (ptr g23 0)), (29, (Value.int .u64 r2.1)), (30, (Value.int .u64 l12i30)), (45, (Value.int .i64 l29i45))])) ?_
                refine aw_seq ?_
                refine aw_region ?_
                refine al_val (ov_int rfl rfl rfl rfl) ?_
                refine al_nil ?_
                refine aq_then ?_
                refine aw_seq ?_
                refine aw_cond rfl (fun hb32 => ?_) (fun hb32 => ?_)
                · replace h := bif_t hb32 h
                  refine aw_skip ?_
                  refine aq_then ?_
                  refine aw_seq ?_
                  refine aw_block ?_
                  refine aw_seq ?_
                  refine aw_region ?_
                  refine al_val (ov_move rfl rfl) ?_
                  refine al_val (ov_assign rfl rfl) ?_
                  refine al_nil ?_
                  refine aq_then ?_
                  refine aw_seq ?_
                  refine aw_region ?_
                  refine al_val (ov_move rfl rfl) ?_
                  obtain ⟨r34, hc33, h⟩ := opt_some h
                  refine al_call (vs := [(str l29s0)]) (f_lumref_Get_ok fu l29s0 hc33) [] [] [0, 1, 2] pre_nil rfl (by simp) (by decide) (.inl rfl) rfl Tryd.func59 rfl rfl rfl (fun _ => ?_)
                  refine al_val (ov_move rfl rfl) ?_
                  refine al_val (ov_extract rfl rfl rfl) ?_
                  refine al_val (ov_extract rfl rfl rfl) ?_
                  refine al_val (ov_extract rfl rfl rfl) ?_
                  refine al_val (ov_assign rfl rfl) ?_
                  refine al_val (ov_assign rfl rfl) ?_
                  refine al_val (ov_assign rfl rfl) ?_
                  refine al_nil ?_
                  refine aq_then ?_
                  refine aw_seq ?_
                  refine aw_seq ?_
                  refine aw_region ?_
                  refine al_val (ov_move rfl rfl) ?_
                  refine al_val (ov_int rfl rfl rfl rfl) ?_
                  refine al_nil ?_
                  refine aq_then ?_
                  refine aw_cond rfl (fun hb35 => ?_) (fun hb35 => ?_)
                  · replace h := bif_t hb35 h
                    refine aw_seq ?_
                    refine aw_region ?_
                    refine al_val (ov_move rfl rfl) ?_
                    refine al_val (ov_assign rfl rfl) ?_
                    refine al_val (ov_assign rfl rfl) ?_
                    refine al_nil ?_
                    refine aq_then ?_
                    refine aw_ret ?_
                    refine aq_then_ret ?_
                    refine aq_block_ret ?_
                    refine aq_then_ret ?_
                    refine aq_then_ret ?_
                    refine aq_block_ret ?_
                    refine aq_then_ret ?_
                    refine aq_block_ret ?_
                    refine aq_then_ret ?_
                    refine aq_then_ret ?_
                    refine aq_block_ret ?_
                    refine aq_then_ret ?_
                    refine aq_nilR 84 tyS_api_Place ?_
                    obtain rfl := Option.some.inj h
                    exact fn_ret (Value.slice none 0 0) [0] [] rfl rfl rfl rfl (res2 rfl rfl rfl) rfl rfl rfl (by decide)
                  · replace h := bif_f hb35 h
                    refine aw_skip ?_
                    refine aq_then ?_
                    refine aw_seq ?_
                    refine aw_seq ?_
                    refine aw_region ?_
                    refine al_val (ov_move rfl rfl) ?_
                    refine al_val (ov_int rfl rfl rfl rfl) ?_
                    refine al_nil ?_
                    refine aq_then ?_
                    refine aw_cond rfl (fun hb36 => ?_) (fun hb36 => ?_)
                    · replace h := bif_t hb36 h
                      refine aw_seq ?_
                      refine aw_region ?_
                      refine al_val (ov_assign rfl rfl) ?_
                      refine al_val (ov_assign rfl rfl) ?_
                      refine al_nil ?_
                      refine aq_then ?_
                      refine aw_ret ?_
                      refine aq_then_ret ?_
                      refine aq_block_ret ?_
                      refine aq_then_ret ?_
                      refine aq_then_ret ?_
                      refine aq_block_ret ?_
                      refine aq_then_ret ?_
                      refine aq_block_ret ?_
                      refine aq_then_ret ?_
                      refine aq_then_ret ?_
                      refine aq_block_ret ?_
                      refine aq_then_ret ?_
                      refine aq_nilR 84 tyS_api_Place ?_
                      obtain rfl := Option.some.inj h
                      exact fn_ret (Value.slice none 0 0) [0] [] rfl rfl rfl rfl (res2 rfl rfl rfl) rfl rfl rfl (by decide)
                    · replace h := bif_f hb36 h
                      refine aw_skip ?_
                      refine aq_then ?_
                      refine aw_seq ?_
                      refine aw_region ?_
                      refine al_val (ov_move rfl rfl) ?_
                      refine al_val (ov_move rfl rfl) ?_
                      obtain ⟨u37, hu38, h⟩ := opt_some h
                      refine al_val (ov_idxArrV hu38 rfl rfl rfl Tryd.underlying126 sz87 rfl) ?_
                      refine al_storeV (cs := (cA3u64 l29A9_0)) (cs' := (cA3u64 (setA3u64 l29A9_0 l29i45 r34.1))) 2 rfl rfl rfl sz87 rfl (by have h1 := (at_some hu38).2.1; have h0 := (at_some hu38).1; have h2 : ((lA3u64 l29A9_0).length : Int) = 3 := rfl; show 0 + (l29i45).toNat < 3; omega) (csetA3u64 (at_some hu38).1 (at_some hu38).2.1 [] []) rfl ?_
                      refine al_nil ?_
                      refine aq_then ?_
                      refine aw_region ?_
                      refine al_val (ov_move rfl rfl) ?_
                      refine al_val (ov_move rfl rfl) ?_
                      obtain ⟨hc39, h⟩ := req_some h
                      refine al_val (ov_strFrom hc39.1 hc39.2 Tryd.underlying9 rfl rfl rfl) ?_
                      refine al_val (ov_assign rfl rfl) ?_
                      refine al_nil ?_
                      refine aq_block ?_
                      refine aq_then ?_
                      refine aw_region ?_
                      refine al_val (ov_int rfl rfl rfl rfl) ?_
                      refine al_val (ov_move rfl rfl) ?_
                      refine al_nil ?_
                      exact aq_again k30 ((l29s0.drop (r34.2.1).toNat), (setA3u64 l29A9_0 l29i45 r34.1), (IntKind.i64.wrap (l29i45 + (1 : Int)))) (Nat.lt_succ_self _) h (fun w a hm hs => norm hm hs [0, 1, 2] [] [(0, (str (l29s0.drop (r34.2.1).toNat))), (7, l12v7), (8, (ptr g20 0)), (9, (ptr g23 0)), (29, (Value.int .u64 r2.1)), (30, (Value.int .u64 l12i30)), (45, (Value.int .i64 (IntKind.i64.wrap (l29i45 + (1 : Int)))))] (by decide) ⟨rfl, rfl, rfl, rfl, rfl, rfl, rfl, trivial⟩)
                · replace h := bif_f hb32 h
                  refine aw_exit ?_
                  refine aq_then_exit ?_
                  refine aq_then_exit ?_
                  refine aq_block_exit ?_
                  exact aq_join (l29s0, l29A9_0) h (fun w a hm hs => norm hm hs [0, 1, 2] [] [(0, (str l29s0)), (7, l12v7), (8, (ptr g20 0)), (9, (ptr g23 0)), (29, (Value.int .u64 r2.1)), (30, (Value.int .u64 l12i30))] (by decide) ⟨rfl, rfl, rfl, rfl, rfl, rfl, trivial⟩)
        · replace h := bif_f hb16 h
          refine aw_exit ?_
          refine aq_then_exit ?_
          refine aq_then_exit ?_
          refine aq_block_exit ?_
          exact aq_join (l12s0, l12v7, l12x7) h (fun w a hm hs => norm hm hs [0] [] [(0, (str l12s0)), (7, l12v7)] (by decide) ⟨rfl, rfl, trivial⟩)
def f_slices_Equal___api_Place_api_Place__L6 (a0 : (List S_api_Place)) (a1 : (List S_api_Place)) (kk3 : (Unit → Option Bool)) : Nat → Int → Option Bool
  | 0, _ => none
  | k5 + 1, l4i13 => (bif (decide (l4i13 < (a0.length : Int))) then (opt (at? a0 l4i13) fun (u8 : S_api_Place) => (opt (at? a1 l4i13) fun (u11 : S_api_Place) => (req ((Lit.int .i64 u8.Kind).wf = true) (req ((Lit.int .i64 u8.Pack).wf = true) (req ((Lit.int .i64 u8.At).wf = true) (req ((Lit.int .i64 u8.Len).wf = true) (req ((Lit.int .i64 u11.Kind).wf = true) (req ((Lit.int .i64 u11.Pack).wf = true) (req ((Lit.int .i64 u11.At).wf = true) (req ((Lit.int .i64 u11.Len).wf = true) (bif (!(u8 == u11)) then (some false) else (f_slices_Equal___api_Place_api_Place__L6 a0 a1 kk3 k5 (IntKind.i64.wrap (l4i13 + (1 : Int))))))))))))))) else (kk3 ()))
def f_slices_Equal___api_Place_api_Place_ (fu : Nat) (a0 : (List S_api_Place)) (a1 : (List S_api_Place)) : Option Bool := (bif ((a0.length : Int) != (a1.length : Int)) then (some false) else (lt (fun (_ : Unit) => (some true)) fun (kk3 : Unit → Option Bool) => (f_slices_Equal___api_Place_api_Place__L6 a0 a1 kk3 fu (0 : Int))))
set_option maxRecDepth 100000 in
theorem f_slices_Equal___api_Place_api_Place__ok (fu : Nat) (v0_0 : Value) (a0 : (List S_api_Place)) (v1_0 : Value) (a1 : (List S_api_Place)) {r : Bool} (h : f_slices_Equal___api_Place_api_Place_ fu a0 a1 = some r) : FnOk Tryd.prog 53 [v0_0, v1_0] [(fDat (tyList tyS_api_Place) [v0_0] a0), (fDat (tyList tyS_api_Place) [v1_0] a1)] [] (fun (i : Unit) => { val := (Value.bool r) }) := by
  unfold f_slices_Equal___api_Place_api_Place_ at h
  refine fn_enter Tryd.func53 rfl Tryd.ntmps53 rfl (fun w0 Z0 => ?_)
  refine aw_seq ?_
  refine aw_region ?_
  refine al_val (ov_assign rfl rfl) ?_
  refine al_nil ?_
  refine aq_then ?_
  refine aw_seq ?_
  refine aw_seq ?_
  refine aw_region ?_
  refine al_val (ov_move rfl rfl) ?_
  refine al_val (ov_lenD 0 rfl rfl Tryd.underlying76 rfl) ?_
  refine al_val (ov_move rfl rfl) ?_
  refine al_val (ov_lenD 1 rfl rfl Tryd.underlying76 rfl) ?_
  refine al_val (ov_int rfl rfl rfl rfl) ?_
  refine al_nil ?_
  refine aq_then ?_
  refine aw_cond rfl (fun hb1 => ?_) (fun hb1 => ?_)
  · replace h := bif_t hb1 h
    refine aw_seq ?_
    refine aw_region ?_
    refine al_val (ov_assign rfl rfl) ?_
    refine al_nil ?_
    refine aq_then ?_
    refine aw_ret ?_
    refine aq_then_ret ?_
    obtain rfl := Option.some.inj h
    exact fn_ret () [] [] rfl rfl rfl rfl (res1 rfl rfl) rfl rfl rfl (by decide)
  · replace h := bif_f hb1 h
    refine aw_skip ?_
    refine aq_then ?_
    obtain ⟨kk3, hkk3, h⟩ := lt_some h
    refine aw_seq_join (ι := Unit) (fun i => (memOf w0 Z0 [] [] [(fDat (tyList tyS_api_Place) [v0_0] a0), (fDat (tyList tyS_api_Place) [v1_0] a1)])) (fun i => (tab [])) (fun i => kk3 () = some r) ?_ ?_
    · rintro _ h
      have h : kk3 () = some r := h
      rw [hkk3] at h
      dsimp only at h
      clear hkk3
      refine aw_show (m := (memOf w0 Z0 [] [] [(fDat (tyList tyS_api_Place) [v0_0] a0), (fDat (tyList tyS_api_Place) [v1_0] a1)])) (S := (tab [])) ?_
      refine aw_seq ?_
      refine aw_region ?_
      refine al_val (ov_assign rfl rfl) ?_
      refine al_nil ?_
      refine aq_then ?_
      refine aw_ret ?_
      obtain rfl := Option.some.inj h
      exact fn_ret () [] [] rfl rfl rfl rfl (res1 rfl rfl) rfl rfl rfl (by decide)
    · clear hkk3
      refine aw_seq ?_
      refine aw_region ?_
      refine al_val (ov_move rfl rfl) ?_
      refine al_val (ov_lenD 0 rfl rfl Tryd.underlying76 rfl) ?_
      refine al_val (ov_move rfl rfl) ?_
      refine al_nil ?_
      refine aq_then ?_
      refine aw_block ?_
      refine aw_state (aw_loop (ι := Int) (fun i => (memOf w0 Z0 [] [] [(fDat (tyList tyS_api_Place) [v0_0] a0), (fDat (tyList tyS_api_Place) [v1_0] a1)])) (fun i => (tab [(0, v0_0), (1, v1_0), (12, (Value.int .i64 (a0.length : Int))), (13, (Value.int .i64 i))])) (fun q i => f_slices_Equal___api_Place_api_Place__L6 a0 a1 kk3 q i = some r) ?_ fu (0 : Int) h) (fun w a hm hs => norm hm hs [] [0, 1] [(0, v0_0), (1, v1_0), (12, (Value.int .i64 (a0.length : Int))), (13, (Value.int .i64 (0 : Int)))] (by decide) ⟨rfl, rfl, rfl, rfl, trivial⟩)
      clear h
      rintro k5 l4i13 h
      have h : f_slices_Equal___api_Place_api_Place__L6 a0 a1 kk3 k5 l4i13 = some r := h
      obtain _ | k5 := k5
      · rw [f_slices_Equal___api_Place_api_Place__L6] at h; cases h
      rw [f_slices_Equal___api_Place_api_Place__L6] at h
      refine aw_show (m := (memOf w0 Z0 [] [] [(fDat (tyList tyS_api_Place) [v0_0] a0), (fDat (tyList tyS_api_Place) [v1_0] a1)])) (S := (tab [(0, v0_0), (1, v1_0), (12, (Value.int .i64 (a0.length : Int))), (13, (Value.int .i64 l4i13))])) ?_
      refine aw_seq ?_
      refine aw_region ?_
      refine al_val (ov_int rfl rfl rfl rfl) ?_
      refine al_nil ?_
      refine aq_then ?_
      refine aw_seq ?_
      refine aw_cond rfl (fun hb7 => ?_) (fun hb7 => ?_)
      · replace h := bif_t hb7 h
        refine aw_skip ?_
        refine aq_then ?_
        refine aw_seq ?_
        refine aw_block ?_
        refine aw_seq ?_
        refine aw_region ?_
        refine al_val (ov_move rfl rfl) ?_
        refine al_val (ov_assign rfl rfl) ?_
        refine al_nil ?_
        refine aq_then ?_
        refine aw_seq ?_
        obtain ⟨u8, hu9, h⟩ := opt_some h
        obtain ⟨u11, hu12, h⟩ := opt_some h
        refine aw_region_draw 8 [(16, (fun u => fEq u v0_0)), (17, (fun u => fEq u (Value.int .i64 l4i13))), (18, (fun p10 => (fPtr tyS_api_Place p10 u8))), (19, (fun u => fEq u (ag ((cA8u8 u8.ID) ++ [(Value.int .i64 u8.Kind), (Value.int .i64 u8.Pack), (Value.int .i64 u8.At), (Value.int .i64 u8.Len)])))), (20, (fun u => fEq u v1_0)), (21, (fun u => fEq u (Value.int .i64 l4i13))), (22, (fun p13 => (fPtr tyS_api_Place p13 u11))), (23, (fun u => fEq u (ag ((cA8u8 u11.ID) ++ [(Value.int .i64 u11.Kind), (Value.int .i64 u11.Pack), (Value.int .i64 u11.At), (Value.int .i64 u11.Len)]))))] (tab [(0, v0_0), (1, v1_0), (5, (Value.int .i64 l4i13)), (12, (Value.int .i64 (a0.length : Int))), (13, (Value.int .i64 l4i13))]) mixed (by kernel_rfl) rfl rfl rfl (fun a hs => hs.tab _ (allT_mem ⟨rfl, rfl, rfl, rfl, rfl, trivial⟩)) ⟨⟨rfl, ld_val (ov_move rfl rfl)⟩, ⟨rfl, ld_val (ov_move rfl rfl)⟩, ⟨rfl, ld_eq (j := 0) rfl rfl (ld_eq (j := 1) rfl rfl (ld_of (of_idxD 0 hu9 rfl rfl rfl Tryd.underlying76 sz84 rfl)))⟩, ⟨rfl, ld_fact (j := 2) rfl rfl (fun p10 => ld_val (ov_loadP (ds := ((cA8u8 u8.ID) ++ [(Value.int .i64 u8.Kind), (Value.int .i64 u8.Pack), (Value.int .i64 u8.At), (Value.int .i64 u8.Len)])) 0 rfl encS_api_Place rfl Tryd.underlying84 sz84 rfl rfl rfl))⟩, ⟨rfl, ld_val (ov_move rfl rfl)⟩, ⟨rfl, ld_val (ov_move rfl rfl)⟩, ⟨rfl, ld_eq (j := 4) rfl rfl (ld_eq (j := 5) rfl rfl (ld_of (of_idxD 1 hu12 rfl rfl rfl Tryd.underlying76 sz84 rfl)))⟩, ⟨rfl, ld_fact (j := 6) rfl rfl (fun p13 => ld_val (ov_loadP (ds := ((cA8u8 u11.ID) ++ [(Value.int .i64 u11.Kind), (Value.int .i64 u11.Pack), (Value.int .i64 u11.At), (Value.int .i64 u11.Len)])) 0 rfl encS_api_Place rfl Tryd.underlying84 sz84 rfl rfl rfl))⟩, trivial⟩ ?_
        refine tl_eq 3 rfl ?_
        refine tl_eq 7 rfl ?_
        refine tl_done ?_
        obtain ⟨hc14, h⟩ := req_some h
        obtain ⟨hc15, h⟩ := req_some h
        obtain ⟨hc16, h⟩ := req_some h
        obtain ⟨hc17, h⟩ := req_some h
        obtain ⟨hc18, h⟩ := req_some h
        obtain ⟨hc19, h⟩ := req_some h
        obtain ⟨hc20, h⟩ := req_some h
        obtain ⟨hc21, h⟩ := req_some h
        refine al_val (ov_neqA (cs := ((cA8u8 u8.ID) ++ [(Value.int .i64 u8.Kind), (Value.int .i64 u8.Pack), (Value.int .i64 u8.At), (Value.int .i64 u8.Len)])) (ds := ((cA8u8 u11.ID) ++ [(Value.int .i64 u11.Kind), (Value.int .i64 u11.Pack), (Value.int .i64 u11.At), (Value.int .i64 u11.Len)])) (ls := [5, 5, 5, 5, 5, 5, 5, 5, 3, 3, 3, 3]) (p := (u8 == u11)) eg84 kt84 lv84 rfl rfl (by kernel_rfl) (by kernel_rfl) (fit_cons (fit_u8 Tryd.underlying5) (fit_cons (fit_u8 Tryd.underlying5) (fit_cons (fit_u8 Tryd.underlying5) (fit_cons (fit_u8 Tryd.underlying5) (fit_cons (fit_u8 Tryd.underlying5) (fit_cons (fit_u8 Tryd.underlying5) (fit_cons (fit_u8 Tryd.underlying5) (fit_cons (fit_u8 Tryd.underlying5) (fit_cons (fit_int Tryd.underlying3 hc14) (fit_cons (fit_int Tryd.underlying3 hc15) (fit_cons (fit_int Tryd.underlying3 hc16) (fit_cons (fit_int Tryd.underlying3 hc17) fit_nil)))))))))))) (fit_cons (fit_u8 Tryd.underlying5) (fit_cons (fit_u8 Tryd.underlying5) (fit_cons (fit_u8 Tryd.underlying5) (fit_cons (fit_u8 Tryd.underlying5) (fit_cons (fit_u8 Tryd.underlying5) (fit_cons (fit_u8 Tryd.underlying5) (fit_cons (fit_u8 Tryd.underlying5) (fit_cons (fit_u8 Tryd.underlying5) (fit_cons (fit_int Tryd.underlying3 hc18) (fit_cons (fit_int Tryd.underlying3 hc19) (fit_cons (fit_int Tryd.underlying3 hc20) (fit_cons (fit_int Tryd.underlying3 hc21) fit_nil)))))))))))) (injS_api_Place (x := u8) (y := u11)) rfl) ?_
        refine al_nil ?_
        refine aq_then ?_
        refine aw_cond rfl (fun hb22 => ?_) (fun hb22 => ?_)
        · replace h := bif_t hb22 h
          refine aw_seq ?_
          refine aw_region ?_
          refine al_val (ov_assign rfl rfl) ?_
          refine al_nil ?_
          refine aq_then ?_
          refine aw_ret ?_
          refine aq_block_ret ?_
          refine aq_then_ret ?_
          refine aq_then_ret ?_
          refine aq_block_ret ?_
          refine aq_then_ret ?_
          obtain rfl := Option.some.inj h
          exact fn_ret () [] [] rfl rfl rfl rfl (res1 rfl rfl) rfl rfl rfl (by decide)
        · replace h := bif_f hb22 h
          refine aw_skip ?_
          refine aq_block ?_
          refine aq_then ?_
          refine aw_region ?_
          refine al_val (ov_int rfl rfl rfl rfl) ?_
          refine al_val (ov_move rfl rfl) ?_
          refine al_nil ?_
          exact aq_again k5 (IntKind.i64.wrap (l4i13 + (1 : Int))) (Nat.lt_succ_self _) h (fun w a hm hs => norm hm hs [] [0, 1] [(0, v0_0), (1, v1_0), (12, (Value.int .i64 (a0.length : Int))), (13, (Value.int .i64 (IntKind.i64.wrap (l4i13 + (1 : Int)))))] (by decide) ⟨rfl, rfl, rfl, rfl, trivial⟩)
      · replace h := bif_f hb7 h
        refine aw_exit ?_
        refine aq_then_exit ?_
        refine aq_then_exit ?_
        refine aq_block_exit ?_
        exact aq_join () h (fun w a hm hs => norm hm hs [] [0, 1] [] (by decide) trivial)
def f_lumlaw_IndexReads (fu : Nat) (a0 : (List S_api_Place)) (a1 : (List UInt8)) : Option Bool := (opt (f_index_Text fu a0) fun (r2 : ((List UInt8) × Int)) => (opt (f_lumref_Index fu a0) fun (r4 : Int) => (lt (fun (j5s7 : (List UInt8)) => (opt (f_index_Read fu a1) fun (r8 : ((List S_api_Place) × Int)) => (opt (f_lumref_IndexRead fu a1) fun (r11 : ((List S_api_Place) × Int)) => (lt (fun (j13b4 : Bool) => (some j13b4)) fun (kk14 : Bool → Option Bool) => (bif (r2.1 == j5s7) then (bif (r2.2 == r4) then (opt (f_slices_Equal___api_Place_api_Place_ fu r8.1 r11.1) fun (r18 : Bool) => (bif r18 then (kk14 (r8.2 == r11.2)) else (kk14 false))) else (kk14 false)) else (kk14 false)))))) fun (kk6 : (List UInt8) → Option Bool) => (bif (r4 == (0 : Int)) then (opt (f_lumref_IndexText fu a0) fun (r22 : (List UInt8)) => (kk6 r22)) else (kk6 ([] : List UInt8))))))
set_option maxRecDepth 100000 in
theorem f_lumlaw_IndexReads_ok (fu : Nat) (v0_0 : Value) (a0 : (List S_api_Place)) (a1 : (List UInt8)) {r : Bool} (h : f_lumlaw_IndexReads fu a0 a1 = some r) : FnOk Tryd.prog 9 [v0_0, (str a1)] [(fDat (tyList tyS_api_Place) [v0_0] a0)] [] (fun (i : Unit) => { val := (Value.bool r) }) := by
  unfold f_lumlaw_IndexReads at h
  refine fn_enter Tryd.func9 rfl Tryd.ntmps9 rfl (fun w0 Z0 => ?_)
  refine aw_seq ?_
  refine aw_region ?_
  refine al_val (ov_assign rfl rfl) ?_
  refine al_nil ?_
  refine aq_then ?_
  refine aw_seq ?_
  refine aw_region ?_
  refine al_val (ov_move rfl rfl) ?_
  obtain ⟨r2, hc1, h⟩ := opt_some h
  refine al_call (vs := [v0_0]) (f_index_Text_ok fu v0_0 a0 hc1) [] [] [] (pre_fz 0 rfl pre_nil) rfl (by simp) (by decide) (.inl rfl) rfl Tryd.func48 rfl rfl rfl (fun _ => ?_)
  refine al_val (ov_move rfl rfl) ?_
  refine al_val (ov_extract rfl rfl rfl) ?_
  refine al_val (ov_extract rfl rfl rfl) ?_
  refine al_val (ov_assign rfl rfl) ?_
  refine al_val (ov_assign rfl rfl) ?_
  refine al_nil ?_
  refine aq_then ?_
  refine aw_seq ?_
  refine aw_region ?_
  refine al_val (ov_move rfl rfl) ?_
  obtain ⟨r4, hc3, h⟩ := opt_some h
  refine al_call (vs := [v0_0]) (f_lumref_Index_ok fu v0_0 a0 hc3) [] [] [] (pre_fz 0 rfl pre_nil) rfl (by simp) (by decide) (.inl rfl) rfl Tryd.func49 rfl rfl rfl (fun _ => ?_)
  refine al_val (ov_assign rfl rfl) ?_
  refine al_val (ov_assign rfl rfl) ?_
  refine al_nil ?_
  refine aq_then ?_
  obtain ⟨kk6, hkk6, h⟩ := lt_some h
  refine aw_seq_join (ι := (List UInt8)) (fun i => (memOf w0 Z0 [] [] [(fDat (tyList tyS_api_Place) [v0_0] a0)])) (fun i => (tab [(1, (str a1)), (5, (str r2.1)), (6, (Value.int .i64 r2.2)), (7, (str i)), (8, (Value.int .i64 r4))])) (fun i => kk6 i = some r) ?_ ?_
  · rintro j5s7 h
    have h : kk6 j5s7 = some r := h
    rw [hkk6] at h
    dsimp only at h
    clear hkk6
    refine aw_show (m := (memOf w0 Z0 [] [] [(fDat (tyList tyS_api_Place) [v0_0] a0)])) (S := (tab [(1, (str a1)), (5, (str r2.1)), (6, (Value.int .i64 r2.2)), (7, (str j5s7)), (8, (Value.int .i64 r4))])) ?_
    refine aw_seq ?_
    refine aw_region ?_
    refine al_val (ov_move rfl rfl) ?_
    obtain ⟨r8, hc7, h⟩ := opt_some h
    refine al_call (vs := [(str a1)]) (f_index_Read_ok fu a1 hc7) [] [] [] pre_nil rfl (by simp) (by decide) (.inl rfl) rfl Tryd.func51 rfl rfl rfl (fun v9 => ?_)
    refine al_val (ov_move rfl rfl) ?_
    refine al_val (ov_extract rfl rfl rfl) ?_
    refine al_val (ov_extract rfl rfl rfl) ?_
    refine al_val (ov_assign rfl rfl) ?_
    refine al_val (ov_assign rfl rfl) ?_
    refine al_nil ?_
    refine aq_then ?_
    refine aw_seq ?_
    refine aw_region ?_
    refine al_val (ov_move rfl rfl) ?_
    obtain ⟨r11, hc10, h⟩ := opt_some h
    refine al_call (vs := [(str a1)]) (f_lumref_IndexRead_ok fu a1 hc10) [] [] [0] pre_nil rfl (by simp) (by decide) (.inl rfl) rfl Tryd.func52 rfl rfl rfl (fun v12 => ?_)
    refine al_val (ov_move rfl rfl) ?_
    refine al_val (ov_extract rfl rfl rfl) ?_
    refine al_val (ov_extract rfl rfl rfl) ?_
    refine al_val (ov_assign rfl rfl) ?_
    refine al_val (ov_assign rfl rfl) ?_
    refine al_nil ?_
    refine aq_then ?_
    obtain ⟨kk14, hkk14, h⟩ := lt_some h
    refine aw_seq_join (ι := Bool) (fun i => (memOf w0 Z0 [] [] [(fDat (tyList tyS_api_Place) [v0_0] a0)])) (fun i => (tab [(4, (Value.bool i))])) (fun i => kk14 i = some r) ?_ ?_
    · rintro j13b4 h
      have h : kk14 j13b4 = some r := h
      rw [hkk14] at h
      dsimp only at h
      clear hkk14
      refine aw_show (m := (memOf w0 Z0 [] [] [(fDat (tyList tyS_api_Place) [v0_0] a0)])) (S := (tab [(4, (Value.bool j13b4))])) ?_
      refine aw_ret ?_
      obtain rfl := Option.some.inj h
      exact fn_ret () [] [] rfl rfl rfl rfl (res1 rfl rfl) rfl rfl rfl (by decide)
    · clear hkk14
      refine aw_region ?_
      refine al_val (ov_move rfl rfl) ?_
      refine al_val (ov_move rfl rfl) ?_
      refine al_val (ov_strCmp rfl rfl rfl rfl) ?_
      refine al_val (ov_move rfl rfl) ?_
      refine al_caseB 37 rfl (fun hb15 => ?_) (fun hb15 => ?_)
      · replace h := bif_t hb15 h
        refine al_val (ov_move rfl rfl) ?_
        refine al_val (ov_move rfl rfl) ?_
        refine al_val (ov_int rfl rfl rfl rfl) ?_
        refine al_val (ov_pick_t rfl rfl rfl) ?_
        refine al_val (ov_move rfl rfl) ?_
        refine al_caseB 42 rfl (fun hb16 => ?_) (fun hb16 => ?_)
        · replace h := bif_t hb16 h
          refine al_val (ov_move rfl rfl) ?_
          refine al_val (ov_move rfl rfl) ?_
          obtain ⟨r18, hc17, h⟩ := opt_some h
          refine al_call (vs := [v9, v12]) (f_slices_Equal___api_Place_api_Place__ok fu v9 r8.1 v12 r11.1 hc17) [0, 1] [] [0, 1] (pre_own 1 rfl rfl (pre_own 0 rfl rfl pre_nil)) rfl (by simp) (by decide) (.inr flat_res0) rfl Tryd.func53 rfl rfl rfl (fun _ => ?_)
          refine al_val (ov_pick_t rfl rfl rfl) ?_
          refine al_val (ov_move rfl rfl) ?_
          refine al_caseB 47 rfl (fun hb19 => ?_) (fun hb19 => ?_)
          · replace h := bif_t hb19 h
            refine al_val (ov_move rfl rfl) ?_
            refine al_val (ov_move rfl rfl) ?_
            refine al_val (ov_int rfl rfl rfl rfl) ?_
            refine al_val (ov_pick_t rfl rfl rfl) ?_
            refine al_val (ov_assign rfl rfl) ?_
            refine al_nil ?_
            exact aq_join (r8.2 == r11.2) h (fun w a hm hs => norm hm hs [] [0] [(4, (Value.bool (r8.2 == r11.2)))] (by decide) ⟨rfl, trivial⟩)
          · replace h := bif_f hb19 h
            refine al_skip ?_
            refine al_skip ?_
            refine al_skip ?_
            refine al_val (ov_pick_f rfl rfl rfl) ?_
            refine al_val (ov_assign rfl rfl) ?_
            refine al_nil ?_
            exact aq_join false h (fun w a hm hs => norm hm hs [] [0] [(4, (Value.bool false))] (by decide) ⟨rfl, trivial⟩)
        · replace h := bif_f hb16 h
          refine al_skip ?_
          refine al_skip ?_
          refine al_skip ?_
          refine al_val (ov_pick_f rfl rfl rfl) ?_
          refine al_val (ov_move rfl rfl) ?_
          refine al_skip ?_
          refine al_skip ?_
          refine al_skip ?_
          refine al_val (ov_pick_f rfl rfl rfl) ?_
          refine al_val (ov_assign rfl rfl) ?_
          refine al_nil ?_
          exact aq_join false h (fun w a hm hs => norm hm hs [] [0] [(4, (Value.bool false))] (by decide) ⟨rfl, trivial⟩)
      · replace h := bif_f hb15 h
        refine al_skip ?_
        refine al_skip ?_
        refine al_skip ?_
        refine al_val (ov_pick_f rfl rfl rfl) ?_
        refine al_val (ov_move rfl rfl) ?_
        refine al_skip ?_
        refine al_skip ?_
        refine al_skip ?_
        refine al_val (ov_pick_f rfl rfl rfl) ?_
        refine al_val (ov_move rfl rfl) ?_
        refine al_skip ?_
        refine al_skip ?_
        refine al_skip ?_
        refine al_val (ov_pick_f rfl rfl rfl) ?_
        refine al_val (ov_assign rfl rfl) ?_
        refine al_nil ?_
        exact aq_join false h (fun w a hm hs => norm hm hs [] [0] [(4, (Value.bool false))] (by decide) ⟨rfl, trivial⟩)
  · clear hkk6
    refine aw_seq ?_
    refine aw_region ?_
    refine al_val (ov_move rfl rfl) ?_
    refine al_val (ov_int rfl rfl rfl rfl) ?_
    refine al_nil ?_
    refine aq_then ?_
    refine aw_cond rfl (fun hb20 => ?_) (fun hb20 => ?_)
    · replace h := bif_t hb20 h
      refine aw_region ?_
      refine al_val (ov_move rfl rfl) ?_
      obtain ⟨r22, hc21, h⟩ := opt_some h
      refine al_call (vs := [v0_0]) (f_lumref_IndexText_ok fu v0_0 a0 hc21) [] [] [] (pre_fz 0 rfl pre_nil) rfl (by simp) (by decide) (.inl rfl) rfl Tryd.func50 rfl rfl rfl (fun _ => ?_)
      refine al_val (ov_assign rfl rfl) ?_
      refine al_nil ?_
      exact aq_join r22 h (fun w a hm hs => norm hm hs [] [0] [(1, (str a1)), (5, (str r2.1)), (6, (Value.int .i64 r2.2)), (7, (str r22)), (8, (Value.int .i64 r4))] (by decide) ⟨rfl, rfl, rfl, rfl, rfl, trivial⟩)
    · replace h := bif_f hb20 h
      refine aw_skip ?_
      exact aq_join ([] : List UInt8) h (fun w a hm hs => norm hm hs [] [0] [(1, (str a1)), (5, (str r2.1)), (6, (Value.int .i64 r2.2)), (7, (str ([] : List UInt8))), (8, (Value.int .i64 r4))] (by decide) ⟨rfl, rfl, rfl, rfl, rfl, trivial⟩)
end Go.Proofs.YtjbgahmcobcojaaDoor
