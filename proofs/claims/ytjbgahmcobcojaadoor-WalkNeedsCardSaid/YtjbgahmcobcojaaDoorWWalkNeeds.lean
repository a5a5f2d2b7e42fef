/- Walks by program. No condition. -/
import Derived.Test.YtjbgahmcobcojaaDoorEn19
import Derived.Test.YtjbgahmcobcojaaDoorChecked
import Derived.Test.YtjbgahmcobcojaaDoorShBEPut
import Derived.Test.YtjbgahmcobcojaaDoorEnU
import Derived.Test.YtjbgahmcobcojaaDoorShRepeat
import Derived.Test.YtjbgahmcobcojaaDoorWWalkNeeds_b
namespace Go.Proofs.YtjbgahmcobcojaaDoor
open Go.RowKit YtjbgahmcobcojaaDoor.En
set_option linter.unusedVariables false
set_option linter.unusedSimpArgs false
set_option maxRecDepth 100000 in
theorem f_lumref_char_ok (fu : Nat) (a0 : (List UInt8)) {r : (Int × Int)} (h : f_lumref_char fu a0 = some r) : FnOk Tryd.prog 125 [(str a0)] [] [] (fun (i : Unit) => { val := (Value.tuple #[(Value.int .i64 r.1), (Value.int .i64 r.2)]) }) := by
  unfold f_lumref_char at h
  refine fn_enter Tryd.func125 rfl Tryd.ntmps125 rfl (fun w0 Z0 => ?_)
  refine aw_seq ?_
  refine aw_region ?_
  refine al_val (ov_assign rfl rfl) ?_
  refine al_val (ov_assign rfl rfl) ?_
  refine al_nil ?_
  refine aq_then ?_
  refine aw_seq ?_
  refine aw_seq ?_
  refine aw_region ?_
  refine al_val (ov_move rfl rfl) ?_
  refine al_val (ov_strCmp rfl rfl rfl rfl) ?_
  refine al_nil ?_
  refine aq_then ?_
  refine aw_cond rfl (fun hb1 => ?_) (fun hb1 => ?_)
  · replace h := bif_t hb1 h
    refine aw_seq ?_
    refine aw_region ?_
    refine al_val (ov_assign rfl rfl) ?_
    refine al_val (ov_assign rfl rfl) ?_
    refine al_nil ?_
    refine aq_then ?_
    refine aw_ret ?_
    refine aq_then_ret ?_
    obtain rfl := Option.some.inj h
    exact fn_ret () [] [] rfl rfl rfl rfl (res2 rfl rfl rfl) rfl rfl rfl (by decide)
  · replace h := bif_f hb1 h
    refine aw_skip ?_
    refine aq_then ?_
    refine aw_seq ?_
    refine aw_region ?_
    refine al_val (ov_move rfl rfl) ?_
    obtain ⟨hc2, h⟩ := req_some h
    refine al_val (ov_strIdx hc2.1 hc2.2 Tryd.underlying9 rfl rfl rfl) ?_
    refine al_val (ov_convInt (by rw [Tryd.underlying5]; rfl) Tryd.underlying3 rfl rfl) ?_
    refine al_val (ov_assign rfl rfl) ?_
    refine al_nil ?_
    refine aq_then ?_
    refine aw_seq ?_
    refine aw_seq ?_
    refine aw_region ?_
    refine al_val (ov_move rfl rfl) ?_
    refine al_val (ov_int rfl rfl rfl rfl) ?_
    refine al_nil ?_
    refine aq_then ?_
    refine aw_cond rfl (fun hb3 => ?_) (fun hb3 => ?_)
    · replace h := bif_t hb3 h
      refine aw_seq ?_
      refine aw_region ?_
      refine al_val (ov_move rfl rfl) ?_
      refine al_val (ov_assign rfl rfl) ?_
      refine al_val (ov_assign rfl rfl) ?_
      refine al_nil ?_
      refine aq_then ?_
      refine aw_ret ?_
      refine aq_then_ret ?_
      obtain rfl := Option.some.inj h
      exact fn_ret () [] [] rfl rfl rfl rfl (res2 rfl rfl rfl) rfl rfl rfl (by decide)
    · replace h := bif_f hb3 h
      refine aw_skip ?_
      refine aq_then ?_
      refine aw_seq ?_
      refine aw_region ?_
      refine al_val (ov_assign rfl rfl) ?_
      refine al_val (ov_assign rfl rfl) ?_
      refine al_nil ?_
      refine aq_then ?_
      obtain ⟨kk5, hkk5, h⟩ := lt_some h
      refine aw_seq_join (ι := Int × Int × Int) (fun i => (memOf w0 Z0 [] [] [])) (fun i => (tab [(0, (str a0)), (4, (Value.int .i64 i.1)), (5, (Value.int .i64 i.2.1)), (6, (Value.int .i64 i.2.2))])) (fun i => kk5 i.1 i.2.1 i.2.2 = some r) ?_ ?_
      · rintro ⟨j4i4, j4i5, j4i6⟩ h
        have h : kk5 j4i4 j4i5 j4i6 = some r := h
        rw [hkk5] at h
        dsimp only at h
        clear hkk5
        refine aw_show (m := (memOf w0 Z0 [] [] [])) (S := (tab [(0, (str a0)), (4, (Value.int .i64 j4i4)), (5, (Value.int .i64 j4i5)), (6, (Value.int .i64 j4i6))])) ?_
        refine aw_seq ?_
        refine aw_seq ?_
        refine aw_region ?_
        refine al_val (ov_move rfl rfl) ?_
        refine al_val (ov_strLen Tryd.underlying9 rfl rfl) ?_
        refine al_val (ov_move rfl rfl) ?_
        refine al_val (ov_int rfl rfl rfl rfl) ?_
        refine al_nil ?_
        refine aq_then ?_
        refine aw_cond rfl (fun hb6 => ?_) (fun hb6 => ?_)
        · replace h := bif_t hb6 h
          refine aw_seq ?_
          refine aw_region ?_
          refine al_val (ov_assign rfl rfl) ?_
          refine al_val (ov_assign rfl rfl) ?_
          refine al_nil ?_
          refine aq_then ?_
          refine aw_ret ?_
          refine aq_then_ret ?_
          obtain rfl := Option.some.inj h
          exact fn_ret () [] [] rfl rfl rfl rfl (res2 rfl rfl rfl) rfl rfl rfl (by decide)
        · replace h := bif_f hb6 h
          refine aw_skip ?_
          refine aq_then ?_
          obtain ⟨kk8, hkk8, h⟩ := lt_some h
          refine aw_seq_join (ι := Int) (fun i => (memOf w0 Z0 [] [] [])) (fun i => (tab [(4, (Value.int .i64 i)), (5, (Value.int .i64 j4i5)), (6, (Value.int .i64 j4i6))])) (fun i => kk8 i = some r) ?_ ?_
          · rintro j7i4 h
            have h : kk8 j7i4 = some r := h
            rw [hkk8] at h
            dsimp only at h
            clear hkk8
            refine aw_show (m := (memOf w0 Z0 [] [] [])) (S := (tab [(4, (Value.int .i64 j7i4)), (5, (Value.int .i64 j4i5)), (6, (Value.int .i64 j4i6))])) ?_
            refine aw_seq ?_
            obtain ⟨kk10, hkk10, h⟩ := lt_some h
            refine aw_seq_join (ι := Bool) (fun i => (memOf w0 Z0 [] [] [])) (fun i => (tab [(4, (Value.int .i64 j7i4)), (5, (Value.int .i64 j4i5)), (84, (Value.bool i))])) (fun i => kk10 i = some r) ?_ ?_
            · rintro j9b84 h
              have h : kk10 j9b84 = some r := h
              rw [hkk10] at h
              dsimp only at h
              clear hkk10
              refine aw_show (m := (memOf w0 Z0 [] [] [])) (S := (tab [(4, (Value.int .i64 j7i4)), (5, (Value.int .i64 j4i5)), (84, (Value.bool j9b84))])) ?_
              refine aw_cond rfl (fun hb11 => ?_) (fun hb11 => ?_)
              · replace h := bif_t hb11 h
                refine aw_seq ?_
                refine aw_region ?_
                refine al_val (ov_assign rfl rfl) ?_
                refine al_val (ov_assign rfl rfl) ?_
                refine al_nil ?_
                refine aq_then ?_
                refine aw_ret ?_
                refine aq_then_ret ?_
                obtain rfl := Option.some.inj h
                exact fn_ret () [] [] rfl rfl rfl rfl (res2 rfl rfl rfl) rfl rfl rfl (by decide)
              · replace h := bif_f hb11 h
                refine aw_skip ?_
                refine aq_then ?_
                refine aw_seq ?_
                refine aw_region ?_
                refine al_val (ov_move rfl rfl) ?_
                refine al_val (ov_move rfl rfl) ?_
                refine al_val (ov_assign rfl rfl) ?_
                refine al_val (ov_assign rfl rfl) ?_
                refine al_nil ?_
                refine aq_then ?_
                refine aw_ret ?_
                obtain rfl := Option.some.inj h
                exact fn_ret () [] [] rfl rfl rfl rfl (res2 rfl rfl rfl) rfl rfl rfl (by decide)
            · clear hkk10
              refine aw_region ?_
              refine al_val (ov_move rfl rfl) ?_
              refine al_val (ov_move rfl rfl) ?_
              refine al_val (ov_int rfl rfl rfl rfl) ?_
              refine al_val (ov_move rfl rfl) ?_
              refine al_caseB 73 rfl (fun hb12 => ?_) (fun hb12 => ?_)
              · replace h := bif_t hb12 h
                refine al_skip ?_
                refine al_skip ?_
                refine al_val (ov_pick_t rfl rfl rfl) ?_
                refine al_val (ov_move rfl rfl) ?_
                refine al_skip ?_
                refine al_skip ?_
                refine al_skip ?_
                refine al_skip ?_
                refine al_skip ?_
                refine al_skip ?_
                refine al_val (ov_pick_t rfl rfl rfl) ?_
                refine al_nil ?_
                exact aq_join true h (fun w a hm hs => norm hm hs [] [] [(4, (Value.int .i64 j7i4)), (5, (Value.int .i64 j4i5)), (84, (Value.bool true))] (by decide) ⟨rfl, rfl, rfl, trivial⟩)
              · replace h := bif_f hb12 h
                refine al_val (ov_move rfl rfl) ?_
                refine al_val (ov_int rfl rfl rfl rfl) ?_
                refine al_val (ov_pick_f rfl rfl rfl) ?_
                refine al_val (ov_move rfl rfl) ?_
                refine al_caseB 77 rfl (fun hb13 => ?_) (fun hb13 => ?_)
                · replace h := bif_t hb13 h
                  refine al_skip ?_
                  refine al_skip ?_
                  refine al_skip ?_
                  refine al_skip ?_
                  refine al_skip ?_
                  refine al_skip ?_
                  refine al_val (ov_pick_t rfl rfl rfl) ?_
                  refine al_nil ?_
                  exact aq_join true h (fun w a hm hs => norm hm hs [] [] [(4, (Value.int .i64 j7i4)), (5, (Value.int .i64 j4i5)), (84, (Value.bool true))] (by decide) ⟨rfl, rfl, rfl, trivial⟩)
                · replace h := bif_f hb13 h
                  refine al_val (ov_move rfl rfl) ?_
                  refine al_val (ov_int rfl rfl rfl rfl) ?_
                  refine al_val (ov_move rfl rfl) ?_
                  refine al_caseB 80 rfl (fun hb14 => ?_) (fun hb14 => ?_)
                  · replace h := bif_t hb14 h
                    refine al_val (ov_move rfl rfl) ?_
                    refine al_val (ov_int rfl rfl rfl rfl) ?_
                    refine al_val (ov_pick_t rfl rfl rfl) ?_
                    refine al_val (ov_pick_f rfl rfl rfl) ?_
                    refine al_nil ?_
                    exact aq_join (decide (j7i4 < (57344 : Int))) h (fun w a hm hs => norm hm hs [] [] [(4, (Value.int .i64 j7i4)), (5, (Value.int .i64 j4i5)), (84, (Value.bool (decide (j7i4 < (57344 : Int)))))] (by decide) ⟨rfl, rfl, rfl, trivial⟩)
                  · replace h := bif_f hb14 h
                    refine al_skip ?_
                    refine al_skip ?_
                    refine al_val (ov_pick_f rfl rfl rfl) ?_
                    refine al_val (ov_pick_f rfl rfl rfl) ?_
                    refine al_nil ?_
                    exact aq_join false h (fun w a hm hs => norm hm hs [] [] [(4, (Value.int .i64 j7i4)), (5, (Value.int .i64 j4i5)), (84, (Value.bool false))] (by decide) ⟨rfl, rfl, rfl, trivial⟩)
          · clear hkk8
            refine aw_seq ?_
            refine aw_region ?_
            refine al_val (ov_move rfl rfl) ?_
            refine al_val (ov_move rfl rfl) ?_
            obtain ⟨hc15, h⟩ := req_some h
            refine al_val (ov_strCut hc15.1 hc15.2.1 hc15.2.2 Tryd.underlying9 rfl rfl rfl rfl) ?_
            obtain ⟨hc16, h⟩ := req_some h
            refine al_bytes hc16 rfl Tryd.underlying9 Tryd.underlying89 Tryd.underlying5 rfl (fun s17 => ?_)
            refine al_val (ov_lenD 0 rfl rfl Tryd.underlying89 rfl) ?_
            refine al_val (ov_move rfl rfl) ?_
            refine al_nil ?_
            refine aq_then ?_
            refine aw_block ?_
            refine aw_state (aw_loop (ι := Int × Int) (fun i => (memOf w0 Z0 [] [] [(fDat (tyList tyU8) [s17] (cut a0 (1 : Int) j4i5))])) (fun i => (tab [(4, (Value.int .i64 i.1)), (5, (Value.int .i64 j4i5)), (6, (Value.int .i64 j4i6)), (51, s17), (52, (Value.int .i64 ((cut a0 (1 : Int) j4i5).length : Int))), (53, (Value.int .i64 i.2))])) (fun q i => f_lumref_char_L20 a0 j4i5 kk8 q i.1 i.2 = some r) ?_ fu (j4i4, (0 : Int)) h) (fun w a hm hs => norm hm hs [] [0] [(4, (Value.int .i64 j4i4)), (5, (Value.int .i64 j4i5)), (6, (Value.int .i64 j4i6)), (51, s17), (52, (Value.int .i64 ((cut a0 (1 : Int) j4i5).length : Int))), (53, (Value.int .i64 (0 : Int)))] (by decide) ⟨rfl, rfl, rfl, rfl, rfl, rfl, trivial⟩)
            clear h
            rintro k19 ⟨l18i4, l18i53⟩ h
            have h : f_lumref_char_L20 a0 j4i5 kk8 k19 l18i4 l18i53 = some r := h
            obtain _ | k19 := k19
            · rw [f_lumref_char_L20] at h; cases h
            rw [f_lumref_char_L20] at h
            refine aw_show (m := (memOf w0 Z0 [] [] [(fDat (tyList tyU8) [s17] (cut a0 (1 : Int) j4i5))])) (S := (tab [(4, (Value.int .i64 l18i4)), (5, (Value.int .i64 j4i5)), (6, (Value.int .i64 j4i6)), (51, s17), (52, (Value.int .i64 ((cut a0 (1 : Int) j4i5).length : Int))), (53, (Value.int .i64 l18i53))])) ?_
            refine aw_seq ?_
            refine aw_region ?_
            refine al_val (ov_int rfl rfl rfl rfl) ?_
            refine al_nil ?_
            refine aq_then ?_
            refine aw_seq ?_
            refine aw_cond rfl (fun hb21 => ?_) (fun hb21 => ?_)
            · replace h := bif_t hb21 h
              refine aw_skip ?_
              refine aq_then ?_
              refine aw_seq ?_
              refine aw_block ?_
              refine aw_seq ?_
              refine aw_region ?_
              obtain ⟨u22, hu23, h⟩ := opt_some h
              refine al_idxD 0 hu23 rfl rfl rfl Tryd.underlying89 sz5 rfl (fun p24 => ?_)
              refine al_val (ov_loadP (ds := [(Value.int .u8 (u22.toNat : Int))]) 0 rfl (fun h => h) rfl Tryd.underlying5 sz5 rfl rfl rfl) ?_
              refine al_val (ov_assign rfl rfl) ?_
              refine al_nil ?_
              refine aq_then ?_
              refine aw_seq ?_
              obtain ⟨kk26, hkk26, h⟩ := lt_some h
              refine aw_seq_join (ι := Bool) (fun i => (memOf w0 Z0 [] [] [(fDat (tyList tyU8) [s17] (cut a0 (1 : Int) j4i5)), (fPtr tyU8 p24 u22)])) (fun i => (tab [(4, (Value.int .i64 l18i4)), (5, (Value.int .i64 j4i5)), (6, (Value.int .i64 j4i6)), (8, (Value.int .u8 (u22.toNat : Int))), (51, s17), (52, (Value.int .i64 ((cut a0 (1 : Int) j4i5).length : Int))), (53, (Value.int .i64 l18i53)), (62, (Value.bool i))])) (fun i => kk26 i = some r) ?_ ?_
              · rintro j25b62 h
                have h : kk26 j25b62 = some r := h
                rw [hkk26] at h
                dsimp only at h
                clear hkk26
                refine aw_show (m := (memOf w0 Z0 [] [] [(fDat (tyList tyU8) [s17] (cut a0 (1 : Int) j4i5)), (fPtr tyU8 p24 u22)])) (S := (tab [(4, (Value.int .i64 l18i4)), (5, (Value.int .i64 j4i5)), (6, (Value.int .i64 j4i6)), (8, (Value.int .u8 (u22.toNat : Int))), (51, s17), (52, (Value.int .i64 ((cut a0 (1 : Int) j4i5).length : Int))), (53, (Value.int .i64 l18i53)), (62, (Value.bool j25b62))])) ?_
                refine aw_cond rfl (fun hb27 => ?_) (fun hb27 => ?_)
                · replace h := bif_t hb27 h
                  refine aw_seq ?_
                  refine aw_region ?_
                  refine al_val (ov_assign rfl rfl) ?_
                  refine al_val (ov_assign rfl rfl) ?_
                  refine al_nil ?_
                  refine aq_then ?_
                  refine aw_ret ?_
                  refine aq_then_ret ?_
                  refine aq_block_ret ?_
                  refine aq_then_ret ?_
                  refine aq_then_ret ?_
                  refine aq_block_ret ?_
                  refine aq_then_ret ?_
                  obtain rfl := Option.some.inj h
                  exact fn_ret () [] [] rfl rfl rfl rfl (res2 rfl rfl rfl) rfl rfl rfl (by decide)
                · replace h := bif_f hb27 h
                  refine aw_skip ?_
                  refine aq_then ?_
                  refine aw_region ?_
                  refine al_val (ov_move rfl rfl) ?_
                  refine al_val (ov_int rfl rfl rfl rfl) ?_
                  refine al_val (ov_move rfl rfl) ?_
                  refine al_val (ov_convInt (by rw [Tryd.underlying5]; rfl) Tryd.underlying3 rfl rfl) ?_
                  refine al_val (ov_int rfl rfl rfl rfl) ?_
                  refine al_val (ov_int rfl rfl rfl rfl) ?_
                  refine al_val (ov_assign rfl rfl) ?_
                  refine al_nil ?_
                  refine aq_block ?_
                  refine aq_then ?_
                  refine aw_region ?_
                  refine al_val (ov_int rfl rfl rfl rfl) ?_
                  refine al_val (ov_move rfl rfl) ?_
                  refine al_nil ?_
                  exact aq_again k19 ((IntKind.i64.wrap ((IntKind.i64.wrap ((IntKind.i64.wrap ((64 : Int) * l18i4)) + (IntKind.i64.wrap (u22.toNat : Int)))) - (128 : Int))), (IntKind.i64.wrap (l18i53 + (1 : Int)))) (Nat.lt_succ_self _) h (fun w a hm hs => norm hm hs [] [0] [(4, (Value.int .i64 (IntKind.i64.wrap ((IntKind.i64.wrap ((IntKind.i64.wrap ((64 : Int) * l18i4)) + (IntKind.i64.wrap (u22.toNat : Int)))) - (128 : Int))))), (5, (Value.int .i64 j4i5)), (6, (Value.int .i64 j4i6)), (51, s17), (52, (Value.int .i64 ((cut a0 (1 : Int) j4i5).length : Int))), (53, (Value.int .i64 (IntKind.i64.wrap (l18i53 + (1 : Int)))))] (by decide) ⟨rfl, rfl, rfl, rfl, rfl, rfl, trivial⟩)
              · clear hkk26
                refine aw_region ?_
                refine al_val (ov_move rfl rfl) ?_
                refine al_val (ov_int rfl rfl rfl rfl) ?_
                refine al_val (ov_move rfl rfl) ?_
                refine al_caseB 59 rfl (fun hb28 => ?_) (fun hb28 => ?_)
                · replace h := bif_t hb28 h
                  refine al_skip ?_
                  refine al_skip ?_
                  refine al_val (ov_pick_t rfl rfl rfl) ?_
                  refine al_nil ?_
                  exact aq_join true h (fun w a hm hs => norm hm hs [] [1, 0] [(4, (Value.int .i64 l18i4)), (5, (Value.int .i64 j4i5)), (6, (Value.int .i64 j4i6)), (8, (Value.int .u8 (u22.toNat : Int))), (51, s17), (52, (Value.int .i64 ((cut a0 (1 : Int) j4i5).length : Int))), (53, (Value.int .i64 l18i53)), (62, (Value.bool true))] (by decide) ⟨rfl, rfl, rfl, rfl, rfl, rfl, rfl, rfl, trivial⟩)
                · replace h := bif_f hb28 h
                  refine al_val (ov_move rfl rfl) ?_
                  refine al_val (ov_int rfl rfl rfl rfl) ?_
                  refine al_val (ov_pick_f rfl rfl rfl) ?_
                  refine al_nil ?_
                  exact aq_join (decide ((u22.toNat : Int) > (191 : Int))) h (fun w a hm hs => norm hm hs [] [1, 0] [(4, (Value.int .i64 l18i4)), (5, (Value.int .i64 j4i5)), (6, (Value.int .i64 j4i6)), (8, (Value.int .u8 (u22.toNat : Int))), (51, s17), (52, (Value.int .i64 ((cut a0 (1 : Int) j4i5).length : Int))), (53, (Value.int .i64 l18i53)), (62, (Value.bool (decide ((u22.toNat : Int) > (191 : Int)))))] (by decide) ⟨rfl, rfl, rfl, rfl, rfl, rfl, rfl, rfl, trivial⟩)
            · replace h := bif_f hb21 h
              refine aw_exit ?_
              refine aq_then_exit ?_
              refine aq_then_exit ?_
              refine aq_block_exit ?_
              exact aq_join l18i4 h (fun w a hm hs => norm hm hs [] [] [(4, (Value.int .i64 l18i4)), (5, (Value.int .i64 j4i5)), (6, (Value.int .i64 j4i6))] (by decide) ⟨rfl, rfl, rfl, trivial⟩)
      · clear hkk5
        refine aw_block ?_
        obtain ⟨kk30, hkk30, h⟩ := lt_some h
        refine aw_seq_join (ι := Bool) (fun i => (memOf w0 Z0 [] [] [])) (fun i => (tab [(0, (str a0)), (4, (Value.int .i64 (IntKind.i64.wrap (En.bAt a0 (0 : Int))))), (17, (Value.bool i))])) (fun i => kk30 i = some r) ?_ ?_
        · rintro j29b17 h
          have h : kk30 j29b17 = some r := h
          rw [hkk30] at h
          dsimp only at h
          clear hkk30
          refine aw_show (m := (memOf w0 Z0 [] [] [])) (S := (tab [(0, (str a0)), (4, (Value.int .i64 (IntKind.i64.wrap (En.bAt a0 (0 : Int))))), (17, (Value.bool j29b17))])) ?_
          refine aw_cond rfl (fun hb31 => ?_) (fun hb31 => ?_)
          · replace h := bif_t hb31 h
            refine aw_region ?_
            refine al_val (ov_move rfl rfl) ?_
            refine al_val (ov_int rfl rfl rfl rfl) ?_
            refine al_val (ov_assign rfl rfl) ?_
            refine al_val (ov_assign rfl rfl) ?_
            refine al_val (ov_assign rfl rfl) ?_
            refine al_nil ?_
            refine aq_block ?_
            exact aq_join ((IntKind.i64.wrap ((IntKind.i64.wrap (En.bAt a0 (0 : Int))) - (192 : Int))), (2 : Int), (128 : Int)) h (fun w a hm hs => norm hm hs [] [] [(0, (str a0)), (4, (Value.int .i64 (IntKind.i64.wrap ((IntKind.i64.wrap (En.bAt a0 (0 : Int))) - (192 : Int))))), (5, (Value.int .i64 (2 : Int))), (6, (Value.int .i64 (128 : Int)))] (by decide) ⟨rfl, rfl, rfl, rfl, trivial⟩)
          · replace h := bif_f hb31 h
            obtain ⟨kk33, hkk33, h⟩ := lt_some h
            refine aw_seq_join (ι := Bool) (fun i => (memOf w0 Z0 [] [] [])) (fun i => (tab [(0, (str a0)), (4, (Value.int .i64 (IntKind.i64.wrap (En.bAt a0 (0 : Int))))), (26, (Value.bool i))])) (fun i => kk33 i = some r) ?_ ?_
            · rintro j32b26 h
              have h : kk33 j32b26 = some r := h
              rw [hkk33] at h
              dsimp only at h
              clear hkk33
              refine aw_show (m := (memOf w0 Z0 [] [] [])) (S := (tab [(0, (str a0)), (4, (Value.int .i64 (IntKind.i64.wrap (En.bAt a0 (0 : Int))))), (26, (Value.bool j32b26))])) ?_
              refine aw_cond rfl (fun hb34 => ?_) (fun hb34 => ?_)
              · replace h := bif_t hb34 h
                refine aw_region ?_
                refine al_val (ov_move rfl rfl) ?_
                refine al_val (ov_int rfl rfl rfl rfl) ?_
                refine al_val (ov_assign rfl rfl) ?_
                refine al_val (ov_assign rfl rfl) ?_
                refine al_val (ov_assign rfl rfl) ?_
                refine al_nil ?_
                refine aq_block ?_
                exact aq_join ((IntKind.i64.wrap ((IntKind.i64.wrap (En.bAt a0 (0 : Int))) - (224 : Int))), (3 : Int), (2048 : Int)) h (fun w a hm hs => norm hm hs [] [] [(0, (str a0)), (4, (Value.int .i64 (IntKind.i64.wrap ((IntKind.i64.wrap (En.bAt a0 (0 : Int))) - (224 : Int))))), (5, (Value.int .i64 (3 : Int))), (6, (Value.int .i64 (2048 : Int)))] (by decide) ⟨rfl, rfl, rfl, rfl, trivial⟩)
              · replace h := bif_f hb34 h
                obtain ⟨kk36, hkk36, h⟩ := lt_some h
                refine aw_seq_join (ι := Bool) (fun i => (memOf w0 Z0 [] [] [])) (fun i => (tab [(0, (str a0)), (4, (Value.int .i64 (IntKind.i64.wrap (En.bAt a0 (0 : Int))))), (35, (Value.bool i))])) (fun i => kk36 i = some r) ?_ ?_
                · rintro j35b35 h
                  have h : kk36 j35b35 = some r := h
                  rw [hkk36] at h
                  dsimp only at h
                  clear hkk36
                  refine aw_show (m := (memOf w0 Z0 [] [] [])) (S := (tab [(0, (str a0)), (4, (Value.int .i64 (IntKind.i64.wrap (En.bAt a0 (0 : Int))))), (35, (Value.bool j35b35))])) ?_
                  refine aw_cond rfl (fun hb37 => ?_) (fun hb37 => ?_)
                  · replace h := bif_t hb37 h
                    refine aw_region ?_
                    refine al_val (ov_move rfl rfl) ?_
                    refine al_val (ov_int rfl rfl rfl rfl) ?_
                    refine al_val (ov_assign rfl rfl) ?_
                    refine al_val (ov_assign rfl rfl) ?_
                    refine al_val (ov_assign rfl rfl) ?_
                    refine al_nil ?_
                    refine aq_block ?_
                    exact aq_join ((IntKind.i64.wrap ((IntKind.i64.wrap (En.bAt a0 (0 : Int))) - (240 : Int))), (4 : Int), (65536 : Int)) h (fun w a hm hs => norm hm hs [] [] [(0, (str a0)), (4, (Value.int .i64 (IntKind.i64.wrap ((IntKind.i64.wrap (En.bAt a0 (0 : Int))) - (240 : Int))))), (5, (Value.int .i64 (4 : Int))), (6, (Value.int .i64 (65536 : Int)))] (by decide) ⟨rfl, rfl, rfl, rfl, trivial⟩)
                  · replace h := bif_f hb37 h
                    refine aw_seq ?_
                    refine aw_region ?_
                    refine al_val (ov_assign rfl rfl) ?_
                    refine al_val (ov_assign rfl rfl) ?_
                    refine al_nil ?_
                    refine aq_then ?_
                    refine aw_ret ?_
                    refine aq_block_ret ?_
                    refine aq_then_ret ?_
                    obtain rfl := Option.some.inj h
                    exact fn_ret () [] [] rfl rfl rfl rfl (res2 rfl rfl rfl) rfl rfl rfl (by decide)
                · clear hkk36
                  refine aw_region ?_
                  refine al_val (ov_move rfl rfl) ?_
                  refine al_val (ov_int rfl rfl rfl rfl) ?_
                  refine al_val (ov_move rfl rfl) ?_
                  refine al_caseB 38 rfl (fun hb38 => ?_) (fun hb38 => ?_)
                  · replace h := bif_t hb38 h
                    refine al_val (ov_move rfl rfl) ?_
                    refine al_val (ov_int rfl rfl rfl rfl) ?_
                    refine al_val (ov_pick_t rfl rfl rfl) ?_
                    refine al_val (ov_assign rfl rfl) ?_
                    refine al_nil ?_
                    exact aq_join (decide ((IntKind.i64.wrap (En.bAt a0 (0 : Int))) < (245 : Int))) h (fun w a hm hs => norm hm hs [] [] [(0, (str a0)), (4, (Value.int .i64 (IntKind.i64.wrap (En.bAt a0 (0 : Int))))), (35, (Value.bool (decide ((IntKind.i64.wrap (En.bAt a0 (0 : Int))) < (245 : Int)))))] (by decide) ⟨rfl, rfl, rfl, trivial⟩)
                  · replace h := bif_f hb38 h
                    refine al_skip ?_
                    refine al_skip ?_
                    refine al_val (ov_pick_f rfl rfl rfl) ?_
                    refine al_val (ov_assign rfl rfl) ?_
                    refine al_nil ?_
                    exact aq_join false h (fun w a hm hs => norm hm hs [] [] [(0, (str a0)), (4, (Value.int .i64 (IntKind.i64.wrap (En.bAt a0 (0 : Int))))), (35, (Value.bool false))] (by decide) ⟨rfl, rfl, rfl, trivial⟩)
            · clear hkk33
              refine aw_region ?_
              refine al_val (ov_move rfl rfl) ?_
              refine al_val (ov_int rfl rfl rfl rfl) ?_
              refine al_val (ov_move rfl rfl) ?_
              refine al_caseB 29 rfl (fun hb39 => ?_) (fun hb39 => ?_)
              · replace h := bif_t hb39 h
                refine al_val (ov_move rfl rfl) ?_
                refine al_val (ov_int rfl rfl rfl rfl) ?_
                refine al_val (ov_pick_t rfl rfl rfl) ?_
                refine al_val (ov_assign rfl rfl) ?_
                refine al_nil ?_
                exact aq_join (decide ((IntKind.i64.wrap (En.bAt a0 (0 : Int))) < (240 : Int))) h (fun w a hm hs => norm hm hs [] [] [(0, (str a0)), (4, (Value.int .i64 (IntKind.i64.wrap (En.bAt a0 (0 : Int))))), (26, (Value.bool (decide ((IntKind.i64.wrap (En.bAt a0 (0 : Int))) < (240 : Int)))))] (by decide) ⟨rfl, rfl, rfl, trivial⟩)
              · replace h := bif_f hb39 h
                refine al_skip ?_
                refine al_skip ?_
                refine al_val (ov_pick_f rfl rfl rfl) ?_
                refine al_val (ov_assign rfl rfl) ?_
                refine al_nil ?_
                exact aq_join false h (fun w a hm hs => norm hm hs [] [] [(0, (str a0)), (4, (Value.int .i64 (IntKind.i64.wrap (En.bAt a0 (0 : Int))))), (26, (Value.bool false))] (by decide) ⟨rfl, rfl, rfl, trivial⟩)
        · clear hkk30
          refine aw_region ?_
          refine al_val (ov_move rfl rfl) ?_
          refine al_val (ov_int rfl rfl rfl rfl) ?_
          refine al_val (ov_move rfl rfl) ?_
          refine al_caseB 20 rfl (fun hb40 => ?_) (fun hb40 => ?_)
          · replace h := bif_t hb40 h
            refine al_val (ov_move rfl rfl) ?_
            refine al_val (ov_int rfl rfl rfl rfl) ?_
            refine al_val (ov_pick_t rfl rfl rfl) ?_
            refine al_val (ov_assign rfl rfl) ?_
            refine al_nil ?_
            exact aq_join (decide ((IntKind.i64.wrap (En.bAt a0 (0 : Int))) < (224 : Int))) h (fun w a hm hs => norm hm hs [] [] [(0, (str a0)), (4, (Value.int .i64 (IntKind.i64.wrap (En.bAt a0 (0 : Int))))), (17, (Value.bool (decide ((IntKind.i64.wrap (En.bAt a0 (0 : Int))) < (224 : Int)))))] (by decide) ⟨rfl, rfl, rfl, trivial⟩)
          · replace h := bif_f hb40 h
            refine al_skip ?_
            refine al_skip ?_
            refine al_val (ov_pick_f rfl rfl rfl) ?_
            refine al_val (ov_assign rfl rfl) ?_
            refine al_nil ?_
            exact aq_join false h (fun w a hm hs => norm hm hs [] [] [(0, (str a0)), (4, (Value.int .i64 (IntKind.i64.wrap (En.bAt a0 (0 : Int))))), (17, (Value.bool false))] (by decide) ⟨rfl, rfl, rfl, trivial⟩)
def f_lumref_Chars_L5 (kk2 : ((List Int) → Option ((List Int) × Bool))) (fu : Nat) : Nat → (List UInt8) → (List Int) → Option ((List Int) × Bool)
  | 0, _, _ => none
  | k4 + 1, l3s0, l3x4 => (bif (!(l3s0 == ([] : List UInt8))) then (opt (f_lumref_char fu l3s0) fun (r8 : (Int × Int)) => (bif (r8.2 == (0 : Int)) then (some (([] : List Int), false)) else (req (((l3x4.length + ([r8.1]).length) * 8 : Nat) ≤ 140737488355328 ∧ l3x4.length + ([r8.1]).length ≤ 9223372036854775807) (req (0 ≤ r8.2 ∧ r8.2 ≤ (l3s0.length : Int)) (f_lumref_Chars_L5 kk2 fu k4 (l3s0.drop (r8.2).toNat) (l3x4 ++ ([r8.1]))))))) else (kk2 l3x4))
def f_lumref_Chars (fu : Nat) (a0 : (List UInt8)) : Option ((List Int) × Bool) := (lt (fun (j1x4 : (List Int)) => (some (j1x4, true))) fun (kk2 : (List Int) → Option ((List Int) × Bool)) => (f_lumref_Chars_L5 kk2 fu fu a0 ([] : List Int)))
set_option maxRecDepth 100000 in
theorem f_lumref_Chars_ok (fu : Nat) (a0 : (List UInt8)) {r : ((List Int) × Bool)} (h : f_lumref_Chars fu a0 = some r) : FnOk Tryd.prog 92 [(str a0)] [] [] (fun (i : Value) => { val := (Value.tuple #[i, (Value.bool r.2)]), own := [(oRow i 3 (tyInt .i64) r.1)] }) := by
  unfold f_lumref_Chars at h
  refine fn_enter Tryd.func92 rfl Tryd.ntmps92 rfl (fun w0 Z0 => ?_)
  refine aw_seq ?_
  refine aw_region ?_
  refine al_val (ov_assign rfl rfl) ?_
  refine al_val (ov_assign rfl rfl) ?_
  refine al_nil ?_
  refine aq_then ?_
  refine aw_seq ?_
  refine aw_region ?_
  refine al_val (ov_assign rfl rfl) ?_
  refine al_nil ?_
  refine aq_then ?_
  obtain ⟨kk2, hkk2, h⟩ := lt_some h
  refine aw_seq_join (ι := Value × (List Int)) (fun i => (memOf w0 Z0 [] [(oRow i.1 3 (tyInt .i64) i.2)] [])) (fun i => (tab [(4, i.1)])) (fun i => kk2 i.2 = some r) ?_ ?_
  · rintro ⟨j1v4, j1x4⟩ h
    have h : kk2 j1x4 = some r := h
    rw [hkk2] at h
    dsimp only at h
    clear hkk2
    refine aw_show (m := (memOf w0 Z0 [] [(oRow j1v4 3 (tyInt .i64) j1x4)] [])) (S := (tab [(4, j1v4)])) ?_
    refine aw_seq ?_
    refine aw_region ?_
    refine al_val (ov_move rfl rfl) ?_
    refine al_val (ov_assign rfl rfl) ?_
    refine al_val (ov_assign rfl rfl) ?_
    refine al_nil ?_
    refine aq_then ?_
    refine aw_ret ?_
    obtain rfl := Option.some.inj h
    exact fn_ret j1v4 [0] [] rfl rfl rfl rfl (res2 rfl rfl rfl) rfl rfl rfl (by decide)
  · clear hkk2
    refine aw_block ?_
    refine aw_nilR 3 (tyInt .i64) ?_
    refine aw_state (aw_loop (ι := (List UInt8) × Value × (List Int)) (fun i => (memOf w0 Z0 [] [(oRow i.2.1 3 (tyInt .i64) i.2.2)] [])) (fun i => (tab [(0, (str i.1)), (4, i.2.1)])) (fun q i => f_lumref_Chars_L5 kk2 fu q i.1 i.2.2 = some r) ?_ fu (a0, (Value.slice none 0 0), ([] : List Int)) h) (fun w a hm hs => norm hm hs [0] [] [(0, (str a0)), (4, (Value.slice none 0 0))] (by decide) ⟨rfl, rfl, trivial⟩)
    clear h
    rintro k4 ⟨l3s0, l3v4, l3x4⟩ h
    have h : f_lumref_Chars_L5 kk2 fu k4 l3s0 l3x4 = some r := h
    obtain _ | k4 := k4
    · rw [f_lumref_Chars_L5] at h; cases h
    rw [f_lumref_Chars_L5] at h
    refine aw_show (m := (memOf w0 Z0 [] [(oRow l3v4 3 (tyInt .i64) l3x4)] [])) (S := (tab [(0, (str l3s0)), (4, l3v4)])) ?_
    refine aw_seq ?_
    refine aw_seq ?_
    refine aw_region ?_
    refine al_val (ov_move rfl rfl) ?_
    refine al_val (ov_strCmp rfl rfl rfl rfl) ?_
    refine al_nil ?_
    refine aq_then ?_
    refine aw_cond rfl (fun hb6 => ?_) (fun hb6 => ?_)
    · replace h := bif_t hb6 h
      refine aw_skip ?_
      refine aq_then ?_
      refine aw_block ?_
      refine aw_seq ?_
      refine aw_region ?_
      refine al_val (ov_move rfl rfl) ?_
      obtain ⟨r8, hc7, h⟩ := opt_some h
      refine al_call (vs := [(str l3s0)]) (f_lumref_char_ok fu l3s0 hc7) [] [] [0] pre_nil rfl (by simp) (by decide) (.inl rfl) rfl Tryd.func125 rfl rfl rfl (fun _ => ?_)
      refine al_val (ov_move rfl rfl) ?_
      refine al_val (ov_extract rfl rfl rfl) ?_
      refine al_val (ov_extract rfl rfl rfl) ?_
      refine al_val (ov_assign rfl rfl) ?_
      refine al_val (ov_assign rfl rfl) ?_
      refine al_nil ?_
      refine aq_then ?_
      refine aw_seq ?_
      refine aw_seq ?_
      refine aw_region ?_
      refine al_val (ov_move rfl rfl) ?_
      refine al_val (ov_int rfl rfl rfl rfl) ?_
      refine al_nil ?_
      refine aq_then ?_
      refine aw_cond rfl (fun hb9 => ?_) (fun hb9 => ?_)
      · replace h := bif_t hb9 h
        refine aw_seq ?_
        refine aw_region ?_
        refine al_val (ov_assign rfl rfl) ?_
        refine al_val (ov_assign rfl rfl) ?_
        refine al_nil ?_
        refine aq_then ?_
        refine aw_ret ?_
        refine aq_then_ret ?_
        refine aq_block_ret ?_
        refine aq_then_ret ?_
        refine aq_block_ret ?_
        refine aq_then_ret ?_
        refine aq_nilR 3 (tyInt .i64) ?_
        obtain rfl := Option.some.inj h
        exact fn_ret (Value.slice none 0 0) [0] [] rfl rfl rfl rfl (res2 rfl rfl rfl) rfl rfl rfl (by decide)
      · replace h := bif_f hb9 h
        refine aw_skip ?_
        refine aq_then ?_
        refine aw_seq ?_
        refine aw_region ?_
        refine al_val (ov_move rfl rfl) ?_
        refine al_val (ov_move rfl rfl) ?_
        refine al_buildSlice (τ := (tyInt .i64)) (e := 3) (k := 1) (sz := 0) (by_ := 0) (z := undef) (cs := [(Value.int .i64 r8.1)]) (xs := [r8.1]) rfl (by decide) (fun w a hm hs => ⟨([(Value.int .i64 r8.1)]).toArray, rfl, by simp only [List.map_toArray, List.map_cons, List.map_nil, hs.ev (x := .tmp 17) rfl]; exact run_bs [(Value.int .i64 r8.1)] [(Value.int .i64 r8.1)] Tryd.underlying59 to3 rfl rfl (bs_cons (l := [(Value.int .i64 r8.1)]) (cs := []) (cv_rfl rfl) rfl bs_nil) hm⟩) (fun hm => ⟨_, _, rfl, (fun _ => rfl) hm, rfl⟩) rfl (fun v10 => ?_)
        obtain ⟨hc11, h⟩ := req_some h
        refine al_append 1 hc11.1 hc11.2 rfl (src_own (i := 1) 0 rfl) rfl rfl Tryd.underlying59 to3 rfl rfl rfl (fun v12 => ?_)
        refine al_val (ov_assign rfl rfl) ?_
        refine al_nil ?_
        refine aq_then ?_
        refine aw_region ?_
        refine al_val (ov_move rfl rfl) ?_
        refine al_val (ov_move rfl rfl) ?_
        obtain ⟨hc13, h⟩ := req_some h
        refine al_val (ov_strFrom hc13.1 hc13.2 Tryd.underlying9 rfl rfl rfl) ?_
        refine al_val (ov_assign rfl rfl) ?_
        refine al_nil ?_
        refine aq_block ?_
        exact aq_again k4 ((l3s0.drop (r8.2).toNat), v12, (l3x4 ++ ([r8.1]))) (Nat.lt_succ_self _) h (fun w a hm hs => norm hm hs [1] [] [(0, (str (l3s0.drop (r8.2).toNat))), (4, v12)] (by decide) ⟨rfl, rfl, trivial⟩)
    · replace h := bif_f hb6 h
      refine aw_exit ?_
      refine aq_then_exit ?_
      refine aq_then_exit ?_
      refine aq_block_exit ?_
      exact aq_join (l3v4, l3x4) h (fun w a hm hs => norm hm hs [0] [] [(4, l3v4)] (by decide) ⟨rfl, trivial⟩)
def f_lumref_Name_L12 (r2 : ((List Int) × Bool)) (kk8 : (Unit → Option Int)) : Nat → Int → Option Int
  | 0, _ => none
  | k11 + 1, l10i29 => (bif (decide (l10i29 < (r2.1.length : Int))) then (opt (at? r2.1 l10i29) fun (u14 : Int) => (lt (fun (j18b42 : Bool) => (bif j18b42 then (some (8 : Int)) else (f_lumref_Name_L12 r2 kk8 k11 (IntKind.i64.wrap (l10i29 + (1 : Int)))))) fun (kk19 : Bool → Option Int) => (bif (u14 == (47 : Int)) then (kk19 true) else (bif (decide (u14 < (32 : Int))) then (kk19 true) else (kk19 (u14 == (127 : Int))))))) else (kk8 ()))
def f_lumref_Name (fu : Nat) (a0 : (List UInt8)) : Option Int := (opt (f_lumref_Chars fu a0) fun (r2 : ((List Int) × Bool)) => (lt (fun (j4b26 : Bool) => (bif j4b26 then (some (8 : Int)) else (lt (fun (_ : Unit) => (bif (decide ((r2.1.length : Int) > (24 : Int))) then (some (2 : Int)) else (some (0 : Int)))) fun (kk8 : Unit → Option Int) => (f_lumref_Name_L12 r2 kk8 fu (0 : Int))))) fun (kk5 : Bool → Option Int) => (bif (!r2.2) then (kk5 true) else (bif ((r2.1.length : Int) == (0 : Int)) then (kk5 true) else (bif (a0 == ([46] : List UInt8)) then (kk5 true) else (kk5 (a0 == ([46, 46] : List UInt8))))))))
set_option maxRecDepth 100000 in
theorem f_lumref_Name_ok (fu : Nat) (a0 : (List UInt8)) {r : Int} (h : f_lumref_Name fu a0 = some r) : FnOk Tryd.prog 47 [(str a0)] [] [] (fun (i : Unit) => { val := (Value.int .i64 r) }) := by
  unfold f_lumref_Name at h
  refine fn_enter Tryd.func47 rfl Tryd.ntmps47 rfl (fun w0 Z0 => ?_)
  refine aw_seq ?_
  refine aw_region ?_
  refine al_val (ov_assign rfl rfl) ?_
  refine al_nil ?_
  refine aq_then ?_
  refine aw_seq ?_
  refine aw_region ?_
  refine al_val (ov_move rfl rfl) ?_
  obtain ⟨r2, hc1, h⟩ := opt_some h
  refine al_call (vs := [(str a0)]) (f_lumref_Chars_ok fu a0 hc1) [] [] [] pre_nil rfl (by simp) (by decide) (.inl rfl) rfl Tryd.func92 rfl rfl rfl (fun v3 => ?_)
  refine al_val (ov_move rfl rfl) ?_
  refine al_val (ov_extract rfl rfl rfl) ?_
  refine al_val (ov_extract rfl rfl rfl) ?_
  refine al_val (ov_assign rfl rfl) ?_
  refine al_val (ov_assign rfl rfl) ?_
  refine al_nil ?_
  refine aq_then ?_
  refine aw_seq ?_
  obtain ⟨kk5, hkk5, h⟩ := lt_some h
  refine aw_seq_join (ι := Bool) (fun i => (memOf w0 Z0 [] [(oRow v3 3 (tyInt .i64) r2.1)] [])) (fun i => (tab [(3, v3), (26, (Value.bool i))])) (fun i => kk5 i = some r) ?_ ?_
  · rintro j4b26 h
    have h : kk5 j4b26 = some r := h
    rw [hkk5] at h
    dsimp only at h
    clear hkk5
    refine aw_show (m := (memOf w0 Z0 [] [(oRow v3 3 (tyInt .i64) r2.1)] [])) (S := (tab [(3, v3), (26, (Value.bool j4b26))])) ?_
    refine aw_cond rfl (fun hb6 => ?_) (fun hb6 => ?_)
    · replace h := bif_t hb6 h
      refine aw_seq ?_
      refine aw_region ?_
      refine al_val (ov_assign rfl rfl) ?_
      refine al_nil ?_
      refine aq_then ?_
      refine aw_ret ?_
      refine aq_then_ret ?_
      obtain rfl := Option.some.inj h
      exact fn_ret () [] [] rfl rfl rfl rfl (res1 rfl rfl) rfl rfl rfl (by decide)
    · replace h := bif_f hb6 h
      refine aw_skip ?_
      refine aq_then ?_
      obtain ⟨kk8, hkk8, h⟩ := lt_some h
      refine aw_seq_join (ι := Unit) (fun i => (memOf w0 Z0 [] [(oRow v3 3 (tyInt .i64) r2.1)] [])) (fun i => (tab [(3, v3)])) (fun i => kk8 () = some r) ?_ ?_
      · rintro _ h
        have h : kk8 () = some r := h
        rw [hkk8] at h
        dsimp only at h
        clear hkk8
        refine aw_show (m := (memOf w0 Z0 [] [(oRow v3 3 (tyInt .i64) r2.1)] [])) (S := (tab [(3, v3)])) ?_
        refine aw_seq ?_
        refine aw_seq ?_
        refine aw_region ?_
        refine al_val (ov_move rfl rfl) ?_
        refine al_val (ov_lenR 0 rfl rfl Tryd.underlying59 rfl) ?_
        refine al_val (ov_int rfl rfl rfl rfl) ?_
        refine al_nil ?_
        refine aq_then ?_
        refine aw_cond rfl (fun hb9 => ?_) (fun hb9 => ?_)
        · replace h := bif_t hb9 h
          refine aw_seq ?_
          refine aw_region ?_
          refine al_val (ov_assign rfl rfl) ?_
          refine al_nil ?_
          refine aq_then ?_
          refine aw_ret ?_
          refine aq_then_ret ?_
          obtain rfl := Option.some.inj h
          exact fn_ret () [] [] rfl rfl rfl rfl (res1 rfl rfl) rfl rfl rfl (by decide)
        · replace h := bif_f hb9 h
          refine aw_skip ?_
          refine aq_then ?_
          refine aw_seq ?_
          refine aw_region ?_
          refine al_val (ov_assign rfl rfl) ?_
          refine al_nil ?_
          refine aq_then ?_
          refine aw_ret ?_
          obtain rfl := Option.some.inj h
          exact fn_ret () [] [] rfl rfl rfl rfl (res1 rfl rfl) rfl rfl rfl (by decide)
      · clear hkk8
        refine aw_seq ?_
        refine aw_region ?_
        refine al_val (ov_move rfl rfl) ?_
        refine al_val (ov_lenR 0 rfl rfl Tryd.underlying59 rfl) ?_
        refine al_val (ov_move rfl rfl) ?_
        refine al_nil ?_
        refine aq_then ?_
        refine aw_block ?_
        refine aw_state (aw_loop (ι := Int) (fun i => (memOf w0 Z0 [] [(oRow v3 3 (tyInt .i64) r2.1)] [])) (fun i => (tab [(3, v3), (27, v3), (28, (Value.int .i64 (r2.1.length : Int))), (29, (Value.int .i64 i))])) (fun q i => f_lumref_Name_L12 r2 kk8 q i = some r) ?_ fu (0 : Int) h) (fun w a hm hs => norm hm hs [0] [] [(3, v3), (27, v3), (28, (Value.int .i64 (r2.1.length : Int))), (29, (Value.int .i64 (0 : Int)))] (by decide) ⟨rfl, rfl, rfl, rfl, trivial⟩)
        clear h
        rintro k11 l10i29 h
        have h : f_lumref_Name_L12 r2 kk8 k11 l10i29 = some r := h
        obtain _ | k11 := k11
        · rw [f_lumref_Name_L12] at h; cases h
        rw [f_lumref_Name_L12] at h
        refine aw_show (m := (memOf w0 Z0 [] [(oRow v3 3 (tyInt .i64) r2.1)] [])) (S := (tab [(3, v3), (27, v3), (28, (Value.int .i64 (r2.1.length : Int))), (29, (Value.int .i64 l10i29))])) ?_
        refine aw_seq ?_
        refine aw_region ?_
        refine al_val (ov_int rfl rfl rfl rfl) ?_
        refine al_nil ?_
        refine aq_then ?_
        refine aw_seq ?_
        refine aw_cond rfl (fun hb13 => ?_) (fun hb13 => ?_)
        · replace h := bif_t hb13 h
          refine aw_skip ?_
          refine aq_then ?_
          refine aw_seq ?_
          refine aw_block ?_
          refine aw_seq ?_
          refine aw_region ?_
          obtain ⟨u14, hu15, h⟩ := opt_some h
          refine al_idxR 0 (at_some hu15).1 (at_some hu15).2.1 rfl rfl rfl Tryd.underlying59 sz3 rfl (fun p16 hp17 => ?_)
          refine al_val (ov_loadR (ds := [(Value.int .i64 u14)]) 0 rfl hp17 (at_some hu15).2.2 (fun h => h) rfl Tryd.underlying3 sz3 rfl rfl rfl) ?_
          refine al_val (ov_assign rfl rfl) ?_
          refine al_nil ?_
          refine aq_then ?_
          obtain ⟨kk19, hkk19, h⟩ := lt_some h
          refine aw_seq_join (ι := Bool) (fun i => (memOf w0 Z0 [] [(oRow v3 3 (tyInt .i64) r2.1)] [])) (fun i => (tab [(3, v3), (27, v3), (28, (Value.int .i64 (r2.1.length : Int))), (29, (Value.int .i64 l10i29)), (42, (Value.bool i))])) (fun i => kk19 i = some r) ?_ ?_
          · rintro j18b42 h
            have h : kk19 j18b42 = some r := h
            rw [hkk19] at h
            dsimp only at h
            clear hkk19
            refine aw_show (m := (memOf w0 Z0 [] [(oRow v3 3 (tyInt .i64) r2.1)] [])) (S := (tab [(3, v3), (27, v3), (28, (Value.int .i64 (r2.1.length : Int))), (29, (Value.int .i64 l10i29)), (42, (Value.bool j18b42))])) ?_
            refine aw_cond rfl (fun hb20 => ?_) (fun hb20 => ?_)
            · replace h := bif_t hb20 h
              refine aw_seq ?_
              refine aw_region ?_
              refine al_val (ov_assign rfl rfl) ?_
              refine al_nil ?_
              refine aq_then ?_
              refine aw_ret ?_
              refine aq_block_ret ?_
              refine aq_then_ret ?_
              refine aq_then_ret ?_
              refine aq_block_ret ?_
              refine aq_then_ret ?_
              obtain rfl := Option.some.inj h
              exact fn_ret () [] [] rfl rfl rfl rfl (res1 rfl rfl) rfl rfl rfl (by decide)
            · replace h := bif_f hb20 h
              refine aw_skip ?_
              refine aq_block ?_
              refine aq_then ?_
              refine aw_region ?_
              refine al_val (ov_int rfl rfl rfl rfl) ?_
              refine al_val (ov_move rfl rfl) ?_
              refine al_nil ?_
              exact aq_again k11 (IntKind.i64.wrap (l10i29 + (1 : Int))) (Nat.lt_succ_self _) h (fun w a hm hs => norm hm hs [0] [] [(3, v3), (27, v3), (28, (Value.int .i64 (r2.1.length : Int))), (29, (Value.int .i64 (IntKind.i64.wrap (l10i29 + (1 : Int)))))] (by decide) ⟨rfl, rfl, rfl, rfl, trivial⟩)
          · clear hkk19
            refine aw_region ?_
            refine al_val (ov_move rfl rfl) ?_
            refine al_val (ov_int rfl rfl rfl rfl) ?_
            refine al_val (ov_move rfl rfl) ?_
            refine al_caseB 35 rfl (fun hb21 => ?_) (fun hb21 => ?_)
            · replace h := bif_t hb21 h
              refine al_skip ?_
              refine al_skip ?_
              refine al_val (ov_pick_t rfl rfl rfl) ?_
              refine al_val (ov_move rfl rfl) ?_
              refine al_skip ?_
              refine al_skip ?_
              refine al_val (ov_pick_t rfl rfl rfl) ?_
              refine al_nil ?_
              exact aq_join true h (fun w a hm hs => norm hm hs [0] [] [(3, v3), (27, v3), (28, (Value.int .i64 (r2.1.length : Int))), (29, (Value.int .i64 l10i29)), (42, (Value.bool true))] (by decide) ⟨rfl, rfl, rfl, rfl, rfl, trivial⟩)
            · replace h := bif_f hb21 h
              refine al_val (ov_move rfl rfl) ?_
              refine al_val (ov_int rfl rfl rfl rfl) ?_
              refine al_val (ov_pick_f rfl rfl rfl) ?_
              refine al_val (ov_move rfl rfl) ?_
              refine al_caseB 39 rfl (fun hb22 => ?_) (fun hb22 => ?_)
              · replace h := bif_t hb22 h
                refine al_skip ?_
                refine al_skip ?_
                refine al_val (ov_pick_t rfl rfl rfl) ?_
                refine al_nil ?_
                exact aq_join true h (fun w a hm hs => norm hm hs [0] [] [(3, v3), (27, v3), (28, (Value.int .i64 (r2.1.length : Int))), (29, (Value.int .i64 l10i29)), (42, (Value.bool true))] (by decide) ⟨rfl, rfl, rfl, rfl, rfl, trivial⟩)
              · replace h := bif_f hb22 h
                refine al_val (ov_move rfl rfl) ?_
                refine al_val (ov_int rfl rfl rfl rfl) ?_
                refine al_val (ov_pick_f rfl rfl rfl) ?_
                refine al_nil ?_
                exact aq_join (u14 == (127 : Int)) h (fun w a hm hs => norm hm hs [0] [] [(3, v3), (27, v3), (28, (Value.int .i64 (r2.1.length : Int))), (29, (Value.int .i64 l10i29)), (42, (Value.bool (u14 == (127 : Int))))] (by decide) ⟨rfl, rfl, rfl, rfl, rfl, trivial⟩)
        · replace h := bif_f hb13 h
          refine aw_exit ?_
          refine aq_then_exit ?_
          refine aq_then_exit ?_
          refine aq_block_exit ?_
          exact aq_join () h (fun w a hm hs => norm hm hs [0] [] [(3, v3)] (by decide) ⟨rfl, trivial⟩)
  · clear hkk5
    refine aw_region ?_
    refine al_val (ov_move rfl rfl) ?_
    refine al_val (ov_not rfl rfl) ?_
    refine al_val (ov_move rfl rfl) ?_
    refine al_caseB 14 rfl (fun hb23 => ?_) (fun hb23 => ?_)
    · replace h := bif_t hb23 h
      refine al_skip ?_
      refine al_skip ?_
      refine al_skip ?_
      refine al_val (ov_pick_t rfl rfl rfl) ?_
      refine al_val (ov_move rfl rfl) ?_
      refine al_skip ?_
      refine al_skip ?_
      refine al_val (ov_pick_t rfl rfl rfl) ?_
      refine al_val (ov_move rfl rfl) ?_
      refine al_skip ?_
      refine al_skip ?_
      refine al_val (ov_pick_t rfl rfl rfl) ?_
      refine al_nil ?_
      exact aq_join true h (fun w a hm hs => norm hm hs [0] [] [(3, v3), (26, (Value.bool true))] (by decide) ⟨rfl, rfl, trivial⟩)
    · replace h := bif_f hb23 h
      refine al_val (ov_move rfl rfl) ?_
      refine al_val (ov_lenR 0 rfl rfl Tryd.underlying59 rfl) ?_
      refine al_val (ov_int rfl rfl rfl rfl) ?_
      refine al_val (ov_pick_f rfl rfl rfl) ?_
      refine al_val (ov_move rfl rfl) ?_
      refine al_caseB 19 rfl (fun hb24 => ?_) (fun hb24 => ?_)
      · replace h := bif_t hb24 h
        refine al_skip ?_
        refine al_skip ?_
        refine al_val (ov_pick_t rfl rfl rfl) ?_
        refine al_val (ov_move rfl rfl) ?_
        refine al_skip ?_
        refine al_skip ?_
        refine al_val (ov_pick_t rfl rfl rfl) ?_
        refine al_nil ?_
        exact aq_join true h (fun w a hm hs => norm hm hs [0] [] [(3, v3), (26, (Value.bool true))] (by decide) ⟨rfl, rfl, trivial⟩)
      · replace h := bif_f hb24 h
        refine al_val (ov_move rfl rfl) ?_
        refine al_val (ov_strCmp rfl rfl rfl rfl) ?_
        refine al_val (ov_pick_f rfl rfl rfl) ?_
        refine al_val (ov_move rfl rfl) ?_
        refine al_caseB 23 rfl (fun hb25 => ?_) (fun hb25 => ?_)
        · replace h := bif_t hb25 h
          refine al_skip ?_
          refine al_skip ?_
          refine al_val (ov_pick_t rfl rfl rfl) ?_
          refine al_nil ?_
          exact aq_join true h (fun w a hm hs => norm hm hs [0] [] [(3, v3), (26, (Value.bool true))] (by decide) ⟨rfl, rfl, trivial⟩)
        · replace h := bif_f hb25 h
          refine al_val (ov_move rfl rfl) ?_
          refine al_val (ov_strCmp rfl rfl rfl rfl) ?_
          refine al_val (ov_pick_f rfl rfl rfl) ?_
          refine al_nil ?_
          exact aq_join (a0 == ([46, 46] : List UInt8)) h (fun w a hm hs => norm hm hs [0] [] [(3, v3), (26, (Value.bool (a0 == ([46, 46] : List UInt8))))] (by decide) ⟨rfl, rfl, trivial⟩)
def f_lumref_nodeErr (fu : Nat) (a0 : S_api_Node) : Option Int := (opt (f_lumref_Name fu a0.Name) fun (r3 : Int) => (bif (r3 != (0 : Int)) then (some r3) else (lt (fun (j5b33 : Bool) => (bif j5b33 then (some (1 : Int)) else (lt (fun (j8b34 : Bool) => (bif j8b34 then (some (5 : Int)) else (lt (fun (j11b43 : Bool) => (bif j11b43 then (some (4 : Int)) else (bif (decide ((a0.Link.length : Int) > (1024 : Int))) then (some (2 : Int)) else (some (0 : Int))))) fun (kk12 : Bool → Option Int) => (lt (fun (j15b43 : Bool) => (bif j15b43 then (kk12 j15b43) else (lt (fun (j18b43 : Bool) => (bif j18b43 then (kk12 j18b43) else (lt (fun (j21b43 : Bool) => (bif j21b43 then (kk12 j21b43) else (bif (a0.Kind == (3 : Int)) then (bif ((a0.Parts.length : Int) != (0 : Int)) then (kk12 true) else (kk12 (a0.Link == ([] : List UInt8)))) else (kk12 false)))) fun (kk22 : Bool → Option Int) => (bif (a0.Kind == (2 : Int)) then (bif ((a0.Parts.length : Int) != (1 : Int)) then (kk22 true) else (kk22 (!(a0.Link == ([] : List UInt8))))) else (kk22 false))))) fun (kk19 : Bool → Option Int) => (bif (decide (a0.Kind > (1 : Int))) then (kk19 (a0.Size != (0 : Int))) else (kk19 false))))) fun (kk16 : Bool → Option Int) => (bif (a0.Kind == (1 : Int)) then (kk16 (!(a0.Link == ([] : List UInt8)))) else (kk16 false)))))) fun (kk9 : Bool → Option Int) => (bif (decide (a0.Kind < (1 : Int))) then (kk9 true) else (kk9 (decide (a0.Kind > (3 : Int)))))))) fun (kk6 : Bool → Option Int) => (bif (decide (a0.Mode < (0 : Int))) then (kk6 true) else (bif (decide (a0.Mode > (511 : Int))) then (kk6 true) else (bif (decide (a0.Size < (0 : Int))) then (kk6 true) else (bif (decide (a0.Size > (4096 : Int))) then (kk6 true) else (kk6 (decide ((a0.Parts.length : Int) > (300 : Int)))))))))))
set_option maxRecDepth 100000 in
theorem f_lumref_nodeErr_ok (fu : Nat) (v0_5 : Value) (a0 : S_api_Node) {r : Int} (h : f_lumref_nodeErr fu a0 = some r) : FnOk Tryd.prog 60 [(ag [(str a0.Name), (Value.int .i64 a0.Kind), (Value.int .i64 a0.Mode), (Value.int .i64 a0.Time), (Value.int .i64 a0.Size), v0_5, (str a0.Link)])] [(fDat (tyList tyA8u8) [v0_5] a0.Parts)] [] (fun (i : Unit) => { val := (Value.int .i64 r) }) := by
  unfold f_lumref_nodeErr at h
  refine fn_enter Tryd.func60 rfl Tryd.ntmps60 rfl (fun w0 Z0 => ?_)
  refine aw_seq ?_
  refine aw_region ?_
  refine al_box (vs := [(str a0.Name), (Value.int .i64 a0.Kind), (Value.int .i64 a0.Mode), (Value.int .i64 a0.Time), (Value.int .i64 a0.Size), v0_5, (str a0.Link)]) rfl (cv_rfl rfl) rfl (fun g1 => ?_)
  refine al_val (ov_assign rfl rfl) ?_
  refine al_nil ?_
  refine aq_then ?_
  refine aw_seq ?_
  refine aw_seq ?_
  refine aw_region ?_
  refine al_val (ov_fieldA (p := 0) rfl Tryd.underlying40 rfl sz9 rfl rfl rfl) ?_
  refine al_val (ov_load (i := 0) (v := (str a0.Name)) rfl rfl Tryd.underlying9 sz9 rfl rfl rfl rfl) ?_
  obtain ⟨r3, hc2, h⟩ := opt_some h
  refine al_call (vs := [(str a0.Name)]) (f_lumref_Name_ok fu a0.Name hc2) [] [] [0] pre_nil rfl (by simp) (by decide) (.inl rfl) rfl Tryd.func47 rfl rfl rfl (fun _ => ?_)
  refine al_val (ov_assign rfl rfl) ?_
  refine al_nil ?_
  refine aq_then ?_
  refine aw_seq ?_
  refine aw_region ?_
  refine al_val (ov_move rfl rfl) ?_
  refine al_val (ov_int rfl rfl rfl rfl) ?_
  refine al_nil ?_
  refine aq_then ?_
  refine aw_cond rfl (fun hb4 => ?_) (fun hb4 => ?_)
  · replace h := bif_t hb4 h
    refine aw_seq ?_
    refine aw_region ?_
    refine al_val (ov_move rfl rfl) ?_
    refine al_val (ov_assign rfl rfl) ?_
    refine al_nil ?_
    refine aq_then ?_
    refine aw_ret ?_
    refine aq_then_ret ?_
    obtain rfl := Option.some.inj h
    exact fn_ret () [] [] rfl rfl rfl rfl (res1 rfl rfl) rfl rfl rfl (by decide)
  · replace h := bif_f hb4 h
    refine aw_skip ?_
    refine aq_then ?_
    refine aw_seq ?_
    obtain ⟨kk6, hkk6, h⟩ := lt_some h
    refine aw_seq_join (ι := Bool) (fun i => (memOf w0 Z0 [] [(oBox g1 40 [(str a0.Name), (Value.int .i64 a0.Kind), (Value.int .i64 a0.Mode), (Value.int .i64 a0.Time), (Value.int .i64 a0.Size), v0_5, (str a0.Link)])] [(fDat (tyList tyA8u8) [v0_5] a0.Parts)])) (fun i => (tab [(1, (ptr g1 0)), (33, (Value.bool i))])) (fun i => kk6 i = some r) ?_ ?_
    · rintro j5b33 h
      have h : kk6 j5b33 = some r := h
      rw [hkk6] at h
      dsimp only at h
      clear hkk6
      refine aw_show (m := (memOf w0 Z0 [] [(oBox g1 40 [(str a0.Name), (Value.int .i64 a0.Kind), (Value.int .i64 a0.Mode), (Value.int .i64 a0.Time), (Value.int .i64 a0.Size), v0_5, (str a0.Link)])] [(fDat (tyList tyA8u8) [v0_5] a0.Parts)])) (S := (tab [(1, (ptr g1 0)), (33, (Value.bool j5b33))])) ?_
      refine aw_cond rfl (fun hb7 => ?_) (fun hb7 => ?_)
      · replace h := bif_t hb7 h
        refine aw_seq ?_
        refine aw_region ?_
        refine al_val (ov_assign rfl rfl) ?_
        refine al_nil ?_
        refine aq_then ?_
        refine aw_ret ?_
        refine aq_then_ret ?_
        obtain rfl := Option.some.inj h
        exact fn_ret () [] [] rfl rfl rfl rfl (res1 rfl rfl) rfl rfl rfl (by decide)
      · replace h := bif_f hb7 h
        refine aw_skip ?_
        refine aq_then ?_
        refine aw_seq ?_
        refine aw_block ?_
        obtain ⟨kk9, hkk9, h⟩ := lt_some h
        refine aw_seq_join (ι := Bool) (fun i => (memOf w0 Z0 [] [(oBox g1 40 [(str a0.Name), (Value.int .i64 a0.Kind), (Value.int .i64 a0.Mode), (Value.int .i64 a0.Time), (Value.int .i64 a0.Size), v0_5, (str a0.Link)])] [(fDat (tyList tyA8u8) [v0_5] a0.Parts)])) (fun i => (tab [(1, (ptr g1 0)), (34, (Value.bool i))])) (fun i => kk9 i = some r) ?_ ?_
        · rintro j8b34 h
          have h : kk9 j8b34 = some r := h
          rw [hkk9] at h
          dsimp only at h
          clear hkk9
          refine aw_show (m := (memOf w0 Z0 [] [(oBox g1 40 [(str a0.Name), (Value.int .i64 a0.Kind), (Value.int .i64 a0.Mode), (Value.int .i64 a0.Time), (Value.int .i64 a0.Size), v0_5, (str a0.Link)])] [(fDat (tyList tyA8u8) [v0_5] a0.Parts)])) (S := (tab [(1, (ptr g1 0)), (34, (Value.bool j8b34))])) ?_
          refine aw_cond rfl (fun hb10 => ?_) (fun hb10 => ?_)
          · replace h := bif_t hb10 h
            refine aw_seq ?_
            refine aw_region ?_
            refine al_val (ov_assign rfl rfl) ?_
            refine al_nil ?_
            refine aq_then ?_
            refine aw_ret ?_
            refine aq_block_ret ?_
            refine aq_then_ret ?_
            obtain rfl := Option.some.inj h
            exact fn_ret () [] [] rfl rfl rfl rfl (res1 rfl rfl) rfl rfl rfl (by decide)
          · replace h := bif_f hb10 h
            obtain ⟨kk12, hkk12, h⟩ := lt_some h
            refine aw_seq_join (ι := Bool) (fun i => (memOf w0 Z0 [] [(oBox g1 40 [(str a0.Name), (Value.int .i64 a0.Kind), (Value.int .i64 a0.Mode), (Value.int .i64 a0.Time), (Value.int .i64 a0.Size), v0_5, (str a0.Link)])] [(fDat (tyList tyA8u8) [v0_5] a0.Parts)])) (fun i => (tab [(1, (ptr g1 0)), (43, (Value.bool i))])) (fun i => kk12 i = some r) ?_ ?_
            · rintro j11b43 h
              have h : kk12 j11b43 = some r := h
              rw [hkk12] at h
              dsimp only at h
              clear hkk12
              refine aw_show (m := (memOf w0 Z0 [] [(oBox g1 40 [(str a0.Name), (Value.int .i64 a0.Kind), (Value.int .i64 a0.Mode), (Value.int .i64 a0.Time), (Value.int .i64 a0.Size), v0_5, (str a0.Link)])] [(fDat (tyList tyA8u8) [v0_5] a0.Parts)])) (S := (tab [(1, (ptr g1 0)), (43, (Value.bool j11b43))])) ?_
              refine aw_cond rfl (fun hb13 => ?_) (fun hb13 => ?_)
              · replace h := bif_t hb13 h
                refine aw_seq ?_
                refine aw_region ?_
                refine al_val (ov_assign rfl rfl) ?_
                refine al_nil ?_
                refine aq_then ?_
                refine aw_ret ?_
                refine aq_block_ret ?_
                refine aq_then_ret ?_
                obtain rfl := Option.some.inj h
                exact fn_ret () [] [] rfl rfl rfl rfl (res1 rfl rfl) rfl rfl rfl (by decide)
              · replace h := bif_f hb13 h
                refine aw_seq ?_
                refine aw_region ?_
                refine al_val (ov_fieldA (p := 6) rfl Tryd.underlying40 rfl sz9 rfl rfl rfl) ?_
                refine al_val (ov_load (i := 0) (v := (str a0.Link)) rfl rfl Tryd.underlying9 sz9 rfl rfl rfl rfl) ?_
                refine al_val (ov_strLen Tryd.underlying9 rfl rfl) ?_
                refine al_val (ov_int rfl rfl rfl rfl) ?_
                refine al_val (ov_assign rfl rfl) ?_
                refine al_nil ?_
                refine aq_then ?_
                refine aw_cond rfl (fun hb14 => ?_) (fun hb14 => ?_)
                · replace h := bif_t hb14 h
                  refine aw_seq ?_
                  refine aw_region ?_
                  refine al_val (ov_assign rfl rfl) ?_
                  refine al_nil ?_
                  refine aq_then ?_
                  refine aw_ret ?_
                  refine aq_block_ret ?_
                  refine aq_then_ret ?_
                  obtain rfl := Option.some.inj h
                  exact fn_ret () [] [] rfl rfl rfl rfl (res1 rfl rfl) rfl rfl rfl (by decide)
                · replace h := bif_f hb14 h
                  refine aw_skip ?_
                  refine aq_block ?_
                  refine aq_then ?_
                  refine aw_seq ?_
                  refine aw_region ?_
                  refine al_val (ov_assign rfl rfl) ?_
                  refine al_nil ?_
                  refine aq_then ?_
                  refine aw_ret ?_
                  obtain rfl := Option.some.inj h
                  exact fn_ret () [] [] rfl rfl rfl rfl (res1 rfl rfl) rfl rfl rfl (by decide)
            · clear hkk12
              obtain ⟨kk16, hkk16, h⟩ := lt_some h
              refine aw_seq_join (ι := Bool) (fun i => (memOf w0 Z0 [] [(oBox g1 40 [(str a0.Name), (Value.int .i64 a0.Kind), (Value.int .i64 a0.Mode), (Value.int .i64 a0.Time), (Value.int .i64 a0.Size), v0_5, (str a0.Link)])] [(fDat (tyList tyA8u8) [v0_5] a0.Parts)])) (fun i => (tab [(1, (ptr g1 0)), (43, (Value.bool i))])) (fun i => kk16 i = some r) ?_ ?_
              · rintro j15b43 h
                have h : kk16 j15b43 = some r := h
                rw [hkk16] at h
                dsimp only at h
                clear hkk16
                refine aw_show (m := (memOf w0 Z0 [] [(oBox g1 40 [(str a0.Name), (Value.int .i64 a0.Kind), (Value.int .i64 a0.Mode), (Value.int .i64 a0.Time), (Value.int .i64 a0.Size), v0_5, (str a0.Link)])] [(fDat (tyList tyA8u8) [v0_5] a0.Parts)])) (S := (tab [(1, (ptr g1 0)), (43, (Value.bool j15b43))])) ?_
                refine aw_cond rfl (fun hb17 => ?_) (fun hb17 => ?_)
                · replace h := bif_t hb17 h
                  refine aw_skip ?_
                  exact aq_join j15b43 h (fun w a hm hs => norm hm hs [0] [0] [(1, (ptr g1 0)), (43, (Value.bool j15b43))] (by decide) ⟨rfl, rfl, trivial⟩)
                · replace h := bif_f hb17 h
                  obtain ⟨kk19, hkk19, h⟩ := lt_some h
                  refine aw_seq_join (ι := Bool) (fun i => (memOf w0 Z0 [] [(oBox g1 40 [(str a0.Name), (Value.int .i64 a0.Kind), (Value.int .i64 a0.Mode), (Value.int .i64 a0.Time), (Value.int .i64 a0.Size), v0_5, (str a0.Link)])] [(fDat (tyList tyA8u8) [v0_5] a0.Parts)])) (fun i => (tab [(1, (ptr g1 0)), (43, (Value.bool i))])) (fun i => kk19 i = some r) ?_ ?_
                  · rintro j18b43 h
                    have h : kk19 j18b43 = some r := h
                    rw [hkk19] at h
                    dsimp only at h
                    clear hkk19
                    refine aw_show (m := (memOf w0 Z0 [] [(oBox g1 40 [(str a0.Name), (Value.int .i64 a0.Kind), (Value.int .i64 a0.Mode), (Value.int .i64 a0.Time), (Value.int .i64 a0.Size), v0_5, (str a0.Link)])] [(fDat (tyList tyA8u8) [v0_5] a0.Parts)])) (S := (tab [(1, (ptr g1 0)), (43, (Value.bool j18b43))])) ?_
                    refine aw_cond rfl (fun hb20 => ?_) (fun hb20 => ?_)
                    · replace h := bif_t hb20 h
                      refine aw_skip ?_
                      exact aq_join j18b43 h (fun w a hm hs => norm hm hs [0] [0] [(1, (ptr g1 0)), (43, (Value.bool j18b43))] (by decide) ⟨rfl, rfl, trivial⟩)
                    · replace h := bif_f hb20 h
                      obtain ⟨kk22, hkk22, h⟩ := lt_some h
                      refine aw_seq_join (ι := Bool) (fun i => (memOf w0 Z0 [] [(oBox g1 40 [(str a0.Name), (Value.int .i64 a0.Kind), (Value.int .i64 a0.Mode), (Value.int .i64 a0.Time), (Value.int .i64 a0.Size), v0_5, (str a0.Link)])] [(fDat (tyList tyA8u8) [v0_5] a0.Parts)])) (fun i => (tab [(1, (ptr g1 0)), (43, (Value.bool i))])) (fun i => kk22 i = some r) ?_ ?_
                      · rintro j21b43 h
                        have h : kk22 j21b43 = some r := h
                        rw [hkk22] at h
                        dsimp only at h
                        clear hkk22
                        refine aw_show (m := (memOf w0 Z0 [] [(oBox g1 40 [(str a0.Name), (Value.int .i64 a0.Kind), (Value.int .i64 a0.Mode), (Value.int .i64 a0.Time), (Value.int .i64 a0.Size), v0_5, (str a0.Link)])] [(fDat (tyList tyA8u8) [v0_5] a0.Parts)])) (S := (tab [(1, (ptr g1 0)), (43, (Value.bool j21b43))])) ?_
                        refine aw_cond rfl (fun hb23 => ?_) (fun hb23 => ?_)
                        · replace h := bif_t hb23 h
                          refine aw_skip ?_
                          exact aq_join j21b43 h (fun w a hm hs => norm hm hs [0] [0] [(1, (ptr g1 0)), (43, (Value.bool j21b43))] (by decide) ⟨rfl, rfl, trivial⟩)
                        · replace h := bif_f hb23 h
                          refine aw_region ?_
                          refine al_val (ov_fieldA (p := 1) rfl Tryd.underlying40 rfl sz3 rfl rfl rfl) ?_
                          refine al_val (ov_load (i := 0) (v := (Value.int .i64 a0.Kind)) rfl rfl Tryd.underlying3 sz3 rfl rfl rfl rfl) ?_
                          refine al_val (ov_int rfl rfl rfl rfl) ?_
                          refine al_val (ov_move rfl rfl) ?_
                          refine al_caseB 77 rfl (fun hb24 => ?_) (fun hb24 => ?_)
                          · replace h := bif_t hb24 h
                            refine al_val (ov_fieldA (p := 5) rfl Tryd.underlying40 rfl sz38 rfl rfl rfl) ?_
                            refine al_val (ov_load (i := 0) (v := v0_5) rfl rfl Tryd.underlying38 sz38 rfl rfl rfl rfl) ?_
                            refine al_val (ov_lenD 0 rfl rfl Tryd.underlying38 rfl) ?_
                            refine al_val (ov_int rfl rfl rfl rfl) ?_
                            refine al_val (ov_move rfl rfl) ?_
                            refine al_caseB 82 rfl (fun hb25 => ?_) (fun hb25 => ?_)
                            · replace h := bif_t hb25 h
                              refine al_skip ?_
                              refine al_skip ?_
                              refine al_skip ?_
                              refine al_val (ov_pick_t rfl rfl rfl) ?_
                              refine al_val (ov_pick_t rfl rfl rfl) ?_
                              refine al_val (ov_assign rfl rfl) ?_
                              refine al_nil ?_
                              exact aq_join true h (fun w a hm hs => norm hm hs [0] [0] [(1, (ptr g1 0)), (43, (Value.bool true))] (by decide) ⟨rfl, rfl, trivial⟩)
                            · replace h := bif_f hb25 h
                              refine al_val (ov_fieldA (p := 6) rfl Tryd.underlying40 rfl sz9 rfl rfl rfl) ?_
                              refine al_val (ov_load (i := 0) (v := (str a0.Link)) rfl rfl Tryd.underlying9 sz9 rfl rfl rfl rfl) ?_
                              refine al_val (ov_strCmp rfl rfl rfl rfl) ?_
                              refine al_val (ov_pick_f rfl rfl rfl) ?_
                              refine al_val (ov_pick_t rfl rfl rfl) ?_
                              refine al_val (ov_assign rfl rfl) ?_
                              refine al_nil ?_
                              exact aq_join (a0.Link == ([] : List UInt8)) h (fun w a hm hs => norm hm hs [0] [0] [(1, (ptr g1 0)), (43, (Value.bool (a0.Link == ([] : List UInt8))))] (by decide) ⟨rfl, rfl, trivial⟩)
                          · replace h := bif_f hb24 h
                            refine al_skip ?_
                            refine al_skip ?_
                            refine al_skip ?_
                            refine al_skip ?_
                            refine al_skip ?_
                            refine al_skip ?_
                            refine al_skip ?_
                            refine al_skip ?_
                            refine al_skip ?_
                            refine al_val (ov_pick_f rfl rfl rfl) ?_
                            refine al_val (ov_assign rfl rfl) ?_
                            refine al_nil ?_
                            exact aq_join false h (fun w a hm hs => norm hm hs [0] [0] [(1, (ptr g1 0)), (43, (Value.bool false))] (by decide) ⟨rfl, rfl, trivial⟩)
                      · clear hkk22
                        refine aw_region ?_
                        refine al_val (ov_fieldA (p := 1) rfl Tryd.underlying40 rfl sz3 rfl rfl rfl) ?_
                        refine al_val (ov_load (i := 0) (v := (Value.int .i64 a0.Kind)) rfl rfl Tryd.underlying3 sz3 rfl rfl rfl rfl) ?_
                        refine al_val (ov_int rfl rfl rfl rfl) ?_
                        refine al_val (ov_move rfl rfl) ?_
                        refine al_caseB 63 rfl (fun hb26 => ?_) (fun hb26 => ?_)
                        · replace h := bif_t hb26 h
                          refine al_val (ov_fieldA (p := 5) rfl Tryd.underlying40 rfl sz38 rfl rfl rfl) ?_
                          refine al_val (ov_load (i := 0) (v := v0_5) rfl rfl Tryd.underlying38 sz38 rfl rfl rfl rfl) ?_
                          refine al_val (ov_lenD 0 rfl rfl Tryd.underlying38 rfl) ?_
                          refine al_val (ov_int rfl rfl rfl rfl) ?_
                          refine al_val (ov_move rfl rfl) ?_
                          refine al_caseB 68 rfl (fun hb27 => ?_) (fun hb27 => ?_)
                          · replace h := bif_t hb27 h
                            refine al_skip ?_
                            refine al_skip ?_
                            refine al_skip ?_
                            refine al_val (ov_pick_t rfl rfl rfl) ?_
                            refine al_val (ov_pick_t rfl rfl rfl) ?_
                            refine al_val (ov_assign rfl rfl) ?_
                            refine al_nil ?_
                            exact aq_join true h (fun w a hm hs => norm hm hs [0] [0] [(1, (ptr g1 0)), (43, (Value.bool true))] (by decide) ⟨rfl, rfl, trivial⟩)
                          · replace h := bif_f hb27 h
                            refine al_val (ov_fieldA (p := 6) rfl Tryd.underlying40 rfl sz9 rfl rfl rfl) ?_
                            refine al_val (ov_load (i := 0) (v := (str a0.Link)) rfl rfl Tryd.underlying9 sz9 rfl rfl rfl rfl) ?_
                            refine al_val (ov_strCmp rfl rfl rfl rfl) ?_
                            refine al_val (ov_pick_f rfl rfl rfl) ?_
                            refine al_val (ov_pick_t rfl rfl rfl) ?_
                            refine al_val (ov_assign rfl rfl) ?_
                            refine al_nil ?_
                            exact aq_join (!(a0.Link == ([] : List UInt8))) h (fun w a hm hs => norm hm hs [0] [0] [(1, (ptr g1 0)), (43, (Value.bool (!(a0.Link == ([] : List UInt8)))))] (by decide) ⟨rfl, rfl, trivial⟩)
                        · replace h := bif_f hb26 h
                          refine al_skip ?_
                          refine al_skip ?_
                          refine al_skip ?_
                          refine al_skip ?_
                          refine al_skip ?_
                          refine al_skip ?_
                          refine al_skip ?_
                          refine al_skip ?_
                          refine al_skip ?_
                          refine al_val (ov_pick_f rfl rfl rfl) ?_
                          refine al_val (ov_assign rfl rfl) ?_
                          refine al_nil ?_
                          exact aq_join false h (fun w a hm hs => norm hm hs [0] [0] [(1, (ptr g1 0)), (43, (Value.bool false))] (by decide) ⟨rfl, rfl, trivial⟩)
                  · clear hkk19
                    refine aw_region ?_
                    refine al_val (ov_fieldA (p := 1) rfl Tryd.underlying40 rfl sz3 rfl rfl rfl) ?_
                    refine al_val (ov_load (i := 0) (v := (Value.int .i64 a0.Kind)) rfl rfl Tryd.underlying3 sz3 rfl rfl rfl rfl) ?_
                    refine al_val (ov_int rfl rfl rfl rfl) ?_
                    refine al_val (ov_move rfl rfl) ?_
                    refine al_caseB 55 rfl (fun hb28 => ?_) (fun hb28 => ?_)
                    · replace h := bif_t hb28 h
                      refine al_val (ov_fieldA (p := 4) rfl Tryd.underlying40 rfl sz3 rfl rfl rfl) ?_
                      refine al_val (ov_load (i := 0) (v := (Value.int .i64 a0.Size)) rfl rfl Tryd.underlying3 sz3 rfl rfl rfl rfl) ?_
                      refine al_val (ov_int rfl rfl rfl rfl) ?_
                      refine al_val (ov_pick_t rfl rfl rfl) ?_
                      refine al_val (ov_assign rfl rfl) ?_
                      refine al_nil ?_
                      exact aq_join (a0.Size != (0 : Int)) h (fun w a hm hs => norm hm hs [0] [0] [(1, (ptr g1 0)), (43, (Value.bool (a0.Size != (0 : Int))))] (by decide) ⟨rfl, rfl, trivial⟩)
                    · replace h := bif_f hb28 h
                      refine al_skip ?_
                      refine al_skip ?_
                      refine al_skip ?_
                      refine al_val (ov_pick_f rfl rfl rfl) ?_
                      refine al_val (ov_assign rfl rfl) ?_
                      refine al_nil ?_
                      exact aq_join false h (fun w a hm hs => norm hm hs [0] [0] [(1, (ptr g1 0)), (43, (Value.bool false))] (by decide) ⟨rfl, rfl, trivial⟩)
              · clear hkk16
                refine aw_region ?_
                refine al_val (ov_fieldA (p := 1) rfl Tryd.underlying40 rfl sz3 rfl rfl rfl) ?_
                refine al_val (ov_load (i := 0) (v := (Value.int .i64 a0.Kind)) rfl rfl Tryd.underlying3 sz3 rfl rfl rfl rfl) ?_
                refine al_val (ov_int rfl rfl rfl rfl) ?_
                refine al_val (ov_move rfl rfl) ?_
                refine al_caseB 47 rfl (fun hb29 => ?_) (fun hb29 => ?_)
                · replace h := bif_t hb29 h
                  refine al_val (ov_fieldA (p := 6) rfl Tryd.underlying40 rfl sz9 rfl rfl rfl) ?_
                  refine al_val (ov_load (i := 0) (v := (str a0.Link)) rfl rfl Tryd.underlying9 sz9 rfl rfl rfl rfl) ?_
                  refine al_val (ov_strCmp rfl rfl rfl rfl) ?_
                  refine al_val (ov_pick_t rfl rfl rfl) ?_
                  refine al_val (ov_assign rfl rfl) ?_
                  refine al_nil ?_
                  exact aq_join (!(a0.Link == ([] : List UInt8))) h (fun w a hm hs => norm hm hs [0] [0] [(1, (ptr g1 0)), (43, (Value.bool (!(a0.Link == ([] : List UInt8)))))] (by decide) ⟨rfl, rfl, trivial⟩)
                · replace h := bif_f hb29 h
                  refine al_skip ?_
                  refine al_skip ?_
                  refine al_skip ?_
                  refine al_val (ov_pick_f rfl rfl rfl) ?_
                  refine al_val (ov_assign rfl rfl) ?_
                  refine al_nil ?_
                  exact aq_join false h (fun w a hm hs => norm hm hs [0] [0] [(1, (ptr g1 0)), (43, (Value.bool false))] (by decide) ⟨rfl, rfl, trivial⟩)
        · clear hkk9
          refine aw_region ?_
          refine al_val (ov_fieldA (p := 1) rfl Tryd.underlying40 rfl sz3 rfl rfl rfl) ?_
          refine al_val (ov_load (i := 0) (v := (Value.int .i64 a0.Kind)) rfl rfl Tryd.underlying3 sz3 rfl rfl rfl rfl) ?_
          refine al_val (ov_int rfl rfl rfl rfl) ?_
          refine al_val (ov_move rfl rfl) ?_
          refine al_caseB 38 rfl (fun hb30 => ?_) (fun hb30 => ?_)
          · replace h := bif_t hb30 h
            refine al_skip ?_
            refine al_skip ?_
            refine al_skip ?_
            refine al_val (ov_pick_t rfl rfl rfl) ?_
            refine al_val (ov_assign rfl rfl) ?_
            refine al_nil ?_
            exact aq_join true h (fun w a hm hs => norm hm hs [0] [0] [(1, (ptr g1 0)), (34, (Value.bool true))] (by decide) ⟨rfl, rfl, trivial⟩)
          · replace h := bif_f hb30 h
            refine al_val (ov_fieldA (p := 1) rfl Tryd.underlying40 rfl sz3 rfl rfl rfl) ?_
            refine al_val (ov_load (i := 0) (v := (Value.int .i64 a0.Kind)) rfl rfl Tryd.underlying3 sz3 rfl rfl rfl rfl) ?_
            refine al_val (ov_int rfl rfl rfl rfl) ?_
            refine al_val (ov_pick_f rfl rfl rfl) ?_
            refine al_val (ov_assign rfl rfl) ?_
            refine al_nil ?_
            exact aq_join (decide (a0.Kind > (3 : Int))) h (fun w a hm hs => norm hm hs [0] [0] [(1, (ptr g1 0)), (34, (Value.bool (decide (a0.Kind > (3 : Int)))))] (by decide) ⟨rfl, rfl, trivial⟩)
    · clear hkk6
      refine aw_region ?_
      refine al_val (ov_fieldA (p := 2) rfl Tryd.underlying40 rfl sz3 rfl rfl rfl) ?_
      refine al_val (ov_load (i := 0) (v := (Value.int .i64 a0.Mode)) rfl rfl Tryd.underlying3 sz3 rfl rfl rfl rfl) ?_
      refine al_val (ov_int rfl rfl rfl rfl) ?_
      refine al_val (ov_move rfl rfl) ?_
      refine al_caseB 13 rfl (fun hb31 => ?_) (fun hb31 => ?_)
      · replace h := bif_t hb31 h
        refine al_skip ?_
        refine al_skip ?_
        refine al_skip ?_
        refine al_val (ov_pick_t rfl rfl rfl) ?_
        refine al_val (ov_move rfl rfl) ?_
        refine al_skip ?_
        refine al_skip ?_
        refine al_skip ?_
        refine al_val (ov_pick_t rfl rfl rfl) ?_
        refine al_val (ov_move rfl rfl) ?_
        refine al_skip ?_
        refine al_skip ?_
        refine al_skip ?_
        refine al_val (ov_pick_t rfl rfl rfl) ?_
        refine al_val (ov_move rfl rfl) ?_
        refine al_skip ?_
        refine al_skip ?_
        refine al_skip ?_
        refine al_skip ?_
        refine al_val (ov_pick_t rfl rfl rfl) ?_
        refine al_nil ?_
        exact aq_join true h (fun w a hm hs => norm hm hs [0] [0] [(1, (ptr g1 0)), (33, (Value.bool true))] (by decide) ⟨rfl, rfl, trivial⟩)
      · replace h := bif_f hb31 h
        refine al_val (ov_fieldA (p := 2) rfl Tryd.underlying40 rfl sz3 rfl rfl rfl) ?_
        refine al_val (ov_load (i := 0) (v := (Value.int .i64 a0.Mode)) rfl rfl Tryd.underlying3 sz3 rfl rfl rfl rfl) ?_
        refine al_val (ov_int rfl rfl rfl rfl) ?_
        refine al_val (ov_pick_f rfl rfl rfl) ?_
        refine al_val (ov_move rfl rfl) ?_
        refine al_caseB 18 rfl (fun hb32 => ?_) (fun hb32 => ?_)
        · replace h := bif_t hb32 h
          refine al_skip ?_
          refine al_skip ?_
          refine al_skip ?_
          refine al_val (ov_pick_t rfl rfl rfl) ?_
          refine al_val (ov_move rfl rfl) ?_
          refine al_skip ?_
          refine al_skip ?_
          refine al_skip ?_
          refine al_val (ov_pick_t rfl rfl rfl) ?_
          refine al_val (ov_move rfl rfl) ?_
          refine al_skip ?_
          refine al_skip ?_
          refine al_skip ?_
          refine al_skip ?_
          refine al_val (ov_pick_t rfl rfl rfl) ?_
          refine al_nil ?_
          exact aq_join true h (fun w a hm hs => norm hm hs [0] [0] [(1, (ptr g1 0)), (33, (Value.bool true))] (by decide) ⟨rfl, rfl, trivial⟩)
        · replace h := bif_f hb32 h
          refine al_val (ov_fieldA (p := 4) rfl Tryd.underlying40 rfl sz3 rfl rfl rfl) ?_
          refine al_val (ov_load (i := 0) (v := (Value.int .i64 a0.Size)) rfl rfl Tryd.underlying3 sz3 rfl rfl rfl rfl) ?_
          refine al_val (ov_int rfl rfl rfl rfl) ?_
          refine al_val (ov_pick_f rfl rfl rfl) ?_
          refine al_val (ov_move rfl rfl) ?_
          refine al_caseB 23 rfl (fun hb33 => ?_) (fun hb33 => ?_)
          · replace h := bif_t hb33 h
            refine al_skip ?_
            refine al_skip ?_
            refine al_skip ?_
            refine al_val (ov_pick_t rfl rfl rfl) ?_
            refine al_val (ov_move rfl rfl) ?_
            refine al_skip ?_
            refine al_skip ?_
            refine al_skip ?_
            refine al_skip ?_
            refine al_val (ov_pick_t rfl rfl rfl) ?_
            refine al_nil ?_
            exact aq_join true h (fun w a hm hs => norm hm hs [0] [0] [(1, (ptr g1 0)), (33, (Value.bool true))] (by decide) ⟨rfl, rfl, trivial⟩)
          · replace h := bif_f hb33 h
            refine al_val (ov_fieldA (p := 4) rfl Tryd.underlying40 rfl sz3 rfl rfl rfl) ?_
            refine al_val (ov_load (i := 0) (v := (Value.int .i64 a0.Size)) rfl rfl Tryd.underlying3 sz3 rfl rfl rfl rfl) ?_
            refine al_val (ov_int rfl rfl rfl rfl) ?_
            refine al_val (ov_pick_f rfl rfl rfl) ?_
            refine al_val (ov_move rfl rfl) ?_
            refine al_caseB 28 rfl (fun hb34 => ?_) (fun hb34 => ?_)
            · replace h := bif_t hb34 h
              refine al_skip ?_
              refine al_skip ?_
              refine al_skip ?_
              refine al_skip ?_
              refine al_val (ov_pick_t rfl rfl rfl) ?_
              refine al_nil ?_
              exact aq_join true h (fun w a hm hs => norm hm hs [0] [0] [(1, (ptr g1 0)), (33, (Value.bool true))] (by decide) ⟨rfl, rfl, trivial⟩)
            · replace h := bif_f hb34 h
              refine al_val (ov_fieldA (p := 5) rfl Tryd.underlying40 rfl sz38 rfl rfl rfl) ?_
              refine al_val (ov_load (i := 0) (v := v0_5) rfl rfl Tryd.underlying38 sz38 rfl rfl rfl rfl) ?_
              refine al_val (ov_lenD 0 rfl rfl Tryd.underlying38 rfl) ?_
              refine al_val (ov_int rfl rfl rfl rfl) ?_
              refine al_val (ov_pick_f rfl rfl rfl) ?_
              refine al_nil ?_
              exact aq_join (decide ((a0.Parts.length : Int) > (300 : Int))) h (fun w a hm hs => norm hm hs [0] [0] [(1, (ptr g1 0)), (33, (Value.bool (decide ((a0.Parts.length : Int) > (300 : Int)))))] (by decide) ⟨rfl, rfl, trivial⟩)
def f_lumref_Nodes_L6 (a0 : (List S_api_Node)) (kk3 : (Unit → Option Int)) (fu : Nat) : Nat → Int → Option Int
  | 0, _ => none
  | k5 + 1, l4i11 => (bif (decide (l4i11 < (a0.length : Int))) then (opt (at? a0 l4i11) fun (u8 : S_api_Node) => (opt (f_lumref_nodeErr fu u8) fun (r15 : Int) => (bif (r15 != (0 : Int)) then (some r15) else (lt (fun (j17b33 : Bool) => (bif j17b33 then (some (4 : Int)) else (f_lumref_Nodes_L6 a0 kk3 fu k5 (IntKind.i64.wrap (l4i11 + (1 : Int)))))) fun (kk18 : Bool → Option Int) => (bif (decide (l4i11 > (0 : Int))) then (opt (at? a0 (IntKind.i64.wrap (l4i11 - (1 : Int)))) fun (u21 : S_api_Node) => (kk18 (!Op.bytesLess u21.Name u8.Name))) else (kk18 false)))))) else (kk3 ()))
def f_lumref_Nodes (fu : Nat) (a0 : (List S_api_Node)) : Option Int := (bif (decide ((a0.length : Int) > (64 : Int))) then (some (2 : Int)) else (lt (fun (_ : Unit) => (some (0 : Int))) fun (kk3 : Unit → Option Int) => (f_lumref_Nodes_L6 a0 kk3 fu fu (0 : Int))))
set_option maxRecDepth 100000 in
theorem f_lumref_Nodes_ok (fu : Nat) (v0_0 : Value) (a0 : (List S_api_Node)) {r : Int} (h : f_lumref_Nodes fu a0 = some r) : FnOk Tryd.prog 17 [v0_0] [(fDat (tyList tyS_api_Node) [v0_0] a0)] [] (fun (i : Unit) => { val := (Value.int .i64 r) }) := by
  unfold f_lumref_Nodes at h
  refine fn_enter Tryd.func17 rfl Tryd.ntmps17 rfl (fun w0 Z0 => ?_)
  refine aw_seq ?_
  refine aw_region ?_
  refine al_val (ov_assign rfl rfl) ?_
  refine al_nil ?_
  refine aq_then ?_
  refine aw_seq ?_
  refine aw_seq ?_
  refine aw_region ?_
  refine al_val (ov_move rfl rfl) ?_
  refine al_val (ov_lenD 0 rfl rfl Tryd.underlying32 rfl) ?_
  refine al_val (ov_int rfl rfl rfl rfl) ?_
  refine al_nil ?_
  refine aq_then ?_
  refine aw_cond rfl (fun hb1 => ?_) (fun hb1 => ?_)
  · replace h := bif_t hb1 h
    refine aw_seq ?_
    refine aw_region ?_
    refine al_val (ov_assign rfl rfl) ?_
    refine al_nil ?_
    refine aq_then ?_
    refine aw_ret ?_
    refine aq_then_ret ?_
    obtain rfl := Option.some.inj h
    exact fn_ret () [] [] rfl rfl rfl rfl (res1 rfl rfl) rfl rfl rfl (by decide)
  · replace h := bif_f hb1 h
    refine aw_skip ?_
    refine aq_then ?_
    obtain ⟨kk3, hkk3, h⟩ := lt_some h
    refine aw_seq_join (ι := Unit) (fun i => (memOf w0 Z0 [] [] [(fDat (tyList tyS_api_Node) [v0_0] a0)])) (fun i => (tab [])) (fun i => kk3 () = some r) ?_ ?_
    · rintro _ h
      have h : kk3 () = some r := h
      rw [hkk3] at h
      dsimp only at h
      clear hkk3
      refine aw_show (m := (memOf w0 Z0 [] [] [(fDat (tyList tyS_api_Node) [v0_0] a0)])) (S := (tab [])) ?_
      refine aw_seq ?_
      refine aw_region ?_
      refine al_val (ov_assign rfl rfl) ?_
      refine al_nil ?_
      refine aq_then ?_
      refine aw_ret ?_
      obtain rfl := Option.some.inj h
      exact fn_ret () [] [] rfl rfl rfl rfl (res1 rfl rfl) rfl rfl rfl (by decide)
    · clear hkk3
      refine aw_seq ?_
      refine aw_region ?_
      refine al_val (ov_move rfl rfl) ?_
      refine al_val (ov_lenD 0 rfl rfl Tryd.underlying32 rfl) ?_
      refine al_val (ov_move rfl rfl) ?_
      refine al_nil ?_
      refine aq_then ?_
      refine aw_block ?_
      refine aw_state (aw_loop (ι := Int) (fun i => (memOf w0 Z0 [] [] [(fDat (tyList tyS_api_Node) [v0_0] a0)])) (fun i => (tab [(0, v0_0), (9, v0_0), (10, (Value.int .i64 (a0.length : Int))), (11, (Value.int .i64 i))])) (fun q i => f_lumref_Nodes_L6 a0 kk3 fu q i = some r) ?_ fu (0 : Int) h) (fun w a hm hs => norm hm hs [] [0] [(0, v0_0), (9, v0_0), (10, (Value.int .i64 (a0.length : Int))), (11, (Value.int .i64 (0 : Int)))] (by decide) ⟨rfl, rfl, rfl, rfl, trivial⟩)
      clear h
      rintro k5 l4i11 h
      have h : f_lumref_Nodes_L6 a0 kk3 fu k5 l4i11 = some r := h
      obtain _ | k5 := k5
      · rw [f_lumref_Nodes_L6] at h; cases h
      rw [f_lumref_Nodes_L6] at h
      refine aw_show (m := (memOf w0 Z0 [] [] [(fDat (tyList tyS_api_Node) [v0_0] a0)])) (S := (tab [(0, v0_0), (9, v0_0), (10, (Value.int .i64 (a0.length : Int))), (11, (Value.int .i64 l4i11))])) ?_
      refine aw_seq ?_
      refine aw_region ?_
      refine al_val (ov_int rfl rfl rfl rfl) ?_
      refine al_nil ?_
      refine aq_then ?_
      refine aw_seq ?_
      refine aw_cond rfl (fun hb7 => ?_) (fun hb7 => ?_)
      · replace h := bif_t hb7 h
        refine aw_skip ?_
        refine aq_then ?_
        refine aw_seq ?_
        refine aw_block ?_
        refine aw_seq ?_
        refine aw_region ?_
        refine al_val (ov_move rfl rfl) ?_
        obtain ⟨u8, hu9, h⟩ := opt_some h
        refine al_idxD 0 hu9 rfl rfl rfl Tryd.underlying32 sz40 rfl (fun p10 => ?_)
        refine al_loadPA 0 rfl rfl Tryd.underlying40 sz40 rfl rfl (fun cs12 => ?_)
        refine al_use (ι := Value) 0 rfl (fun j => cs12 = [(str u8.Name), (Value.int .i64 u8.Kind), (Value.int .i64 u8.Mode), (Value.int .i64 u8.Time), (Value.int .i64 u8.Size), j, (str u8.Link)]) (fun j => [(fDat (tyList tyA8u8) [j] u8.Parts)]) encnS_api_Node (fun s11 hq => ?_)
        subst hq
        refine al_alloc (zs := [(str ([] : List UInt8)), (Value.int .i64 (0 : Int)), (Value.int .i64 (0 : Int)), (Value.int .i64 (0 : Int)), (Value.int .i64 (0 : Int)), (Value.slice none 0 0), (str ([] : List UInt8))]) (zeroOf_to to40) rfl rfl (fun g13 => ?_)
        refine al_val (ov_assign rfl rfl) ?_
        refine al_store (i := 0) (vs := [(str u8.Name), (Value.int .i64 u8.Kind), (Value.int .i64 u8.Mode), (Value.int .i64 u8.Time), (Value.int .i64 u8.Size), s11, (str u8.Link)]) (cs' := [(str u8.Name), (Value.int .i64 u8.Kind), (Value.int .i64 u8.Mode), (Value.int .i64 u8.Time), (Value.int .i64 u8.Size), s11, (str u8.Link)]) rfl rfl rfl sz40 (cv_rfl rfl) rfl (co_val rfl (co_val rfl (co_val rfl (co_val rfl (co_val rfl (co_fz 0 rfl (co_val rfl co_nil))))))) (Nat.le_of_ble_eq_true rfl) rfl rfl ?_
        refine al_nil ?_
        refine aq_then ?_
        refine aw_seq ?_
        refine aw_seq ?_
        refine aw_region ?_
        refine al_val (ov_load (i := 0) (v := (ag [(str u8.Name), (Value.int .i64 u8.Kind), (Value.int .i64 u8.Mode), (Value.int .i64 u8.Time), (Value.int .i64 u8.Size), s11, (str u8.Link)])) rfl rfl Tryd.underlying40 sz40 rfl rfl rfl rfl) ?_
        obtain ⟨r15, hc14, h⟩ := opt_some h
        refine al_call (vs := [(ag [(str u8.Name), (Value.int .i64 u8.Kind), (Value.int .i64 u8.Mode), (Value.int .i64 u8.Time), (Value.int .i64 u8.Size), s11, (str u8.Link)])]) (f_lumref_nodeErr_ok fu s11 u8 hc14) [] [] [0] (pre_fz 0 rfl pre_nil) rfl (by simp) (by decide) (.inl rfl) rfl Tryd.func60 rfl rfl rfl (fun _ => ?_)
        refine al_val (ov_assign rfl rfl) ?_
        refine al_nil ?_
        refine aq_then ?_
        refine aw_seq ?_
        refine aw_region ?_
        refine al_val (ov_move rfl rfl) ?_
        refine al_val (ov_int rfl rfl rfl rfl) ?_
        refine al_nil ?_
        refine aq_then ?_
        refine aw_cond rfl (fun hb16 => ?_) (fun hb16 => ?_)
        · replace h := bif_t hb16 h
          refine aw_seq ?_
          refine aw_region ?_
          refine al_val (ov_move rfl rfl) ?_
          refine al_val (ov_assign rfl rfl) ?_
          refine al_nil ?_
          refine aq_then ?_
          refine aw_ret ?_
          refine aq_then_ret ?_
          refine aq_block_ret ?_
          refine aq_then_ret ?_
          refine aq_then_ret ?_
          refine aq_block_ret ?_
          refine aq_then_ret ?_
          obtain rfl := Option.some.inj h
          exact fn_ret () [] [] rfl rfl rfl rfl (res1 rfl rfl) rfl rfl rfl (by decide)
        · replace h := bif_f hb16 h
          refine aw_skip ?_
          refine aq_then ?_
          obtain ⟨kk18, hkk18, h⟩ := lt_some h
          refine aw_seq_join (ι := Bool) (fun i => (memOf w0 Z0 [] [] [(fDat (tyList tyS_api_Node) [v0_0] a0), (fDat (tyList tyA8u8) [s11] u8.Parts), (fDat tyS_api_Node [(str u8.Name), (Value.int .i64 u8.Kind), (Value.int .i64 u8.Mode), (Value.int .i64 u8.Time), (Value.int .i64 u8.Size), s11, (str u8.Link)] u8), (fPtr tyS_api_Node p10 u8)])) (fun i => (tab [(0, v0_0), (9, v0_0), (10, (Value.int .i64 (a0.length : Int))), (11, (Value.int .i64 l4i11)), (33, (Value.bool i))])) (fun i => kk18 i = some r) ?_ ?_
          · rintro j17b33 h
            have h : kk18 j17b33 = some r := h
            rw [hkk18] at h
            dsimp only at h
            clear hkk18
            refine aw_show (m := (memOf w0 Z0 [] [] [(fDat (tyList tyS_api_Node) [v0_0] a0), (fDat (tyList tyA8u8) [s11] u8.Parts), (fDat tyS_api_Node [(str u8.Name), (Value.int .i64 u8.Kind), (Value.int .i64 u8.Mode), (Value.int .i64 u8.Time), (Value.int .i64 u8.Size), s11, (str u8.Link)] u8), (fPtr tyS_api_Node p10 u8)])) (S := (tab [(0, v0_0), (9, v0_0), (10, (Value.int .i64 (a0.length : Int))), (11, (Value.int .i64 l4i11)), (33, (Value.bool j17b33))])) ?_
            refine aw_cond rfl (fun hb19 => ?_) (fun hb19 => ?_)
            · replace h := bif_t hb19 h
              refine aw_seq ?_
              refine aw_region ?_
              refine al_val (ov_assign rfl rfl) ?_
              refine al_nil ?_
              refine aq_then ?_
              refine aw_ret ?_
              refine aq_block_ret ?_
              refine aq_then_ret ?_
              refine aq_then_ret ?_
              refine aq_block_ret ?_
              refine aq_then_ret ?_
              obtain rfl := Option.some.inj h
              exact fn_ret () [] [] rfl rfl rfl rfl (res1 rfl rfl) rfl rfl rfl (by decide)
            · replace h := bif_f hb19 h
              refine aw_skip ?_
              refine aq_block ?_
              refine aq_then ?_
              refine aw_region ?_
              refine al_val (ov_int rfl rfl rfl rfl) ?_
              refine al_val (ov_move rfl rfl) ?_
              refine al_nil ?_
              exact aq_again k5 (IntKind.i64.wrap (l4i11 + (1 : Int))) (Nat.lt_succ_self _) h (fun w a hm hs => norm hm hs [] [0] [(0, v0_0), (9, v0_0), (10, (Value.int .i64 (a0.length : Int))), (11, (Value.int .i64 (IntKind.i64.wrap (l4i11 + (1 : Int)))))] (by decide) ⟨rfl, rfl, rfl, rfl, trivial⟩)
          · clear hkk18
            rcases Bool.eq_false_or_eq_true (decide (l4i11 > (0 : Int))) with hb20 | hb20
            · replace h := bif_t hb20 h
              obtain ⟨u21, hu22, h⟩ := opt_some h
              refine aw_region_draw 12 [(21, (fun u => fEq u (Value.int .i64 l4i11))), (22, (fun u => fEq u (Value.bool true))), (23, (fun u => fEq u (Value.bool true))), (24, (fun u => fEq u v0_0)), (25, (fun u => fEq u (Value.int .i64 l4i11))), (26, (fun u => fEq u (Value.int .i64 (IntKind.i64.wrap (l4i11 - (1 : Int)))))), (27, (fun p23 => (fPtr tyS_api_Node p23 u21))), (28, (fun p24 => (fPtr tyStr p24 u21.Name))), (29, (fun u => fEq u (str u21.Name))), (30, (fun u => fEq u (ptr g13 0))), (31, (fun u => fEq u (str u8.Name))), (32, (fun u => fEq u (Value.bool (!Op.bytesLess u21.Name u8.Name))))] (tab [(0, v0_0), (3, (Value.int .i64 l4i11)), (4, (ptr g13 0)), (9, v0_0), (10, (Value.int .i64 (a0.length : Int))), (11, (Value.int .i64 l4i11))]) mixed (by kernel_rfl) rfl rfl rfl (fun a hs => hs.tab _ (allT_mem ⟨rfl, rfl, rfl, rfl, rfl, rfl, trivial⟩)) ⟨⟨rfl, ld_val (ov_move rfl rfl)⟩, ⟨rfl, ld_eq (j := 0) rfl rfl (ld_val (ov_cast (by first | rw [hb20] | rfl) (ov_int rfl rfl rfl rfl)))⟩, ⟨rfl, ld_eq (j := 1) rfl rfl (ld_val (ov_cast (by first | rw [hb20] | rfl) (ov_move rfl rfl)))⟩, ⟨rfl, ld_eq (j := 2) rfl rfl (ld_val (ov_move rfl rfl))⟩, ⟨rfl, ld_eq (j := 2) rfl rfl (ld_val (ov_move rfl rfl))⟩, ⟨rfl, ld_eq (j := 2) rfl rfl (ld_eq (j := 4) rfl rfl (ld_val (ov_int rfl rfl rfl rfl)))⟩, ⟨rfl, ld_eq (j := 2) rfl rfl (ld_eq (j := 3) rfl rfl (ld_eq (j := 5) rfl rfl (ld_of (of_idxD 3 hu22 rfl rfl rfl Tryd.underlying32 sz40 rfl))))⟩, ⟨rfl, ld_eq (j := 2) rfl rfl (ld_fact (j := 6) rfl rfl (fun p23 => ld_of (of_fieldD (pr := fun (y : S_api_Node) => y.Name) 0 rfl subS_api_Node_0 rfl Tryd.underlying40 rfl sz9 rfl rfl)))⟩, ⟨rfl, ld_eq (j := 2) rfl rfl (ld_fact (j := 7) rfl rfl (fun p24 => ld_val (ov_loadP (ds := [(str u21.Name)]) 0 rfl (fun h => h) rfl Tryd.underlying9 sz9 rfl rfl rfl)))⟩, ⟨rfl, ld_eq (j := 2) rfl rfl (ld_val (ov_fieldA (p := 0) rfl Tryd.underlying40 rfl sz9 rfl rfl rfl))⟩, ⟨rfl, ld_eq (j := 2) rfl rfl (ld_eq (j := 9) rfl rfl (ld_val (ov_load (i := 0) (v := (str u8.Name)) rfl rfl Tryd.underlying9 sz9 rfl rfl rfl rfl)))⟩, ⟨rfl, ld_eq (j := 2) rfl rfl (ld_eq (j := 8) rfl rfl (ld_eq (j := 10) rfl rfl (ld_val (ov_strCmp rfl rfl rfl rfl))))⟩, trivial⟩ ?_
              refine tl_eq 2 rfl ?_
              refine tl_eq 11 rfl ?_
              refine tl_done ?_
              refine al_val (ov_pick_t rfl rfl rfl) ?_
              refine al_nil ?_
              exact aq_join (!Op.bytesLess u21.Name u8.Name) h (fun w a hm hs => norm hm hs [] [3, 0, 1, 2] [(0, v0_0), (9, v0_0), (10, (Value.int .i64 (a0.length : Int))), (11, (Value.int .i64 l4i11)), (33, (Value.bool (!Op.bytesLess u21.Name u8.Name)))] (by decide) ⟨rfl, rfl, rfl, rfl, rfl, trivial⟩)
            · replace h := bif_f hb20 h
              refine aw_region_draw 12 [(21, (fun u => fEq u (Value.int .i64 l4i11))), (22, (fun u => fEq u (Value.bool false))), (23, (fun u => fEq u (Value.bool false))), (24, (fun u => fEq u undef)), (25, (fun u => fEq u undef)), (26, (fun u => fEq u undef)), (27, (fun u => fEq u undef)), (28, (fun u => fEq u undef)), (29, (fun u => fEq u undef)), (30, (fun u => fEq u undef)), (31, (fun u => fEq u undef)), (32, (fun u => fEq u undef))] (tab [(0, v0_0), (3, (Value.int .i64 l4i11)), (4, (ptr g13 0)), (9, v0_0), (10, (Value.int .i64 (a0.length : Int))), (11, (Value.int .i64 l4i11))]) mixed (by kernel_rfl) rfl rfl rfl (fun a hs => hs.tab _ (allT_mem ⟨rfl, rfl, rfl, rfl, rfl, rfl, trivial⟩)) ⟨⟨rfl, ld_val (ov_move rfl rfl)⟩, ⟨rfl, ld_eq (j := 0) rfl rfl (ld_val (ov_cast (by first | rw [hb20] | rfl) (ov_int rfl rfl rfl rfl)))⟩, ⟨rfl, ld_eq (j := 1) rfl rfl (ld_val (ov_cast (by first | rw [hb20] | rfl) (ov_move rfl rfl)))⟩, ⟨rfl, ld_eq (j := 2) rfl rfl (ld_skip)⟩, ⟨rfl, ld_eq (j := 2) rfl rfl (ld_skip)⟩, ⟨rfl, ld_eq (j := 2) rfl rfl (ld_skip)⟩, ⟨rfl, ld_eq (j := 2) rfl rfl (ld_skip)⟩, ⟨rfl, ld_eq (j := 2) rfl rfl (ld_skip)⟩, ⟨rfl, ld_eq (j := 2) rfl rfl (ld_skip)⟩, ⟨rfl, ld_eq (j := 2) rfl rfl (ld_skip)⟩, ⟨rfl, ld_eq (j := 2) rfl rfl (ld_skip)⟩, ⟨rfl, ld_eq (j := 2) rfl rfl (ld_skip)⟩, trivial⟩ ?_
              refine tl_eq 2 rfl ?_
              refine tl_eq 11 rfl ?_
              refine tl_done ?_
              refine al_val (ov_pick_f rfl rfl rfl) ?_
              refine al_nil ?_
              exact aq_join false h (fun w a hm hs => norm hm hs [] [3, 0, 1, 2] [(0, v0_0), (9, v0_0), (10, (Value.int .i64 (a0.length : Int))), (11, (Value.int .i64 l4i11)), (33, (Value.bool false))] (by decide) ⟨rfl, rfl, rfl, rfl, rfl, trivial⟩)
      · replace h := bif_f hb7 h
        refine aw_exit ?_
        refine aq_then_exit ?_
        refine aq_then_exit ?_
        refine aq_block_exit ?_
        exact aq_join () h (fun w a hm hs => norm hm hs [] [0] [] (by decide) trivial)
def f_lumref_TreeRead_L13 (r3 : (Int × (List UInt8) × Int)) (kk6 : ((List UInt8) → (List S_api_Node) → Option ((List S_api_Node) × Int))) (fu : Nat) : Nat → (List UInt8) → (List S_api_Node) → Int → Option ((List S_api_Node) × Int)
  | 0, _, _, _ => none
  | k12 + 1, l11s0, l11x6, l11i22 => (bif (decide (l11i22 < r3.1)) then (opt (f_lumref_nodeRead fu l11s0) fun (r17 : (S_api_Node × (List UInt8) × Int)) => (bif (r17.2.2 != (0 : Int)) then (some (([] : List S_api_Node), r17.2.2)) else (req (((l11x6.length + ([(S_api_Node.mk r17.1.Name r17.1.Kind r17.1.Mode r17.1.Time r17.1.Size r17.1.Parts r17.1.Link)]).length) * 88 : Nat) ≤ 140737488355328 ∧ l11x6.length + ([(S_api_Node.mk r17.1.Name r17.1.Kind r17.1.Mode r17.1.Time r17.1.Size r17.1.Parts r17.1.Link)]).length ≤ 9223372036854775807) (f_lumref_TreeRead_L13 r3 kk6 fu k12 r17.2.1 (l11x6 ++ ([(S_api_Node.mk r17.1.Name r17.1.Kind r17.1.Mode r17.1.Time r17.1.Size r17.1.Parts r17.1.Link)])) (IntKind.i64.wrap (l11i22 + (1 : Int))))))) else (kk6 l11s0 l11x6))
def f_lumref_TreeRead (fu : Nat) (a0 : (List UInt8)) : Option ((List S_api_Node) × Int) := (bif (decide ((a0.length : Int) > (4096 : Int))) then (some (([] : List S_api_Node), (2 : Int))) else (opt (f_lumref_numberAt fu a0 (64 : Int)) fun (r3 : (Int × (List UInt8) × Int)) => (bif (r3.2.2 != (0 : Int)) then (some (([] : List S_api_Node), r3.2.2)) else (lt (fun (j5s0 : (List UInt8)) (j5x6 : (List S_api_Node)) => (bif (!(j5s0 == ([] : List UInt8))) then (some (([] : List S_api_Node), (4 : Int))) else (opt (f_lumref_Nodes fu j5x6) fun (r9 : Int) => (bif (r9 != (0 : Int)) then (some (([] : List S_api_Node), r9)) else (some (j5x6, (0 : Int))))))) fun (kk6 : (List UInt8) → (List S_api_Node) → Option ((List S_api_Node) × Int)) => (f_lumref_TreeRead_L13 r3 kk6 fu fu r3.2.1 ([] : List S_api_Node) (0 : Int))))))
set_option maxRecDepth 100000 in
theorem f_lumref_TreeRead_ok (fu : Nat) (a0 : (List UInt8)) {r : ((List S_api_Node) × Int)} (h : f_lumref_TreeRead fu a0 = some r) : FnOk Tryd.prog 73 [(str a0)] [] [] (fun (i : Value) => { val := (Value.tuple #[i, (Value.int .i64 r.2)]), own := [(oRow i 40 tyS_api_Node r.1)] }) := by
  unfold f_lumref_TreeRead at h
  refine fn_enter Tryd.func73 rfl Tryd.ntmps73 rfl (fun w0 Z0 => ?_)
  refine aw_seq ?_
  refine aw_region ?_
  refine al_val (ov_assign rfl rfl) ?_
  refine al_val (ov_assign rfl rfl) ?_
  refine al_nil ?_
  refine aq_then ?_
  refine aw_seq ?_
  refine aw_seq ?_
  refine aw_region ?_
  refine al_val (ov_move rfl rfl) ?_
  refine al_val (ov_strLen Tryd.underlying9 rfl rfl) ?_
  refine al_val (ov_int rfl rfl rfl rfl) ?_
  refine al_nil ?_
  refine aq_then ?_
  refine aw_cond rfl (fun hb1 => ?_) (fun hb1 => ?_)
  · replace h := bif_t hb1 h
    refine aw_seq ?_
    refine aw_region ?_
    refine al_val (ov_assign rfl rfl) ?_
    refine al_val (ov_assign rfl rfl) ?_
    refine al_nil ?_
    refine aq_then ?_
    refine aw_ret ?_
    refine aq_then_ret ?_
    refine aq_nilR 40 tyS_api_Node ?_
    obtain rfl := Option.some.inj h
    exact fn_ret (Value.slice none 0 0) [0] [] rfl rfl rfl rfl (res2 rfl rfl rfl) rfl rfl rfl (by decide)
  · replace h := bif_f hb1 h
    refine aw_skip ?_
    refine aq_then ?_
    refine aw_seq ?_
    refine aw_region ?_
    refine al_val (ov_move rfl rfl) ?_
    obtain ⟨r3, hc2, h⟩ := opt_some h
    refine al_call (vs := [(str a0), (Value.int .u64 (64 : Int))]) (f_lumref_numberAt_ok fu a0 (64 : Int) hc2) [] [] [] pre_nil rfl (by simp) (by decide) (.inl rfl) rfl Tryd.func113 rfl rfl rfl (fun _ => ?_)
    refine al_val (ov_move rfl rfl) ?_
    refine al_val (ov_extract rfl rfl rfl) ?_
    refine al_val (ov_extract rfl rfl rfl) ?_
    refine al_val (ov_extract rfl rfl rfl) ?_
    refine al_val (ov_assign rfl rfl) ?_
    refine al_val (ov_assign rfl rfl) ?_
    refine al_val (ov_assign rfl rfl) ?_
    refine al_nil ?_
    refine aq_then ?_
    refine aw_seq ?_
    refine aw_seq ?_
    refine aw_region ?_
    refine al_val (ov_move rfl rfl) ?_
    refine al_val (ov_int rfl rfl rfl rfl) ?_
    refine al_nil ?_
    refine aq_then ?_
    refine aw_cond rfl (fun hb4 => ?_) (fun hb4 => ?_)
    · replace h := bif_t hb4 h
      refine aw_seq ?_
      refine aw_region ?_
      refine al_val (ov_move rfl rfl) ?_
      refine al_val (ov_assign rfl rfl) ?_
      refine al_val (ov_assign rfl rfl) ?_
      refine al_nil ?_
      refine aq_then ?_
      refine aw_ret ?_
      refine aq_then_ret ?_
      refine aq_nilR 40 tyS_api_Node ?_
      obtain rfl := Option.some.inj h
      exact fn_ret (Value.slice none 0 0) [0] [] rfl rfl rfl rfl (res2 rfl rfl rfl) rfl rfl rfl (by decide)
    · replace h := bif_f hb4 h
      refine aw_skip ?_
      refine aq_then ?_
      refine aw_seq ?_
      refine aw_region ?_
      refine al_val (ov_assign rfl rfl) ?_
      refine al_nil ?_
      refine aq_then ?_
      obtain ⟨kk6, hkk6, h⟩ := lt_some h
      refine aw_seq_join (ι := (List UInt8) × Value × (List S_api_Node)) (fun i => (memOf w0 Z0 [] [(oRow i.2.1 40 tyS_api_Node i.2.2)] [])) (fun i => (tab [(0, (str i.1)), (6, i.2.1)])) (fun i => kk6 i.1 i.2.2 = some r) ?_ ?_
      · rintro ⟨j5s0, j5v6, j5x6⟩ h
        have h : kk6 j5s0 j5x6 = some r := h
        rw [hkk6] at h
        dsimp only at h
        clear hkk6
        refine aw_show (m := (memOf w0 Z0 [] [(oRow j5v6 40 tyS_api_Node j5x6)] [])) (S := (tab [(0, (str j5s0)), (6, j5v6)])) ?_
        refine aw_seq ?_
        refine aw_seq ?_
        refine aw_region ?_
        refine al_val (ov_move rfl rfl) ?_
        refine al_val (ov_strCmp rfl rfl rfl rfl) ?_
        refine al_nil ?_
        refine aq_then ?_
        refine aw_cond rfl (fun hb7 => ?_) (fun hb7 => ?_)
        · replace h := bif_t hb7 h
          refine aw_seq ?_
          refine aw_region ?_
          refine al_val (ov_assign rfl rfl) ?_
          refine al_val (ov_assign rfl rfl) ?_
          refine al_nil ?_
          refine aq_then ?_
          refine aw_ret ?_
          refine aq_then_ret ?_
          refine aq_nilR 40 tyS_api_Node ?_
          obtain rfl := Option.some.inj h
          exact fn_ret (Value.slice none 0 0) [0] [] rfl rfl rfl rfl (res2 rfl rfl rfl) rfl rfl rfl (by decide)
        · replace h := bif_f hb7 h
          refine aw_skip ?_
          refine aq_then ?_
          refine aw_seq ?_
          refine aw_seq ?_
          refine aw_region ?_
          refine al_val (ov_move rfl rfl) ?_
          obtain ⟨r9, hc8, h⟩ := opt_some h
          refine al_call (vs := [j5v6]) (f_lumref_Nodes_ok fu j5v6 j5x6 hc8) [0] [] [0] (pre_own 0 rfl rfl pre_nil) rfl (by simp) (by decide) (.inr flat_res0) rfl Tryd.func17 rfl rfl rfl (fun _ => ?_)
          refine al_val (ov_assign rfl rfl) ?_
          refine al_nil ?_
          refine aq_then ?_
          refine aw_seq ?_
          refine aw_region ?_
          refine al_val (ov_move rfl rfl) ?_
          refine al_val (ov_int rfl rfl rfl rfl) ?_
          refine al_nil ?_
          refine aq_then ?_
          refine aw_cond rfl (fun hb10 => ?_) (fun hb10 => ?_)
          · replace h := bif_t hb10 h
            refine aw_seq ?_
            refine aw_region ?_
            refine al_val (ov_move rfl rfl) ?_
            refine al_val (ov_assign rfl rfl) ?_
            refine al_val (ov_assign rfl rfl) ?_
            refine al_nil ?_
            refine aq_then ?_
            refine aw_ret ?_
            refine aq_then_ret ?_
            refine aq_nilR 40 tyS_api_Node ?_
            obtain rfl := Option.some.inj h
            exact fn_ret (Value.slice none 0 0) [0] [] rfl rfl rfl rfl (res2 rfl rfl rfl) rfl rfl rfl (by decide)
          · replace h := bif_f hb10 h
            refine aw_skip ?_
            refine aq_then ?_
            refine aw_seq ?_
            refine aw_region ?_
            refine al_val (ov_move rfl rfl) ?_
            refine al_val (ov_assign rfl rfl) ?_
            refine al_val (ov_assign rfl rfl) ?_
            refine al_nil ?_
            refine aq_then ?_
            refine aw_ret ?_
            obtain rfl := Option.some.inj h
            exact fn_ret j5v6 [0] [] rfl rfl rfl rfl (res2 rfl rfl rfl) rfl rfl rfl (by decide)
      · clear hkk6
        refine aw_seq ?_
        refine aw_region ?_
        refine al_val (ov_move rfl rfl) ?_
        refine al_val (ov_move rfl rfl) ?_
        refine al_nil ?_
        refine aq_then ?_
        refine aw_block ?_
        refine aw_nilR 40 tyS_api_Node ?_
        refine aw_state (aw_loop (ι := (List UInt8) × Value × (List S_api_Node) × Int) (fun i => (memOf w0 Z0 [] [(oRow i.2.1 40 tyS_api_Node i.2.2.1)] [])) (fun i => (tab [(0, (str i.1)), (6, i.2.1), (21, (Value.int .i64 r3.1)), (22, (Value.int .i64 i.2.2.2))])) (fun q i => f_lumref_TreeRead_L13 r3 kk6 fu q i.1 i.2.2.1 i.2.2.2 = some r) ?_ fu (r3.2.1, (Value.slice none 0 0), ([] : List S_api_Node), (0 : Int)) h) (fun w a hm hs => norm hm hs [0] [] [(0, (str r3.2.1)), (6, (Value.slice none 0 0)), (21, (Value.int .i64 r3.1)), (22, (Value.int .i64 (0 : Int)))] (by decide) ⟨rfl, rfl, rfl, rfl, trivial⟩)
        clear h
        rintro k12 ⟨l11s0, l11v6, l11x6, l11i22⟩ h
        have h : f_lumref_TreeRead_L13 r3 kk6 fu k12 l11s0 l11x6 l11i22 = some r := h
        obtain _ | k12 := k12
        · rw [f_lumref_TreeRead_L13] at h; cases h
        rw [f_lumref_TreeRead_L13] at h
        refine aw_show (m := (memOf w0 Z0 [] [(oRow l11v6 40 tyS_api_Node l11x6)] [])) (S := (tab [(0, (str l11s0)), (6, l11v6), (21, (Value.int .i64 r3.1)), (22, (Value.int .i64 l11i22))])) ?_
        refine aw_seq ?_
        refine aw_region ?_
        refine al_val (ov_int rfl rfl rfl rfl) ?_
        refine al_nil ?_
        refine aq_then ?_
        refine aw_seq ?_
        refine aw_cond rfl (fun hb14 => ?_) (fun hb14 => ?_)
        · replace h := bif_t hb14 h
          refine aw_skip ?_
          refine aq_then ?_
          refine aw_seq ?_
          refine aw_block ?_
          refine aw_seq ?_
          refine aw_region ?_
          refine al_alloc (zs := [(str ([] : List UInt8)), (Value.int .i64 (0 : Int)), (Value.int .i64 (0 : Int)), (Value.int .i64 (0 : Int)), (Value.int .i64 (0 : Int)), (Value.slice none 0 0), (str ([] : List UInt8))]) (zeroOf_to to40) rfl rfl (fun g15 => ?_)
          refine al_nil ?_
          refine aq_then ?_
          refine aw_seq ?_
          refine aw_seq ?_
          refine aw_region ?_
          refine al_val (ov_move rfl rfl) ?_
          obtain ⟨r17, hc16, h⟩ := opt_some h
          refine al_call (vs := [(str l11s0)]) (f_lumref_nodeRead_ok fu l11s0 hc16) [] [] [0, 1] pre_nil rfl (by simp) (by decide) (.inl rfl) rfl Tryd.func114 rfl rfl rfl (fun v18 => ?_)
          refine al_val (ov_move rfl rfl) ?_
          refine al_val (ov_extract rfl rfl rfl) ?_
          refine al_val (ov_extract rfl rfl rfl) ?_
          refine al_val (ov_extract rfl rfl rfl) ?_
          refine al_store (i := 0) (vs := [(str r17.1.Name), (Value.int .i64 r17.1.Kind), (Value.int .i64 r17.1.Mode), (Value.int .i64 r17.1.Time), (Value.int .i64 r17.1.Size), v18, (str r17.1.Link)]) (cs' := [(str r17.1.Name), (Value.int .i64 r17.1.Kind), (Value.int .i64 r17.1.Mode), (Value.int .i64 r17.1.Time), (Value.int .i64 r17.1.Size), v18, (str r17.1.Link)]) rfl rfl rfl sz40 (cv_rfl rfl) rfl (co_val rfl (co_val rfl (co_val rfl (co_val rfl (co_val rfl (co_fz 0 rfl (co_val rfl co_nil))))))) (Nat.le_of_ble_eq_true rfl) rfl rfl ?_
          refine al_val (ov_assign rfl rfl) ?_
          refine al_val (ov_assign rfl rfl) ?_
          refine al_nil ?_
          refine aq_then ?_
          refine aw_seq ?_
          refine aw_region ?_
          refine al_val (ov_move rfl rfl) ?_
          refine al_val (ov_int rfl rfl rfl rfl) ?_
          refine al_nil ?_
          refine aq_then ?_
          refine aw_cond rfl (fun hb19 => ?_) (fun hb19 => ?_)
          · replace h := bif_t hb19 h
            refine aw_seq ?_
            refine aw_region ?_
            refine al_val (ov_move rfl rfl) ?_
            refine al_val (ov_assign rfl rfl) ?_
            refine al_val (ov_assign rfl rfl) ?_
            refine al_nil ?_
            refine aq_then ?_
            refine aw_ret ?_
            refine aq_then_ret ?_
            refine aq_block_ret ?_
            refine aq_then_ret ?_
            refine aq_then_ret ?_
            refine aq_block_ret ?_
            refine aq_then_ret ?_
            refine aq_nilR 40 tyS_api_Node ?_
            obtain rfl := Option.some.inj h
            exact fn_ret (Value.slice none 0 0) [0] [] rfl rfl rfl rfl (res2 rfl rfl rfl) rfl rfl rfl (by decide)
          · replace h := bif_f hb19 h
            refine aw_skip ?_
            refine aq_then ?_
            refine aw_region ?_
            refine al_val (ov_move rfl rfl) ?_
            refine al_val (ov_load (i := 0) (v := (ag [(str r17.1.Name), (Value.int .i64 r17.1.Kind), (Value.int .i64 r17.1.Mode), (Value.int .i64 r17.1.Time), (Value.int .i64 r17.1.Size), v18, (str r17.1.Link)])) rfl rfl Tryd.underlying40 sz40 rfl rfl rfl rfl) ?_
            refine al_buildSlice (τ := tyS_api_Node) (e := 40) (k := 1) (sz := 0) (by_ := 0) (z := undef) (cs := [(str r17.1.Name), (Value.int .i64 r17.1.Kind), (Value.int .i64 r17.1.Mode), (Value.int .i64 r17.1.Time), (Value.int .i64 r17.1.Size), v18, (str r17.1.Link)]) (xs := [(S_api_Node.mk r17.1.Name r17.1.Kind r17.1.Mode r17.1.Time r17.1.Size r17.1.Parts r17.1.Link)]) rfl (by decide) (fun w a hm hs => ⟨([(str r17.1.Name), (Value.int .i64 r17.1.Kind), (Value.int .i64 r17.1.Mode), (Value.int .i64 r17.1.Time), (Value.int .i64 r17.1.Size), v18, (str r17.1.Link)]).toArray, rfl, by simp only [List.map_toArray, List.map_cons, List.map_nil, hs.ev (x := .tmp 34) rfl]; exact run_bs [(ag [(str r17.1.Name), (Value.int .i64 r17.1.Kind), (Value.int .i64 r17.1.Mode), (Value.int .i64 r17.1.Time), (Value.int .i64 r17.1.Size), v18, (str r17.1.Link)])] [(str r17.1.Name), (Value.int .i64 r17.1.Kind), (Value.int .i64 r17.1.Mode), (Value.int .i64 r17.1.Time), (Value.int .i64 r17.1.Size), v18, (str r17.1.Link)] Tryd.underlying32 to40 rfl rfl (bs_cons (l := [(str r17.1.Name), (Value.int .i64 r17.1.Kind), (Value.int .i64 r17.1.Mode), (Value.int .i64 r17.1.Time), (Value.int .i64 r17.1.Size), v18, (str r17.1.Link)]) (cs := []) (cv_rfl rfl) rfl bs_nil) hm⟩) (fun hm => ⟨_, _, rfl, (fun hm => mknS_api_Node rfl (fz_at (i := 0) hm rfl)) hm, rfl⟩) rfl (fun v20 => ?_)
            obtain ⟨hc21, h⟩ := req_some h
            refine al_append 2 hc21.1 hc21.2 rfl (src_own (i := 2) 0 rfl) rfl rfl Tryd.underlying32 to40 rfl rfl rfl (fun v22 => ?_)
            refine al_val (ov_assign rfl rfl) ?_
            refine al_nil ?_
            refine aq_block ?_
            refine aq_then ?_
            refine aw_region ?_
            refine al_val (ov_int rfl rfl rfl rfl) ?_
            refine al_val (ov_move rfl rfl) ?_
            refine al_nil ?_
            exact aq_again k12 (r17.2.1, v22, (l11x6 ++ ([(S_api_Node.mk r17.1.Name r17.1.Kind r17.1.Mode r17.1.Time r17.1.Size r17.1.Parts r17.1.Link)])), (IntKind.i64.wrap (l11i22 + (1 : Int)))) (Nat.lt_succ_self _) h (fun w a hm hs => norm hm hs [2] [] [(0, (str r17.2.1)), (6, v22), (21, (Value.int .i64 r3.1)), (22, (Value.int .i64 (IntKind.i64.wrap (l11i22 + (1 : Int)))))] (by decide) ⟨rfl, rfl, rfl, rfl, trivial⟩)
        · replace h := bif_f hb14 h
          refine aw_exit ?_
          refine aq_then_exit ?_
          refine aq_then_exit ?_
          refine aq_block_exit ?_
          exact aq_join (l11s0, l11v6, l11x6) h (fun w a hm hs => norm hm hs [0] [] [(0, (str l11s0)), (6, l11v6)] (by decide) ⟨rfl, rfl, trivial⟩)
def f_lumref_Needs_L30 (kk20 : ((List A8u8) → Option ((List A8u8) × Int))) (u21 : S_api_Node) (fu : Nat) : Nat → (List A8u8) → Int → Option ((List A8u8) × Int)
  | 0, _, _ => none
  | k29 + 1, l28x8, l28i44 => (bif (decide (l28i44 < (u21.Parts.length : Int))) then (lt (fun (j32x8 : (List A8u8)) => (f_lumref_Needs_L30 kk20 u21 fu k29 j32x8 (IntKind.i64.wrap (l28i44 + (1 : Int))))) fun (kk33 : (List A8u8) → Option ((List A8u8) × Int)) => (opt (at? u21.Parts l28i44) fun (u34 : A8u8) => (opt (f_slices_Contains___api_ID_api_ID_ fu l28x8 u34) fun (r39 : Bool) => (bif (!r39) then (req (((l28x8.length + ([u34]).length) * 8 : Nat) ≤ 140737488355328 ∧ l28x8.length + ([u34]).length ≤ 9223372036854775807) (kk33 (l28x8 ++ ([u34])))) else (kk33 l28x8))))) else (kk20 l28x8))
def f_lumref_Needs_L16 (r9 : ((List S_api_Node) × Int)) (kk13 : ((List A8u8) → Option ((List A8u8) × Int))) (fu : Nat) : Nat → (List A8u8) → Int → Option ((List A8u8) × Int)
  | 0, _, _ => none
  | k15 + 1, l14x8, l14i37 => (lt (fun (l14x8 : (List A8u8)) (l14i37 : Int) => (f_lumref_Needs_L16 r9 kk13 fu k15 l14x8 l14i37)) fun (kk17 : (List A8u8) → Int → Option ((List A8u8) × Int)) => (bif (decide (l14i37 < (r9.1.length : Int))) then (lt (fun (j19x8 : (List A8u8)) => (kk17 j19x8 (IntKind.i64.wrap (l14i37 + (1 : Int))))) fun (kk20 : (List A8u8) → Option ((List A8u8) × Int)) => (opt (at? r9.1 l14i37) fun (u21 : S_api_Node) => (f_lumref_Needs_L30 kk20 u21 fu fu l14x8 (0 : Int)))) else (kk13 l14x8)))
def f_lumref_Needs (fu : Nat) (a0 : S_api_Blob) : Option ((List A8u8) × Int) := (opt (f_lumref_BlobID fu a0) fun (r3 : (A8u8 × Int)) => (lt (fun (j5b24 : Bool) => (bif j5b24 then (some (([] : List A8u8), r3.2)) else (opt (f_lumref_TreeRead fu a0.Bytes) fun (r9 : ((List S_api_Node) × Int)) => (bif (r9.2 != (0 : Int)) then (some (([] : List A8u8), r9.2)) else (lt (fun (j12x8 : (List A8u8)) => (some (j12x8, (0 : Int)))) fun (kk13 : (List A8u8) → Option ((List A8u8) × Int)) => (f_lumref_Needs_L16 r9 kk13 fu fu ([] : List A8u8) (0 : Int))))))) fun (kk6 : Bool → Option ((List A8u8) × Int)) => (bif (r3.2 != (0 : Int)) then (kk6 true) else (kk6 (a0.Kind != (2 : Int))))))
set_option maxRecDepth 100000 in
theorem f_lumref_Needs_ok (fu : Nat) (a0 : S_api_Blob) {r : ((List A8u8) × Int)} (h : f_lumref_Needs fu a0 = some r) : FnOk Tryd.prog 25 [(ag [(Value.int .i64 a0.Kind), (str a0.Bytes)])] [] [] (fun (i : Value) => { val := (Value.tuple #[i, (Value.int .i64 r.2)]), own := [(oRow i 49 tyA8u8 r.1)] }) := by
  unfold f_lumref_Needs at h
  refine fn_enter Tryd.func25 rfl Tryd.ntmps25 rfl (fun w0 Z0 => ?_)
  refine aw_seq ?_
  refine aw_region ?_
  refine al_box (vs := [(Value.int .i64 a0.Kind), (str a0.Bytes)]) rfl (cv_rfl rfl) rfl (fun g1 => ?_)
  refine al_val (ov_assign rfl rfl) ?_
  refine al_val (ov_assign rfl rfl) ?_
  refine al_nil ?_
  refine aq_then ?_
  refine aw_seq ?_
  refine aw_seq ?_
  refine aw_region ?_
  refine al_val (ov_load (i := 0) (v := (ag [(Value.int .i64 a0.Kind), (str a0.Bytes)])) rfl rfl Tryd.underlying44 sz44 rfl rfl rfl rfl) ?_
  obtain ⟨r3, hc2, h⟩ := opt_some h
  refine al_call (vs := [(ag [(Value.int .i64 a0.Kind), (str a0.Bytes)])]) (f_lumref_BlobID_ok fu a0 hc2) [] [] [0] pre_nil rfl (by simp) (by decide) (.inl rfl) rfl Tryd.func72 rfl rfl rfl (fun _ => ?_)
  refine al_val (ov_move rfl rfl) ?_
  refine al_val (ov_extract rfl rfl rfl) ?_
  refine al_val (ov_extract rfl rfl rfl) ?_
  refine al_alloc (zs := (cA8u8 (A8u8.mk (0 : UInt8) (0 : UInt8) (0 : UInt8) (0 : UInt8) (0 : UInt8) (0 : UInt8) (0 : UInt8) (0 : UInt8)))) (zeroOf_to to49) rfl rfl (fun g4 => ?_)
  refine al_store (i := 0) (vs := (cA8u8 r3.1)) (cs' := (cA8u8 r3.1)) rfl rfl rfl sz49 (cv_rfl rfl) rfl (co_all (oneA8u8 r3.1)) (Nat.le_of_ble_eq_true rfl) rfl rfl ?_
  refine al_val (ov_assign rfl rfl) ?_
  refine al_nil ?_
  refine aq_then ?_
  obtain ⟨kk6, hkk6, h⟩ := lt_some h
  refine aw_seq_join (ι := Bool) (fun i => (memOf w0 Z0 [] [(oBox g1 44 [(Value.int .i64 a0.Kind), (str a0.Bytes)])] [])) (fun i => (tab [(1, (ptr g1 0)), (5, (Value.int .i64 r3.2)), (24, (Value.bool i))])) (fun i => kk6 i = some r) ?_ ?_
  · rintro j5b24 h
    have h : kk6 j5b24 = some r := h
    rw [hkk6] at h
    dsimp only at h
    clear hkk6
    refine aw_show (m := (memOf w0 Z0 [] [(oBox g1 44 [(Value.int .i64 a0.Kind), (str a0.Bytes)])] [])) (S := (tab [(1, (ptr g1 0)), (5, (Value.int .i64 r3.2)), (24, (Value.bool j5b24))])) ?_
    refine aw_cond rfl (fun hb7 => ?_) (fun hb7 => ?_)
    · replace h := bif_t hb7 h
      refine aw_seq ?_
      refine aw_region ?_
      refine al_val (ov_move rfl rfl) ?_
      refine al_val (ov_assign rfl rfl) ?_
      refine al_val (ov_assign rfl rfl) ?_
      refine al_nil ?_
      refine aq_then ?_
      refine aw_ret ?_
      refine aq_then_ret ?_
      refine aq_nilR 49 tyA8u8 ?_
      obtain rfl := Option.some.inj h
      exact fn_ret (Value.slice none 0 0) [0] [] rfl rfl rfl rfl (res2 rfl rfl rfl) rfl rfl rfl (by decide)
    · replace h := bif_f hb7 h
      refine aw_skip ?_
      refine aq_then ?_
      refine aw_seq ?_
      refine aw_region ?_
      refine al_val (ov_fieldA (p := 1) rfl Tryd.underlying44 rfl sz9 rfl rfl rfl) ?_
      refine al_val (ov_load (i := 0) (v := (str a0.Bytes)) rfl rfl Tryd.underlying9 sz9 rfl rfl rfl rfl) ?_
      obtain ⟨r9, hc8, h⟩ := opt_some h
      refine al_call (vs := [(str a0.Bytes)]) (f_lumref_TreeRead_ok fu a0.Bytes hc8) [] [] [0] pre_nil rfl (by simp) (by decide) (.inl rfl) rfl Tryd.func73 rfl rfl rfl (fun v10 => ?_)
      refine al_val (ov_move rfl rfl) ?_
      refine al_val (ov_extract rfl rfl rfl) ?_
      refine al_val (ov_extract rfl rfl rfl) ?_
      refine al_val (ov_assign rfl rfl) ?_
      refine al_val (ov_assign rfl rfl) ?_
      refine al_nil ?_
      refine aq_then ?_
      refine aw_seq ?_
      refine aw_seq ?_
      refine aw_region ?_
      refine al_val (ov_move rfl rfl) ?_
      refine al_val (ov_int rfl rfl rfl rfl) ?_
      refine al_nil ?_
      refine aq_then ?_
      refine aw_cond rfl (fun hb11 => ?_) (fun hb11 => ?_)
      · replace h := bif_t hb11 h
        refine aw_seq ?_
        refine aw_region ?_
        refine al_val (ov_move rfl rfl) ?_
        refine al_val (ov_assign rfl rfl) ?_
        refine al_val (ov_assign rfl rfl) ?_
        refine al_nil ?_
        refine aq_then ?_
        refine aw_ret ?_
        refine aq_then_ret ?_
        refine aq_nilR 49 tyA8u8 ?_
        obtain rfl := Option.some.inj h
        exact fn_ret (Value.slice none 0 0) [0] [] rfl rfl rfl rfl (res2 rfl rfl rfl) rfl rfl rfl (by decide)
      · replace h := bif_f hb11 h
        refine aw_skip ?_
        refine aq_then ?_
        refine aw_seq ?_
        refine aw_region ?_
        refine al_val (ov_assign rfl rfl) ?_
        refine al_nil ?_
        refine aq_then ?_
        obtain ⟨kk13, hkk13, h⟩ := lt_some h
        refine aw_seq_join (ι := Value × (List A8u8)) (fun i => (memOf w0 Z0 [] [(oRow i.1 49 tyA8u8 i.2)] [])) (fun i => (tab [(8, i.1)])) (fun i => kk13 i.2 = some r) ?_ ?_
        · rintro ⟨j12v8, j12x8⟩ h
          have h : kk13 j12x8 = some r := h
          rw [hkk13] at h
          dsimp only at h
          clear hkk13
          refine aw_show (m := (memOf w0 Z0 [] [(oRow j12v8 49 tyA8u8 j12x8)] [])) (S := (tab [(8, j12v8)])) ?_
          refine aw_seq ?_
          refine aw_region ?_
          refine al_val (ov_move rfl rfl) ?_
          refine al_val (ov_assign rfl rfl) ?_
          refine al_val (ov_assign rfl rfl) ?_
          refine al_nil ?_
          refine aq_then ?_
          refine aw_ret ?_
          obtain rfl := Option.some.inj h
          exact fn_ret j12v8 [0] [] rfl rfl rfl rfl (res2 rfl rfl rfl) rfl rfl rfl (by decide)
        · clear hkk13
          refine aw_seq ?_
          refine aw_region ?_
          refine al_val (ov_move rfl rfl) ?_
          refine al_val (ov_lenR 0 rfl rfl Tryd.underlying32 rfl) ?_
          refine al_val (ov_move rfl rfl) ?_
          refine al_nil ?_
          refine aq_then ?_
          refine aw_block ?_
          refine aw_nilR 49 tyA8u8 ?_
          refine aw_state (aw_loop (ι := Value × (List A8u8) × Int) (fun i => (memOf w0 Z0 [] [(oRow i.1 49 tyA8u8 i.2.1), (oRow v10 40 tyS_api_Node r9.1)] [])) (fun i => (tab [(8, i.1), (35, v10), (36, (Value.int .i64 (r9.1.length : Int))), (37, (Value.int .i64 i.2.2))])) (fun q i => f_lumref_Needs_L16 r9 kk13 fu q i.2.1 i.2.2 = some r) ?_ fu ((Value.slice none 0 0), ([] : List A8u8), (0 : Int)) h) (fun w a hm hs => norm hm hs [0, 1] [] [(8, (Value.slice none 0 0)), (35, v10), (36, (Value.int .i64 (r9.1.length : Int))), (37, (Value.int .i64 (0 : Int)))] (by decide) ⟨rfl, rfl, rfl, rfl, trivial⟩)
          clear h
          rintro k15 ⟨l14v8, l14x8, l14i37⟩ h
          have h : f_lumref_Needs_L16 r9 kk13 fu k15 l14x8 l14i37 = some r := h
          obtain _ | k15 := k15
          · rw [f_lumref_Needs_L16] at h; cases h
          rw [f_lumref_Needs_L16] at h
          refine aw_show (m := (memOf w0 Z0 [] [(oRow l14v8 49 tyA8u8 l14x8), (oRow v10 40 tyS_api_Node r9.1)] [])) (S := (tab [(8, l14v8), (35, v10), (36, (Value.int .i64 (r9.1.length : Int))), (37, (Value.int .i64 l14i37))])) ?_
          obtain ⟨kk17, hkk17, h⟩ := lt_some h
          refine aw_body_join (ι := Value × (List A8u8) × Int) (fun i => (memOf w0 Z0 [] [(oRow i.1 49 tyA8u8 i.2.1), (oRow v10 40 tyS_api_Node r9.1)] [])) (fun i => (tab [(8, i.1), (35, v10), (36, (Value.int .i64 (r9.1.length : Int))), (37, (Value.int .i64 i.2.2))])) (fun i => kk17 i.2.1 i.2.2 = some r) (fun i h => aq_again k15 i (Nat.lt_succ_self _) (by rw [hkk17] at h; exact h) (fun w a hm hs => ⟨hm, hs⟩)) ?_
          clear hkk17
          refine aw_seq ?_
          refine aw_region ?_
          refine al_val (ov_int rfl rfl rfl rfl) ?_
          refine al_nil ?_
          refine aq_then ?_
          refine aw_seq ?_
          refine aw_cond rfl (fun hb18 => ?_) (fun hb18 => ?_)
          · replace h := bif_t hb18 h
            refine aw_skip ?_
            refine aq_then ?_
            obtain ⟨kk20, hkk20, h⟩ := lt_some h
            refine aw_seq_join (ι := Value × (List A8u8)) (fun i => (memOf w0 Z0 [] [(oRow i.1 49 tyA8u8 i.2), (oRow v10 40 tyS_api_Node r9.1)] [])) (fun i => (tab [(8, i.1), (35, v10), (36, (Value.int .i64 (r9.1.length : Int))), (37, (Value.int .i64 l14i37))])) (fun i => kk20 i.2 = some r) ?_ ?_
            · rintro ⟨j19v8, j19x8⟩ h
              have h : kk20 j19x8 = some r := h
              rw [hkk20] at h
              dsimp only at h
              clear hkk20
              refine aw_show (m := (memOf w0 Z0 [] [(oRow j19v8 49 tyA8u8 j19x8), (oRow v10 40 tyS_api_Node r9.1)] [])) (S := (tab [(8, j19v8), (35, v10), (36, (Value.int .i64 (r9.1.length : Int))), (37, (Value.int .i64 l14i37))])) ?_
              refine aw_region ?_
              refine al_val (ov_int rfl rfl rfl rfl) ?_
              refine al_val (ov_move rfl rfl) ?_
              refine al_nil ?_
              exact aq_join (j19v8, j19x8, (IntKind.i64.wrap (l14i37 + (1 : Int)))) h (fun w a hm hs => norm hm hs [0, 1] [] [(8, j19v8), (35, v10), (36, (Value.int .i64 (r9.1.length : Int))), (37, (Value.int .i64 (IntKind.i64.wrap (l14i37 + (1 : Int)))))] (by decide) ⟨rfl, rfl, rfl, rfl, trivial⟩)
            · clear hkk20
              refine aw_block ?_
              refine aw_seq ?_
              refine aw_region ?_
              obtain ⟨u21, hu22, h⟩ := opt_some h
              refine al_idxR 1 (at_some hu22).1 (at_some hu22).2.1 rfl rfl rfl Tryd.underlying32 sz40 rfl (fun p23 hp24 => ?_)
              refine al_loadRA 1 rfl hp24 (at_some hu22).2.2 rfl Tryd.underlying40 sz40 rfl rfl (fun cs26 => ?_)
              refine al_use (ι := Value) 0 rfl (fun j => cs26 = [(str u21.Name), (Value.int .i64 u21.Kind), (Value.int .i64 u21.Mode), (Value.int .i64 u21.Time), (Value.int .i64 u21.Size), j, (str u21.Link)]) (fun j => [(fDat (tyList tyA8u8) [j] u21.Parts)]) encnS_api_Node (fun s25 hq => ?_)
              subst hq
              refine al_alloc (zs := [(str ([] : List UInt8)), (Value.int .i64 (0 : Int)), (Value.int .i64 (0 : Int)), (Value.int .i64 (0 : Int)), (Value.int .i64 (0 : Int)), (Value.slice none 0 0), (str ([] : List UInt8))]) (zeroOf_to to40) rfl rfl (fun g27 => ?_)
              refine al_store (i := 0) (vs := [(str u21.Name), (Value.int .i64 u21.Kind), (Value.int .i64 u21.Mode), (Value.int .i64 u21.Time), (Value.int .i64 u21.Size), s25, (str u21.Link)]) (cs' := [(str u21.Name), (Value.int .i64 u21.Kind), (Value.int .i64 u21.Mode), (Value.int .i64 u21.Time), (Value.int .i64 u21.Size), s25, (str u21.Link)]) rfl rfl rfl sz40 (cv_rfl rfl) rfl (co_val rfl (co_val rfl (co_val rfl (co_val rfl (co_val rfl (co_fz 0 rfl (co_val rfl co_nil))))))) (Nat.le_of_ble_eq_true rfl) rfl rfl ?_
              refine al_nil ?_
              refine aq_then ?_
              refine aw_seq ?_
              refine aw_region ?_
              refine al_val (ov_fieldA (p := 5) rfl Tryd.underlying40 rfl sz38 rfl rfl rfl) ?_
              refine al_val (ov_load (i := 0) (v := s25) rfl rfl Tryd.underlying38 sz38 rfl rfl rfl rfl) ?_
              refine al_val (ov_lenD 0 rfl rfl Tryd.underlying38 rfl) ?_
              refine al_val (ov_move rfl rfl) ?_
              refine al_nil ?_
              refine aq_then ?_
              refine aw_block ?_
              refine aw_state (aw_loop (ι := Value × (List A8u8) × Int) (fun i => (memOf w0 Z0 [] [(oRow i.1 49 tyA8u8 i.2.1), (oRow v10 40 tyS_api_Node r9.1)] [(fDat (tyList tyA8u8) [s25] u21.Parts), (fDat tyS_api_Node [(str u21.Name), (Value.int .i64 u21.Kind), (Value.int .i64 u21.Mode), (Value.int .i64 u21.Time), (Value.int .i64 u21.Size), s25, (str u21.Link)] u21)])) (fun i => (tab [(8, i.1), (35, v10), (36, (Value.int .i64 (r9.1.length : Int))), (37, (Value.int .i64 l14i37)), (42, s25), (43, (Value.int .i64 (u21.Parts.length : Int))), (44, (Value.int .i64 i.2.2))])) (fun q i => f_lumref_Needs_L30 kk20 u21 fu q i.2.1 i.2.2 = some r) ?_ fu (l14v8, l14x8, (0 : Int)) h) (fun w a hm hs => norm hm hs [1, 2] [0, 1] [(8, l14v8), (35, v10), (36, (Value.int .i64 (r9.1.length : Int))), (37, (Value.int .i64 l14i37)), (42, s25), (43, (Value.int .i64 (u21.Parts.length : Int))), (44, (Value.int .i64 (0 : Int)))] (by decide) ⟨rfl, rfl, rfl, rfl, rfl, rfl, rfl, trivial⟩)
              clear h
              rintro k29 ⟨l28v8, l28x8, l28i44⟩ h
              have h : f_lumref_Needs_L30 kk20 u21 fu k29 l28x8 l28i44 = some r := h
              obtain _ | k29 := k29
              · rw [f_lumref_Needs_L30] at h; cases h
              rw [f_lumref_Needs_L30] at h
              refine aw_show (m := (memOf w0 Z0 [] [(oRow l28v8 49 tyA8u8 l28x8), (oRow v10 40 tyS_api_Node r9.1)] [(fDat (tyList tyA8u8) [s25] u21.Parts), (fDat tyS_api_Node [(str u21.Name), (Value.int .i64 u21.Kind), (Value.int .i64 u21.Mode), (Value.int .i64 u21.Time), (Value.int .i64 u21.Size), s25, (str u21.Link)] u21)])) (S := (tab [(8, l28v8), (35, v10), (36, (Value.int .i64 (r9.1.length : Int))), (37, (Value.int .i64 l14i37)), (42, s25), (43, (Value.int .i64 (u21.Parts.length : Int))), (44, (Value.int .i64 l28i44))])) ?_
              refine aw_seq ?_
              refine aw_region ?_
              refine al_val (ov_int rfl rfl rfl rfl) ?_
              refine al_nil ?_
              refine aq_then ?_
              refine aw_seq ?_
              refine aw_cond rfl (fun hb31 => ?_) (fun hb31 => ?_)
              · replace h := bif_t hb31 h
                refine aw_skip ?_
                refine aq_then ?_
                obtain ⟨kk33, hkk33, h⟩ := lt_some h
                refine aw_seq_join (ι := Value × (List A8u8)) (fun i => (memOf w0 Z0 [] [(oRow i.1 49 tyA8u8 i.2), (oRow v10 40 tyS_api_Node r9.1)] [(fDat (tyList tyA8u8) [s25] u21.Parts), (fDat tyS_api_Node [(str u21.Name), (Value.int .i64 u21.Kind), (Value.int .i64 u21.Mode), (Value.int .i64 u21.Time), (Value.int .i64 u21.Size), s25, (str u21.Link)] u21)])) (fun i => (tab [(8, i.1), (35, v10), (36, (Value.int .i64 (r9.1.length : Int))), (37, (Value.int .i64 l14i37)), (42, s25), (43, (Value.int .i64 (u21.Parts.length : Int))), (44, (Value.int .i64 l28i44))])) (fun i => kk33 i.2 = some r) ?_ ?_
                · rintro ⟨j32v8, j32x8⟩ h
                  have h : kk33 j32x8 = some r := h
                  rw [hkk33] at h
                  dsimp only at h
                  clear hkk33
                  refine aw_show (m := (memOf w0 Z0 [] [(oRow j32v8 49 tyA8u8 j32x8), (oRow v10 40 tyS_api_Node r9.1)] [(fDat (tyList tyA8u8) [s25] u21.Parts), (fDat tyS_api_Node [(str u21.Name), (Value.int .i64 u21.Kind), (Value.int .i64 u21.Mode), (Value.int .i64 u21.Time), (Value.int .i64 u21.Size), s25, (str u21.Link)] u21)])) (S := (tab [(8, j32v8), (35, v10), (36, (Value.int .i64 (r9.1.length : Int))), (37, (Value.int .i64 l14i37)), (42, s25), (43, (Value.int .i64 (u21.Parts.length : Int))), (44, (Value.int .i64 l28i44))])) ?_
                  refine aw_region ?_
                  refine al_val (ov_int rfl rfl rfl rfl) ?_
                  refine al_val (ov_move rfl rfl) ?_
                  refine al_nil ?_
                  exact aq_again k29 (j32v8, j32x8, (IntKind.i64.wrap (l28i44 + (1 : Int)))) (Nat.lt_succ_self _) h (fun w a hm hs => norm hm hs [0, 1] [0, 1] [(8, j32v8), (35, v10), (36, (Value.int .i64 (r9.1.length : Int))), (37, (Value.int .i64 l14i37)), (42, s25), (43, (Value.int .i64 (u21.Parts.length : Int))), (44, (Value.int .i64 (IntKind.i64.wrap (l28i44 + (1 : Int)))))] (by decide) ⟨rfl, rfl, rfl, rfl, rfl, rfl, rfl, trivial⟩)
                · clear hkk33
                  refine aw_block ?_
                  refine aw_seq ?_
                  refine aw_region ?_
                  obtain ⟨u34, hu35, h⟩ := opt_some h
                  refine al_idxD 0 hu35 rfl rfl rfl Tryd.underlying38 sz49 rfl (fun p36 => ?_)
                  refine al_val (ov_loadP (ds := (cA8u8 u34)) 0 rfl encA8u8 rfl Tryd.underlying49 sz49 rfl rfl rfl) ?_
                  refine al_alloc (zs := (cA8u8 (A8u8.mk (0 : UInt8) (0 : UInt8) (0 : UInt8) (0 : UInt8) (0 : UInt8) (0 : UInt8) (0 : UInt8) (0 : UInt8)))) (zeroOf_to to49) rfl rfl (fun g37 => ?_)
                  refine al_store (i := 0) (vs := (cA8u8 u34)) (cs' := (cA8u8 u34)) rfl rfl rfl sz49 (cv_rfl rfl) rfl (co_all (oneA8u8 u34)) (Nat.le_of_ble_eq_true rfl) rfl rfl ?_
                  refine al_nil ?_
                  refine aq_then ?_
                  refine aw_seq ?_
                  refine aw_region ?_
                  refine al_val (ov_move rfl rfl) ?_
                  refine al_val (ov_load (i := 0) (v := (ag (cA8u8 u34))) rfl rfl Tryd.underlying49 sz49 rfl rfl rfl rfl) ?_
                  obtain ⟨r39, hc38, h⟩ := opt_some h
                  refine al_call (vs := [l28v8, (ag (cA8u8 u34))]) (f_slices_Contains___api_ID_api_ID__ok fu l28v8 l28x8 u34 hc38) [1] [] [0, 1, 2] (pre_own 1 rfl rfl pre_nil) rfl (by simp) (by decide) (.inr flat_res0) rfl Tryd.func71 rfl rfl rfl (fun _ => ?_)
                  refine al_val (ov_not rfl rfl) ?_
                  refine al_nil ?_
                  refine aq_then ?_
                  refine aw_cond rfl (fun hb40 => ?_) (fun hb40 => ?_)
                  · replace h := bif_t hb40 h
                    refine aw_region ?_
                    refine al_val (ov_move rfl rfl) ?_
                    refine al_val (ov_load (i := 0) (v := (ag (cA8u8 u34))) rfl rfl Tryd.underlying49 sz49 rfl rfl rfl rfl) ?_
                    refine al_buildSlice (τ := tyA8u8) (e := 49) (k := 1) (sz := 0) (by_ := 0) (z := undef) (cs := (cA8u8 u34)) (xs := [u34]) rfl (by decide) (fun w a hm hs => ⟨((cA8u8 u34)).toArray, rfl, by simp only [List.map_toArray, List.map_cons, List.map_nil, hs.ev (x := .tmp 53) rfl]; exact run_bs [(ag (cA8u8 u34))] (cA8u8 u34) Tryd.underlying38 to49 rfl rfl (bs_cons (l := (cA8u8 u34)) (cs := []) (cv_rfl rfl) rfl bs_nil) hm⟩) (fun hm => ⟨_, _, rfl, (fun _ => mkA8u8 rfl) hm, rfl⟩) rfl (fun v41 => ?_)
                    obtain ⟨hc42, h⟩ := req_some h
                    refine al_append 2 hc42.1 hc42.2 rfl (src_own (i := 2) 0 rfl) rfl rfl Tryd.underlying38 to49 rfl rfl rfl (fun v43 => ?_)
                    refine al_val (ov_assign rfl rfl) ?_
                    refine al_nil ?_
                    refine aq_block ?_
                    exact aq_join (v43, (l28x8 ++ ([u34]))) h (fun w a hm hs => norm hm hs [2, 3] [1, 2] [(8, v43), (35, v10), (36, (Value.int .i64 (r9.1.length : Int))), (37, (Value.int .i64 l14i37)), (42, s25), (43, (Value.int .i64 (u21.Parts.length : Int))), (44, (Value.int .i64 l28i44))] (by decide) ⟨rfl, rfl, rfl, rfl, rfl, rfl, rfl, trivial⟩)
                  · replace h := bif_f hb40 h
                    refine aw_skip ?_
                    refine aq_block ?_
                    exact aq_join (l28v8, l28x8) h (fun w a hm hs => norm hm hs [1, 2] [1, 2] [(8, l28v8), (35, v10), (36, (Value.int .i64 (r9.1.length : Int))), (37, (Value.int .i64 l14i37)), (42, s25), (43, (Value.int .i64 (u21.Parts.length : Int))), (44, (Value.int .i64 l28i44))] (by decide) ⟨rfl, rfl, rfl, rfl, rfl, rfl, rfl, trivial⟩)
              · replace h := bif_f hb31 h
                refine aw_exit ?_
                refine aq_then_exit ?_
                refine aq_then_exit ?_
                refine aq_block_exit ?_
                refine aq_block ?_
                exact aq_join (l28v8, l28x8) h (fun w a hm hs => norm hm hs [0, 1] [] [(8, l28v8), (35, v10), (36, (Value.int .i64 (r9.1.length : Int))), (37, (Value.int .i64 l14i37))] (by decide) ⟨rfl, rfl, rfl, rfl, trivial⟩)
          · replace h := bif_f hb18 h
            refine aw_exit ?_
            refine aq_then_exit ?_
            refine aq_then_exit ?_
            refine aq_block_exit ?_
            exact aq_join (l14v8, l14x8) h (fun w a hm hs => norm hm hs [0] [] [(8, l14v8)] (by decide) ⟨rfl, trivial⟩)
  · clear hkk6
    refine aw_region ?_
    refine al_val (ov_move rfl rfl) ?_
    refine al_val (ov_int rfl rfl rfl rfl) ?_
    refine al_val (ov_move rfl rfl) ?_
    refine al_caseB 20 rfl (fun hb44 => ?_) (fun hb44 => ?_)
    · replace h := bif_t hb44 h
      refine al_skip ?_
      refine al_skip ?_
      refine al_skip ?_
      refine al_val (ov_pick_t rfl rfl rfl) ?_
      refine al_nil ?_
      exact aq_join true h (fun w a hm hs => norm hm hs [1] [] [(1, (ptr g1 0)), (5, (Value.int .i64 r3.2)), (24, (Value.bool true))] (by decide) ⟨rfl, rfl, rfl, trivial⟩)
    · replace h := bif_f hb44 h
      refine al_val (ov_fieldA (p := 0) rfl Tryd.underlying44 rfl sz3 rfl rfl rfl) ?_
      refine al_val (ov_load (i := 1) (v := (Value.int .i64 a0.Kind)) rfl rfl Tryd.underlying3 sz3 rfl rfl rfl rfl) ?_
      refine al_val (ov_int rfl rfl rfl rfl) ?_
      refine al_val (ov_pick_f rfl rfl rfl) ?_
      refine al_nil ?_
      exact aq_join (a0.Kind != (2 : Int)) h (fun w a hm hs => norm hm hs [1] [] [(1, (ptr g1 0)), (5, (Value.int .i64 r3.2)), (24, (Value.bool (a0.Kind != (2 : Int))))] (by decide) ⟨rfl, rfl, rfl, trivial⟩)
def f_slices_Equal___api_ID_api_ID__L6 (a0 : (List A8u8)) (a1 : (List A8u8)) (kk3 : (Unit → Option Bool)) : Nat → Int → Option Bool
  | 0, _ => none
  | k5 + 1, l4i13 => (bif (decide (l4i13 < (a0.length : Int))) then (opt (at? a0 l4i13) fun (u8 : A8u8) => (opt (at? a1 l4i13) fun (u11 : A8u8) => (bif (!(u8 == u11)) then (some false) else (f_slices_Equal___api_ID_api_ID__L6 a0 a1 kk3 k5 (IntKind.i64.wrap (l4i13 + (1 : Int))))))) else (kk3 ()))
def f_slices_Equal___api_ID_api_ID_ (fu : Nat) (a0 : (List A8u8)) (a1 : (List A8u8)) : Option Bool := (bif ((a0.length : Int) != (a1.length : Int)) then (some false) else (lt (fun (_ : Unit) => (some true)) fun (kk3 : Unit → Option Bool) => (f_slices_Equal___api_ID_api_ID__L6 a0 a1 kk3 fu (0 : Int))))
set_option maxRecDepth 100000 in
theorem f_slices_Equal___api_ID_api_ID__ok (fu : Nat) (v0_0 : Value) (a0 : (List A8u8)) (v1_0 : Value) (a1 : (List A8u8)) {r : Bool} (h : f_slices_Equal___api_ID_api_ID_ fu a0 a1 = some r) : FnOk Tryd.prog 26 [v0_0, v1_0] [(fDat (tyList tyA8u8) [v0_0] a0), (fDat (tyList tyA8u8) [v1_0] a1)] [] (fun (i : Unit) => { val := (Value.bool r) }) := by
  unfold f_slices_Equal___api_ID_api_ID_ at h
  refine fn_enter Tryd.func26 rfl Tryd.ntmps26 rfl (fun w0 Z0 => ?_)
  refine aw_seq ?_
  refine aw_region ?_
  refine al_val (ov_assign rfl rfl) ?_
  refine al_nil ?_
  refine aq_then ?_
  refine aw_seq ?_
  refine aw_seq ?_
  refine aw_region ?_
  refine al_val (ov_move rfl rfl) ?_
  refine al_val (ov_lenD 0 rfl rfl Tryd.underlying38 rfl) ?_
  refine al_val (ov_move rfl rfl) ?_
  refine al_val (ov_lenD 1 rfl rfl Tryd.underlying38 rfl) ?_
  refine al_val (ov_int rfl rfl rfl rfl) ?_
  refine al_nil ?_
  refine aq_then ?_
  refine aw_cond rfl (fun hb1 => ?_) (fun hb1 => ?_)
  · replace h := bif_t hb1 h
    refine aw_seq ?_
    refine aw_region ?_
    refine al_val (ov_assign rfl rfl) ?_
    refine al_nil ?_
    refine aq_then ?_
    refine aw_ret ?_
    refine aq_then_ret ?_
    obtain rfl := Option.some.inj h
    exact fn_ret () [] [] rfl rfl rfl rfl (res1 rfl rfl) rfl rfl rfl (by decide)
  · replace h := bif_f hb1 h
    refine aw_skip ?_
    refine aq_then ?_
    obtain ⟨kk3, hkk3, h⟩ := lt_some h
    refine aw_seq_join (ι := Unit) (fun i => (memOf w0 Z0 [] [] [(fDat (tyList tyA8u8) [v0_0] a0), (fDat (tyList tyA8u8) [v1_0] a1)])) (fun i => (tab [])) (fun i => kk3 () = some r) ?_ ?_
    · rintro _ h
      have h : kk3 () = some r := h
      rw [hkk3] at h
      dsimp only at h
      clear hkk3
      refine aw_show (m := (memOf w0 Z0 [] [] [(fDat (tyList tyA8u8) [v0_0] a0), (fDat (tyList tyA8u8) [v1_0] a1)])) (S := (tab [])) ?_
      refine aw_seq ?_
      refine aw_region ?_
      refine al_val (ov_assign rfl rfl) ?_
      refine al_nil ?_
      refine aq_then ?_
      refine aw_ret ?_
      obtain rfl := Option.some.inj h
      exact fn_ret () [] [] rfl rfl rfl rfl (res1 rfl rfl) rfl rfl rfl (by decide)
    · clear hkk3
      refine aw_seq ?_
      refine aw_region ?_
      refine al_val (ov_move rfl rfl) ?_
      refine al_val (ov_lenD 0 rfl rfl Tryd.underlying38 rfl) ?_
      refine al_val (ov_move rfl rfl) ?_
      refine al_nil ?_
      refine aq_then ?_
      refine aw_block ?_
      refine aw_state (aw_loop (ι := Int) (fun i => (memOf w0 Z0 [] [] [(fDat (tyList tyA8u8) [v0_0] a0), (fDat (tyList tyA8u8) [v1_0] a1)])) (fun i => (tab [(0, v0_0), (1, v1_0), (12, (Value.int .i64 (a0.length : Int))), (13, (Value.int .i64 i))])) (fun q i => f_slices_Equal___api_ID_api_ID__L6 a0 a1 kk3 q i = some r) ?_ fu (0 : Int) h) (fun w a hm hs => norm hm hs [] [0, 1] [(0, v0_0), (1, v1_0), (12, (Value.int .i64 (a0.length : Int))), (13, (Value.int .i64 (0 : Int)))] (by decide) ⟨rfl, rfl, rfl, rfl, trivial⟩)
      clear h
      rintro k5 l4i13 h
      have h : f_slices_Equal___api_ID_api_ID__L6 a0 a1 kk3 k5 l4i13 = some r := h
      obtain _ | k5 := k5
      · rw [f_slices_Equal___api_ID_api_ID__L6] at h; cases h
      rw [f_slices_Equal___api_ID_api_ID__L6] at h
      refine aw_show (m := (memOf w0 Z0 [] [] [(fDat (tyList tyA8u8) [v0_0] a0), (fDat (tyList tyA8u8) [v1_0] a1)])) (S := (tab [(0, v0_0), (1, v1_0), (12, (Value.int .i64 (a0.length : Int))), (13, (Value.int .i64 l4i13))])) ?_
      refine aw_seq ?_
      refine aw_region ?_
      refine al_val (ov_int rfl rfl rfl rfl) ?_
      refine al_nil ?_
      refine aq_then ?_
      refine aw_seq ?_
      refine aw_cond rfl (fun hb7 => ?_) (fun hb7 => ?_)
      · replace h := bif_t hb7 h
        refine aw_skip ?_
        refine aq_then ?_
        refine aw_seq ?_
        refine aw_block ?_
        refine aw_seq ?_
        refine aw_region ?_
        refine al_val (ov_move rfl rfl) ?_
        refine al_val (ov_assign rfl rfl) ?_
        refine al_nil ?_
        refine aq_then ?_
        refine aw_seq ?_
        obtain ⟨u8, hu9, h⟩ := opt_some h
        obtain ⟨u11, hu12, h⟩ := opt_some h
        refine aw_region_draw 8 [(16, (fun u => fEq u v0_0)), (17, (fun u => fEq u (Value.int .i64 l4i13))), (18, (fun p10 => (fPtr tyA8u8 p10 u8))), (19, (fun u => fEq u (ag (cA8u8 u8)))), (20, (fun u => fEq u v1_0)), (21, (fun u => fEq u (Value.int .i64 l4i13))), (22, (fun p13 => (fPtr tyA8u8 p13 u11))), (23, (fun u => fEq u (ag (cA8u8 u11))))] (tab [(0, v0_0), (1, v1_0), (5, (Value.int .i64 l4i13)), (12, (Value.int .i64 (a0.length : Int))), (13, (Value.int .i64 l4i13))]) mixed (by kernel_rfl) rfl rfl rfl (fun a hs => hs.tab _ (allT_mem ⟨rfl, rfl, rfl, rfl, rfl, trivial⟩)) ⟨⟨rfl, ld_val (ov_move rfl rfl)⟩, ⟨rfl, ld_val (ov_move rfl rfl)⟩, ⟨rfl, ld_eq (j := 0) rfl rfl (ld_eq (j := 1) rfl rfl (ld_of (of_idxD 0 hu9 rfl rfl rfl Tryd.underlying38 sz49 rfl)))⟩, ⟨rfl, ld_fact (j := 2) rfl rfl (fun p10 => ld_val (ov_loadP (ds := (cA8u8 u8)) 0 rfl encA8u8 rfl Tryd.underlying49 sz49 rfl rfl rfl))⟩, ⟨rfl, ld_val (ov_move rfl rfl)⟩, ⟨rfl, ld_val (ov_move rfl rfl)⟩, ⟨rfl, ld_eq (j := 4) rfl rfl (ld_eq (j := 5) rfl rfl (ld_of (of_idxD 1 hu12 rfl rfl rfl Tryd.underlying38 sz49 rfl)))⟩, ⟨rfl, ld_fact (j := 6) rfl rfl (fun p13 => ld_val (ov_loadP (ds := (cA8u8 u11)) 0 rfl encA8u8 rfl Tryd.underlying49 sz49 rfl rfl rfl))⟩, trivial⟩ ?_
        refine tl_eq 3 rfl ?_
        refine tl_eq 7 rfl ?_
        refine tl_done ?_
        refine al_val (ov_neqA (cs := (cA8u8 u8)) (ds := (cA8u8 u11)) (ls := [5, 5, 5, 5, 5, 5, 5, 5]) (p := (u8 == u11)) eg49 kt49 lv49 rfl rfl (by kernel_rfl) (by kernel_rfl) (fit_cons (fit_u8 Tryd.underlying5) (fit_cons (fit_u8 Tryd.underlying5) (fit_cons (fit_u8 Tryd.underlying5) (fit_cons (fit_u8 Tryd.underlying5) (fit_cons (fit_u8 Tryd.underlying5) (fit_cons (fit_u8 Tryd.underlying5) (fit_cons (fit_u8 Tryd.underlying5) (fit_cons (fit_u8 Tryd.underlying5) fit_nil)))))))) (fit_cons (fit_u8 Tryd.underlying5) (fit_cons (fit_u8 Tryd.underlying5) (fit_cons (fit_u8 Tryd.underlying5) (fit_cons (fit_u8 Tryd.underlying5) (fit_cons (fit_u8 Tryd.underlying5) (fit_cons (fit_u8 Tryd.underlying5) (fit_cons (fit_u8 Tryd.underlying5) (fit_cons (fit_u8 Tryd.underlying5) fit_nil)))))))) (injA8u8 (x := u8) (y := u11)) rfl) ?_
        refine al_nil ?_
        refine aq_then ?_
        refine aw_cond rfl (fun hb14 => ?_) (fun hb14 => ?_)
        · replace h := bif_t hb14 h
          refine aw_seq ?_
          refine aw_region ?_
          refine al_val (ov_assign rfl rfl) ?_
          refine al_nil ?_
          refine aq_then ?_
          refine aw_ret ?_
          refine aq_block_ret ?_
          refine aq_then_ret ?_
          refine aq_then_ret ?_
          refine aq_block_ret ?_
          refine aq_then_ret ?_
          obtain rfl := Option.some.inj h
          exact fn_ret () [] [] rfl rfl rfl rfl (res1 rfl rfl) rfl rfl rfl (by decide)
        · replace h := bif_f hb14 h
          refine aw_skip ?_
          refine aq_block ?_
          refine aq_then ?_
          refine aw_region ?_
          refine al_val (ov_int rfl rfl rfl rfl) ?_
          refine al_val (ov_move rfl rfl) ?_
          refine al_nil ?_
          exact aq_again k5 (IntKind.i64.wrap (l4i13 + (1 : Int))) (Nat.lt_succ_self _) h (fun w a hm hs => norm hm hs [] [0, 1] [(0, v0_0), (1, v1_0), (12, (Value.int .i64 (a0.length : Int))), (13, (Value.int .i64 (IntKind.i64.wrap (l4i13 + (1 : Int)))))] (by decide) ⟨rfl, rfl, rfl, rfl, trivial⟩)
      · replace h := bif_f hb7 h
        refine aw_exit ?_
        refine aq_then_exit ?_
        refine aq_then_exit ?_
        refine aq_block_exit ?_
        exact aq_join () h (fun w a hm hs => norm hm hs [] [0, 1] [] (by decide) trivial)
def f_lumlaw_WalkNeeds (fu : Nat) (a0 : S_api_Blob) : Option Bool := (opt (f_walk_Needs fu a0) fun (r3 : ((List A8u8) × Int)) => (opt (f_lumref_Needs fu a0) fun (r6 : ((List A8u8) × Int)) => (lt (fun (j8b2 : Bool) => (some j8b2)) fun (kk9 : Bool → Option Bool) => (opt (f_slices_Equal___api_ID_api_ID_ fu r3.1 r6.1) fun (r11 : Bool) => (bif r11 then (kk9 (r3.2 == r6.2)) else (kk9 false))))))
set_option maxRecDepth 100000 in
theorem f_lumlaw_WalkNeeds_ok (fu : Nat) (a0 : S_api_Blob) {r : Bool} (h : f_lumlaw_WalkNeeds fu a0 = some r) : FnOk Tryd.prog 5 [(ag [(Value.int .i64 a0.Kind), (str a0.Bytes)])] [uTabs] [] (fun (i : Unit) => { val := (Value.bool r) }) := by
  unfold f_lumlaw_WalkNeeds at h
  refine fn_enter Tryd.func5 rfl Tryd.ntmps5 rfl (fun w0 Z0 => ?_)
  refine aw_seq ?_
  refine aw_region ?_
  refine al_box (vs := [(Value.int .i64 a0.Kind), (str a0.Bytes)]) rfl (cv_rfl rfl) rfl (fun g1 => ?_)
  refine al_val (ov_assign rfl rfl) ?_
  refine al_nil ?_
  refine aq_then ?_
  refine aw_seq ?_
  refine aw_region ?_
  refine al_val (ov_load (i := 0) (v := (ag [(Value.int .i64 a0.Kind), (str a0.Bytes)])) rfl rfl Tryd.underlying44 sz44 rfl rfl rfl rfl) ?_
  obtain ⟨r3, hc2, h⟩ := opt_some h
  refine al_call (vs := [(ag [(Value.int .i64 a0.Kind), (str a0.Bytes)])]) (f_walk_Needs_ok fu a0 hc2) [] [] [0] (pre_fz 0 rfl pre_nil) rfl (by simp) (by decide) (.inl rfl) rfl Tryd.func24 rfl rfl rfl (fun v4 => ?_)
  refine al_val (ov_move rfl rfl) ?_
  refine al_val (ov_extract rfl rfl rfl) ?_
  refine al_val (ov_extract rfl rfl rfl) ?_
  refine al_val (ov_assign rfl rfl) ?_
  refine al_val (ov_assign rfl rfl) ?_
  refine al_nil ?_
  refine aq_then ?_
  refine aw_seq ?_
  refine aw_region ?_
  refine al_val (ov_load (i := 1) (v := (ag [(Value.int .i64 a0.Kind), (str a0.Bytes)])) rfl rfl Tryd.underlying44 sz44 rfl rfl rfl rfl) ?_
  obtain ⟨r6, hc5, h⟩ := opt_some h
  refine al_call (vs := [(ag [(Value.int .i64 a0.Kind), (str a0.Bytes)])]) (f_lumref_Needs_ok fu a0 hc5) [] [] [0, 1] pre_nil rfl (by simp) (by decide) (.inl rfl) rfl Tryd.func25 rfl rfl rfl (fun v7 => ?_)
  refine al_val (ov_move rfl rfl) ?_
  refine al_val (ov_extract rfl rfl rfl) ?_
  refine al_val (ov_extract rfl rfl rfl) ?_
  refine al_val (ov_assign rfl rfl) ?_
  refine al_val (ov_assign rfl rfl) ?_
  refine al_nil ?_
  refine aq_then ?_
  obtain ⟨kk9, hkk9, h⟩ := lt_some h
  refine aw_seq_join (ι := Bool) (fun i => (memOf w0 Z0 [] [] [uTabs])) (fun i => (tab [(2, (Value.bool i))])) (fun i => kk9 i = some r) ?_ ?_
  · rintro j8b2 h
    have h : kk9 j8b2 = some r := h
    rw [hkk9] at h
    dsimp only at h
    clear hkk9
    refine aw_show (m := (memOf w0 Z0 [] [] [uTabs])) (S := (tab [(2, (Value.bool j8b2))])) ?_
    refine aw_ret ?_
    obtain rfl := Option.some.inj h
    exact fn_ret () [] [] rfl rfl rfl rfl (res1 rfl rfl) rfl rfl rfl (by decide)
  · clear hkk9
    refine aw_region ?_
    refine al_val (ov_move rfl rfl) ?_
    refine al_val (ov_move rfl rfl) ?_
    obtain ⟨r11, hc10, h⟩ := opt_some h
    refine al_call (vs := [v4, v7]) (f_slices_Equal___api_ID_api_ID__ok fu v4 r3.1 v7 r6.1 hc10) [0, 1] [] [0, 1, 2] (pre_own 1 rfl rfl (pre_own 0 rfl rfl pre_nil)) rfl (by simp) (by decide) (.inr flat_res0) rfl Tryd.func26 rfl rfl rfl (fun _ => ?_)
    refine al_val (ov_move rfl rfl) ?_
    refine al_caseB 20 rfl (fun hb12 => ?_) (fun hb12 => ?_)
    · replace h := bif_t hb12 h
      refine al_val (ov_move rfl rfl) ?_
      refine al_val (ov_move rfl rfl) ?_
      refine al_val (ov_int rfl rfl rfl rfl) ?_
      refine al_val (ov_pick_t rfl rfl rfl) ?_
      refine al_val (ov_assign rfl rfl) ?_
      refine al_nil ?_
      exact aq_join (r3.2 == r6.2) h (fun w a hm hs => norm hm hs [] [0] [(2, (Value.bool (r3.2 == r6.2)))] (by decide) ⟨rfl, trivial⟩)
    · replace h := bif_f hb12 h
      refine al_skip ?_
      refine al_skip ?_
      refine al_skip ?_
      refine al_val (ov_pick_f rfl rfl rfl) ?_
      refine al_val (ov_assign rfl rfl) ?_
      refine al_nil ?_
      exact aq_join false h (fun w a hm hs => norm hm hs [] [0] [(2, (Value.bool false))] (by decide) ⟨rfl, trivial⟩)
end Go.Proofs.YtjbgahmcobcojaaDoor
