/- What MoveReads leans on, part 4. No condition. -/
import Derived.Test.YtfhifdmbdkkgaaaGreatDoorQMoveReadsc
import Derived.Test.YtfhifdmbdkkgaaaGreatDoorChecked
namespace Go.Proofs.YtfhifdmbdkkgaaaGreatDoor
open Go.RowKit YtfhifdmbdkkgaaaGreatDoor.En
set_option linter.unusedVariables false
set_option linter.unusedSimpArgs false
open Go.Value (int bool)
set_option maxRecDepth 100000 in
set_option maxHeartbeats 2000000 in
set_option maxHeartbeats 2000000 in
theorem f_lumref_itemErr_ok (fu : Nat) (a0 : S_api_Item) {r : Int} (h : f_lumref_itemErr fu a0 = some r) : FnOk Tryz.prog 37 [(ag [(str a0.Path), (int .i64 a0.Kind), (int .i64 a0.Mode), (int .i64 a0.Time), (str a0.Bytes)])] [] [] (fun (i : Unit) => { val := (int .i64 r) }) := by
 unfold f_lumref_itemErr at h
 refine fn_enter Tryz.func37 rfl Tryz.ntmps37 rfl (fun w0 Z0 => ?_)
 refine aw_sr ?_
 refine al_box (vs := [(str a0.Path), (iq a0.Kind), (iq a0.Mode), (iq a0.Time), (str a0.Bytes)]) rfl (cv_rfl rfl) rfl (fun g1 => ?_)
 refine al_as rfl rfl ?_
 refine al_nt ?_
 refine aw_sr ?_
 refine al_val (ov_fieldA (p := 0) rfl Tryz.underlying57 rfl sz9 rfl rfl rfl) ?_
 refine al_val (ov_load (i := 0) (v := (str a0.Path)) rfl rfl Tryz.underlying9 sz9 rfl rfl rfl rfl) ?_
 obtain ⟨r3, hc2, h⟩ := opt_some h
 refine al_call (vs := [(str a0.Path)]) (f_lumref_Split_ok fu a0.Path hc2) [] [] [0] pre_nil rfl (by simp) (by decide) (.inl rfl) rfl Tryz.func39 rfl rfl rfl (fun v4 => ?_)
 refine al_mv rfl rfl ?_
 refine al_ex rfl rfl rfl ?_
 refine al_ex rfl rfl rfl ?_
 refine al_as rfl rfl ?_
 refine al_as rfl rfl ?_
 refine al_nt ?_
 refine aw_seq ?_
 refine aw_block ?_
 refine aw_sr ?_
 refine al_mv rfl rfl ?_
 refine al_in rfl rfl rfl rfl ?_
 refine al_as rfl rfl ?_
 refine al_nt ?_
 refine aw_cond rfl (fun hb5 => ?_) (fun hb5 => ?_)
 ·replace h := bif_t hb5 h
  refine aw_sr ?_
  refine al_mv rfl rfl ?_
  refine al_as rfl rfl ?_
  refine al_nt ?_
  refine aw_ret ?_
  refine aq_block_ret ?_
  refine aq_then_ret ?_
  obtain rfl := Option.some.inj h
  exact fn_ret () [] [] rfl rfl rfl rfl (res1 rfl rfl) rfl rfl rfl (by decide)
 ·replace h := bif_f hb5 h
  refine aw_sr ?_
  refine al_mv rfl rfl ?_
  refine al_val (ov_lenR 0 rfl rfl Tryz.underlying47 rfl) ?_
  refine al_in rfl rfl rfl rfl ?_
  refine al_as rfl rfl ?_
  refine al_nt ?_
  refine aw_cond rfl (fun hb6 => ?_) (fun hb6 => ?_)
  ·replace h := bif_t hb6 h
   refine aw_sr ?_
   refine al_as rfl rfl ?_
   refine al_nt ?_
   refine aw_ret ?_
   refine aq_block_ret ?_
   refine aq_then_ret ?_
   obtain rfl := Option.some.inj h
   exact fn_ret () [] [] rfl rfl rfl rfl (res1 rfl rfl) rfl rfl rfl (by decide)
  ·replace h := bif_f hb6 h
   obtain ⟨kk8, hkk8, h⟩ := lt_some h
   refine aw_seq_join (ι := Bool) (fun i => (memOf w0 Z0 [] [(oBox g1 57 [(str a0.Path), (iq a0.Kind), (iq a0.Mode), (iq a0.Time), (str a0.Bytes)])] [])) (fun i => (tab [(1, (pq g1)), (19, (bool i))])) (fun i => kk8 i = some r) ?_ ?_
   ·rintro j7b19 h
    have h : kk8 j7b19 = some r := h
    rw [hkk8] at h
    dsimp only at h
    clear hkk8
    refine aw_show (m := (memOf w0 Z0 [] [(oBox g1 57 [(str a0.Path), (iq a0.Kind), (iq a0.Mode), (iq a0.Time), (str a0.Bytes)])] [])) (S := (tab [(1, (pq g1)), (19, (bool j7b19))])) ?_
    refine aw_cond rfl (fun hb9 => ?_) (fun hb9 => ?_)
    ·replace h := bif_t hb9 h
     refine aw_sr ?_
     refine al_as rfl rfl ?_
     refine al_nt ?_
     refine aw_ret ?_
     refine aq_block_ret ?_
     refine aq_then_ret ?_
     obtain rfl := Option.some.inj h
     exact fn_ret () [] [] rfl rfl rfl rfl (res1 rfl rfl) rfl rfl rfl (by decide)
    ·replace h := bif_f hb9 h
     obtain ⟨kk11, hkk11, h⟩ := lt_some h
     refine aw_seq_join (ι := Bool) (fun i => (memOf w0 Z0 [] [(oBox g1 57 [(str a0.Path), (iq a0.Kind), (iq a0.Mode), (iq a0.Time), (str a0.Bytes)])] [])) (fun i => (tab [(1, (pq g1)), (33, (bool i))])) (fun i => kk11 i = some r) ?_ ?_
     ·rintro j10b33 h
      have h : kk11 j10b33 = some r := h
      rw [hkk11] at h
      dsimp only at h
      clear hkk11
      refine aw_show (m := (memOf w0 Z0 [] [(oBox g1 57 [(str a0.Path), (iq a0.Kind), (iq a0.Mode), (iq a0.Time), (str a0.Bytes)])] [])) (S := (tab [(1, (pq g1)), (33, (bool j10b33))])) ?_
      refine aw_cond rfl (fun hb12 => ?_) (fun hb12 => ?_)
      ·replace h := bif_t hb12 h
       refine aw_sr ?_
       refine al_as rfl rfl ?_
       refine al_nt ?_
       refine aw_ret ?_
       refine aq_block_ret ?_
       refine aq_then_ret ?_
       obtain rfl := Option.some.inj h
       exact fn_ret () [] [] rfl rfl rfl rfl (res1 rfl rfl) rfl rfl rfl (by decide)
      ·replace h := bif_f hb12 h
       obtain ⟨kk14, hkk14, h⟩ := lt_some h
       refine aw_seq_join (ι := Bool) (fun i => (memOf w0 Z0 [] [(oBox g1 57 [(str a0.Path), (iq a0.Kind), (iq a0.Mode), (iq a0.Time), (str a0.Bytes)])] [])) (fun i => (tab [(1, (pq g1)), (42, (bool i))])) (fun i => kk14 i = some r) ?_ ?_
       ·rintro j13b42 h
        have h : kk14 j13b42 = some r := h
        rw [hkk14] at h
        dsimp only at h
        clear hkk14
        refine aw_show (m := (memOf w0 Z0 [] [(oBox g1 57 [(str a0.Path), (iq a0.Kind), (iq a0.Mode), (iq a0.Time), (str a0.Bytes)])] [])) (S := (tab [(1, (pq g1)), (42, (bool j13b42))])) ?_
        refine aw_cond rfl (fun hb15 => ?_) (fun hb15 => ?_)
        ·replace h := bif_t hb15 h
         refine aw_sr ?_
         refine al_as rfl rfl ?_
         refine al_nt ?_
         refine aw_ret ?_
         refine aq_block_ret ?_
         refine aq_then_ret ?_
         obtain rfl := Option.some.inj h
         exact fn_ret () [] [] rfl rfl rfl rfl (res1 rfl rfl) rfl rfl rfl (by decide)
        ·replace h := bif_f hb15 h
         obtain ⟨kk17, hkk17, h⟩ := lt_some h
         refine aw_seq_join (ι := Bool) (fun i => (memOf w0 Z0 [] [] [])) (fun i => (tab [(73, (bool i))])) (fun i => kk17 i = some r) ?_ ?_
         ·rintro j16b73 h
          have h : kk17 j16b73 = some r := h
          rw [hkk17] at h
          dsimp only at h
          clear hkk17
          refine aw_show (m := (memOf w0 Z0 [] [] [])) (S := (tab [(73, (bool j16b73))])) ?_
          refine aw_cond rfl (fun hb18 => ?_) (fun hb18 => ?_)
          ·replace h := bif_t hb18 h
           refine aw_sr ?_
           refine al_as rfl rfl ?_
           refine al_nt ?_
           refine aw_ret ?_
           refine aq_block_ret ?_
           refine aq_then_ret ?_
           obtain rfl := Option.some.inj h
           exact fn_ret () [] [] rfl rfl rfl rfl (res1 rfl rfl) rfl rfl rfl (by decide)
          ·replace h := bif_f hb18 h
           refine aw_skip ?_
           refine aq_block ?_
           refine aq_tr ?_
           refine al_as rfl rfl ?_
           refine al_nt ?_
           refine aw_ret ?_
           obtain rfl := Option.some.inj h
           exact fn_ret () [] [] rfl rfl rfl rfl (res1 rfl rfl) rfl rfl rfl (by decide)
         ·clear hkk17
          refine aw_region ?_
          refine al_val (ov_fieldA (p := 1) rfl Tryz.underlying57 rfl sz3 rfl rfl rfl) ?_
          refine al_val (ov_load (i := 0) (v := (iq a0.Kind)) rfl rfl Tryz.underlying3 sz3 rfl rfl rfl rfl) ?_
          refine al_in rfl rfl rfl rfl ?_
          refine al_mv rfl rfl ?_
          refine al_caseB 77 rfl (fun hb19 => ?_) (fun hb19 => ?_)
          ·replace h := bif_t hb19 h
           refine al_val (ov_fieldA (p := 4) rfl Tryz.underlying57 rfl sz9 rfl rfl rfl) ?_
           refine al_val (ov_load (i := 0) (v := (str a0.Bytes)) rfl rfl Tryz.underlying9 sz9 rfl rfl rfl rfl) ?_
           refine al_val (ov_strCmp rfl rfl rfl rfl) ?_
           refine al_val (ov_pick_t rfl rfl rfl) ?_
           refine al_as rfl rfl ?_
           refine al_nil ?_
           exact aq_join (a0.Bytes == ([] : List UInt8)) h (fun w a hm hs => norm hm hs [] [] [(73, (bool (a0.Bytes == ([] : List UInt8))))] (by decide) ⟨rfl, trivial⟩)
          ·replace h := bif_f hb19 h
           refine al_skip ?_
           refine al_skip ?_
           refine al_skip ?_
           refine al_val (ov_pick_f rfl rfl rfl) ?_
           refine al_as rfl rfl ?_
           refine al_nil ?_
           exact aq_join false h (fun w a hm hs => norm hm hs [] [] [(73, (bool false))] (by decide) ⟨rfl, trivial⟩)
       ·clear hkk14
        refine aw_region ?_
        refine al_val (ov_fieldA (p := 1) rfl Tryz.underlying57 rfl sz3 rfl rfl rfl) ?_
        refine al_val (ov_load (i := 0) (v := (iq a0.Kind)) rfl rfl Tryz.underlying3 sz3 rfl rfl rfl rfl) ?_
        refine al_in rfl rfl rfl rfl ?_
        refine al_mv rfl rfl ?_
        refine al_caseB 46 rfl (fun hb20 => ?_) (fun hb20 => ?_)
        ·replace h := bif_t hb20 h
         refine al_val (ov_fieldA (p := 4) rfl Tryz.underlying57 rfl sz9 rfl rfl rfl) ?_
         refine al_val (ov_load (i := 0) (v := (str a0.Bytes)) rfl rfl Tryz.underlying9 sz9 rfl rfl rfl rfl) ?_
         refine al_val (ov_strLen Tryz.underlying9 rfl rfl) ?_
         refine al_in rfl rfl rfl rfl ?_
         refine al_val (ov_pick_t rfl rfl rfl) ?_
         refine al_mv rfl rfl ?_
         refine al_caseB 52 rfl (fun hb21 => ?_) (fun hb21 => ?_)
         ·replace h := bif_t hb21 h
          refine al_skip ?_
          refine al_skip ?_
          refine al_skip ?_
          refine al_skip ?_
          refine al_skip ?_
          refine al_skip ?_
          refine al_skip ?_
          refine al_skip ?_
          refine al_val (ov_pick_t rfl rfl rfl) ?_
          refine al_mv rfl rfl ?_
          refine al_skip ?_
          refine al_skip ?_
          refine al_skip ?_
          refine al_skip ?_
          refine al_skip ?_
          refine al_skip ?_
          refine al_skip ?_
          refine al_skip ?_
          refine al_skip ?_
          refine al_val (ov_pick_t rfl rfl rfl) ?_
          refine al_as rfl rfl ?_
          refine al_nil ?_
          exact aq_join true h (fun w a hm hs => norm hm hs [0] [] [(1, (pq g1)), (42, (bool true))] (by decide) ⟨rfl, rfl, trivial⟩)
         ·replace h := bif_f hb21 h
          refine al_val (ov_fieldA (p := 1) rfl Tryz.underlying57 rfl sz3 rfl rfl rfl) ?_
          refine al_val (ov_load (i := 0) (v := (iq a0.Kind)) rfl rfl Tryz.underlying3 sz3 rfl rfl rfl rfl) ?_
          refine al_in rfl rfl rfl rfl ?_
          refine al_mv rfl rfl ?_
          refine al_caseB 56 rfl (fun hb22 => ?_) (fun hb22 => ?_)
          ·replace h := bif_t hb22 h
           refine al_val (ov_fieldA (p := 4) rfl Tryz.underlying57 rfl sz9 rfl rfl rfl) ?_
           refine al_val (ov_load (i := 0) (v := (str a0.Bytes)) rfl rfl Tryz.underlying9 sz9 rfl rfl rfl rfl) ?_
           refine al_val (ov_strCmp rfl rfl rfl rfl) ?_
           refine al_val (ov_pick_t rfl rfl rfl) ?_
           refine al_val (ov_pick_f rfl rfl rfl) ?_
           refine al_mv rfl rfl ?_
           refine al_caseB 62 rfl (fun hb23 => ?_) (fun hb23 => ?_)
           ·replace h := bif_t hb23 h
            refine al_skip ?_
            refine al_skip ?_
            refine al_skip ?_
            refine al_skip ?_
            refine al_skip ?_
            refine al_skip ?_
            refine al_skip ?_
            refine al_skip ?_
            refine al_skip ?_
            refine al_val (ov_pick_t rfl rfl rfl) ?_
            refine al_as rfl rfl ?_
            refine al_nil ?_
            exact aq_join true h (fun w a hm hs => norm hm hs [0] [] [(1, (pq g1)), (42, (bool true))] (by decide) ⟨rfl, rfl, trivial⟩)
           ·replace h := bif_f hb23 h
            refine al_val (ov_fieldA (p := 1) rfl Tryz.underlying57 rfl sz3 rfl rfl rfl) ?_
            refine al_val (ov_load (i := 0) (v := (iq a0.Kind)) rfl rfl Tryz.underlying3 sz3 rfl rfl rfl rfl) ?_
            refine al_in rfl rfl rfl rfl ?_
            refine al_mv rfl rfl ?_
            refine al_caseB 66 rfl (fun hb24 => ?_) (fun hb24 => ?_)
            ·replace h := bif_t hb24 h
             refine al_val (ov_fieldA (p := 4) rfl Tryz.underlying57 rfl sz9 rfl rfl rfl) ?_
             refine al_val (ov_load (i := 0) (v := (str a0.Bytes)) rfl rfl Tryz.underlying9 sz9 rfl rfl rfl rfl) ?_
             refine al_val (ov_strLen Tryz.underlying9 rfl rfl) ?_
             refine al_in rfl rfl rfl rfl ?_
             refine al_val (ov_pick_t rfl rfl rfl) ?_
             refine al_val (ov_pick_f rfl rfl rfl) ?_
             refine al_as rfl rfl ?_
             refine al_nil ?_
             exact aq_join (decide ((a0.Bytes.length : Int) > (1024 : Int))) h (fun w a hm hs => norm hm hs [0] [] [(1, (pq g1)), (42, (bool (decide ((a0.Bytes.length : Int) > (1024 : Int)))))] (by decide) ⟨rfl, rfl, trivial⟩)
            ·replace h := bif_f hb24 h
             refine al_skip ?_
             refine al_skip ?_
             refine al_skip ?_
             refine al_skip ?_
             refine al_val (ov_pick_f rfl rfl rfl) ?_
             refine al_val (ov_pick_f rfl rfl rfl) ?_
             refine al_as rfl rfl ?_
             refine al_nil ?_
             exact aq_join false h (fun w a hm hs => norm hm hs [0] [] [(1, (pq g1)), (42, (bool false))] (by decide) ⟨rfl, rfl, trivial⟩)
          ·replace h := bif_f hb22 h
           refine al_skip ?_
           refine al_skip ?_
           refine al_skip ?_
           refine al_val (ov_pick_f rfl rfl rfl) ?_
           refine al_val (ov_pick_f rfl rfl rfl) ?_
           refine al_mv rfl rfl ?_
           refine al_val (ov_fieldA (p := 1) rfl Tryz.underlying57 rfl sz3 rfl rfl rfl) ?_
           refine al_val (ov_load (i := 0) (v := (iq a0.Kind)) rfl rfl Tryz.underlying3 sz3 rfl rfl rfl rfl) ?_
           refine al_in rfl rfl rfl rfl ?_
           refine al_mv rfl rfl ?_
           refine al_caseB 66 rfl (fun hb25 => ?_) (fun hb25 => ?_)
           ·replace h := bif_t hb25 h
            refine al_val (ov_fieldA (p := 4) rfl Tryz.underlying57 rfl sz9 rfl rfl rfl) ?_
            refine al_val (ov_load (i := 0) (v := (str a0.Bytes)) rfl rfl Tryz.underlying9 sz9 rfl rfl rfl rfl) ?_
            refine al_val (ov_strLen Tryz.underlying9 rfl rfl) ?_
            refine al_in rfl rfl rfl rfl ?_
            refine al_val (ov_pick_t rfl rfl rfl) ?_
            refine al_val (ov_pick_f rfl rfl rfl) ?_
            refine al_as rfl rfl ?_
            refine al_nil ?_
            exact aq_join (decide ((a0.Bytes.length : Int) > (1024 : Int))) h (fun w a hm hs => norm hm hs [0] [] [(1, (pq g1)), (42, (bool (decide ((a0.Bytes.length : Int) > (1024 : Int)))))] (by decide) ⟨rfl, rfl, trivial⟩)
           ·replace h := bif_f hb25 h
            refine al_skip ?_
            refine al_skip ?_
            refine al_skip ?_
            refine al_skip ?_
            refine al_val (ov_pick_f rfl rfl rfl) ?_
            refine al_val (ov_pick_f rfl rfl rfl) ?_
            refine al_as rfl rfl ?_
            refine al_nil ?_
            exact aq_join false h (fun w a hm hs => norm hm hs [0] [] [(1, (pq g1)), (42, (bool false))] (by decide) ⟨rfl, rfl, trivial⟩)
        ·replace h := bif_f hb20 h
         refine al_skip ?_
         refine al_skip ?_
         refine al_skip ?_
         refine al_skip ?_
         refine al_val (ov_pick_f rfl rfl rfl) ?_
         refine al_mv rfl rfl ?_
         refine al_val (ov_fieldA (p := 1) rfl Tryz.underlying57 rfl sz3 rfl rfl rfl) ?_
         refine al_val (ov_load (i := 0) (v := (iq a0.Kind)) rfl rfl Tryz.underlying3 sz3 rfl rfl rfl rfl) ?_
         refine al_in rfl rfl rfl rfl ?_
         refine al_mv rfl rfl ?_
         refine al_caseB 56 rfl (fun hb26 => ?_) (fun hb26 => ?_)
         ·replace h := bif_t hb26 h
          refine al_val (ov_fieldA (p := 4) rfl Tryz.underlying57 rfl sz9 rfl rfl rfl) ?_
          refine al_val (ov_load (i := 0) (v := (str a0.Bytes)) rfl rfl Tryz.underlying9 sz9 rfl rfl rfl rfl) ?_
          refine al_val (ov_strCmp rfl rfl rfl rfl) ?_
          refine al_val (ov_pick_t rfl rfl rfl) ?_
          refine al_val (ov_pick_f rfl rfl rfl) ?_
          refine al_mv rfl rfl ?_
          refine al_caseB 62 rfl (fun hb27 => ?_) (fun hb27 => ?_)
          ·replace h := bif_t hb27 h
           refine al_skip ?_
           refine al_skip ?_
           refine al_skip ?_
           refine al_skip ?_
           refine al_skip ?_
           refine al_skip ?_
           refine al_skip ?_
           refine al_skip ?_
           refine al_skip ?_
           refine al_val (ov_pick_t rfl rfl rfl) ?_
           refine al_as rfl rfl ?_
           refine al_nil ?_
           exact aq_join true h (fun w a hm hs => norm hm hs [0] [] [(1, (pq g1)), (42, (bool true))] (by decide) ⟨rfl, rfl, trivial⟩)
          ·replace h := bif_f hb27 h
           refine al_val (ov_fieldA (p := 1) rfl Tryz.underlying57 rfl sz3 rfl rfl rfl) ?_
           refine al_val (ov_load (i := 0) (v := (iq a0.Kind)) rfl rfl Tryz.underlying3 sz3 rfl rfl rfl rfl) ?_
           refine al_in rfl rfl rfl rfl ?_
           refine al_mv rfl rfl ?_
           refine al_caseB 66 rfl (fun hb28 => ?_) (fun hb28 => ?_)
           ·replace h := bif_t hb28 h
            refine al_val (ov_fieldA (p := 4) rfl Tryz.underlying57 rfl sz9 rfl rfl rfl) ?_
            refine al_val (ov_load (i := 0) (v := (str a0.Bytes)) rfl rfl Tryz.underlying9 sz9 rfl rfl rfl rfl) ?_
            refine al_val (ov_strLen Tryz.underlying9 rfl rfl) ?_
            refine al_in rfl rfl rfl rfl ?_
            refine al_val (ov_pick_t rfl rfl rfl) ?_
            refine al_val (ov_pick_f rfl rfl rfl) ?_
            refine al_as rfl rfl ?_
            refine al_nil ?_
            exact aq_join (decide ((a0.Bytes.length : Int) > (1024 : Int))) h (fun w a hm hs => norm hm hs [0] [] [(1, (pq g1)), (42, (bool (decide ((a0.Bytes.length : Int) > (1024 : Int)))))] (by decide) ⟨rfl, rfl, trivial⟩)
           ·replace h := bif_f hb28 h
            refine al_skip ?_
            refine al_skip ?_
            refine al_skip ?_
            refine al_skip ?_
            refine al_val (ov_pick_f rfl rfl rfl) ?_
            refine al_val (ov_pick_f rfl rfl rfl) ?_
            refine al_as rfl rfl ?_
            refine al_nil ?_
            exact aq_join false h (fun w a hm hs => norm hm hs [0] [] [(1, (pq g1)), (42, (bool false))] (by decide) ⟨rfl, rfl, trivial⟩)
         ·replace h := bif_f hb26 h
          refine al_skip ?_
          refine al_skip ?_
          refine al_skip ?_
          refine al_val (ov_pick_f rfl rfl rfl) ?_
          refine al_val (ov_pick_f rfl rfl rfl) ?_
          refine al_mv rfl rfl ?_
          refine al_val (ov_fieldA (p := 1) rfl Tryz.underlying57 rfl sz3 rfl rfl rfl) ?_
          refine al_val (ov_load (i := 0) (v := (iq a0.Kind)) rfl rfl Tryz.underlying3 sz3 rfl rfl rfl rfl) ?_
          refine al_in rfl rfl rfl rfl ?_
          refine al_mv rfl rfl ?_
          refine al_caseB 66 rfl (fun hb29 => ?_) (fun hb29 => ?_)
          ·replace h := bif_t hb29 h
           refine al_val (ov_fieldA (p := 4) rfl Tryz.underlying57 rfl sz9 rfl rfl rfl) ?_
           refine al_val (ov_load (i := 0) (v := (str a0.Bytes)) rfl rfl Tryz.underlying9 sz9 rfl rfl rfl rfl) ?_
           refine al_val (ov_strLen Tryz.underlying9 rfl rfl) ?_
           refine al_in rfl rfl rfl rfl ?_
           refine al_val (ov_pick_t rfl rfl rfl) ?_
           refine al_val (ov_pick_f rfl rfl rfl) ?_
           refine al_as rfl rfl ?_
           refine al_nil ?_
           exact aq_join (decide ((a0.Bytes.length : Int) > (1024 : Int))) h (fun w a hm hs => norm hm hs [0] [] [(1, (pq g1)), (42, (bool (decide ((a0.Bytes.length : Int) > (1024 : Int)))))] (by decide) ⟨rfl, rfl, trivial⟩)
          ·replace h := bif_f hb29 h
           refine al_skip ?_
           refine al_skip ?_
           refine al_skip ?_
           refine al_skip ?_
           refine al_val (ov_pick_f rfl rfl rfl) ?_
           refine al_val (ov_pick_f rfl rfl rfl) ?_
           refine al_as rfl rfl ?_
           refine al_nil ?_
           exact aq_join false h (fun w a hm hs => norm hm hs [0] [] [(1, (pq g1)), (42, (bool false))] (by decide) ⟨rfl, rfl, trivial⟩)
     ·clear hkk11
      refine aw_region ?_
      refine al_val (ov_fieldA (p := 2) rfl Tryz.underlying57 rfl sz3 rfl rfl rfl) ?_
      refine al_val (ov_load (i := 0) (v := (iq a0.Mode)) rfl rfl Tryz.underlying3 sz3 rfl rfl rfl rfl) ?_
      refine al_in rfl rfl rfl rfl ?_
      refine al_mv rfl rfl ?_
      refine al_caseB 37 rfl (fun hb30 => ?_) (fun hb30 => ?_)
      ·replace h := bif_t hb30 h
       refine al_skip ?_
       refine al_skip ?_
       refine al_skip ?_
       refine al_val (ov_pick_t rfl rfl rfl) ?_
       refine al_as rfl rfl ?_
       refine al_nil ?_
       exact aq_join true h (fun w a hm hs => norm hm hs [0] [] [(1, (pq g1)), (33, (bool true))] (by decide) ⟨rfl, rfl, trivial⟩)
      ·replace h := bif_f hb30 h
       refine al_val (ov_fieldA (p := 2) rfl Tryz.underlying57 rfl sz3 rfl rfl rfl) ?_
       refine al_val (ov_load (i := 0) (v := (iq a0.Mode)) rfl rfl Tryz.underlying3 sz3 rfl rfl rfl rfl) ?_
       refine al_in rfl rfl rfl rfl ?_
       refine al_val (ov_pick_f rfl rfl rfl) ?_
       refine al_as rfl rfl ?_
       refine al_nil ?_
       exact aq_join (decide (a0.Mode > (511 : Int))) h (fun w a hm hs => norm hm hs [0] [] [(1, (pq g1)), (33, (bool (decide (a0.Mode > (511 : Int)))))] (by decide) ⟨rfl, rfl, trivial⟩)
   ·clear hkk8
    refine aw_region ?_
    refine al_val (ov_fieldA (p := 1) rfl Tryz.underlying57 rfl sz3 rfl rfl rfl) ?_
    refine al_val (ov_load (i := 1) (v := (iq a0.Kind)) rfl rfl Tryz.underlying3 sz3 rfl rfl rfl rfl) ?_
    refine al_in rfl rfl rfl rfl ?_
    refine al_mv rfl rfl ?_
    refine al_caseB 23 rfl (fun hb31 => ?_) (fun hb31 => ?_)
    ·replace h := bif_t hb31 h
     refine al_val (ov_fieldA (p := 1) rfl Tryz.underlying57 rfl sz3 rfl rfl rfl) ?_
     refine al_val (ov_load (i := 1) (v := (iq a0.Kind)) rfl rfl Tryz.underlying3 sz3 rfl rfl rfl rfl) ?_
     refine al_in rfl rfl rfl rfl ?_
     refine al_val (ov_pick_t rfl rfl rfl) ?_
     refine al_mv rfl rfl ?_
     refine al_caseB 28 rfl (fun hb32 => ?_) (fun hb32 => ?_)
     ·replace h := bif_t hb32 h
      refine al_val (ov_fieldA (p := 1) rfl Tryz.underlying57 rfl sz3 rfl rfl rfl) ?_
      refine al_val (ov_load (i := 1) (v := (iq a0.Kind)) rfl rfl Tryz.underlying3 sz3 rfl rfl rfl rfl) ?_
      refine al_in rfl rfl rfl rfl ?_
      refine al_val (ov_pick_t rfl rfl rfl) ?_
      refine al_as rfl rfl ?_
      refine al_nil ?_
      exact aq_join (a0.Kind != (3 : Int)) h (fun w a hm hs => norm hm hs [1] [] [(1, (pq g1)), (19, (bool (a0.Kind != (3 : Int))))] (by decide) ⟨rfl, rfl, trivial⟩)
     ·replace h := bif_f hb32 h
      refine al_skip ?_
      refine al_skip ?_
      refine al_skip ?_
      refine al_val (ov_pick_f rfl rfl rfl) ?_
      refine al_as rfl rfl ?_
      refine al_nil ?_
      exact aq_join false h (fun w a hm hs => norm hm hs [1] [] [(1, (pq g1)), (19, (bool false))] (by decide) ⟨rfl, rfl, trivial⟩)
    ·replace h := bif_f hb31 h
     refine al_skip ?_
     refine al_skip ?_
     refine al_skip ?_
     refine al_val (ov_pick_f rfl rfl rfl) ?_
     refine al_mv rfl rfl ?_
     refine al_skip ?_
     refine al_skip ?_
     refine al_skip ?_
     refine al_val (ov_pick_f rfl rfl rfl) ?_
     refine al_as rfl rfl ?_
     refine al_nil ?_
     exact aq_join false h (fun w a hm hs => norm hm hs [1] [] [(1, (pq g1)), (19, (bool false))] (by decide) ⟨rfl, rfl, trivial⟩)
def f_lumref_ahead : Nat → (List (List UInt8)) → (List (List UInt8)) → Option Bool
  | 0, _, _ => none
  | fu + 1, a0, a1 => (bif ((a1.length : Int) == (0 : Int)) then (some false) else (bif ((a0.length : Int) == (0 : Int)) then (some true) else (opt (at? a0 (0 : Int)) fun (u3 : (List UInt8)) => (opt (at? a1 (0 : Int)) fun (u6 : (List UInt8)) => (bif (!(u3 == u6)) then (opt (at? a0 (0 : Int)) fun (u10 : (List UInt8)) => (opt (at? a1 (0 : Int)) fun (u13 : (List UInt8)) => (some (Op.bytesLess u10 u13)))) else (req (0 ≤ (1 : Int) ∧ (1 : Int) ≤ (a0.length : Int)) (req (0 ≤ (1 : Int) ∧ (1 : Int) ≤ (a1.length : Int)) (opt (f_lumref_ahead fu (a0.drop ((1 : Int)).toNat) (a1.drop ((1 : Int)).toNat)) fun (r21 : Bool) => (some r21)))))))))
set_option maxHeartbeats 2000000 in
set_option maxRecDepth 100000 in
theorem f_lumref_ahead_ok (fu : Nat) (v0_0 : Value) (a0 : (List (List UInt8))) (v1_0 : Value) (a1 : (List (List UInt8))) {r : Bool} (h : f_lumref_ahead fu a0 a1 = some r) : FnOk Tryz.prog 77 [v0_0, v1_0] [(fDat (tyList tyStr) [v0_0] a0), (fDat (tyList tyStr) [v1_0] a1)] [] (fun (i : Unit) => { val := (bool r) }) := by
 cases fu with
 | zero => rw [f_lumref_ahead] at h; cases h
 | succ fu =>
  rw [f_lumref_ahead] at h
  refine fn_enter Tryz.func77 rfl Tryz.ntmps77 rfl (fun w0 Z0 => ?_)
  refine aw_sr ?_
  refine al_as rfl rfl ?_
  refine al_nt ?_
  refine aw_seq ?_
  refine aw_sr ?_
  refine al_mv rfl rfl ?_
  refine al_val (ov_lenD 1 rfl rfl Tryz.underlying47 rfl) ?_
  refine al_in rfl rfl rfl rfl ?_
  refine al_nt ?_
  refine aw_cond rfl (fun hb1 => ?_) (fun hb1 => ?_)
  ·replace h := bif_t hb1 h
   refine aw_sr ?_
   refine al_as rfl rfl ?_
   refine al_nt ?_
   refine aw_ret ?_
   refine aq_then_ret ?_
   obtain rfl := Option.some.inj h
   exact fn_ret () [] [] rfl rfl rfl rfl (res1 rfl rfl) rfl rfl rfl (by decide)
  ·replace h := bif_f hb1 h
   refine aw_skip ?_
   refine aq_then ?_
   refine aw_seq ?_
   refine aw_sr ?_
   refine al_mv rfl rfl ?_
   refine al_val (ov_lenD 0 rfl rfl Tryz.underlying47 rfl) ?_
   refine al_in rfl rfl rfl rfl ?_
   refine al_nt ?_
   refine aw_cond rfl (fun hb2 => ?_) (fun hb2 => ?_)
   ·replace h := bif_t hb2 h
    refine aw_sr ?_
    refine al_as rfl rfl ?_
    refine al_nt ?_
    refine aw_ret ?_
    refine aq_then_ret ?_
    obtain rfl := Option.some.inj h
    exact fn_ret () [] [] rfl rfl rfl rfl (res1 rfl rfl) rfl rfl rfl (by decide)
   ·replace h := bif_f hb2 h
    refine aw_skip ?_
    refine aq_then ?_
    refine aw_seq ?_
    refine aw_seq ?_
    obtain ⟨u3, hu4, h⟩ := opt_some h
    obtain ⟨u6, hu7, h⟩ := opt_some h
    refine aw_region_draw 6 [(11, (fun u => fEq u v0_0)), (12, (fun p5 => (fPtr tyStr p5 u3))), (13, (fun u => fEq u (str u3))), (14, (fun u => fEq u v1_0)), (15, (fun p8 => (fPtr tyStr p8 u6))), (16, (fun u => fEq u (str u6)))] (tab [(0, v0_0), (1, v1_0)]) mixed (by kernel_rfl) rfl rfl rfl (fun a hs => hs.tab _ (allT_mem ⟨rfl, rfl, trivial⟩)) ⟨⟨rfl, ld_val (ov_move rfl rfl)⟩, ⟨rfl, ld_eq (j := 0) rfl rfl (ld_of (of_idxD 0 hu4 rfl rfl rfl Tryz.underlying47 sz9 rfl))⟩, ⟨rfl, ld_fact (j := 1) rfl rfl (fun p5 => ld_val (ov_loadP (ds := [(str u3)]) 0 rfl (fun h => h) rfl Tryz.underlying9 sz9 rfl rfl rfl))⟩, ⟨rfl, ld_val (ov_move rfl rfl)⟩, ⟨rfl, ld_eq (j := 3) rfl rfl (ld_of (of_idxD 1 hu7 rfl rfl rfl Tryz.underlying47 sz9 rfl))⟩, ⟨rfl, ld_fact (j := 4) rfl rfl (fun p8 => ld_val (ov_loadP (ds := [(str u6)]) 0 rfl (fun h => h) rfl Tryz.underlying9 sz9 rfl rfl rfl))⟩, trivial⟩ ?_
    refine tl_eq 2 rfl ?_
    refine tl_eq 5 rfl ?_
    refine tl_done ?_
    refine al_val (ov_strCmp rfl rfl rfl rfl) ?_
    refine al_nt ?_
    refine aw_cond rfl (fun hb9 => ?_) (fun hb9 => ?_)
    ·replace h := bif_t hb9 h
     refine aw_seq ?_
     obtain ⟨u10, hu11, h⟩ := opt_some h
     obtain ⟨u13, hu14, h⟩ := opt_some h
     refine aw_region_draw 7 [(18, (fun u => fEq u v0_0)), (19, (fun p12 => (fPtr tyStr p12 u10))), (20, (fun u => fEq u (str u10))), (21, (fun u => fEq u v1_0)), (22, (fun p15 => (fPtr tyStr p15 u13))), (23, (fun u => fEq u (str u13))), (24, (fun u => fEq u (bool (Op.bytesLess u10 u13))))] (tab [(0, v0_0), (1, v1_0)]) mixed (by kernel_rfl) rfl rfl rfl (fun a hs => hs.tab _ (allT_mem ⟨rfl, rfl, trivial⟩)) ⟨⟨rfl, ld_val (ov_move rfl rfl)⟩, ⟨rfl, ld_eq (j := 0) rfl rfl (ld_of (of_idxD 0 hu11 rfl rfl rfl Tryz.underlying47 sz9 rfl))⟩, ⟨rfl, ld_fact (j := 1) rfl rfl (fun p12 => ld_val (ov_loadP (ds := [(str u10)]) 0 rfl (fun h => h) rfl Tryz.underlying9 sz9 rfl rfl rfl))⟩, ⟨rfl, ld_val (ov_move rfl rfl)⟩, ⟨rfl, ld_eq (j := 3) rfl rfl (ld_of (of_idxD 1 hu14 rfl rfl rfl Tryz.underlying47 sz9 rfl))⟩, ⟨rfl, ld_fact (j := 4) rfl rfl (fun p15 => ld_val (ov_loadP (ds := [(str u13)]) 0 rfl (fun h => h) rfl Tryz.underlying9 sz9 rfl rfl rfl))⟩, ⟨rfl, ld_eq (j := 2) rfl rfl (ld_eq (j := 5) rfl rfl (ld_val (ov_strCmp rfl rfl rfl rfl)))⟩, trivial⟩ ?_
     refine tl_eq 6 rfl ?_
     refine tl_done ?_
     refine al_as rfl rfl ?_
     refine al_nt ?_
     refine aw_ret ?_
     refine aq_then_ret ?_
     obtain rfl := Option.some.inj h
     exact fn_ret () [] [] rfl rfl rfl rfl (res1 rfl rfl) rfl rfl rfl (by decide)
    ·replace h := bif_f hb9 h
     refine aw_skip ?_
     refine aq_then ?_
     refine aw_seq ?_
     obtain ⟨hc16, h⟩ := req_some h
     obtain ⟨hc18, h⟩ := req_some h
     obtain ⟨r21, hc20, h⟩ := opt_some h
     refine aw_region_draw 5 [(25, (fun u => fEq u v0_0)), (26, (fun s17 => (fDat (tyList tyStr) [s17] (a0.drop ((1 : Int)).toNat)))), (27, (fun u => fEq u v1_0)), (28, (fun s19 => (fDat (tyList tyStr) [s19] (a1.drop ((1 : Int)).toNat)))), (29, (fun u => fEq u (bool r21)))] (tab [(0, v0_0), (1, v1_0)]) mixed (by kernel_rfl) rfl rfl rfl (fun a hs => hs.tab _ (allT_mem ⟨rfl, rfl, trivial⟩)) ⟨⟨rfl, ld_val (ov_move rfl rfl)⟩, ⟨rfl, ld_eq (j := 0) rfl rfl (ld_of (of_sliceDF 0 hc16.1 hc16.2 rfl rfl rfl Tryz.underlying47 sz9 rfl))⟩, ⟨rfl, ld_val (ov_move rfl rfl)⟩, ⟨rfl, ld_eq (j := 2) rfl rfl (ld_of (of_sliceDF 1 hc18.1 hc18.2 rfl rfl rfl Tryz.underlying47 sz9 rfl))⟩, ⟨rfl, ld_fact (j := 1) rfl rfl (fun s17 => ld_fact (j := 3) rfl rfl (fun s19 => ld_callV (vs := [s17, s19]) (f_lumref_ahead_ok fu s17 (a0.drop ((1 : Int)).toNat) s19 (a1.drop ((1 : Int)).toNat) hc20) [] (pre_fz 1 rfl (pre_fz 0 rfl pre_nil)) rfl Tryz.func77 rfl rfl rfl))⟩, trivial⟩ ?_
     refine tl_eq 4 rfl ?_
     refine tl_done ?_
     refine al_as rfl rfl ?_
     refine al_nt ?_
     refine aw_ret ?_
     obtain rfl := Option.some.inj h
     exact fn_ret () [] [] rfl rfl rfl rfl (res1 rfl rfl) rfl rfl rfl (by decide)
def f_lumref_Less (fu : Nat) (a0 : (List UInt8)) (a1 : (List UInt8)) : Option (Bool × Int) := (opt (f_lumref_Split fu a0) fun (r2 : ((List (List UInt8)) × Int)) => (bif (r2.2 != (0 : Int)) then (some (false, r2.2)) else (opt (f_lumref_Split fu a1) fun (r6 : ((List (List UInt8)) × Int)) => (bif (r6.2 != (0 : Int)) then (some (false, r6.2)) else (opt (f_lumref_ahead fu r2.1 r6.1) fun (r10 : Bool) => (some (r10, (0 : Int))))))))
set_option maxHeartbeats 2000000 in
set_option maxRecDepth 100000 in
theorem f_lumref_Less_ok (fu : Nat) (a0 : (List UInt8)) (a1 : (List UInt8)) {r : (Bool × Int)} (h : f_lumref_Less fu a0 a1 = some r) : FnOk Tryz.prog 38 [(str a0), (str a1)] [] [] (fun (i : Unit) => { val := (Value.tuple #[(bool r.1), (int .i64 r.2)]) }) := by
 unfold f_lumref_Less at h
 refine fn_enter Tryz.func38 rfl Tryz.ntmps38 rfl (fun w0 Z0 => ?_)
 refine aw_sr ?_
 refine al_as rfl rfl ?_
 refine al_as rfl rfl ?_
 refine al_nt ?_
 refine aw_sr ?_
 refine al_mv rfl rfl ?_
 obtain ⟨r2, hc1, h⟩ := opt_some h
 refine al_call (vs := [(str a0)]) (f_lumref_Split_ok fu a0 hc1) [] [] [] pre_nil rfl (by simp) (by decide) (.inl rfl) rfl Tryz.func39 rfl rfl rfl (fun v3 => ?_)
 refine al_mv rfl rfl ?_
 refine al_ex rfl rfl rfl ?_
 refine al_ex rfl rfl rfl ?_
 refine al_as rfl rfl ?_
 refine al_as rfl rfl ?_
 refine al_nt ?_
 refine aw_seq ?_
 refine aw_sr ?_
 refine al_mv rfl rfl ?_
 refine al_in rfl rfl rfl rfl ?_
 refine al_nt ?_
 refine aw_cond rfl (fun hb4 => ?_) (fun hb4 => ?_)
 ·replace h := bif_t hb4 h
  refine aw_sr ?_
  refine al_mv rfl rfl ?_
  refine al_as rfl rfl ?_
  refine al_as rfl rfl ?_
  refine al_nt ?_
  refine aw_ret ?_
  refine aq_then_ret ?_
  obtain rfl := Option.some.inj h
  exact fn_ret () [] [] rfl rfl rfl rfl (res2 rfl rfl rfl) rfl rfl rfl (by decide)
 ·replace h := bif_f hb4 h
  refine aw_skip ?_
  refine aq_tr ?_
  refine al_mv rfl rfl ?_
  obtain ⟨r6, hc5, h⟩ := opt_some h
  refine al_call (vs := [(str a1)]) (f_lumref_Split_ok fu a1 hc5) [] [] [0] pre_nil rfl (by simp) (by decide) (.inl rfl) rfl Tryz.func39 rfl rfl rfl (fun v7 => ?_)
  refine al_mv rfl rfl ?_
  refine al_ex rfl rfl rfl ?_
  refine al_ex rfl rfl rfl ?_
  refine al_as rfl rfl ?_
  refine al_as rfl rfl ?_
  refine al_nt ?_
  refine aw_seq ?_
  refine aw_sr ?_
  refine al_mv rfl rfl ?_
  refine al_in rfl rfl rfl rfl ?_
  refine al_nt ?_
  refine aw_cond rfl (fun hb8 => ?_) (fun hb8 => ?_)
  ·replace h := bif_t hb8 h
   refine aw_sr ?_
   refine al_mv rfl rfl ?_
   refine al_as rfl rfl ?_
   refine al_as rfl rfl ?_
   refine al_nt ?_
   refine aw_ret ?_
   refine aq_then_ret ?_
   obtain rfl := Option.some.inj h
   exact fn_ret () [] [] rfl rfl rfl rfl (res2 rfl rfl rfl) rfl rfl rfl (by decide)
  ·replace h := bif_f hb8 h
   refine aw_skip ?_
   refine aq_tr ?_
   refine al_mv rfl rfl ?_
   refine al_mv rfl rfl ?_
   obtain ⟨r10, hc9, h⟩ := opt_some h
   refine al_call (vs := [v3, v7]) (f_lumref_ahead_ok fu v3 r2.1 v7 r6.1 hc9) [0, 1] [] [0, 1] (pre_own 1 rfl rfl (pre_own 0 rfl rfl pre_nil)) rfl (by simp) (by decide) (.inr flat_res0) rfl Tryz.func77 rfl rfl rfl (fun _ => ?_)
   refine al_as rfl rfl ?_
   refine al_as rfl rfl ?_
   refine al_nt ?_
   refine aw_ret ?_
   obtain rfl := Option.some.inj h
   exact fn_ret () [] [] rfl rfl rfl rfl (res2 rfl rfl rfl) rfl rfl rfl (by decide)
def f_lumref_Join_L9 (a0 : (List (List UInt8))) (kk6 : ((List UInt8) → Option ((List UInt8) × Int))) : Nat → (List UInt8) → Int → Option ((List UInt8) × Int)
  | 0, _, _ => none
  | k8 + 1, l7s5, l7i18 => (bif (decide (l7i18 < (a0.length : Int))) then (opt (at? a0 l7i18) fun (u11 : (List UInt8)) => (req (([47] : List UInt8).length + u11.length ≤ 9223372036854775807) (req (l7s5.length + (([47] : List UInt8) ++ u11).length ≤ 9223372036854775807) (f_lumref_Join_L9 a0 kk6 k8 (l7s5 ++ (([47] : List UInt8) ++ u11)) (IntKind.i64.wrap (l7i18 + (1 : Int))))))) else (kk6 l7s5))
def f_lumref_Join (fu : Nat) (a0 : (List (List UInt8))) : Option ((List UInt8) × Int) := (opt (f_lumref_nameErr fu a0) fun (r2 : Int) => (bif (r2 != (0 : Int)) then (some (([] : List UInt8), r2)) else (bif ((a0.length : Int) == (0 : Int)) then (some (([47] : List UInt8), (0 : Int))) else (lt (fun (j5s5 : (List UInt8)) => (some (j5s5, (0 : Int)))) fun (kk6 : (List UInt8) → Option ((List UInt8) × Int)) => (f_lumref_Join_L9 a0 kk6 fu ([] : List UInt8) (0 : Int))))))
set_option maxHeartbeats 2000000 in
set_option maxRecDepth 100000 in
theorem f_lumref_Join_ok (fu : Nat) (v0_0 : Value) (a0 : (List (List UInt8))) {r : ((List UInt8) × Int)} (h : f_lumref_Join fu a0 = some r) : FnOk Tryz.prog 40 [v0_0] [(fDat (tyList tyStr) [v0_0] a0)] [] (fun (i : Unit) => { val := (Value.tuple #[(str r.1), (int .i64 r.2)]) }) := by
 unfold f_lumref_Join at h
 refine fn_enter Tryz.func40 rfl Tryz.ntmps40 rfl (fun w0 Z0 => ?_)
 refine aw_sr ?_
 refine al_as rfl rfl ?_
 refine al_as rfl rfl ?_
 refine al_nt ?_
 refine aw_seq ?_
 refine aw_sr ?_
 refine al_mv rfl rfl ?_
 obtain ⟨r2, hc1, h⟩ := opt_some h
 refine al_call (vs := [v0_0]) (f_lumref_nameErr_ok fu v0_0 a0 hc1) [] [] [] (pre_fz 0 rfl pre_nil) rfl (by simp) (by decide) (.inl rfl) rfl Tryz.func79 rfl rfl rfl (fun _ => ?_)
 refine al_as rfl rfl ?_
 refine al_nt ?_
 refine aw_sr ?_
 refine al_mv rfl rfl ?_
 refine al_in rfl rfl rfl rfl ?_
 refine al_nt ?_
 refine aw_cond rfl (fun hb3 => ?_) (fun hb3 => ?_)
 ·replace h := bif_t hb3 h
  refine aw_sr ?_
  refine al_mv rfl rfl ?_
  refine al_as rfl rfl ?_
  refine al_as rfl rfl ?_
  refine al_nt ?_
  refine aw_ret ?_
  refine aq_then_ret ?_
  obtain rfl := Option.some.inj h
  exact fn_ret () [] [] rfl rfl rfl rfl (res2 rfl rfl rfl) rfl rfl rfl (by decide)
 ·replace h := bif_f hb3 h
  refine aw_skip ?_
  refine aq_then ?_
  refine aw_seq ?_
  refine aw_sr ?_
  refine al_mv rfl rfl ?_
  refine al_val (ov_lenD 0 rfl rfl Tryz.underlying47 rfl) ?_
  refine al_in rfl rfl rfl rfl ?_
  refine al_nt ?_
  refine aw_cond rfl (fun hb4 => ?_) (fun hb4 => ?_)
  ·replace h := bif_t hb4 h
   refine aw_sr ?_
   refine al_as rfl rfl ?_
   refine al_as rfl rfl ?_
   refine al_nt ?_
   refine aw_ret ?_
   refine aq_then_ret ?_
   obtain rfl := Option.some.inj h
   exact fn_ret () [] [] rfl rfl rfl rfl (res2 rfl rfl rfl) rfl rfl rfl (by decide)
  ·replace h := bif_f hb4 h
   refine aw_skip ?_
   refine aq_tr ?_
   refine al_as rfl rfl ?_
   refine al_nt ?_
   obtain ⟨kk6, hkk6, h⟩ := lt_some h
   refine aw_seq_join (ι := (List UInt8)) (fun i => (memOf w0 Z0 [] [] [(fDat (tyList tyStr) [v0_0] a0)])) (fun i => (tab [(5, (str i))])) (fun i => kk6 i = some r) ?_ ?_
   ·rintro j5s5 h
    have h : kk6 j5s5 = some r := h
    rw [hkk6] at h
    dsimp only at h
    clear hkk6
    refine aw_show (m := (memOf w0 Z0 [] [] [(fDat (tyList tyStr) [v0_0] a0)])) (S := (tab [(5, (str j5s5))])) ?_
    refine aw_sr ?_
    refine al_mv rfl rfl ?_
    refine al_as rfl rfl ?_
    refine al_as rfl rfl ?_
    refine al_nt ?_
    refine aw_ret ?_
    obtain rfl := Option.some.inj h
    exact fn_ret () [] [] rfl rfl rfl rfl (res2 rfl rfl rfl) rfl rfl rfl (by decide)
   ·clear hkk6
    refine aw_sr ?_
    refine al_mv rfl rfl ?_
    refine al_val (ov_lenD 0 rfl rfl Tryz.underlying47 rfl) ?_
    refine al_mv rfl rfl ?_
    refine al_nt ?_
    refine aw_block ?_
    refine aw_state (aw_loop (ι := (List UInt8) × Int) (fun i => (memOf w0 Z0 [] [] [(fDat (tyList tyStr) [v0_0] a0)])) (fun i => (tab [(5, (str i.1)), (16, v0_0), (17, (iq (a0.length : Int))), (18, (iq i.2))])) (fun q i => f_lumref_Join_L9 a0 kk6 q i.1 i.2 = some r) ?_ fu (([] : List UInt8), (0 : Int)) h) (fun w a hm hs => norm hm hs [] [0] [(5, (str ([] : List UInt8))), (16, v0_0), (17, (iq (a0.length : Int))), (18, (iq (0 : Int)))] (by decide) ⟨rfl, rfl, rfl, rfl, trivial⟩)
    clear h
    rintro k8 ⟨l7s5, l7i18⟩ h
    have h : f_lumref_Join_L9 a0 kk6 k8 l7s5 l7i18 = some r := h
    obtain _ | k8 := k8
    · rw [f_lumref_Join_L9] at h; cases h
    rw [f_lumref_Join_L9] at h
    refine aw_show (m := (memOf w0 Z0 [] [] [(fDat (tyList tyStr) [v0_0] a0)])) (S := (tab [(5, (str l7s5)), (16, v0_0), (17, (iq (a0.length : Int))), (18, (iq l7i18))])) ?_
    refine aw_sr ?_
    refine al_in rfl rfl rfl rfl ?_
    refine al_nt ?_
    refine aw_seq ?_
    refine aw_cond rfl (fun hb10 => ?_) (fun hb10 => ?_)
    ·replace h := bif_t hb10 h
     refine aw_skip ?_
     refine aq_then ?_
     refine aw_seq ?_
     refine aw_block ?_
     refine aw_sr ?_
     obtain ⟨u11, hu12, h⟩ := opt_some h
     refine al_idxD 0 hu12 rfl rfl rfl Tryz.underlying47 sz9 rfl (fun p13 => ?_)
     refine al_val (ov_loadP (ds := [(str u11)]) 0 rfl (fun h => h) rfl Tryz.underlying9 sz9 rfl rfl rfl) ?_
     refine al_as rfl rfl ?_
     refine al_nt ?_
     refine aw_region ?_
     refine al_mv rfl rfl ?_
     refine al_mv rfl rfl ?_
     obtain ⟨hc14, h⟩ := req_some h
     refine al_val (ov_strAdd hc14 rfl rfl rfl) ?_
     obtain ⟨hc15, h⟩ := req_some h
     refine al_val (ov_strAdd hc15 rfl rfl rfl) ?_
     refine al_as rfl rfl ?_
     refine al_nil ?_
     refine aq_block ?_
     refine aq_then ?_
     refine aw_region ?_
     refine al_in rfl rfl rfl rfl ?_
     refine al_mv rfl rfl ?_
     refine al_nil ?_
     exact aq_again k8 ((l7s5 ++ (([47] : List UInt8) ++ u11)), (wq (l7i18 + (1 : Int)))) (Nat.lt_succ_self _) h (fun w a hm hs => norm hm hs [] [1] [(5, (str (l7s5 ++ (([47] : List UInt8) ++ u11)))), (16, v0_0), (17, (iq (a0.length : Int))), (18, (iq (wq (l7i18 + (1 : Int)))))] (by decide) ⟨rfl, rfl, rfl, rfl, trivial⟩)
    ·replace h := bif_f hb10 h
     refine aw_exit ?_
     refine aq_then_exit ?_
     refine aq_then_exit ?_
     refine aq_block_exit ?_
     exact aq_join l7s5 h (fun w a hm hs => norm hm hs [] [0] [(5, (str l7s5))] (by decide) ⟨rfl, trivial⟩)
def f_lumref_World_L34 (a0 : (List S_api_Item)) (l4i20 : Int) (r26 : ((List UInt8) × Int)) (kk28 : (Bool → Option Int)) : Nat → Bool → Int → Option Int
  | 0, _, _ => none
  | k33 + 1, l32b12, l32i67 => (bif (decide (l32i67 < ((a0.take (l4i20).toNat).length : Int))) then (lt (fun (j36b12 : Bool) => (f_lumref_World_L34 a0 l4i20 r26 kk28 k33 j36b12 (IntKind.i64.wrap (l32i67 + (1 : Int))))) fun (kk37 : Bool → Option Int) => (opt (at? (a0.take (l4i20).toNat) l32i67) fun (u38 : S_api_Item) => (bif l32b12 then (kk37 true) else (bif (u38.Path == r26.1) then (kk37 (u38.Kind == (2 : Int))) else (kk37 false))))) else (kk28 l32b12))
def f_lumref_World_L6 (a0 : (List S_api_Item)) (kk3 : (Unit → Option Int)) (fu : Nat) : Nat → Int → Option Int
  | 0, _ => none
  | k5 + 1, l4i20 => (lt (fun (l4i20 : Int) => (f_lumref_World_L6 a0 kk3 fu k5 l4i20)) fun (kk7 : Int → Option Int) => (bif (decide (l4i20 < (a0.length : Int))) then (lt (fun (_ : Unit) => (kk7 (IntKind.i64.wrap (l4i20 + (1 : Int))))) fun (kk10 : Unit → Option Int) => (opt (at? a0 l4i20) fun (u11 : S_api_Item) => (opt (f_lumref_itemErr fu u11) fun (r16 : Int) => (bif (r16 != (0 : Int)) then (some r16) else (lt (fun (_ : Unit) => (opt (f_lumref_Split fu u11.Path) fun (r21 : ((List (List UInt8)) × Int)) => (req (0 ≤ (IntKind.i64.wrap ((r21.1.length : Int) - (1 : Int))) ∧ (IntKind.i64.wrap ((r21.1.length : Int) - (1 : Int))) ≤ (r21.1.length : Int)) (opt (f_lumref_Join fu (r21.1.take ((IntKind.i64.wrap ((r21.1.length : Int) - (1 : Int)))).toNat)) fun (r26 : ((List UInt8) × Int)) => (lt (fun (j27b12 : Bool) => (bif (!j27b12) then (some (9 : Int)) else (kk10 ()))) fun (kk28 : Bool → Option Int) => (req (0 ≤ l4i20 ∧ l4i20 ≤ (a0.length : Int)) (f_lumref_World_L34 a0 l4i20 r26 kk28 fu (r26.1 == ([47] : List UInt8)) (0 : Int)))))))) fun (kk19 : Unit → Option Int) => (bif (decide (l4i20 > (0 : Int))) then (opt (at? a0 (IntKind.i64.wrap (l4i20 - (1 : Int)))) fun (u45 : S_api_Item) => (opt (f_lumref_Less fu u45.Path u11.Path) fun (r50 : (Bool × Int)) => (bif (!r50.1) then (some (4 : Int)) else (kk19 ())))) else (kk19 ()))))))) else (kk3 ())))
def f_lumref_World (fu : Nat) (a0 : (List S_api_Item)) : Option Int := (bif (decide ((a0.length : Int) > (100 : Int))) then (some (2 : Int)) else (lt (fun (_ : Unit) => (some (0 : Int))) fun (kk3 : Unit → Option Int) => (f_lumref_World_L6 a0 kk3 fu fu (0 : Int))))
set_option maxRecDepth 100000 in
set_option maxHeartbeats 2000000 in
set_option maxHeartbeats 2000000 in
theorem f_lumref_World_ok (fu : Nat) (v0_0 : Value) (a0 : (List S_api_Item)) {r : Int} (h : f_lumref_World fu a0 = some r) : FnOk Tryz.prog 13 [v0_0] [(fDat (tyList tyS_api_Item) [v0_0] a0)] [] (fun (i : Unit) => { val := (int .i64 r) }) := by
 unfold f_lumref_World at h
 refine fn_enter Tryz.func13 rfl Tryz.ntmps13 rfl (fun w0 Z0 => ?_)
 refine aw_sr ?_
 refine al_as rfl rfl ?_
 refine al_nt ?_
 refine aw_seq ?_
 refine aw_sr ?_
 refine al_mv rfl rfl ?_
 refine al_val (ov_lenD 0 rfl rfl Tryz.underlying34 rfl) ?_
 refine al_in rfl rfl rfl rfl ?_
 refine al_nt ?_
 refine aw_cond rfl (fun hb1 => ?_) (fun hb1 => ?_)
 ·replace h := bif_t hb1 h
  refine aw_sr ?_
  refine al_as rfl rfl ?_
  refine al_nt ?_
  refine aw_ret ?_
  refine aq_then_ret ?_
  obtain rfl := Option.some.inj h
  exact fn_ret () [] [] rfl rfl rfl rfl (res1 rfl rfl) rfl rfl rfl (by decide)
 ·replace h := bif_f hb1 h
  refine aw_skip ?_
  refine aq_then ?_
  obtain ⟨kk3, hkk3, h⟩ := lt_some h
  refine aw_seq_join (ι := Unit) (fun i => (memOf w0 Z0 [] [] [(fDat (tyList tyS_api_Item) [v0_0] a0)])) (fun i => (tab [])) (fun i => kk3 () = some r) ?_ ?_
  ·rintro _ h
   have h : kk3 () = some r := h
   rw [hkk3] at h
   dsimp only at h
   clear hkk3
   refine aw_show (m := (memOf w0 Z0 [] [] [(fDat (tyList tyS_api_Item) [v0_0] a0)])) (S := (tab [])) ?_
   refine aw_sr ?_
   refine al_as rfl rfl ?_
   refine al_nt ?_
   refine aw_ret ?_
   obtain rfl := Option.some.inj h
   exact fn_ret () [] [] rfl rfl rfl rfl (res1 rfl rfl) rfl rfl rfl (by decide)
  ·clear hkk3
   refine aw_sr ?_
   refine al_mv rfl rfl ?_
   refine al_val (ov_lenD 0 rfl rfl Tryz.underlying34 rfl) ?_
   refine al_mv rfl rfl ?_
   refine al_nt ?_
   refine aw_block ?_
   refine aw_state (aw_loop (ι := Int) (fun i => (memOf w0 Z0 [] [] [(fDat (tyList tyS_api_Item) [v0_0] a0)])) (fun i => (tab [(0, v0_0), (18, v0_0), (19, (iq (a0.length : Int))), (20, (iq i))])) (fun q i => f_lumref_World_L6 a0 kk3 fu q i = some r) ?_ fu (0 : Int) h) (fun w a hm hs => norm hm hs [] [0] [(0, v0_0), (18, v0_0), (19, (iq (a0.length : Int))), (20, (iq (0 : Int)))] (by decide) ⟨rfl, rfl, rfl, rfl, trivial⟩)
   clear h
   rintro k5 l4i20 h
   have h : f_lumref_World_L6 a0 kk3 fu k5 l4i20 = some r := h
   obtain _ | k5 := k5
   · rw [f_lumref_World_L6] at h; cases h
   rw [f_lumref_World_L6] at h
   refine aw_show (m := (memOf w0 Z0 [] [] [(fDat (tyList tyS_api_Item) [v0_0] a0)])) (S := (tab [(0, v0_0), (18, v0_0), (19, (iq (a0.length : Int))), (20, (iq l4i20))])) ?_
   obtain ⟨kk7, hkk7, h⟩ := lt_some h
   refine aw_body_join (ι := Int) (fun i => (memOf w0 Z0 [] [] [(fDat (tyList tyS_api_Item) [v0_0] a0)])) (fun i => (tab [(0, v0_0), (18, v0_0), (19, (iq (a0.length : Int))), (20, (iq i))])) (fun i => kk7 i = some r) (fun i h => aq_again k5 i (Nat.lt_succ_self _) (by rw [hkk7] at h; exact h) (fun w a hm hs => ⟨hm, hs⟩)) ?_
   clear hkk7
   refine aw_sr ?_
   refine al_in rfl rfl rfl rfl ?_
   refine al_nt ?_
   refine aw_seq ?_
   refine aw_cond rfl (fun hb8 => ?_) (fun hb8 => ?_)
   ·replace h := bif_t hb8 h
    refine aw_skip ?_
    refine aq_then ?_
    obtain ⟨kk10, hkk10, h⟩ := lt_some h
    refine aw_seq_join (ι := Unit) (fun i => (memOf w0 Z0 [] [] [(fDat (tyList tyS_api_Item) [v0_0] a0)])) (fun i => (tab [(0, v0_0), (18, v0_0), (19, (iq (a0.length : Int))), (20, (iq l4i20))])) (fun i => kk10 () = some r) ?_ ?_
    ·rintro _ h
     have h : kk10 () = some r := h
     rw [hkk10] at h
     dsimp only at h
     clear hkk10
     refine aw_show (m := (memOf w0 Z0 [] [] [(fDat (tyList tyS_api_Item) [v0_0] a0)])) (S := (tab [(0, v0_0), (18, v0_0), (19, (iq (a0.length : Int))), (20, (iq l4i20))])) ?_
     refine aw_region ?_
     refine al_in rfl rfl rfl rfl ?_
     refine al_mv rfl rfl ?_
     refine al_nil ?_
     exact aq_join (wq (l4i20 + (1 : Int))) h (fun w a hm hs => norm hm hs [] [0] [(0, v0_0), (18, v0_0), (19, (iq (a0.length : Int))), (20, (iq (wq (l4i20 + (1 : Int)))))] (by decide) ⟨rfl, rfl, rfl, rfl, trivial⟩)
    ·clear hkk10
     refine aw_block ?_
     refine aw_sr ?_
     refine al_mv rfl rfl ?_
     obtain ⟨u11, hu12, h⟩ := opt_some h
     refine al_idxD 0 hu12 rfl rfl rfl Tryz.underlying34 sz57 rfl (fun p13 => ?_)
     refine al_val (ov_loadP (ds := [(str u11.Path), (iq u11.Kind), (iq u11.Mode), (iq u11.Time), (str u11.Bytes)]) 0 rfl encS_api_Item rfl Tryz.underlying57 sz57 rfl rfl rfl) ?_
     refine al_alloc (zs := [(str ([] : List UInt8)), (iq (0 : Int)), (iq (0 : Int)), (iq (0 : Int)), (str ([] : List UInt8))]) (zeroOf_to to57) rfl rfl (fun g14 => ?_)
     refine al_as rfl rfl ?_
     refine al_store (i := 0) (vs := [(str u11.Path), (iq u11.Kind), (iq u11.Mode), (iq u11.Time), (str u11.Bytes)]) (cs' := [(str u11.Path), (iq u11.Kind), (iq u11.Mode), (iq u11.Time), (str u11.Bytes)]) rfl rfl rfl sz57 (cv_rfl rfl) rfl (co_val rfl (co_val rfl (co_val rfl (co_val rfl (co_val rfl co_nil))))) (Nat.le_of_ble_eq_true rfl) rfl rfl ?_
     refine al_nt ?_
     refine aw_seq ?_
     refine aw_sr ?_
     refine al_val (ov_load (i := 0) (v := (ag [(str u11.Path), (iq u11.Kind), (iq u11.Mode), (iq u11.Time), (str u11.Bytes)])) rfl rfl Tryz.underlying57 sz57 rfl rfl rfl rfl) ?_
     obtain ⟨r16, hc15, h⟩ := opt_some h
     refine al_call (vs := [(ag [(str u11.Path), (iq u11.Kind), (iq u11.Mode), (iq u11.Time), (str u11.Bytes)])]) (f_lumref_itemErr_ok fu u11 hc15) [] [] [0] pre_nil rfl (by simp) (by decide) (.inl rfl) rfl Tryz.func37 rfl rfl rfl (fun _ => ?_)
     refine al_as rfl rfl ?_
     refine al_nt ?_
     refine aw_sr ?_
     refine al_mv rfl rfl ?_
     refine al_in rfl rfl rfl rfl ?_
     refine al_nt ?_
     refine aw_cond rfl (fun hb17 => ?_) (fun hb17 => ?_)
     ·replace h := bif_t hb17 h
      refine aw_sr ?_
      refine al_mv rfl rfl ?_
      refine al_as rfl rfl ?_
      refine al_nt ?_
      refine aw_ret ?_
      refine aq_then_ret ?_
      refine aq_block_ret ?_
      refine aq_then_ret ?_
      refine aq_then_ret ?_
      refine aq_block_ret ?_
      refine aq_then_ret ?_
      obtain rfl := Option.some.inj h
      exact fn_ret () [] [] rfl rfl rfl rfl (res1 rfl rfl) rfl rfl rfl (by decide)
     ·replace h := bif_f hb17 h
      refine aw_skip ?_
      refine aq_then ?_
      obtain ⟨kk19, hkk19, h⟩ := lt_some h
      refine aw_seq_join (ι := Unit) (fun i => (memOf w0 Z0 [] [(oBox g14 57 [(str u11.Path), (iq u11.Kind), (iq u11.Mode), (iq u11.Time), (str u11.Bytes)])] [(fDat (tyList tyS_api_Item) [v0_0] a0), (fPtr tyS_api_Item p13 u11)])) (fun i => (tab [(0, v0_0), (3, (iq l4i20)), (4, (pq g14)), (18, v0_0), (19, (iq (a0.length : Int))), (20, (iq l4i20))])) (fun i => kk19 () = some r) ?_ ?_
      ·rintro _ h
       have h : kk19 () = some r := h
       rw [hkk19] at h
       dsimp only at h
       clear hkk19
       refine aw_show (m := (memOf w0 Z0 [] [(oBox g14 57 [(str u11.Path), (iq u11.Kind), (iq u11.Mode), (iq u11.Time), (str u11.Bytes)])] [(fDat (tyList tyS_api_Item) [v0_0] a0), (fPtr tyS_api_Item p13 u11)])) (S := (tab [(0, v0_0), (3, (iq l4i20)), (4, (pq g14)), (18, v0_0), (19, (iq (a0.length : Int))), (20, (iq l4i20))])) ?_
       refine aw_sr ?_
       refine al_val (ov_fieldA (p := 0) rfl Tryz.underlying57 rfl sz9 rfl rfl rfl) ?_
       refine al_val (ov_load (i := 0) (v := (str u11.Path)) rfl rfl Tryz.underlying9 sz9 rfl rfl rfl rfl) ?_
       obtain ⟨r21, hc20, h⟩ := opt_some h
       refine al_call (vs := [(str u11.Path)]) (f_lumref_Split_ok fu u11.Path hc20) [] [] [0] pre_nil rfl (by simp) (by decide) (.inl rfl) rfl Tryz.func39 rfl rfl rfl (fun v22 => ?_)
       refine al_mv rfl rfl ?_
       refine al_ex rfl rfl rfl ?_
       refine al_ex rfl rfl rfl ?_
       refine al_as rfl rfl ?_
       refine al_as rfl rfl ?_
       refine al_nt ?_
       refine aw_sr ?_
       refine al_mv rfl rfl ?_
       refine al_mv rfl rfl ?_
       refine al_val (ov_lenR 0 rfl rfl Tryz.underlying47 rfl) ?_
       refine al_in rfl rfl rfl rfl ?_
       obtain ⟨hc23, h⟩ := req_some h
       refine al_cutR 0 hc23.1 hc23.2 rfl rfl rfl Tryz.underlying47 sz9 rfl (fun s24 => ?_)
       obtain ⟨r26, hc25, h⟩ := opt_some h
       refine al_call (vs := [s24]) (f_lumref_Join_ok fu s24 (r21.1.take ((wq ((r21.1.length : Int) - (1 : Int)))).toNat) hc25) [0] [] [0, 1] (pre_own 0 rfl rfl pre_nil) rfl (by simp) (by decide) (.inr flat_res0) rfl Tryz.func40 rfl rfl rfl (fun _ => ?_)
       refine al_mv rfl rfl ?_
       refine al_ex rfl rfl rfl ?_
       refine al_ex rfl rfl rfl ?_
       refine al_as rfl rfl ?_
       refine al_as rfl rfl ?_
       refine al_nt ?_
       refine aw_sr ?_
       refine al_mv rfl rfl ?_
       refine al_val (ov_strCmp rfl rfl rfl rfl) ?_
       refine al_as rfl rfl ?_
       refine al_nt ?_
       obtain ⟨kk28, hkk28, h⟩ := lt_some h
       refine aw_seq_join (ι := Bool) (fun i => (memOf w0 Z0 [] [] [(fDat (tyList tyS_api_Item) [v0_0] a0), (fPtr tyS_api_Item p13 u11)])) (fun i => (tab [(0, v0_0), (12, (bool i)), (18, v0_0), (19, (iq (a0.length : Int))), (20, (iq l4i20))])) (fun i => kk28 i = some r) ?_ ?_
       ·rintro j27b12 h
        have h : kk28 j27b12 = some r := h
        rw [hkk28] at h
        dsimp only at h
        clear hkk28
        refine aw_show (m := (memOf w0 Z0 [] [] [(fDat (tyList tyS_api_Item) [v0_0] a0), (fPtr tyS_api_Item p13 u11)])) (S := (tab [(0, v0_0), (12, (bool j27b12)), (18, v0_0), (19, (iq (a0.length : Int))), (20, (iq l4i20))])) ?_
        refine aw_sr ?_
        refine al_mv rfl rfl ?_
        refine al_val (ov_not rfl rfl) ?_
        refine al_nt ?_
        refine aw_cond rfl (fun hb29 => ?_) (fun hb29 => ?_)
        ·replace h := bif_t hb29 h
         refine aw_sr ?_
         refine al_as rfl rfl ?_
         refine al_nt ?_
         refine aw_ret ?_
         refine aq_block_ret ?_
         refine aq_then_ret ?_
         refine aq_then_ret ?_
         refine aq_block_ret ?_
         refine aq_then_ret ?_
         obtain rfl := Option.some.inj h
         exact fn_ret () [] [] rfl rfl rfl rfl (res1 rfl rfl) rfl rfl rfl (by decide)
        ·replace h := bif_f hb29 h
         refine aw_skip ?_
         refine aq_block ?_
         exact aq_join () h (fun w a hm hs => norm hm hs [] [0] [(0, v0_0), (18, v0_0), (19, (iq (a0.length : Int))), (20, (iq l4i20))] (by decide) ⟨rfl, rfl, rfl, rfl, trivial⟩)
       ·clear hkk28
        refine aw_sr ?_
        refine al_mv rfl rfl ?_
        refine al_mv rfl rfl ?_
        obtain ⟨hc30, h⟩ := req_some h
        refine al_sliceDT 0 hc30.1 hc30.2 rfl rfl rfl Tryz.underlying34 sz57 rfl (fun s31 => ?_)
        refine al_val (ov_lenD 0 rfl rfl Tryz.underlying34 rfl) ?_
        refine al_mv rfl rfl ?_
        refine al_nt ?_
        refine aw_block ?_
        refine aw_state (aw_loop (ι := Bool × Int) (fun i => (memOf w0 Z0 [] [] [(fDat (tyList tyS_api_Item) [v0_0] a0), (fDat (tyList tyS_api_Item) [s31] (a0.take (l4i20).toNat)), (fPtr tyS_api_Item p13 u11)])) (fun i => (tab [(0, v0_0), (10, (str r26.1)), (12, (bool i.1)), (18, v0_0), (19, (iq (a0.length : Int))), (20, (iq l4i20)), (65, s31), (66, (iq ((a0.take (l4i20).toNat).length : Int))), (67, (iq i.2))])) (fun q i => f_lumref_World_L34 a0 l4i20 r26 kk28 q i.1 i.2 = some r) ?_ fu ((r26.1 == ([47] : List UInt8)), (0 : Int)) h) (fun w a hm hs => norm hm hs [] [1, 0, 2] [(0, v0_0), (10, (str r26.1)), (12, (bool (r26.1 == ([47] : List UInt8)))), (18, v0_0), (19, (iq (a0.length : Int))), (20, (iq l4i20)), (65, s31), (66, (iq ((a0.take (l4i20).toNat).length : Int))), (67, (iq (0 : Int)))] (by decide) ⟨rfl, rfl, rfl, rfl, rfl, rfl, rfl, rfl, rfl, trivial⟩)
        clear h
        rintro k33 ⟨l32b12, l32i67⟩ h
        have h : f_lumref_World_L34 a0 l4i20 r26 kk28 k33 l32b12 l32i67 = some r := h
        obtain _ | k33 := k33
        · rw [f_lumref_World_L34] at h; cases h
        rw [f_lumref_World_L34] at h
        refine aw_show (m := (memOf w0 Z0 [] [] [(fDat (tyList tyS_api_Item) [v0_0] a0), (fDat (tyList tyS_api_Item) [s31] (a0.take (l4i20).toNat)), (fPtr tyS_api_Item p13 u11)])) (S := (tab [(0, v0_0), (10, (str r26.1)), (12, (bool l32b12)), (18, v0_0), (19, (iq (a0.length : Int))), (20, (iq l4i20)), (65, s31), (66, (iq ((a0.take (l4i20).toNat).length : Int))), (67, (iq l32i67))])) ?_
        refine aw_sr ?_
        refine al_in rfl rfl rfl rfl ?_
        refine al_nt ?_
        refine aw_seq ?_
        refine aw_cond rfl (fun hb35 => ?_) (fun hb35 => ?_)
        ·replace h := bif_t hb35 h
         refine aw_skip ?_
         refine aq_then ?_
         obtain ⟨kk37, hkk37, h⟩ := lt_some h
         refine aw_seq_join (ι := Bool) (fun i => (memOf w0 Z0 [] [] [(fDat (tyList tyS_api_Item) [v0_0] a0), (fDat (tyList tyS_api_Item) [s31] (a0.take (l4i20).toNat)), (fPtr tyS_api_Item p13 u11)])) (fun i => (tab [(0, v0_0), (10, (str r26.1)), (12, (bool i)), (18, v0_0), (19, (iq (a0.length : Int))), (20, (iq l4i20)), (65, s31), (66, (iq ((a0.take (l4i20).toNat).length : Int))), (67, (iq l32i67))])) (fun i => kk37 i = some r) ?_ ?_
         ·rintro j36b12 h
          have h : kk37 j36b12 = some r := h
          rw [hkk37] at h
          dsimp only at h
          clear hkk37
          refine aw_show (m := (memOf w0 Z0 [] [] [(fDat (tyList tyS_api_Item) [v0_0] a0), (fDat (tyList tyS_api_Item) [s31] (a0.take (l4i20).toNat)), (fPtr tyS_api_Item p13 u11)])) (S := (tab [(0, v0_0), (10, (str r26.1)), (12, (bool j36b12)), (18, v0_0), (19, (iq (a0.length : Int))), (20, (iq l4i20)), (65, s31), (66, (iq ((a0.take (l4i20).toNat).length : Int))), (67, (iq l32i67))])) ?_
          refine aw_region ?_
          refine al_in rfl rfl rfl rfl ?_
          refine al_mv rfl rfl ?_
          refine al_nil ?_
          exact aq_again k33 (j36b12, (wq (l32i67 + (1 : Int)))) (Nat.lt_succ_self _) h (fun w a hm hs => norm hm hs [] [0, 1, 2] [(0, v0_0), (10, (str r26.1)), (12, (bool j36b12)), (18, v0_0), (19, (iq (a0.length : Int))), (20, (iq l4i20)), (65, s31), (66, (iq ((a0.take (l4i20).toNat).length : Int))), (67, (iq (wq (l32i67 + (1 : Int)))))] (by decide) ⟨rfl, rfl, rfl, rfl, rfl, rfl, rfl, rfl, rfl, trivial⟩)
         ·clear hkk37
          refine aw_block ?_
          refine aw_sr ?_
          obtain ⟨u38, hu39, h⟩ := opt_some h
          refine al_idxD 1 hu39 rfl rfl rfl Tryz.underlying34 sz57 rfl (fun p40 => ?_)
          refine al_val (ov_loadP (ds := [(str u38.Path), (iq u38.Kind), (iq u38.Mode), (iq u38.Time), (str u38.Bytes)]) 0 rfl encS_api_Item rfl Tryz.underlying57 sz57 rfl rfl rfl) ?_
          refine al_alloc (zs := [(str ([] : List UInt8)), (iq (0 : Int)), (iq (0 : Int)), (iq (0 : Int)), (str ([] : List UInt8))]) (zeroOf_to to57) rfl rfl (fun g41 => ?_)
          refine al_store (i := 0) (vs := [(str u38.Path), (iq u38.Kind), (iq u38.Mode), (iq u38.Time), (str u38.Bytes)]) (cs' := [(str u38.Path), (iq u38.Kind), (iq u38.Mode), (iq u38.Time), (str u38.Bytes)]) rfl rfl rfl sz57 (cv_rfl rfl) rfl (co_val rfl (co_val rfl (co_val rfl (co_val rfl (co_val rfl co_nil))))) (Nat.le_of_ble_eq_true rfl) rfl rfl ?_
          refine al_nt ?_
          refine aw_region ?_
          refine al_mv rfl rfl ?_
          refine al_mv rfl rfl ?_
          refine al_caseB 72 rfl (fun hb42 => ?_) (fun hb42 => ?_)
          ·replace h := bif_t hb42 h
           refine al_skip ?_
           refine al_skip ?_
           refine al_skip ?_
           refine al_skip ?_
           refine al_skip ?_
           refine al_skip ?_
           refine al_skip ?_
           refine al_skip ?_
           refine al_skip ?_
           refine al_val (ov_pick_t rfl rfl rfl) ?_
           refine al_as rfl rfl ?_
           refine al_nil ?_
           refine aq_block ?_
           exact aq_join true h (fun w a hm hs => norm hm hs [] [1, 2, 3] [(0, v0_0), (10, (str r26.1)), (12, (bool true)), (18, v0_0), (19, (iq (a0.length : Int))), (20, (iq l4i20)), (65, s31), (66, (iq ((a0.take (l4i20).toNat).length : Int))), (67, (iq l32i67))] (by decide) ⟨rfl, rfl, rfl, rfl, rfl, rfl, rfl, rfl, rfl, trivial⟩)
          ·replace h := bif_f hb42 h
           refine al_val (ov_fieldA (p := 0) rfl Tryz.underlying57 rfl sz9 rfl rfl rfl) ?_
           refine al_val (ov_load (i := 0) (v := (str u38.Path)) rfl rfl Tryz.underlying9 sz9 rfl rfl rfl rfl) ?_
           refine al_mv rfl rfl ?_
           refine al_val (ov_strCmp rfl rfl rfl rfl) ?_
           refine al_mv rfl rfl ?_
           refine al_caseB 77 rfl (fun hb43 => ?_) (fun hb43 => ?_)
           ·replace h := bif_t hb43 h
            refine al_val (ov_fieldA (p := 1) rfl Tryz.underlying57 rfl sz3 rfl rfl rfl) ?_
            refine al_val (ov_load (i := 0) (v := (iq u38.Kind)) rfl rfl Tryz.underlying3 sz3 rfl rfl rfl rfl) ?_
            refine al_in rfl rfl rfl rfl ?_
            refine al_val (ov_pick_t rfl rfl rfl) ?_
            refine al_val (ov_pick_f rfl rfl rfl) ?_
            refine al_as rfl rfl ?_
            refine al_nil ?_
            refine aq_block ?_
            exact aq_join (u38.Kind == (2 : Int)) h (fun w a hm hs => norm hm hs [] [1, 2, 3] [(0, v0_0), (10, (str r26.1)), (12, (bool (u38.Kind == (2 : Int)))), (18, v0_0), (19, (iq (a0.length : Int))), (20, (iq l4i20)), (65, s31), (66, (iq ((a0.take (l4i20).toNat).length : Int))), (67, (iq l32i67))] (by decide) ⟨rfl, rfl, rfl, rfl, rfl, rfl, rfl, rfl, rfl, trivial⟩)
           ·replace h := bif_f hb43 h
            refine al_skip ?_
            refine al_skip ?_
            refine al_skip ?_
            refine al_val (ov_pick_f rfl rfl rfl) ?_
            refine al_val (ov_pick_f rfl rfl rfl) ?_
            refine al_as rfl rfl ?_
            refine al_nil ?_
            refine aq_block ?_
            exact aq_join false h (fun w a hm hs => norm hm hs [] [1, 2, 3] [(0, v0_0), (10, (str r26.1)), (12, (bool false)), (18, v0_0), (19, (iq (a0.length : Int))), (20, (iq l4i20)), (65, s31), (66, (iq ((a0.take (l4i20).toNat).length : Int))), (67, (iq l32i67))] (by decide) ⟨rfl, rfl, rfl, rfl, rfl, rfl, rfl, rfl, rfl, trivial⟩)
        ·replace h := bif_f hb35 h
         refine aw_exit ?_
         refine aq_then_exit ?_
         refine aq_then_exit ?_
         refine aq_block_exit ?_
         exact aq_join l32b12 h (fun w a hm hs => norm hm hs [] [0, 2] [(0, v0_0), (12, (bool l32b12)), (18, v0_0), (19, (iq (a0.length : Int))), (20, (iq l4i20))] (by decide) ⟨rfl, rfl, rfl, rfl, rfl, trivial⟩)
      ·clear hkk19
       refine aw_sr ?_
       refine al_mv rfl rfl ?_
       refine al_in rfl rfl rfl rfl ?_
       refine al_nt ?_
       refine aw_cond rfl (fun hb44 => ?_) (fun hb44 => ?_)
       ·replace h := bif_t hb44 h
        refine aw_seq ?_
        obtain ⟨u45, hu46, h⟩ := opt_some h
        obtain ⟨r50, hc49, h⟩ := opt_some h
        refine aw_region_draw 13 [(33, (fun u => fEq u v0_0)), (34, (fun u => fEq u (iq l4i20))), (35, (fun u => fEq u (iq (wq (l4i20 - (1 : Int)))))), (36, (fun p47 => (fPtr tyS_api_Item p47 u45))), (37, (fun p48 => (fPtr tyStr p48 u45.Path))), (38, (fun u => fEq u (str u45.Path))), (39, (fun u => fEq u (pq g14))), (40, (fun u => fEq u (str u11.Path))), (41, (fun u => fEq u (Value.tuple #[(bool r50.1), (iq r50.2)]))), (32, (fun u => fEq u (Value.tuple #[(bool r50.1), (iq r50.2)]))), (42, (fun u => fEq u (bool r50.1))), (43, (fun u => fEq u (iq r50.2))), (6, (fun u => fEq u (bool r50.1)))] (tab [(0, v0_0), (3, (iq l4i20)), (4, (pq g14)), (18, v0_0), (19, (iq (a0.length : Int))), (20, (iq l4i20))]) mixed (by kernel_rfl) rfl rfl rfl (fun a hs => hs.tab _ (allT_mem ⟨rfl, rfl, rfl, rfl, rfl, rfl, trivial⟩)) ⟨⟨rfl, ld_val (ov_move rfl rfl)⟩, ⟨rfl, ld_val (ov_move rfl rfl)⟩, ⟨rfl, ld_eq (j := 1) rfl rfl (ld_val (ov_int rfl rfl rfl rfl))⟩, ⟨rfl, ld_eq (j := 0) rfl rfl (ld_eq (j := 2) rfl rfl (ld_of (of_idxD 1 hu46 rfl rfl rfl Tryz.underlying34 sz57 rfl)))⟩, ⟨rfl, ld_fact (j := 3) rfl rfl (fun p47 => ld_of (of_fieldD (pr := fun (y : S_api_Item) => y.Path) 0 rfl subS_api_Item_0 rfl Tryz.underlying57 rfl sz9 rfl rfl))⟩, ⟨rfl, ld_fact (j := 4) rfl rfl (fun p48 => ld_val (ov_loadP (ds := [(str u45.Path)]) 0 rfl (fun h => h) rfl Tryz.underlying9 sz9 rfl rfl rfl))⟩, ⟨rfl, ld_val (ov_fieldA (p := 0) rfl Tryz.underlying57 rfl sz9 rfl rfl rfl)⟩, ⟨rfl, ld_eq (j := 6) rfl rfl (ld_val (ov_load (i := 0) (v := (str u11.Path)) rfl rfl Tryz.underlying9 sz9 rfl rfl rfl rfl))⟩, ⟨rfl, ld_eq (j := 5) rfl rfl (ld_eq (j := 7) rfl rfl (ld_callV (vs := [(str u45.Path), (str u11.Path)]) (f_lumref_Less_ok fu u45.Path u11.Path hc49) [] pre_nil rfl Tryz.func38 rfl rfl rfl))⟩, ⟨rfl, ld_eq (j := 8) rfl rfl (ld_val (ov_move rfl rfl))⟩, ⟨rfl, ld_eq (j := 9) rfl rfl (ld_val (ov_extract rfl rfl rfl))⟩, ⟨rfl, ld_eq (j := 9) rfl rfl (ld_val (ov_extract rfl rfl rfl))⟩, ⟨rfl, ld_eq (j := 10) rfl rfl (ld_val (ov_assign rfl rfl))⟩, trivial⟩ ?_
        refine tl_eq 11 rfl ?_
        refine tl_eq 12 rfl ?_
        refine tl_done ?_
        refine al_as rfl rfl ?_
        refine al_nt ?_
        refine aw_sr ?_
        refine al_mv rfl rfl ?_
        refine al_val (ov_not rfl rfl) ?_
        refine al_nt ?_
        refine aw_cond rfl (fun hb51 => ?_) (fun hb51 => ?_)
        ·replace h := bif_t hb51 h
         refine aw_sr ?_
         refine al_as rfl rfl ?_
         refine al_nt ?_
         refine aw_ret ?_
         refine aq_then_ret ?_
         refine aq_block_ret ?_
         refine aq_then_ret ?_
         refine aq_then_ret ?_
         refine aq_block_ret ?_
         refine aq_then_ret ?_
         obtain rfl := Option.some.inj h
         exact fn_ret () [] [] rfl rfl rfl rfl (res1 rfl rfl) rfl rfl rfl (by decide)
        ·replace h := bif_f hb51 h
         refine aw_skip ?_
         exact aq_join () h (fun w a hm hs => norm hm hs [0] [1, 0] [(0, v0_0), (3, (iq l4i20)), (4, (pq g14)), (18, v0_0), (19, (iq (a0.length : Int))), (20, (iq l4i20))] (by decide) ⟨rfl, rfl, rfl, rfl, rfl, rfl, trivial⟩)
       ·replace h := bif_f hb44 h
        refine aw_skip ?_
        exact aq_join () h (fun w a hm hs => norm hm hs [0] [1, 0] [(0, v0_0), (3, (iq l4i20)), (4, (pq g14)), (18, v0_0), (19, (iq (a0.length : Int))), (20, (iq l4i20))] (by decide) ⟨rfl, rfl, rfl, rfl, rfl, rfl, trivial⟩)
   ·replace h := bif_f hb8 h
    refine aw_exit ?_
    refine aq_then_exit ?_
    refine aq_then_exit ?_
    refine aq_block_exit ?_
    exact aq_join () h (fun w a hm hs => norm hm hs [] [0] [] (by decide) trivial)
def f_lumref_oldErr (fu : Nat) (a0 : S_api_Old) : Option Int := (opt (f_lumref_Name fu a0.Name) fun (r3 : Int) => (bif (r3 != (0 : Int)) then (some r3) else (lt (fun (j5b17 : Bool) => (bif j5b17 then (some (1 : Int)) else (opt (f_lumref_World fu a0.World) fun (r9 : Int) => (some r9)))) fun (kk6 : Bool → Option Int) => (bif (decide (a0.Time < (0 : Int))) then (kk6 true) else (kk6 (decide (a0.Time > (4223371679 : Int))))))))
set_option maxHeartbeats 2000000 in
set_option maxRecDepth 100000 in
theorem f_lumref_oldErr_ok (fu : Nat) (v0_2 : Value) (a0 : S_api_Old) {r : Int} (h : f_lumref_oldErr fu a0 = some r) : FnOk Tryz.prog 20 [(ag [(str a0.Name), (int .i64 a0.Time), v0_2])] [(fDat (tyList tyS_api_Item) [v0_2] a0.World)] [] (fun (i : Unit) => { val := (int .i64 r) }) := by
 unfold f_lumref_oldErr at h
 refine fn_enter Tryz.func20 rfl Tryz.ntmps20 rfl (fun w0 Z0 => ?_)
 refine aw_sr ?_
 refine al_box (vs := [(str a0.Name), (iq a0.Time), v0_2]) rfl (cv_rfl rfl) rfl (fun g1 => ?_)
 refine al_as rfl rfl ?_
 refine al_nt ?_
 refine aw_seq ?_
 refine aw_sr ?_
 refine al_val (ov_fieldA (p := 0) rfl Tryz.underlying49 rfl sz9 rfl rfl rfl) ?_
 refine al_val (ov_load (i := 0) (v := (str a0.Name)) rfl rfl Tryz.underlying9 sz9 rfl rfl rfl rfl) ?_
 obtain ⟨r3, hc2, h⟩ := opt_some h
 refine al_call (vs := [(str a0.Name)]) (f_lumref_Name_ok fu a0.Name hc2) [] [] [0] pre_nil rfl (by simp) (by decide) (.inl rfl) rfl Tryz.func50 rfl rfl rfl (fun _ => ?_)
 refine al_as rfl rfl ?_
 refine al_nt ?_
 refine aw_sr ?_
 refine al_mv rfl rfl ?_
 refine al_in rfl rfl rfl rfl ?_
 refine al_nt ?_
 refine aw_cond rfl (fun hb4 => ?_) (fun hb4 => ?_)
 ·replace h := bif_t hb4 h
  refine aw_sr ?_
  refine al_mv rfl rfl ?_
  refine al_as rfl rfl ?_
  refine al_nt ?_
  refine aw_ret ?_
  refine aq_then_ret ?_
  obtain rfl := Option.some.inj h
  exact fn_ret () [] [] rfl rfl rfl rfl (res1 rfl rfl) rfl rfl rfl (by decide)
 ·replace h := bif_f hb4 h
  refine aw_skip ?_
  refine aq_then ?_
  refine aw_seq ?_
  obtain ⟨kk6, hkk6, h⟩ := lt_some h
  refine aw_seq_join (ι := Bool) (fun i => (memOf w0 Z0 [] [(oBox g1 49 [(str a0.Name), (iq a0.Time), v0_2])] [(fDat (tyList tyS_api_Item) [v0_2] a0.World)])) (fun i => (tab [(1, (pq g1)), (17, (bool i))])) (fun i => kk6 i = some r) ?_ ?_
  ·rintro j5b17 h
   have h : kk6 j5b17 = some r := h
   rw [hkk6] at h
   dsimp only at h
   clear hkk6
   refine aw_show (m := (memOf w0 Z0 [] [(oBox g1 49 [(str a0.Name), (iq a0.Time), v0_2])] [(fDat (tyList tyS_api_Item) [v0_2] a0.World)])) (S := (tab [(1, (pq g1)), (17, (bool j5b17))])) ?_
   refine aw_cond rfl (fun hb7 => ?_) (fun hb7 => ?_)
   ·replace h := bif_t hb7 h
    refine aw_sr ?_
    refine al_as rfl rfl ?_
    refine al_nt ?_
    refine aw_ret ?_
    refine aq_then_ret ?_
    obtain rfl := Option.some.inj h
    exact fn_ret () [] [] rfl rfl rfl rfl (res1 rfl rfl) rfl rfl rfl (by decide)
   ·replace h := bif_f hb7 h
    refine aw_skip ?_
    refine aq_tr ?_
    refine al_val (ov_fieldA (p := 2) rfl Tryz.underlying49 rfl sz34 rfl rfl rfl) ?_
    refine al_val (ov_load (i := 0) (v := v0_2) rfl rfl Tryz.underlying34 sz34 rfl rfl rfl rfl) ?_
    obtain ⟨r9, hc8, h⟩ := opt_some h
    refine al_call (vs := [v0_2]) (f_lumref_World_ok fu v0_2 a0.World hc8) [] [] [0] (pre_fz 0 rfl pre_nil) rfl (by simp) (by decide) (.inl rfl) rfl Tryz.func13 rfl rfl rfl (fun _ => ?_)
    refine al_as rfl rfl ?_
    refine al_nt ?_
    refine aw_ret ?_
    obtain rfl := Option.some.inj h
    exact fn_ret () [] [] rfl rfl rfl rfl (res1 rfl rfl) rfl rfl rfl (by decide)
  ·clear hkk6
   refine aw_region ?_
   refine al_val (ov_fieldA (p := 1) rfl Tryz.underlying49 rfl sz3 rfl rfl rfl) ?_
   refine al_val (ov_load (i := 0) (v := (iq a0.Time)) rfl rfl Tryz.underlying3 sz3 rfl rfl rfl rfl) ?_
   refine al_in rfl rfl rfl rfl ?_
   refine al_mv rfl rfl ?_
   refine al_caseB 13 rfl (fun hb10 => ?_) (fun hb10 => ?_)
   ·replace h := bif_t hb10 h
    refine al_skip ?_
    refine al_skip ?_
    refine al_skip ?_
    refine al_val (ov_pick_t rfl rfl rfl) ?_
    refine al_nil ?_
    exact aq_join true h (fun w a hm hs => norm hm hs [0] [0] [(1, (pq g1)), (17, (bool true))] (by decide) ⟨rfl, rfl, trivial⟩)
   ·replace h := bif_f hb10 h
    refine al_val (ov_fieldA (p := 1) rfl Tryz.underlying49 rfl sz3 rfl rfl rfl) ?_
    refine al_val (ov_load (i := 0) (v := (iq a0.Time)) rfl rfl Tryz.underlying3 sz3 rfl rfl rfl rfl) ?_
    refine al_in rfl rfl rfl rfl ?_
    refine al_val (ov_pick_f rfl rfl rfl) ?_
    refine al_nil ?_
    exact aq_join (decide (a0.Time > (4223371679 : Int))) h (fun w a hm hs => norm hm hs [0] [0] [(1, (pq g1)), (17, (bool (decide (a0.Time > (4223371679 : Int)))))] (by decide) ⟨rfl, rfl, trivial⟩)
def f_lumref_PutText (fu : Nat) (a0 : (List UInt8)) : Option ((List UInt8) × Int) := (bif (decide ((a0.length : Int) > (1024 : Int))) then (some (([] : List UInt8), (2 : Int))) else (opt (f_strings_ReplaceAll fu a0 ([0] : List UInt8) ([0, 255] : List UInt8)) fun (r3 : (List UInt8)) => (req (r3.length + ([0, 0] : List UInt8).length ≤ 9223372036854775807) (some ((r3 ++ ([0, 0] : List UInt8)), (0 : Int))))))
set_option maxHeartbeats 2000000 in
set_option maxRecDepth 100000 in
theorem f_lumref_PutText_ok (fu : Nat) (a0 : (List UInt8)) {r : ((List UInt8) × Int)} (h : f_lumref_PutText fu a0 = some r) : FnOk Tryz.prog 21 [(str a0)] [uMax] [] (fun (i : Unit) => { val := (Value.tuple #[(str r.1), (int .i64 r.2)]) }) := by
 unfold f_lumref_PutText at h
 refine fn_enter Tryz.func21 rfl Tryz.ntmps21 rfl (fun w0 Z0 => ?_)
 refine aw_sr ?_
 refine al_as rfl rfl ?_
 refine al_as rfl rfl ?_
 refine al_nt ?_
 refine aw_seq ?_
 refine aw_sr ?_
 refine al_mv rfl rfl ?_
 refine al_val (ov_strLen Tryz.underlying9 rfl rfl) ?_
 refine al_in rfl rfl rfl rfl ?_
 refine al_nt ?_
 refine aw_cond rfl (fun hb1 => ?_) (fun hb1 => ?_)
 ·replace h := bif_t hb1 h
  refine aw_sr ?_
  refine al_as rfl rfl ?_
  refine al_as rfl rfl ?_
  refine al_nt ?_
  refine aw_ret ?_
  refine aq_then_ret ?_
  obtain rfl := Option.some.inj h
  exact fn_ret () [] [] rfl rfl rfl rfl (res2 rfl rfl rfl) rfl rfl rfl (by decide)
 ·replace h := bif_f hb1 h
  refine aw_skip ?_
  refine aq_tr ?_
  refine al_mv rfl rfl ?_
  obtain ⟨r3, hc2, h⟩ := opt_some h
  refine al_call (vs := [(str a0), (str ([0] : List UInt8)), (str ([0, 255] : List UInt8))]) (f_strings_ReplaceAll_ok fu a0 ([0] : List UInt8) ([0, 255] : List UInt8) hc2) [] [] [] (pre_fz 0 rfl pre_nil) rfl (by simp) (by decide) (.inl rfl) rfl Tryz.func51 rfl rfl rfl (fun _ => ?_)
  obtain ⟨hc4, h⟩ := req_some h
  refine al_val (ov_strAdd hc4 rfl rfl rfl) ?_
  refine al_as rfl rfl ?_
  refine al_as rfl rfl ?_
  refine al_nt ?_
  refine aw_ret ?_
  obtain rfl := Option.some.inj h
  exact fn_ret () [] [] rfl rfl rfl rfl (res2 rfl rfl rfl) rfl rfl rfl (by decide)
def f_lumref_digits : Nat → Int → Option (List UInt8)
  | 0, _ => none
  | fu + 1, a0 => (bif (a0 == (0 : Int)) then (some ([] : List UInt8)) else (opt (f_lumref_digits fu (IntKind.u64.wrap ((a0).tdiv (256 : Int)))) fun (r3 : (List UInt8)) => (req (0 ≤ (IntKind.u8.wrap ((a0).tmod (256 : Int))) ∧ (IntKind.u8.wrap ((a0).tmod (256 : Int))) ≤ 255) (req (r3.length + ([(UInt8.ofNat ((IntKind.u8.wrap ((a0).tmod (256 : Int)))).toNat)]).length ≤ 9223372036854775807) (some (r3 ++ ([(UInt8.ofNat ((IntKind.u8.wrap ((a0).tmod (256 : Int)))).toNat)])))))))
set_option maxHeartbeats 2000000 in
set_option maxRecDepth 100000 in
theorem f_lumref_digits_ok (fu : Nat) (a0 : Int) {r : (List UInt8)} (h : f_lumref_digits fu a0 = some r) : FnOk Tryz.prog 52 [(int .u64 a0)] [] [] (fun (i : Unit) => { val := (str r) }) := by
 cases fu with
 | zero => rw [f_lumref_digits] at h; cases h
 | succ fu =>
  rw [f_lumref_digits] at h
  refine fn_enter Tryz.func52 rfl Tryz.ntmps52 rfl (fun w0 Z0 => ?_)
  refine aw_sr ?_
  refine al_as rfl rfl ?_
  refine al_nt ?_
  refine aw_seq ?_
  refine aw_sr ?_
  refine al_mv rfl rfl ?_
  refine al_in rfl rfl rfl rfl ?_
  refine al_nt ?_
  refine aw_cond rfl (fun hb1 => ?_) (fun hb1 => ?_)
  ·replace h := bif_t hb1 h
   refine aw_sr ?_
   refine al_as rfl rfl ?_
   refine al_nt ?_
   refine aw_ret ?_
   refine aq_then_ret ?_
   obtain rfl := Option.some.inj h
   exact fn_ret () [] [] rfl rfl rfl rfl (res1 rfl rfl) rfl rfl rfl (by decide)
  ·replace h := bif_f hb1 h
   refine aw_skip ?_
   refine aq_then ?_
   refine aw_seq ?_
   obtain ⟨r3, hc2, h⟩ := opt_some h
   obtain ⟨hc5, h⟩ := req_some h
   obtain ⟨hc6, h⟩ := req_some h
   refine aw_region_draw 9 [(5, (fun u => fEq u (uq a0))), (6, (fun u => fEq u (uq (wu ((a0).tdiv (256 : Int)))))), (7, (fun u => fEq u (str r3))), (8, (fun u => fEq u (uq a0))), (9, (fun u => fEq u (uq ((a0).tmod (256 : Int))))), (10, (fun u => fEq u (i8 (w8 ((a0).tmod (256 : Int)))))), (11, (fun v4 => (fDat (tyList tyU8) [v4] [(UInt8.ofNat ((w8 ((a0).tmod (256 : Int)))).toNat)]))), (12, (fun u => fEq u (str [(UInt8.ofNat ((w8 ((a0).tmod (256 : Int)))).toNat)]))), (13, (fun u => fEq u (str (r3 ++ ([(UInt8.ofNat ((w8 ((a0).tmod (256 : Int)))).toNat)])))))] (tab [(0, (uq a0)), (2, (str ([] : List UInt8)))]) mixed (by kernel_rfl) rfl rfl rfl (fun a hs => hs.tab _ (allT_mem ⟨rfl, rfl, trivial⟩)) ⟨⟨rfl, ld_val (ov_move rfl rfl)⟩, ⟨rfl, ld_eq (j := 0) rfl rfl (ld_val (ov_quo (by decide) rfl rfl rfl))⟩, ⟨rfl, ld_eq (j := 1) rfl rfl (ld_callV (vs := [(uq (wu ((a0).tdiv (256 : Int))))]) (f_lumref_digits_ok fu (wu ((a0).tdiv (256 : Int))) hc2) [] pre_nil rfl Tryz.func52 rfl rfl rfl)⟩, ⟨rfl, ld_val (ov_move rfl rfl)⟩, ⟨rfl, ld_eq (j := 3) rfl rfl (ld_val (ov_rem (by decide) rfl rfl rfl))⟩, ⟨rfl, ld_eq (j := 4) rfl rfl (ld_val (ov_convInt (by rw [Tryz.underlying55]; rfl) Tryz.underlying5 rfl rfl))⟩, ⟨rfl, ld_eq (j := 5) rfl rfl (ld_buildSlice (τ := tyU8) (e := 5) (k := 1) (cs := [(i8 (w8 ((a0).tmod (256 : Int))))]) (xs := [(UInt8.ofNat ((w8 ((a0).tmod (256 : Int)))).toNat)]) rfl (by decide) rfl (fun w a hm hs => ⟨([(i8 (w8 ((a0).tmod (256 : Int))))]).toArray, rfl, by simp only [List.map_toArray, List.map_cons, List.map_nil, hs.ev (x := .tmp 10) rfl]; exact run_bs [(i8 (w8 ((a0).tmod (256 : Int))))] [(i8 (w8 ((a0).tmod (256 : Int))))] Tryz.underlying58 to5 rfl rfl (bs_cons (l := [(i8 (w8 ((a0).tmod (256 : Int))))]) (cs := []) (cv_rfl rfl) rfl bs_nil) hm⟩) (fun hm => ⟨_, _, rfl, (fun _ => u8_rep hc5) hm, rfl⟩) rfl)⟩, ⟨rfl, ld_fact (j := 6) rfl rfl (fun v4 => ld_val (ov_toStr 0 rfl rfl Tryz.underlying58 Tryz.underlying5 Tryz.underlying9 rfl))⟩, ⟨rfl, ld_eq (j := 2) rfl rfl (ld_eq (j := 7) rfl rfl (ld_val (ov_strAdd hc6 rfl rfl rfl)))⟩, trivial⟩ ?_
   refine tl_eq 8 rfl ?_
   refine tl_done ?_
   refine al_as rfl rfl ?_
   refine al_nt ?_
   refine aw_ret ?_
   obtain rfl := Option.some.inj h
   exact fn_ret () [] [] rfl rfl rfl rfl (res1 rfl rfl) rfl rfl rfl (by decide)
def f_lumref_Put (fu : Nat) (a0 : Int) : Option (List UInt8) := (opt (f_lumref_digits fu a0) fun (r2 : (List UInt8)) => (req (0 ≤ (IntKind.u8.wrap (r2.length : Int)) ∧ (IntKind.u8.wrap (r2.length : Int)) ≤ 255) (req (([(UInt8.ofNat ((IntKind.u8.wrap (r2.length : Int))).toNat)]).length + r2.length ≤ 9223372036854775807) (some (([(UInt8.ofNat ((IntKind.u8.wrap (r2.length : Int))).toNat)]) ++ r2)))))
set_option maxHeartbeats 2000000 in
set_option maxRecDepth 100000 in
theorem f_lumref_Put_ok (fu : Nat) (a0 : Int) {r : (List UInt8)} (h : f_lumref_Put fu a0 = some r) : FnOk Tryz.prog 22 [(int .u64 a0)] [] [] (fun (i : Unit) => { val := (str r) }) := by
 unfold f_lumref_Put at h
 refine fn_enter Tryz.func22 rfl Tryz.ntmps22 rfl (fun w0 Z0 => ?_)
 refine aw_sr ?_
 refine al_as rfl rfl ?_
 refine al_nt ?_
 refine aw_sr ?_
 refine al_mv rfl rfl ?_
 obtain ⟨r2, hc1, h⟩ := opt_some h
 refine al_call (vs := [(uq a0)]) (f_lumref_digits_ok fu a0 hc1) [] [] [] pre_nil rfl (by simp) (by decide) (.inl rfl) rfl Tryz.func52 rfl rfl rfl (fun _ => ?_)
 refine al_as rfl rfl ?_
 refine al_nt ?_
 refine aw_sr ?_
 refine al_mv rfl rfl ?_
 refine al_val (ov_strLen Tryz.underlying9 rfl rfl) ?_
 refine al_val (ov_convInt (by rw [Tryz.underlying3]; rfl) Tryz.underlying5 rfl rfl) ?_
 obtain ⟨hc4, h⟩ := req_some h
 refine al_buildSlice (τ := tyU8) (e := 5) (k := 1) (sz := 0) (by_ := 0) (z := undef) (cs := [(i8 (w8 (r2.length : Int)))]) (xs := [(UInt8.ofNat ((w8 (r2.length : Int))).toNat)]) rfl (by decide) (fun w a hm hs => ⟨([(i8 (w8 (r2.length : Int)))]).toArray, rfl, by simp only [List.map_toArray, List.map_cons, List.map_nil, hs.ev (x := .tmp 8) rfl]; exact run_bs [(i8 (w8 (r2.length : Int)))] [(i8 (w8 (r2.length : Int)))] Tryz.underlying58 to5 rfl rfl (bs_cons (l := [(i8 (w8 (r2.length : Int)))]) (cs := []) (cv_rfl rfl) rfl bs_nil) hm⟩) (fun hm => ⟨_, _, rfl, (fun _ => u8_rep hc4) hm, rfl⟩) rfl (fun v3 => ?_)
 refine al_val (ov_toStrR 0 rfl rfl Tryz.underlying58 Tryz.underlying5 Tryz.underlying9 rfl) ?_
 refine al_mv rfl rfl ?_
 obtain ⟨hc5, h⟩ := req_some h
 refine al_val (ov_strAdd hc5 rfl rfl rfl) ?_
 refine al_as rfl rfl ?_
 refine al_nt ?_
 refine aw_ret ?_
 obtain rfl := Option.some.inj h
 exact fn_ret () [] [] rfl rfl rfl rfl (res1 rfl rfl) rfl rfl rfl (by decide)
def f_lumref_turned_L7 (a0 : (List UInt8)) (kk4 : ((List UInt8) → Option (List UInt8))) : Nat → (List UInt8) → Int → Option (List UInt8)
  | 0, _, _ => none
  | k6 + 1, l5x3, l5i9 => (bif (decide (l5i9 < (a0.length : Int))) then (opt (at? l5x3 l5i9) fun (u9 : UInt8) => (opt (at? l5x3 l5i9) fun (u13 : UInt8) => (req (0 ≤ (IntKind.u8.wrap ((255 : Int) - (u9.toNat : Int))) ∧ (IntKind.u8.wrap ((255 : Int) - (u9.toNat : Int))) ≤ 255) (f_lumref_turned_L7 a0 kk4 k6 (l5x3.set (l5i9).toNat (UInt8.ofNat ((IntKind.u8.wrap ((255 : Int) - (u9.toNat : Int)))).toNat)) (IntKind.i64.wrap (l5i9 + (1 : Int))))))) else (kk4 l5x3))
def f_lumref_turned (fu : Nat) (a0 : (List UInt8)) : Option (List UInt8) := (req (a0.length ≤ 9223372036854775807) (lt (fun (j3x3 : (List UInt8)) => (some j3x3)) fun (kk4 : (List UInt8) → Option (List UInt8)) => (f_lumref_turned_L7 a0 kk4 fu a0 (0 : Int))))
set_option maxHeartbeats 2000000 in
set_option maxRecDepth 100000 in
theorem f_lumref_turned_ok (fu : Nat) (a0 : (List UInt8)) {r : (List UInt8)} (h : f_lumref_turned fu a0 = some r) : FnOk Tryz.prog 53 [(str a0)] [] [] (fun (i : Unit) => { val := (str r) }) := by
 unfold f_lumref_turned at h
 refine fn_enter Tryz.func53 rfl Tryz.ntmps53 rfl (fun w0 Z0 => ?_)
 refine aw_sr ?_
 refine al_as rfl rfl ?_
 refine al_nt ?_
 refine aw_sr ?_
 refine al_mv rfl rfl ?_
 obtain ⟨hc1, h⟩ := req_some h
 refine al_bytesO hc1 rfl Tryz.underlying9 Tryz.underlying58 Tryz.underlying5 rfl (fun s2 => ?_)
 refine al_as rfl rfl ?_
 refine al_nt ?_
 obtain ⟨kk4, hkk4, h⟩ := lt_some h
 refine aw_seq_join (ι := (List UInt8)) (fun i => (memOf w0 Z0 [] [(oBy s2 5 i)] [])) (fun i => (tab [(3, s2)])) (fun i => kk4 i = some r) ?_ ?_
 ·rintro j3x3 h
  have h : kk4 j3x3 = some r := h
  rw [hkk4] at h
  dsimp only at h
  clear hkk4
  refine aw_show (m := (memOf w0 Z0 [] [(oBy s2 5 j3x3)] [])) (S := (tab [(3, s2)])) ?_
  refine aw_sr ?_
  refine al_mv rfl rfl ?_
  refine al_val (ov_toStrO 0 rfl rfl Tryz.underlying58 Tryz.underlying5 Tryz.underlying9 rfl) ?_
  refine al_as rfl rfl ?_
  refine al_nt ?_
  refine aw_ret ?_
  obtain rfl := Option.some.inj h
  exact fn_ret () [] [] rfl rfl rfl rfl (res1 rfl rfl) rfl rfl rfl (by decide)
 ·clear hkk4
  refine aw_sr ?_
  refine al_mv rfl rfl ?_
  refine al_val (ov_lenO 0 rfl rfl Tryz.underlying58 rfl) ?_
  refine al_mv rfl rfl ?_
  refine al_nt ?_
  refine aw_block ?_
  refine aw_state (aw_loop (ι := (List UInt8) × Int) (fun i => (memOf w0 Z0 [] [(oBy s2 5 i.1)] [])) (fun i => (tab [(3, s2), (8, (iq (a0.length : Int))), (9, (iq i.2))])) (fun q i => f_lumref_turned_L7 a0 kk4 q i.1 i.2 = some r) ?_ fu (a0, (0 : Int)) h) (fun w a hm hs => norm hm hs [0] [] [(3, s2), (8, (iq (a0.length : Int))), (9, (iq (0 : Int)))] (by decide) ⟨rfl, rfl, rfl, trivial⟩)
  clear h
  rintro k6 ⟨l5x3, l5i9⟩ h
  have h : f_lumref_turned_L7 a0 kk4 k6 l5x3 l5i9 = some r := h
  obtain _ | k6 := k6
  · rw [f_lumref_turned_L7] at h; cases h
  rw [f_lumref_turned_L7] at h
  refine aw_show (m := (memOf w0 Z0 [] [(oBy s2 5 l5x3)] [])) (S := (tab [(3, s2), (8, (iq (a0.length : Int))), (9, (iq l5i9))])) ?_
  refine aw_sr ?_
  refine al_in rfl rfl rfl rfl ?_
  refine al_nt ?_
  refine aw_seq ?_
  refine aw_cond rfl (fun hb8 => ?_) (fun hb8 => ?_)
  ·replace h := bif_t hb8 h
   refine aw_skip ?_
   refine aq_then ?_
   refine aw_seq ?_
   refine aw_block ?_
   refine aw_sr ?_
   refine al_mv rfl rfl ?_
   refine al_as rfl rfl ?_
   refine al_nt ?_
   refine aw_region ?_
   refine al_mv rfl rfl ?_
   refine al_mv rfl rfl ?_
   refine al_mv rfl rfl ?_
   refine al_mv rfl rfl ?_
   obtain ⟨u9, hu10, h⟩ := opt_some h
   refine al_idxO 0 (at_some hu10).1 (at_some hu10).2.1 rfl rfl rfl Tryz.underlying58 sz5 rfl (fun p11 hp12 => ?_)
   refine al_val (ov_loadO (ds := [(i8 (u9.toNat : Int))]) 0 rfl hp12 (at_some hu10).2.2 (fun h => h) rfl Tryz.underlying5 sz5 rfl rfl rfl) ?_
   refine al_in rfl rfl rfl rfl ?_
   obtain ⟨u13, hu14, h⟩ := opt_some h
   refine al_idxO 0 (at_some hu14).1 (at_some hu14).2.1 rfl rfl rfl Tryz.underlying58 sz5 rfl (fun p15 hp16 => ?_)
   obtain ⟨hc17, h⟩ := req_some h
   refine al_storeO (k := (l5i9).toNat) (x := (UInt8.ofNat ((w8 ((255 : Int) - (u9.toNat : Int)))).toNat)) (vs := [(i8 (w8 ((255 : Int) - (u9.toNat : Int))))]) 0 rfl hp16 (idx_lt hu14) rfl rfl (cv_rfl rfl) (fun _ => u8_rep hc17) sz5 rfl ?_
   refine al_nil ?_
   refine aq_block ?_
   refine aq_then ?_
   refine aw_region ?_
   refine al_in rfl rfl rfl rfl ?_
   refine al_mv rfl rfl ?_
   refine al_nil ?_
   exact aq_again k6 ((l5x3.set (l5i9).toNat (UInt8.ofNat ((w8 ((255 : Int) - (u9.toNat : Int)))).toNat)), (wq (l5i9 + (1 : Int)))) (Nat.lt_succ_self _) h (fun w a hm hs => norm hm hs [0] [] [(3, s2), (8, (iq (a0.length : Int))), (9, (iq (wq (l5i9 + (1 : Int)))))] (by decide) ⟨rfl, rfl, rfl, trivial⟩)
  ·replace h := bif_f hb8 h
   refine aw_exit ?_
   refine aq_then_exit ?_
   refine aq_then_exit ?_
   refine aq_block_exit ?_
   exact aq_join l5x3 h (fun w a hm hs => norm hm hs [0] [] [(3, s2)] (by decide) ⟨rfl, trivial⟩)
def f_lumref_PutInt (fu : Nat) (a0 : Int) : Option (List UInt8) := (bif (decide (a0 < (0 : Int))) then (opt (f_lumref_digits fu (IntKind.u64.wrap (IntKind.i64.wrap ((-1 : Int) - a0)))) fun (r3 : (List UInt8)) => (req (0 ≤ (IntKind.u8.wrap (IntKind.i64.wrap ((127 : Int) - (r3.length : Int)))) ∧ (IntKind.u8.wrap (IntKind.i64.wrap ((127 : Int) - (r3.length : Int)))) ≤ 255) (opt (f_lumref_turned fu r3) fun (r7 : (List UInt8)) => (req (([(UInt8.ofNat ((IntKind.u8.wrap (IntKind.i64.wrap ((127 : Int) - (r3.length : Int))))).toNat)]).length + r7.length ≤ 9223372036854775807) (some (([(UInt8.ofNat ((IntKind.u8.wrap (IntKind.i64.wrap ((127 : Int) - (r3.length : Int))))).toNat)]) ++ r7)))))) else (opt (f_lumref_digits fu (IntKind.u64.wrap a0)) fun (r10 : (List UInt8)) => (req (0 ≤ (IntKind.u8.wrap (IntKind.i64.wrap ((128 : Int) + (r10.length : Int)))) ∧ (IntKind.u8.wrap (IntKind.i64.wrap ((128 : Int) + (r10.length : Int)))) ≤ 255) (req (([(UInt8.ofNat ((IntKind.u8.wrap (IntKind.i64.wrap ((128 : Int) + (r10.length : Int))))).toNat)]).length + r10.length ≤ 9223372036854775807) (some (([(UInt8.ofNat ((IntKind.u8.wrap (IntKind.i64.wrap ((128 : Int) + (r10.length : Int))))).toNat)]) ++ r10))))))
set_option maxHeartbeats 2000000 in
set_option maxRecDepth 100000 in
theorem f_lumref_PutInt_ok (fu : Nat) (a0 : Int) {r : (List UInt8)} (h : f_lumref_PutInt fu a0 = some r) : FnOk Tryz.prog 23 [(int .i64 a0)] [] [] (fun (i : Unit) => { val := (str r) }) := by
 unfold f_lumref_PutInt at h
 refine fn_enter Tryz.func23 rfl Tryz.ntmps23 rfl (fun w0 Z0 => ?_)
 refine aw_sr ?_
 refine al_as rfl rfl ?_
 refine al_nt ?_
 refine aw_seq ?_
 refine aw_sr ?_
 refine al_mv rfl rfl ?_
 refine al_in rfl rfl rfl rfl ?_
 refine al_nt ?_
 refine aw_cond rfl (fun hb1 => ?_) (fun hb1 => ?_)
 ·replace h := bif_t hb1 h
  refine aw_sr ?_
  refine al_mv rfl rfl ?_
  refine al_in rfl rfl rfl rfl ?_
  refine al_val (ov_convInt (by rw [Tryz.underlying3]; rfl) Tryz.underlying55 rfl rfl) ?_
  obtain ⟨r3, hc2, h⟩ := opt_some h
  refine al_call (vs := [(uq (wu (wq ((-1 : Int) - a0))))]) (f_lumref_digits_ok fu (wu (wq ((-1 : Int) - a0))) hc2) [] [] [] pre_nil rfl (by simp) (by decide) (.inl rfl) rfl Tryz.func52 rfl rfl rfl (fun _ => ?_)
  refine al_as rfl rfl ?_
  refine al_nt ?_
  refine aw_seq ?_
  obtain ⟨hc5, h⟩ := req_some h
  obtain ⟨r7, hc6, h⟩ := opt_some h
  obtain ⟨hc8, h⟩ := req_some h
  refine aw_region_draw 9 [(11, (fun u => fEq u (str r3))), (12, (fun u => fEq u (iq (r3.length : Int)))), (13, (fun u => fEq u (iq (wq ((127 : Int) - (r3.length : Int)))))), (14, (fun u => fEq u (i8 (w8 (wq ((127 : Int) - (r3.length : Int))))))), (15, (fun v4 => (fDat (tyList tyU8) [v4] [(UInt8.ofNat ((w8 (wq ((127 : Int) - (r3.length : Int))))).toNat)]))), (16, (fun u => fEq u (str [(UInt8.ofNat ((w8 (wq ((127 : Int) - (r3.length : Int))))).toNat)]))), (17, (fun u => fEq u (str r3))), (18, (fun u => fEq u (str r7))), (19, (fun u => fEq u (str (([(UInt8.ofNat ((w8 (wq ((127 : Int) - (r3.length : Int))))).toNat)]) ++ r7))))] (tab [(2, (str ([] : List UInt8))), (3, (str r3))]) mixed (by kernel_rfl) rfl rfl rfl (fun a hs => hs.tab _ (allT_mem ⟨rfl, rfl, trivial⟩)) ⟨⟨rfl, ld_val (ov_move rfl rfl)⟩, ⟨rfl, ld_eq (j := 0) rfl rfl (ld_val (ov_strLen Tryz.underlying9 rfl rfl))⟩, ⟨rfl, ld_eq (j := 1) rfl rfl (ld_val (ov_int rfl rfl rfl rfl))⟩, ⟨rfl, ld_eq (j := 2) rfl rfl (ld_val (ov_convInt (by rw [Tryz.underlying3]; rfl) Tryz.underlying5 rfl rfl))⟩, ⟨rfl, ld_eq (j := 3) rfl rfl (ld_buildSlice (τ := tyU8) (e := 5) (k := 1) (cs := [(i8 (w8 (wq ((127 : Int) - (r3.length : Int)))))]) (xs := [(UInt8.ofNat ((w8 (wq ((127 : Int) - (r3.length : Int))))).toNat)]) rfl (by decide) rfl (fun w a hm hs => ⟨([(i8 (w8 (wq ((127 : Int) - (r3.length : Int)))))]).toArray, rfl, by simp only [List.map_toArray, List.map_cons, List.map_nil, hs.ev (x := .tmp 14) rfl]; exact run_bs [(i8 (w8 (wq ((127 : Int) - (r3.length : Int)))))] [(i8 (w8 (wq ((127 : Int) - (r3.length : Int)))))] Tryz.underlying58 to5 rfl rfl (bs_cons (l := [(i8 (w8 (wq ((127 : Int) - (r3.length : Int)))))]) (cs := []) (cv_rfl rfl) rfl bs_nil) hm⟩) (fun hm => ⟨_, _, rfl, (fun _ => u8_rep hc5) hm, rfl⟩) rfl)⟩, ⟨rfl, ld_fact (j := 4) rfl rfl (fun v4 => ld_val (ov_toStr 0 rfl rfl Tryz.underlying58 Tryz.underlying5 Tryz.underlying9 rfl))⟩, ⟨rfl, ld_val (ov_move rfl rfl)⟩, ⟨rfl, ld_eq (j := 6) rfl rfl (ld_callV (vs := [(str r3)]) (f_lumref_turned_ok fu r3 hc6) [] pre_nil rfl Tryz.func53 rfl rfl rfl)⟩, ⟨rfl, ld_eq (j := 5) rfl rfl (ld_eq (j := 7) rfl rfl (ld_val (ov_strAdd hc8 rfl rfl rfl)))⟩, trivial⟩ ?_
  refine tl_eq 8 rfl ?_
  refine tl_done ?_
  refine al_as rfl rfl ?_
  refine al_nt ?_
  refine aw_ret ?_
  refine aq_then_ret ?_
  obtain rfl := Option.some.inj h
  exact fn_ret () [] [] rfl rfl rfl rfl (res1 rfl rfl) rfl rfl rfl (by decide)
 ·replace h := bif_f hb1 h
  refine aw_skip ?_
  refine aq_tr ?_
  refine al_mv rfl rfl ?_
  refine al_val (ov_convInt (by rw [Tryz.underlying3]; rfl) Tryz.underlying55 rfl rfl) ?_
  obtain ⟨r10, hc9, h⟩ := opt_some h
  refine al_call (vs := [(uq (wu a0))]) (f_lumref_digits_ok fu (wu a0) hc9) [] [] [] pre_nil rfl (by simp) (by decide) (.inl rfl) rfl Tryz.func52 rfl rfl rfl (fun _ => ?_)
  refine al_as rfl rfl ?_
  refine al_nt ?_
  refine aw_sr ?_
  refine al_mv rfl rfl ?_
  refine al_val (ov_strLen Tryz.underlying9 rfl rfl) ?_
  refine al_in rfl rfl rfl rfl ?_
  refine al_val (ov_convInt (by rw [Tryz.underlying3]; rfl) Tryz.underlying5 rfl rfl) ?_
  obtain ⟨hc12, h⟩ := req_some h
  refine al_buildSlice (τ := tyU8) (e := 5) (k := 1) (sz := 0) (by_ := 0) (z := undef) (cs := [(i8 (w8 (wq ((128 : Int) + (r10.length : Int)))))]) (xs := [(UInt8.ofNat ((w8 (wq ((128 : Int) + (r10.length : Int))))).toNat)]) rfl (by decide) (fun w a hm hs => ⟨([(i8 (w8 (wq ((128 : Int) + (r10.length : Int)))))]).toArray, rfl, by simp only [List.map_toArray, List.map_cons, List.map_nil, hs.ev (x := .tmp 26) rfl]; exact run_bs [(i8 (w8 (wq ((128 : Int) + (r10.length : Int)))))] [(i8 (w8 (wq ((128 : Int) + (r10.length : Int)))))] Tryz.underlying58 to5 rfl rfl (bs_cons (l := [(i8 (w8 (wq ((128 : Int) + (r10.length : Int)))))]) (cs := []) (cv_rfl rfl) rfl bs_nil) hm⟩) (fun hm => ⟨_, _, rfl, (fun _ => u8_rep hc12) hm, rfl⟩) rfl (fun v11 => ?_)
  refine al_val (ov_toStrR 0 rfl rfl Tryz.underlying58 Tryz.underlying5 Tryz.underlying9 rfl) ?_
  refine al_mv rfl rfl ?_
  obtain ⟨hc13, h⟩ := req_some h
  refine al_val (ov_strAdd hc13 rfl rfl rfl) ?_
  refine al_as rfl rfl ?_
  refine al_nt ?_
  refine aw_ret ?_
  obtain rfl := Option.some.inj h
  exact fn_ret () [] [] rfl rfl rfl rfl (res1 rfl rfl) rfl rfl rfl (by decide)
def f_lumref_Narrow_1 (fu : Nat) (a0 : Int) (a1 : Int) : Option Int := (bif (a1 == (64 : Int)) then (some a0) else (req (0 ≤ a1) (req ((IntKind.u64.wrap ((1 : Int) * 2 ^ min (a1).toNat (IntKind.bits .u64))) ≠ 0) (some ((a0).tmod (IntKind.u64.wrap ((1 : Int) * 2 ^ min (a1).toNat (IntKind.bits .u64))))))))
set_option maxHeartbeats 2000000 in
set_option maxRecDepth 100000 in
theorem f_lumref_Narrow_1_ok (fu : Nat) (a0 : Int) (c1 : Value) (a1 : Int) {r : Int} (h : f_lumref_Narrow_1 fu a0 a1 = some r) : FnOk Tryz.prog 145 [(int .u64 a0), c1] [(fPtr (tyInt .i64) c1 a1)] [] (fun (i : Unit) => { val := (int .u64 r) }) := by
 unfold f_lumref_Narrow_1 at h
 refine fn_enter Tryz.func145 rfl Tryz.ntmps145 rfl (fun w0 Z0 => ?_)
 refine aw_sr ?_
 refine al_as rfl rfl ?_
 refine al_nt ?_
 refine aw_seq ?_
 refine aw_sr ?_
 refine al_val (ov_loadP (ds := [(iq a1)]) 0 rfl (fun h => h) rfl Tryz.underlying3 sz3 rfl rfl rfl) ?_
 refine al_in rfl rfl rfl rfl ?_
 refine al_nt ?_
 refine aw_cond rfl (fun hb1 => ?_) (fun hb1 => ?_)
 ·replace h := bif_t hb1 h
  refine aw_sr ?_
  refine al_mv rfl rfl ?_
  refine al_as rfl rfl ?_
  refine al_nt ?_
  refine aw_ret ?_
  refine aq_then_ret ?_
  obtain rfl := Option.some.inj h
  exact fn_ret () [] [] rfl rfl rfl rfl (res1 rfl rfl) rfl rfl rfl (by decide)
 ·replace h := bif_f hb1 h
  refine aw_skip ?_
  refine aq_tr ?_
  refine al_mv rfl rfl ?_
  refine al_val (ov_loadP (ds := [(iq a1)]) 0 rfl (fun h => h) rfl Tryz.underlying3 sz3 rfl rfl rfl) ?_
  obtain ⟨hc2, h⟩ := req_some h
  refine al_val (ov_shl hc2 rfl rfl rfl) ?_
  obtain ⟨hc3, h⟩ := req_some h
  refine al_val (ov_rem hc3 rfl rfl rfl) ?_
  refine al_as rfl rfl ?_
  refine al_nt ?_
  refine aw_ret ?_
  obtain rfl := Option.some.inj h
  exact fn_ret () [] [] rfl rfl rfl rfl (res1 rfl rfl) rfl rfl rfl (by decide)
def f_strings_Repeat (fu : Nat) (a0 : List UInt8) (a1 : Int) : Option (List UInt8) := req (0 ≤ a1 ∧ a1 ≤ 9223372036854775807 ∧ a0.length * a1.toNat ≤ 140737488355328) (some (Lib.repeatL a0 a1.toNat))
theorem f_strings_Repeat_ok (fu : Nat) (a0 : List UInt8) (a1 : Int) {r : List UInt8} (h : f_strings_Repeat fu a0 a1 = some r) : FnOk Tryz.prog 144 [(str a0), (int .i64 a1)] [] [] (fun (i : Unit) => { val := (str r) }) := by
  unfold f_strings_Repeat at h
  obtain ⟨hc, h⟩ := req_some h
  obtain rfl := Option.some.inj h
  obtain ⟨n, rfl⟩ : ∃ n : Nat, a1 = n := ⟨a1.toNat, by omega⟩
  refine fnok_pure fun w => ?_
  exact (Tryz.strings_Repeat ⟨a0.toArray⟩ n w (by omega) (by simpa [ByteArray.size] using hc.2.2)).mono fun e w' h9 => by simpa [str] using h9
def f_lumref_product_L5 (a0 : Int) (a1 : Int) (kk2 : (Int → Option Int)) : Nat → Int → Int → Option Int
  | 0, _, _ => none
  | k4 + 1, l3i5, l3i7 => (bif (decide (l3i7 < (64 : Int))) then (lt (fun (j7i5 : Int) => (f_lumref_product_L5 a0 a1 kk2 k4 j7i5 (IntKind.i64.wrap (l3i7 + (1 : Int))))) fun (kk8 : Int → Option Int) => (req (0 ≤ l3i7) (bif ((bits .and .u64 ((a1).fdiv (2 ^ min (l3i7).toNat (IntKind.bits .u64))) (1 : Int)) == (1 : Int)) then (req (0 ≤ l3i7) (kk8 (IntKind.u64.wrap (l3i5 + (IntKind.u64.wrap (a0 * 2 ^ min (l3i7).toNat (IntKind.bits .u64))))))) else (kk8 l3i5)))) else (kk2 l3i5))
def f_lumref_product (fu : Nat) (a0 : Int) (a1 : Int) : Option Int := (lt (fun (j1i5 : Int) => (some j1i5)) fun (kk2 : Int → Option Int) => (f_lumref_product_L5 a0 a1 kk2 fu (0 : Int) (0 : Int)))
set_option maxHeartbeats 2000000 in
set_option maxRecDepth 100000 in
theorem f_lumref_product_ok (fu : Nat) (a0 : Int) (a1 : Int) {r : Int} (h : f_lumref_product fu a0 a1 = some r) : FnOk Tryz.prog 162 [(int .u64 a0), (int .u64 a1)] [] [] (fun (i : Unit) => { val := (int .u64 r) }) := by
 unfold f_lumref_product at h
 refine fn_enter Tryz.func162 rfl Tryz.ntmps162 rfl (fun w0 Z0 => ?_)
 refine aw_sr ?_
 refine al_as rfl rfl ?_
 refine al_nt ?_
 refine aw_sr ?_
 refine al_as rfl rfl ?_
 refine al_nt ?_
 obtain ⟨kk2, hkk2, h⟩ := lt_some h
 refine aw_seq_join (ι := Int) (fun i => (memOf w0 Z0 [] [] [])) (fun i => (tab [(5, (uq i))])) (fun i => kk2 i = some r) ?_ ?_
 ·rintro j1i5 h
  have h : kk2 j1i5 = some r := h
  rw [hkk2] at h
  dsimp only at h
  clear hkk2
  refine aw_show (m := (memOf w0 Z0 [] [] [])) (S := (tab [(5, (uq j1i5))])) ?_
  refine aw_sr ?_
  refine al_mv rfl rfl ?_
  refine al_as rfl rfl ?_
  refine al_nt ?_
  refine aw_ret ?_
  obtain rfl := Option.some.inj h
  exact fn_ret () [] [] rfl rfl rfl rfl (res1 rfl rfl) rfl rfl rfl (by decide)
 ·clear hkk2
  refine aw_sr ?_
  refine al_mv rfl rfl ?_
  refine al_nt ?_
  refine aw_block ?_
  refine aw_state (aw_loop (ι := Int × Int) (fun i => (memOf w0 Z0 [] [] [])) (fun i => (tab [(0, (uq a0)), (1, (uq a1)), (5, (uq i.1)), (7, (iq i.2))])) (fun q i => f_lumref_product_L5 a0 a1 kk2 q i.1 i.2 = some r) ?_ fu ((0 : Int), (0 : Int)) h) (fun w a hm hs => norm hm hs [] [] [(0, (uq a0)), (1, (uq a1)), (5, (uq (0 : Int))), (7, (iq (0 : Int)))] (by decide) ⟨rfl, rfl, rfl, rfl, trivial⟩)
  clear h
  rintro k4 ⟨l3i5, l3i7⟩ h
  have h : f_lumref_product_L5 a0 a1 kk2 k4 l3i5 l3i7 = some r := h
  obtain _ | k4 := k4
  · rw [f_lumref_product_L5] at h; cases h
  rw [f_lumref_product_L5] at h
  refine aw_show (m := (memOf w0 Z0 [] [] [])) (S := (tab [(0, (uq a0)), (1, (uq a1)), (5, (uq l3i5)), (7, (iq l3i7))])) ?_
  refine aw_sr ?_
  refine al_in rfl rfl rfl rfl ?_
  refine al_nt ?_
  refine aw_seq ?_
  refine aw_cond rfl (fun hb6 => ?_) (fun hb6 => ?_)
  ·replace h := bif_t hb6 h
   refine aw_skip ?_
   refine aq_then ?_
   obtain ⟨kk8, hkk8, h⟩ := lt_some h
   refine aw_seq_join (ι := Int) (fun i => (memOf w0 Z0 [] [] [])) (fun i => (tab [(0, (uq a0)), (1, (uq a1)), (5, (uq i)), (7, (iq l3i7))])) (fun i => kk8 i = some r) ?_ ?_
   ·rintro j7i5 h
    have h : kk8 j7i5 = some r := h
    rw [hkk8] at h
    dsimp only at h
    clear hkk8
    refine aw_show (m := (memOf w0 Z0 [] [] [])) (S := (tab [(0, (uq a0)), (1, (uq a1)), (5, (uq j7i5)), (7, (iq l3i7))])) ?_
    refine aw_region ?_
    refine al_in rfl rfl rfl rfl ?_
    refine al_mv rfl rfl ?_
    refine al_nil ?_
    exact aq_again k4 (j7i5, (wq (l3i7 + (1 : Int)))) (Nat.lt_succ_self _) h (fun w a hm hs => norm hm hs [] [] [(0, (uq a0)), (1, (uq a1)), (5, (uq j7i5)), (7, (iq (wq (l3i7 + (1 : Int)))))] (by decide) ⟨rfl, rfl, rfl, rfl, trivial⟩)
   ·clear hkk8
    refine aw_block ?_
    refine aw_sr ?_
    refine al_mv rfl rfl ?_
    refine al_as rfl rfl ?_
    refine al_nt ?_
    refine aw_sr ?_
    refine al_mv rfl rfl ?_
    refine al_mv rfl rfl ?_
    obtain ⟨hc9, h⟩ := req_some h
    refine al_val (ov_shr hc9 rfl rfl rfl) ?_
    refine al_in rfl rfl rfl rfl ?_
    refine al_in rfl rfl rfl rfl ?_
    refine al_nt ?_
    refine aw_cond rfl (fun hb10 => ?_) (fun hb10 => ?_)
    ·replace h := bif_t hb10 h
     refine aw_region ?_
     refine al_mv rfl rfl ?_
     refine al_mv rfl rfl ?_
     refine al_mv rfl rfl ?_
     obtain ⟨hc11, h⟩ := req_some h
     refine al_val (ov_shl hc11 rfl rfl rfl) ?_
     refine al_in rfl rfl rfl rfl ?_
     refine al_as rfl rfl ?_
     refine al_nil ?_
     refine aq_block ?_
     exact aq_join (wu (l3i5 + (wu (a0 * 2 ^ min (l3i7).toNat (IntKind.bits .u64))))) h (fun w a hm hs => norm hm hs [] [] [(0, (uq a0)), (1, (uq a1)), (5, (uq (wu (l3i5 + (wu (a0 * 2 ^ min (l3i7).toNat (IntKind.bits .u64))))))), (7, (iq l3i7))] (by decide) ⟨rfl, rfl, rfl, rfl, trivial⟩)
    ·replace h := bif_f hb10 h
     refine aw_skip ?_
     refine aq_block ?_
     exact aq_join l3i5 h (fun w a hm hs => norm hm hs [] [] [(0, (uq a0)), (1, (uq a1)), (5, (uq l3i5)), (7, (iq l3i7))] (by decide) ⟨rfl, rfl, rfl, rfl, trivial⟩)
  ·replace h := bif_f hb6 h
   refine aw_exit ?_
   refine aq_then_exit ?_
   refine aq_then_exit ?_
   refine aq_block_exit ?_
   exact aq_join l3i5 h (fun w a hm hs => norm hm hs [] [] [(5, (uq l3i5))] (by decide) ⟨rfl, trivial⟩)
def f_lumref_Step (fu : Nat) (a0 : Int) (a1 : Int) : Option Int := (opt (f_lumref_product fu (bits .xor .u64 a0 a1) (11400714819323198485 : Int)) fun (r2 : Int) => (opt (f_lumref_product fu (bits .xor .u64 r2 (IntKind.u64.wrap ((r2).tdiv (536870912 : Int)))) (13787848793156543929 : Int)) fun (r4 : Int) => (some (bits .xor .u64 r4 (IntKind.u64.wrap ((r4).tdiv (4294967296 : Int)))))))
set_option maxHeartbeats 2000000 in
set_option maxRecDepth 100000 in
theorem f_lumref_Step_ok (fu : Nat) (a0 : Int) (a1 : Int) {r : Int} (h : f_lumref_Step fu a0 a1 = some r) : FnOk Tryz.prog 146 [(int .u64 a0), (int .u64 a1)] [] [] (fun (i : Unit) => { val := (int .u64 r) }) := by
 unfold f_lumref_Step at h
 refine fn_enter Tryz.func146 rfl Tryz.ntmps146 rfl (fun w0 Z0 => ?_)
 refine aw_sr ?_
 refine al_as rfl rfl ?_
 refine al_nt ?_
 refine aw_sr ?_
 refine al_mv rfl rfl ?_
 refine al_mv rfl rfl ?_
 refine al_in rfl rfl rfl rfl ?_
 obtain ⟨r2, hc1, h⟩ := opt_some h
 refine al_call (vs := [(uq (bits .xor .u64 a0 a1)), (uq (11400714819323198485 : Int))]) (f_lumref_product_ok fu (bits .xor .u64 a0 a1) (11400714819323198485 : Int) hc1) [] [] [] pre_nil rfl (by simp) (by decide) (.inl rfl) rfl Tryz.func162 rfl rfl rfl (fun _ => ?_)
 refine al_as rfl rfl ?_
 refine al_nt ?_
 refine aw_sr ?_
 refine al_mv rfl rfl ?_
 refine al_mv rfl rfl ?_
 refine al_val (ov_quo (by decide) rfl rfl rfl) ?_
 refine al_in rfl rfl rfl rfl ?_
 refine al_as rfl rfl ?_
 refine al_nt ?_
 refine aw_sr ?_
 refine al_mv rfl rfl ?_
 obtain ⟨r4, hc3, h⟩ := opt_some h
 refine al_call (vs := [(uq (bits .xor .u64 r2 (wu ((r2).tdiv (536870912 : Int))))), (uq (13787848793156543929 : Int))]) (f_lumref_product_ok fu (bits .xor .u64 r2 (wu ((r2).tdiv (536870912 : Int)))) (13787848793156543929 : Int) hc3) [] [] [] pre_nil rfl (by simp) (by decide) (.inl rfl) rfl Tryz.func162 rfl rfl rfl (fun _ => ?_)
 refine al_as rfl rfl ?_
 refine al_nt ?_
 refine aw_sr ?_
 refine al_mv rfl rfl ?_
 refine al_mv rfl rfl ?_
 refine al_val (ov_quo (by decide) rfl rfl rfl) ?_
 refine al_in rfl rfl rfl rfl ?_
 refine al_as rfl rfl ?_
 refine al_nt ?_
 refine aw_ret ?_
 obtain rfl := Option.some.inj h
 exact fn_ret () [] [] rfl rfl rfl rfl (res1 rfl rfl) rfl rfl rfl (by decide)
def f_lumref_Narrow_L27 (l11s7 : (List UInt8)) (kk20 : (Int → Option Int)) : Nat → Int → Int → Option Int
  | 0, _, _ => none
  | k26 + 1, l25i8, l25i9 => (bif (decide (l25i9 ≥ (0 : Int))) then (req (0 ≤ l25i9 ∧ l25i9 < (l11s7.length : Int)) (f_lumref_Narrow_L27 l11s7 kk20 k26 (IntKind.u64.wrap ((IntKind.u64.wrap ((256 : Int) * l25i8)) + (IntKind.u64.wrap (En.bAt l11s7 l25i9)))) (IntKind.i64.wrap (l25i9 - (1 : Int))))) else (kk20 l25i8))
def f_lumref_Narrow_L13 (a0 : Int) (kk6 : (Int → Option Int)) (fu : Nat) : Nat → Int → (List UInt8) → Option Int
  | 0, _, _ => none
  | k12 + 1, l11i5, l11s7 => (lt (fun (l11i5 : Int) (l11s7 : (List UInt8)) => (f_lumref_Narrow_L13 a0 kk6 fu k12 l11i5 l11s7)) fun (kk14 : Int → (List UInt8) → Option Int) => (bif (!(l11s7 == ([] : List UInt8))) then (lt (fun (j16i5 : Int) => (req (0 ≤ (8 : Int) ∧ (8 : Int) ≤ (l11s7.length : Int)) (kk14 j16i5 (l11s7.drop ((8 : Int)).toNat)))) fun (kk17 : Int → Option Int) => (lt (fun (j19i8 : Int) => (opt (f_lumref_Step fu l11i5 j19i8) fun (r22 : Int) => (opt (f_lumref_Narrow_1 fu r22 a0) fun (r24 : Int) => (kk17 r24)))) fun (kk20 : Int → Option Int) => (f_lumref_Narrow_L27 l11s7 kk20 fu (0 : Int) (7 : Int)))) else (kk6 l11i5)))
def f_lumref_Narrow (fu : Nat) (a0 : Int) (a1 : (List UInt8)) : Option Int := (opt (f_strings_Repeat fu ([0] : List UInt8) (((IntKind.i64.wrap ((8 : Int) - (((a1.length : Int)).tmod (8 : Int))))).tmod (8 : Int))) fun (r3 : (List UInt8)) => (req (a1.length + r3.length ≤ 9223372036854775807) (lt (fun (j5i5 : Int) => (opt (f_lumref_Step fu j5i5 (IntKind.u64.wrap (a1.length : Int))) fun (r8 : Int) => (opt (f_lumref_Narrow_1 fu r8 a0) fun (r10 : Int) => (some r10)))) fun (kk6 : Int → Option Int) => (f_lumref_Narrow_L13 a0 kk6 fu fu (0 : Int) (a1 ++ r3)))))
set_option maxHeartbeats 2000000 in
set_option maxRecDepth 100000 in
theorem f_lumref_Narrow_ok (fu : Nat) (a0 : Int) (a1 : (List UInt8)) {r : Int} (h : f_lumref_Narrow fu a0 a1 = some r) : FnOk Tryz.prog 120 [(int .i64 a0), (str a1)] [] [] (fun (i : Unit) => { val := (int .u64 r) }) := by
 unfold f_lumref_Narrow at h
 refine fn_enter Tryz.func120 rfl Tryz.ntmps120 rfl (fun w0 Z0 => ?_)
 refine aw_sr ?_
 refine al_box (vs := [(iq a0)]) rfl (cv_rfl rfl) rfl (fun g1 => ?_)
 refine al_as rfl rfl ?_
 refine al_nt ?_
 refine aw_sr ?_
 refine al_as rfl rfl ?_
 refine al_nt ?_
 refine aw_sr ?_
 refine al_val (ov_makeFunc2 (vs := [(pq g1)]) rfl rfl) ?_
 refine al_as rfl rfl ?_
 refine al_nt ?_
 refine aw_sr ?_
 refine al_mv rfl rfl ?_
 refine al_mv rfl rfl ?_
 refine al_val (ov_strLen Tryz.underlying9 rfl rfl) ?_
 refine al_val (ov_rem (by decide) rfl rfl rfl) ?_
 refine al_in rfl rfl rfl rfl ?_
 refine al_val (ov_rem (by decide) rfl rfl rfl) ?_
 obtain ⟨r3, hc2, h⟩ := opt_some h
 refine al_call (vs := [(str ([0] : List UInt8)), (iq (((wq ((8 : Int) - (((a1.length : Int)).tmod (8 : Int))))).tmod (8 : Int)))]) (f_strings_Repeat_ok fu ([0] : List UInt8) (((wq ((8 : Int) - (((a1.length : Int)).tmod (8 : Int))))).tmod (8 : Int)) hc2) [] [] [0] pre_nil rfl (by simp) (by decide) (.inl rfl) rfl Tryz.func144 rfl rfl rfl (fun _ => ?_)
 obtain ⟨hc4, h⟩ := req_some h
 refine al_val (ov_strAdd hc4 rfl rfl rfl) ?_
 refine al_as rfl rfl ?_
 refine al_nt ?_
 obtain ⟨kk6, hkk6, h⟩ := lt_some h
 refine aw_seq_join (ι := Int) (fun i => (memOf w0 Z0 [] [(oBox g1 3 [(iq a0)])] [])) (fun i => (tab [(1, (str a1)), (5, (uq i)), (6, (Value.func (.func 145) #[] #[(pq g1)]))])) (fun i => kk6 i = some r) ?_ ?_
 ·rintro j5i5 h
  have h : kk6 j5i5 = some r := h
  rw [hkk6] at h
  dsimp only at h
  clear hkk6
  refine aw_show (m := (memOf w0 Z0 [] [(oBox g1 3 [(iq a0)])] [])) (S := (tab [(1, (str a1)), (5, (uq j5i5)), (6, (Value.func (.func 145) #[] #[(pq g1)]))])) ?_
  refine aw_sr ?_
  refine al_mv rfl rfl ?_
  refine al_mv rfl rfl ?_
  refine al_mv rfl rfl ?_
  refine al_val (ov_strLen Tryz.underlying9 rfl rfl) ?_
  refine al_val (ov_convInt (by rw [Tryz.underlying3]; rfl) Tryz.underlying55 rfl rfl) ?_
  obtain ⟨r8, hc7, h⟩ := opt_some h
  refine al_call (vs := [(uq j5i5), (uq (wu (a1.length : Int)))]) (f_lumref_Step_ok fu j5i5 (wu (a1.length : Int)) hc7) [] [] [0] pre_nil rfl (by simp) (by decide) (.inl rfl) rfl Tryz.func146 rfl rfl rfl (fun _ => ?_)
  obtain ⟨r10, hc9, h⟩ := opt_some h
  refine al_callF (vs := [(uq r8)]) (caps := [(pq g1)]) (f_lumref_Narrow_1_ok fu r8 (pq g1) a0 hc9) rfl [0] [] [0] (pre_boxP (x := a0) 0 rfl rfl (fun _ _ => rfl) pre_nil) rfl (by simp) (by decide) (.inr flat_res0) rfl rfl Tryz.func145 rfl rfl rfl (fun _ => ?_)
  refine al_as rfl rfl ?_
  refine al_nt ?_
  refine aw_ret ?_
  obtain rfl := Option.some.inj h
  exact fn_ret () [] [] rfl rfl rfl rfl (res1 rfl rfl) rfl rfl rfl (by decide)
 ·clear hkk6
  refine aw_block ?_
  refine aw_state (aw_loop (ι := Int × (List UInt8)) (fun i => (memOf w0 Z0 [] [(oBox g1 3 [(iq a0)])] [])) (fun i => (tab [(1, (str a1)), (5, (uq i.1)), (6, (Value.func (.func 145) #[] #[(pq g1)])), (7, (str i.2))])) (fun q i => f_lumref_Narrow_L13 a0 kk6 fu q i.1 i.2 = some r) ?_ fu ((0 : Int), (a1 ++ r3)) h) (fun w a hm hs => norm hm hs [0] [] [(1, (str a1)), (5, (uq (0 : Int))), (6, (Value.func (.func 145) #[] #[(pq g1)])), (7, (str (a1 ++ r3)))] (by decide) ⟨rfl, rfl, rfl, rfl, trivial⟩)
  clear h
  rintro k12 ⟨l11i5, l11s7⟩ h
  have h : f_lumref_Narrow_L13 a0 kk6 fu k12 l11i5 l11s7 = some r := h
  obtain _ | k12 := k12
  · rw [f_lumref_Narrow_L13] at h; cases h
  rw [f_lumref_Narrow_L13] at h
  refine aw_show (m := (memOf w0 Z0 [] [(oBox g1 3 [(iq a0)])] [])) (S := (tab [(1, (str a1)), (5, (uq l11i5)), (6, (Value.func (.func 145) #[] #[(pq g1)])), (7, (str l11s7))])) ?_
  obtain ⟨kk14, hkk14, h⟩ := lt_some h
  refine aw_body_join (ι := Int × (List UInt8)) (fun i => (memOf w0 Z0 [] [(oBox g1 3 [(iq a0)])] [])) (fun i => (tab [(1, (str a1)), (5, (uq i.1)), (6, (Value.func (.func 145) #[] #[(pq g1)])), (7, (str i.2))])) (fun i => kk14 i.1 i.2 = some r) (fun i h => aq_again k12 i (Nat.lt_succ_self _) (by rw [hkk14] at h; exact h) (fun w a hm hs => ⟨hm, hs⟩)) ?_
  clear hkk14
  refine aw_seq ?_
  refine aw_sr ?_
  refine al_mv rfl rfl ?_
  refine al_val (ov_strCmp rfl rfl rfl rfl) ?_
  refine al_nt ?_
  refine aw_cond rfl (fun hb15 => ?_) (fun hb15 => ?_)
  ·replace h := bif_t hb15 h
   refine aw_skip ?_
   refine aq_then ?_
   obtain ⟨kk17, hkk17, h⟩ := lt_some h
   refine aw_seq_join (ι := Int) (fun i => (memOf w0 Z0 [] [(oBox g1 3 [(iq a0)])] [])) (fun i => (tab [(1, (str a1)), (5, (uq i)), (6, (Value.func (.func 145) #[] #[(pq g1)])), (7, (str l11s7))])) (fun i => kk17 i = some r) ?_ ?_
   ·rintro j16i5 h
    have h : kk17 j16i5 = some r := h
    rw [hkk17] at h
    dsimp only at h
    clear hkk17
    refine aw_show (m := (memOf w0 Z0 [] [(oBox g1 3 [(iq a0)])] [])) (S := (tab [(1, (str a1)), (5, (uq j16i5)), (6, (Value.func (.func 145) #[] #[(pq g1)])), (7, (str l11s7))])) ?_
    refine aw_region ?_
    refine al_mv rfl rfl ?_
    obtain ⟨hc18, h⟩ := req_some h
    refine al_val (ov_strFrom hc18.1 hc18.2 Tryz.underlying9 rfl rfl rfl) ?_
    refine al_as rfl rfl ?_
    refine al_nil ?_
    exact aq_join (j16i5, (l11s7.drop ((8 : Int)).toNat)) h (fun w a hm hs => norm hm hs [0] [] [(1, (str a1)), (5, (uq j16i5)), (6, (Value.func (.func 145) #[] #[(pq g1)])), (7, (str (l11s7.drop ((8 : Int)).toNat)))] (by decide) ⟨rfl, rfl, rfl, rfl, trivial⟩)
   ·clear hkk17
    refine aw_block ?_
    refine aw_sr ?_
    refine al_as rfl rfl ?_
    refine al_nt ?_
    obtain ⟨kk20, hkk20, h⟩ := lt_some h
    refine aw_seq_join (ι := Int) (fun i => (memOf w0 Z0 [] [(oBox g1 3 [(iq a0)])] [])) (fun i => (tab [(1, (str a1)), (5, (uq l11i5)), (6, (Value.func (.func 145) #[] #[(pq g1)])), (7, (str l11s7)), (8, (uq i))])) (fun i => kk20 i = some r) ?_ ?_
    ·rintro j19i8 h
     have h : kk20 j19i8 = some r := h
     rw [hkk20] at h
     dsimp only at h
     clear hkk20
     refine aw_show (m := (memOf w0 Z0 [] [(oBox g1 3 [(iq a0)])] [])) (S := (tab [(1, (str a1)), (5, (uq l11i5)), (6, (Value.func (.func 145) #[] #[(pq g1)])), (7, (str l11s7)), (8, (uq j19i8))])) ?_
     refine aw_region ?_
     refine al_mv rfl rfl ?_
     refine al_mv rfl rfl ?_
     refine al_mv rfl rfl ?_
     obtain ⟨r22, hc21, h⟩ := opt_some h
     refine al_call (vs := [(uq l11i5), (uq j19i8)]) (f_lumref_Step_ok fu l11i5 j19i8 hc21) [] [] [0] pre_nil rfl (by simp) (by decide) (.inl rfl) rfl Tryz.func146 rfl rfl rfl (fun _ => ?_)
     obtain ⟨r24, hc23, h⟩ := opt_some h
     refine al_callF (vs := [(uq r22)]) (caps := [(pq g1)]) (f_lumref_Narrow_1_ok fu r22 (pq g1) a0 hc23) rfl [0] [] [0] (pre_boxP (x := a0) 0 rfl rfl (fun _ _ => rfl) pre_nil) rfl (by simp) (by decide) (.inr flat_res0) rfl rfl Tryz.func145 rfl rfl rfl (fun _ => ?_)
     refine al_as rfl rfl ?_
     refine al_nil ?_
     refine aq_block ?_
     exact aq_join r24 h (fun w a hm hs => norm hm hs [0] [] [(1, (str a1)), (5, (uq r24)), (6, (Value.func (.func 145) #[] #[(pq g1)])), (7, (str l11s7))] (by decide) ⟨rfl, rfl, rfl, rfl, trivial⟩)
    ·clear hkk20
     refine aw_sr ?_
     refine al_as rfl rfl ?_
     refine al_nt ?_
     refine aw_block ?_
     refine aw_state (aw_loop (ι := Int × Int) (fun i => (memOf w0 Z0 [] [(oBox g1 3 [(iq a0)])] [])) (fun i => (tab [(1, (str a1)), (5, (uq l11i5)), (6, (Value.func (.func 145) #[] #[(pq g1)])), (7, (str l11s7)), (8, (uq i.1)), (9, (iq i.2))])) (fun q i => f_lumref_Narrow_L27 l11s7 kk20 q i.1 i.2 = some r) ?_ fu ((0 : Int), (7 : Int)) h) (fun w a hm hs => norm hm hs [0] [] [(1, (str a1)), (5, (uq l11i5)), (6, (Value.func (.func 145) #[] #[(pq g1)])), (7, (str l11s7)), (8, (uq (0 : Int))), (9, (iq (7 : Int)))] (by decide) ⟨rfl, rfl, rfl, rfl, rfl, rfl, trivial⟩)
     clear h
     rintro k26 ⟨l25i8, l25i9⟩ h
     have h : f_lumref_Narrow_L27 l11s7 kk20 k26 l25i8 l25i9 = some r := h
     obtain _ | k26 := k26
     · rw [f_lumref_Narrow_L27] at h; cases h
     rw [f_lumref_Narrow_L27] at h
     refine aw_show (m := (memOf w0 Z0 [] [(oBox g1 3 [(iq a0)])] [])) (S := (tab [(1, (str a1)), (5, (uq l11i5)), (6, (Value.func (.func 145) #[] #[(pq g1)])), (7, (str l11s7)), (8, (uq l25i8)), (9, (iq l25i9))])) ?_
     refine aw_seq ?_
     refine aw_sr ?_
     refine al_mv rfl rfl ?_
     refine al_in rfl rfl rfl rfl ?_
     refine al_nt ?_
     refine aw_cond rfl (fun hb28 => ?_) (fun hb28 => ?_)
     ·replace h := bif_t hb28 h
      refine aw_skip ?_
      refine aq_then ?_
      refine aw_seq ?_
      refine aw_block ?_
      refine aw_region ?_
      refine al_mv rfl rfl ?_
      refine al_in rfl rfl rfl rfl ?_
      refine al_mv rfl rfl ?_
      refine al_mv rfl rfl ?_
      obtain ⟨hc29, h⟩ := req_some h
      refine al_val (ov_strIdx hc29.1 hc29.2 Tryz.underlying9 rfl rfl rfl) ?_
      refine al_val (ov_convInt (by rw [Tryz.underlying5]; rfl) Tryz.underlying55 rfl rfl) ?_
      refine al_in rfl rfl rfl rfl ?_
      refine al_as rfl rfl ?_
      refine al_nil ?_
      refine aq_block ?_
      refine aq_then ?_
      refine aw_region ?_
      refine al_mv rfl rfl ?_
      refine al_in rfl rfl rfl rfl ?_
      refine al_as rfl rfl ?_
      refine al_nil ?_
      exact aq_again k26 ((wu ((wu ((256 : Int) * l25i8)) + (wu (En.bAt l11s7 l25i9)))), (wq (l25i9 - (1 : Int)))) (Nat.lt_succ_self _) h (fun w a hm hs => norm hm hs [0] [] [(1, (str a1)), (5, (uq l11i5)), (6, (Value.func (.func 145) #[] #[(pq g1)])), (7, (str l11s7)), (8, (uq (wu ((wu ((256 : Int) * l25i8)) + (wu (En.bAt l11s7 l25i9)))))), (9, (iq (wq (l25i9 - (1 : Int)))))] (by decide) ⟨rfl, rfl, rfl, rfl, rfl, rfl, trivial⟩)
     ·replace h := bif_f hb28 h
      refine aw_exit ?_
      refine aq_then_exit ?_
      refine aq_then_exit ?_
      refine aq_block_exit ?_
      exact aq_join l25i8 h (fun w a hm hs => norm hm hs [0] [] [(1, (str a1)), (5, (uq l11i5)), (6, (Value.func (.func 145) #[] #[(pq g1)])), (7, (str l11s7)), (8, (uq l25i8))] (by decide) ⟨rfl, rfl, rfl, rfl, rfl, trivial⟩)
  ·replace h := bif_f hb15 h
   refine aw_exit ?_
   refine aq_then_exit ?_
   refine aq_then_exit ?_
   refine aq_block_exit ?_
   exact aq_join l11i5 h (fun w a hm hs => norm hm hs [0] [] [(1, (str a1)), (5, (uq l11i5)), (6, (Value.func (.func 145) #[] #[(pq g1)]))] (by decide) ⟨rfl, rfl, rfl, trivial⟩)
def f_lumref_wide (fu : Nat) (a0 : Int) : Option (List UInt8) := (opt (f_lumref_digits fu a0) fun (r2 : (List UInt8)) => (opt (f_strings_Repeat fu ([0] : List UInt8) (IntKind.i64.wrap ((8 : Int) - (r2.length : Int)))) fun (r4 : (List UInt8)) => (req (r4.length + r2.length ≤ 9223372036854775807) (some (r4 ++ r2)))))
set_option maxRecDepth 100000 in
theorem f_lumref_wide_ok (fu : Nat) (a0 : Int) {r : (List UInt8)} (h : f_lumref_wide fu a0 = some r) : FnOk Tryz.prog 119 [(int .u64 a0)] [] [] (fun (i : Unit) => { val := (str r) }) := by
 unfold f_lumref_wide at h
 refine fn_enter Tryz.func119 rfl Tryz.ntmps119 rfl (fun w0 Z0 => ?_)
 refine aw_sr ?_
 refine al_as rfl rfl ?_
 refine al_nt ?_
 refine aw_sr ?_
 refine al_mv rfl rfl ?_
 obtain ⟨r2, hc1, h⟩ := opt_some h
 refine al_call (vs := [(uq a0)]) (f_lumref_digits_ok fu a0 hc1) [] [] [] pre_nil rfl (by simp) (by decide) (.inl rfl) rfl Tryz.func52 rfl rfl rfl (fun _ => ?_)
 refine al_as rfl rfl ?_
 refine al_nt ?_
 refine aw_sr ?_
 refine al_mv rfl rfl ?_
 refine al_val (ov_strLen Tryz.underlying9 rfl rfl) ?_
 refine al_in rfl rfl rfl rfl ?_
 obtain ⟨r4, hc3, h⟩ := opt_some h
 refine al_call (vs := [(str ([0] : List UInt8)), (iq (wq ((8 : Int) - (r2.length : Int))))]) (f_strings_Repeat_ok fu ([0] : List UInt8) (wq ((8 : Int) - (r2.length : Int))) hc3) [] [] [] pre_nil rfl (by simp) (by decide) (.inl rfl) rfl Tryz.func144 rfl rfl rfl (fun _ => ?_)
 refine al_mv rfl rfl ?_
 obtain ⟨hc5, h⟩ := req_some h
 refine al_val (ov_strAdd hc5 rfl rfl rfl) ?_
 refine al_as rfl rfl ?_
 refine al_nt ?_
 refine aw_ret ?_
 obtain rfl := Option.some.inj h
 exact fn_ret () [] [] rfl rfl rfl rfl (res1 rfl rfl) rfl rfl rfl (by decide)
def f_lumref_ID (fu : Nat) (a0 : (List UInt8)) : Option A8u8 := (opt (f_lumref_Narrow fu (64 : Int) a0) fun (r3 : Int) => (opt (f_lumref_wide fu r3) fun (r5 : (List UInt8)) => (req (r5.length ≤ 9223372036854775807) (req (8 ≤ r5.length) (some (ofA8u8 r5))))))
set_option maxRecDepth 100000 in
theorem f_lumref_ID_ok (fu : Nat) (a0 : (List UInt8)) {r : A8u8} (h : f_lumref_ID fu a0 = some r) : FnOk Tryz.prog 85 [(str a0)] [] [] (fun (i : Unit) => { val := (ag (cA8u8 r)) }) := by
 unfold f_lumref_ID at h
 refine fn_enter Tryz.func85 rfl Tryz.ntmps85 rfl (fun w0 Z0 => ?_)
 refine aw_sr ?_
 refine al_alloc (zs := (cA8u8 (A8u8.mk (0 : UInt8) (0 : UInt8) (0 : UInt8) (0 : UInt8) (0 : UInt8) (0 : UInt8) (0 : UInt8) (0 : UInt8)))) (zeroOf_to to37) rfl rfl (fun g1 => ?_)
 refine al_nt ?_
 refine aw_sr ?_
 refine al_mv rfl rfl ?_
 obtain ⟨r3, hc2, h⟩ := opt_some h
 refine al_call (vs := [(iq (64 : Int)), (str a0)]) (f_lumref_Narrow_ok fu (64 : Int) a0 hc2) [] [] [0] pre_nil rfl (by simp) (by decide) (.inl rfl) rfl Tryz.func120 rfl rfl rfl (fun _ => ?_)
 obtain ⟨r5, hc4, h⟩ := opt_some h
 refine al_call (vs := [(uq r3)]) (f_lumref_wide_ok fu r3 hc4) [] [] [0] pre_nil rfl (by simp) (by decide) (.inl rfl) rfl Tryz.func119 rfl rfl rfl (fun _ => ?_)
 obtain ⟨hc6, h⟩ := req_some h
 refine al_bytes hc6 rfl Tryz.underlying9 Tryz.underlying58 Tryz.underlying5 rfl (fun s7 => ?_)
 obtain ⟨hc9, h⟩ := req_some h
 refine al_s2ap (τA := tyA8u8) (x := (ofA8u8 r5)) 0 8 hc9 rfl (fun h9 => oflA8u8 hc9 h9) rfl rfl Tryz.underlying37 rfl (fun p8 => ?_)
 refine al_val (ov_loadP (ds := (cA8u8 (ofA8u8 r5))) 0 rfl encA8u8 rfl Tryz.underlying37 sz37 rfl rfl rfl) ?_
 refine al_store (i := 0) (vs := (cA8u8 (ofA8u8 r5))) (cs' := (cA8u8 (ofA8u8 r5))) rfl rfl rfl sz37 (cv_rfl rfl) rfl (co_all (oneA8u8 (ofA8u8 r5))) (Nat.le_of_ble_eq_true rfl) rfl rfl ?_
 refine al_nt ?_
 refine aw_ret ?_
 obtain rfl := Option.some.inj h
 exact fn_ret () [] [] rfl rfl rfl rfl (resC rfl (resB (i := 0) rfl rfl Tryz.underlying37 sz37 rfl rfl rfl (resN)) rfl) rfl rfl rfl (by decide)
def f_lumref_Frame (fu : Nat) (a0 : (List UInt8)) : Option (List UInt8) := (opt (f_lumref_Put fu (IntKind.u64.wrap (a0.length : Int))) fun (r2 : (List UInt8)) => (req (r2.length + a0.length ≤ 9223372036854775807) (opt (f_lumref_ID fu (r2 ++ a0)) fun (r5 : A8u8) => (req ((r2 ++ a0).length + (lA8u8 r5).length ≤ 9223372036854775807) (some ((r2 ++ a0) ++ (lA8u8 r5)))))))
set_option maxHeartbeats 2000000 in
set_option maxRecDepth 100000 in
theorem f_lumref_Frame_ok (fu : Nat) (a0 : (List UInt8)) {r : (List UInt8)} (h : f_lumref_Frame fu a0 = some r) : FnOk Tryz.prog 54 [(str a0)] [] [] (fun (i : Unit) => { val := (str r) }) := by
 unfold f_lumref_Frame at h
 refine fn_enter Tryz.func54 rfl Tryz.ntmps54 rfl (fun w0 Z0 => ?_)
 refine aw_sr ?_
 refine al_as rfl rfl ?_
 refine al_nt ?_
 refine aw_sr ?_
 refine al_mv rfl rfl ?_
 refine al_val (ov_strLen Tryz.underlying9 rfl rfl) ?_
 refine al_val (ov_convInt (by rw [Tryz.underlying3]; rfl) Tryz.underlying55 rfl rfl) ?_
 obtain ⟨r2, hc1, h⟩ := opt_some h
 refine al_call (vs := [(uq (wu (a0.length : Int)))]) (f_lumref_Put_ok fu (wu (a0.length : Int)) hc1) [] [] [] pre_nil rfl (by simp) (by decide) (.inl rfl) rfl Tryz.func22 rfl rfl rfl (fun _ => ?_)
 refine al_mv rfl rfl ?_
 obtain ⟨hc3, h⟩ := req_some h
 refine al_val (ov_strAdd hc3 rfl rfl rfl) ?_
 refine al_as rfl rfl ?_
 refine al_nt ?_
 refine aw_sr ?_
 refine al_mv rfl rfl ?_
 obtain ⟨r5, hc4, h⟩ := opt_some h
 refine al_call (vs := [(str (r2 ++ a0))]) (f_lumref_ID_ok fu (r2 ++ a0) hc4) [] [] [] pre_nil rfl (by simp) (by decide) (.inl rfl) rfl Tryz.func85 rfl rfl rfl (fun _ => ?_)
 refine al_alloc (zs := (cA8u8 (A8u8.mk (0 : UInt8) (0 : UInt8) (0 : UInt8) (0 : UInt8) (0 : UInt8) (0 : UInt8) (0 : UInt8) (0 : UInt8)))) (zeroOf_to to37) rfl rfl (fun g6 => ?_)
 refine al_store (i := 0) (vs := (cA8u8 r5)) (cs' := (cA8u8 r5)) rfl rfl rfl sz37 (cv_rfl rfl) rfl (co_all (oneA8u8 r5)) (Nat.le_of_ble_eq_true rfl) rfl rfl ?_
 refine al_nt ?_
 refine aw_seq ?_
 refine aw_freezeB 0 (r5) rfl rfl (fun _ _ => mkA8u8 rfl) ?_
 refine aw_region ?_
 refine al_mv rfl rfl ?_
 refine al_of (of_sliceP 0 lrepA8u8 rfl rfl rfl rfl Tryz.underlying37 sz5 rfl) (fun s7 => ?_)
 refine al_val (ov_toStr 0 rfl rfl Tryz.underlying58 Tryz.underlying5 Tryz.underlying9 rfl) ?_
 obtain ⟨hc8, h⟩ := req_some h
 refine al_val (ov_strAdd hc8 rfl rfl rfl) ?_
 refine al_as rfl rfl ?_
 refine al_nt ?_
 refine aw_ret ?_
 obtain rfl := Option.some.inj h
 exact fn_ret () [] [] rfl rfl rfl rfl (res1 rfl rfl) rfl rfl rfl (by decide)
def f_lumref_Frames_L5 (a0 : (List (List UInt8))) (kk2 : ((List UInt8) → Option ((List UInt8) × Int))) (fu : Nat) : Nat → (List UInt8) → Int → Option ((List UInt8) × Int)
  | 0, _, _ => none
  | k4 + 1, l3s4, l3i9 => (bif (decide (l3i9 < (a0.length : Int))) then (opt (at? a0 l3i9) fun (u7 : (List UInt8)) => (bif (decide ((u7.length : Int) > (4096 : Int))) then (some (([] : List UInt8), (2 : Int))) else (opt (f_lumref_Frame fu u7) fun (r12 : (List UInt8)) => (req (l3s4.length + r12.length ≤ 9223372036854775807) (bif (decide (((l3s4 ++ r12).length : Int) > (65536 : Int))) then (some (([] : List UInt8), (2 : Int))) else (f_lumref_Frames_L5 a0 kk2 fu k4 (l3s4 ++ r12) (IntKind.i64.wrap (l3i9 + (1 : Int))))))))) else (kk2 l3s4))
def f_lumref_Frames (fu : Nat) (a0 : (List (List UInt8))) : Option ((List UInt8) × Int) := (lt (fun (j1s4 : (List UInt8)) => (some (j1s4, (0 : Int)))) fun (kk2 : (List UInt8) → Option ((List UInt8) × Int)) => (f_lumref_Frames_L5 a0 kk2 fu fu ([] : List UInt8) (0 : Int)))
set_option maxHeartbeats 2000000 in
set_option maxRecDepth 100000 in
theorem f_lumref_Frames_ok (fu : Nat) (v0_0 : Value) (a0 : (List (List UInt8))) {r : ((List UInt8) × Int)} (h : f_lumref_Frames fu a0 = some r) : FnOk Tryz.prog 24 [v0_0] [(fDat (tyList tyStr) [v0_0] a0)] [] (fun (i : Unit) => { val := (Value.tuple #[(str r.1), (int .i64 r.2)]) }) := by
 unfold f_lumref_Frames at h
 refine fn_enter Tryz.func24 rfl Tryz.ntmps24 rfl (fun w0 Z0 => ?_)
 refine aw_sr ?_
 refine al_as rfl rfl ?_
 refine al_as rfl rfl ?_
 refine al_nt ?_
 refine aw_sr ?_
 refine al_as rfl rfl ?_
 refine al_nt ?_
 obtain ⟨kk2, hkk2, h⟩ := lt_some h
 refine aw_seq_join (ι := (List UInt8)) (fun i => (memOf w0 Z0 [] [] [(fDat (tyList tyStr) [v0_0] a0)])) (fun i => (tab [(4, (str i))])) (fun i => kk2 i = some r) ?_ ?_
 ·rintro j1s4 h
  have h : kk2 j1s4 = some r := h
  rw [hkk2] at h
  dsimp only at h
  clear hkk2
  refine aw_show (m := (memOf w0 Z0 [] [] [(fDat (tyList tyStr) [v0_0] a0)])) (S := (tab [(4, (str j1s4))])) ?_
  refine aw_sr ?_
  refine al_mv rfl rfl ?_
  refine al_as rfl rfl ?_
  refine al_as rfl rfl ?_
  refine al_nt ?_
  refine aw_ret ?_
  obtain rfl := Option.some.inj h
  exact fn_ret () [] [] rfl rfl rfl rfl (res2 rfl rfl rfl) rfl rfl rfl (by decide)
 ·clear hkk2
  refine aw_sr ?_
  refine al_mv rfl rfl ?_
  refine al_val (ov_lenD 0 rfl rfl Tryz.underlying47 rfl) ?_
  refine al_mv rfl rfl ?_
  refine al_nt ?_
  refine aw_block ?_
  refine aw_state (aw_loop (ι := (List UInt8) × Int) (fun i => (memOf w0 Z0 [] [] [(fDat (tyList tyStr) [v0_0] a0)])) (fun i => (tab [(4, (str i.1)), (7, v0_0), (8, (iq (a0.length : Int))), (9, (iq i.2))])) (fun q i => f_lumref_Frames_L5 a0 kk2 fu q i.1 i.2 = some r) ?_ fu (([] : List UInt8), (0 : Int)) h) (fun w a hm hs => norm hm hs [] [0] [(4, (str ([] : List UInt8))), (7, v0_0), (8, (iq (a0.length : Int))), (9, (iq (0 : Int)))] (by decide) ⟨rfl, rfl, rfl, rfl, trivial⟩)
  clear h
  rintro k4 ⟨l3s4, l3i9⟩ h
  have h : f_lumref_Frames_L5 a0 kk2 fu k4 l3s4 l3i9 = some r := h
  obtain _ | k4 := k4
  · rw [f_lumref_Frames_L5] at h; cases h
  rw [f_lumref_Frames_L5] at h
  refine aw_show (m := (memOf w0 Z0 [] [] [(fDat (tyList tyStr) [v0_0] a0)])) (S := (tab [(4, (str l3s4)), (7, v0_0), (8, (iq (a0.length : Int))), (9, (iq l3i9))])) ?_
  refine aw_sr ?_
  refine al_in rfl rfl rfl rfl ?_
  refine al_nt ?_
  refine aw_seq ?_
  refine aw_cond rfl (fun hb6 => ?_) (fun hb6 => ?_)
  ·replace h := bif_t hb6 h
   refine aw_skip ?_
   refine aq_then ?_
   refine aw_seq ?_
   refine aw_block ?_
   refine aw_sr ?_
   obtain ⟨u7, hu8, h⟩ := opt_some h
   refine al_idxD 0 hu8 rfl rfl rfl Tryz.underlying47 sz9 rfl (fun p9 => ?_)
   refine al_val (ov_loadP (ds := [(str u7)]) 0 rfl (fun h => h) rfl Tryz.underlying9 sz9 rfl rfl rfl) ?_
   refine al_as rfl rfl ?_
   refine al_nt ?_
   refine aw_seq ?_
   refine aw_sr ?_
   refine al_mv rfl rfl ?_
   refine al_val (ov_strLen Tryz.underlying9 rfl rfl) ?_
   refine al_in rfl rfl rfl rfl ?_
   refine al_nt ?_
   refine aw_cond rfl (fun hb10 => ?_) (fun hb10 => ?_)
   ·replace h := bif_t hb10 h
    refine aw_sr ?_
    refine al_as rfl rfl ?_
    refine al_as rfl rfl ?_
    refine al_nt ?_
    refine aw_ret ?_
    refine aq_then_ret ?_
    refine aq_block_ret ?_
    refine aq_then_ret ?_
    refine aq_then_ret ?_
    refine aq_block_ret ?_
    refine aq_then_ret ?_
    obtain rfl := Option.some.inj h
    exact fn_ret () [] [] rfl rfl rfl rfl (res2 rfl rfl rfl) rfl rfl rfl (by decide)
   ·replace h := bif_f hb10 h
    refine aw_skip ?_
    refine aq_tr ?_
    refine al_mv rfl rfl ?_
    refine al_mv rfl rfl ?_
    obtain ⟨r12, hc11, h⟩ := opt_some h
    refine al_call (vs := [(str u7)]) (f_lumref_Frame_ok fu u7 hc11) [] [] [] pre_nil rfl (by simp) (by decide) (.inl rfl) rfl Tryz.func54 rfl rfl rfl (fun _ => ?_)
    obtain ⟨hc13, h⟩ := req_some h
    refine al_val (ov_strAdd hc13 rfl rfl rfl) ?_
    refine al_as rfl rfl ?_
    refine al_nt ?_
    refine aw_sr ?_
    refine al_mv rfl rfl ?_
    refine al_val (ov_strLen Tryz.underlying9 rfl rfl) ?_
    refine al_in rfl rfl rfl rfl ?_
    refine al_nt ?_
    refine aw_cond rfl (fun hb14 => ?_) (fun hb14 => ?_)
    ·replace h := bif_t hb14 h
     refine aw_sr ?_
     refine al_as rfl rfl ?_
     refine al_as rfl rfl ?_
     refine al_nt ?_
     refine aw_ret ?_
     refine aq_block_ret ?_
     refine aq_then_ret ?_
     refine aq_then_ret ?_
     refine aq_block_ret ?_
     refine aq_then_ret ?_
     obtain rfl := Option.some.inj h
     exact fn_ret () [] [] rfl rfl rfl rfl (res2 rfl rfl rfl) rfl rfl rfl (by decide)
    ·replace h := bif_f hb14 h
     refine aw_skip ?_
     refine aq_block ?_
     refine aq_then ?_
     refine aw_region ?_
     refine al_in rfl rfl rfl rfl ?_
     refine al_mv rfl rfl ?_
     refine al_nil ?_
     exact aq_again k4 ((l3s4 ++ r12), (wq (l3i9 + (1 : Int)))) (Nat.lt_succ_self _) h (fun w a hm hs => norm hm hs [] [1] [(4, (str (l3s4 ++ r12))), (7, v0_0), (8, (iq (a0.length : Int))), (9, (iq (wq (l3i9 + (1 : Int)))))] (by decide) ⟨rfl, rfl, rfl, rfl, trivial⟩)
  ·replace h := bif_f hb6 h
   refine aw_exit ?_
   refine aq_then_exit ?_
   refine aq_then_exit ?_
   refine aq_block_exit ?_
   exact aq_join l3s4 h (fun w a hm hs => norm hm hs [] [0] [(4, (str l3s4))] (by decide) ⟨rfl, trivial⟩)
def f_lumref_OldPack_L39 (u13 : S_api_Old) (kk33 : ((List UInt8) → Option ((List UInt8) × Int))) (fu : Nat) : Nat → (List UInt8) → Int → Option ((List UInt8) × Int)
  | 0, _, _ => none
  | k38 + 1, l37s12, l37i67 => (bif (decide (l37i67 < (u13.World.length : Int))) then (opt (at? u13.World l37i67) fun (u41 : S_api_Item) => (opt (f_lumref_PutText fu u41.Path) fun (r46 : ((List UInt8) × Int)) => (req (0 ≤ (IntKind.u8.wrap u41.Kind) ∧ (IntKind.u8.wrap u41.Kind) ≤ 255) (req (r46.1.length + ([(UInt8.ofNat ((IntKind.u8.wrap u41.Kind)).toNat)]).length ≤ 9223372036854775807) (opt (f_lumref_Put fu (IntKind.u64.wrap u41.Mode)) fun (r51 : (List UInt8)) => (req ((r46.1 ++ ([(UInt8.ofNat ((IntKind.u8.wrap u41.Kind)).toNat)])).length + r51.length ≤ 9223372036854775807) (opt (f_lumref_PutInt fu u41.Time) fun (r54 : (List UInt8)) => (req (((r46.1 ++ ([(UInt8.ofNat ((IntKind.u8.wrap u41.Kind)).toNat)])) ++ r51).length + r54.length ≤ 9223372036854775807) (opt (f_lumref_Put fu (IntKind.u64.wrap (u41.Bytes.length : Int))) fun (r57 : (List UInt8)) => (req ((((r46.1 ++ ([(UInt8.ofNat ((IntKind.u8.wrap u41.Kind)).toNat)])) ++ r51) ++ r54).length + r57.length ≤ 9223372036854775807) (req (((((r46.1 ++ ([(UInt8.ofNat ((IntKind.u8.wrap u41.Kind)).toNat)])) ++ r51) ++ r54) ++ r57).length + u41.Bytes.length ≤ 9223372036854775807) (req (l37s12.length + (((((r46.1 ++ ([(UInt8.ofNat ((IntKind.u8.wrap u41.Kind)).toNat)])) ++ r51) ++ r54) ++ r57) ++ u41.Bytes).length ≤ 9223372036854775807) (f_lumref_OldPack_L39 u13 kk33 fu k38 (l37s12 ++ (((((r46.1 ++ ([(UInt8.ofNat ((IntKind.u8.wrap u41.Kind)).toNat)])) ++ r51) ++ r54) ++ r57) ++ u41.Bytes)) (IntKind.i64.wrap (l37i67 + (1 : Int)))))))))))))))) else (kk33 l37s12))
def f_lumref_OldPack_L65 (a0 : (List S_api_Old)) (l6i22 : Int) (u13 : S_api_Old) (kk23 : (Unit → Option ((List UInt8) × Int))) : Nat → Int → Option ((List UInt8) × Int)
  | 0, _ => none
  | k64 + 1, l63i36 => (bif (decide (l63i36 < ((a0.take (l6i22).toNat).length : Int))) then (opt (at? (a0.take (l6i22).toNat) l63i36) fun (u67 : S_api_Old) => (bif (u67.Name == u13.Name) then (some (([] : List UInt8), (10 : Int))) else (f_lumref_OldPack_L65 a0 l6i22 u13 kk23 k64 (IntKind.i64.wrap (l63i36 + (1 : Int)))))) else (kk23 ()))
def f_lumref_OldPack_L8 (a0 : (List S_api_Old)) (kk3 : ((List (List UInt8)) → Option ((List UInt8) × Int))) (fu : Nat) : Nat → (List (List UInt8)) → Int → Option ((List UInt8) × Int)
  | 0, _, _ => none
  | k7 + 1, l6x4, l6i22 => (lt (fun (l6x4 : (List (List UInt8))) (l6i22 : Int) => (f_lumref_OldPack_L8 a0 kk3 fu k7 l6x4 l6i22)) fun (kk9 : (List (List UInt8)) → Int → Option ((List UInt8) × Int)) => (bif (decide (l6i22 < (a0.length : Int))) then (lt (fun (j11x4 : (List (List UInt8))) => (kk9 j11x4 (IntKind.i64.wrap (l6i22 + (1 : Int))))) fun (kk12 : (List (List UInt8)) → Option ((List UInt8) × Int)) => (opt (at? a0 l6i22) fun (u13 : S_api_Old) => (opt (f_lumref_oldErr fu u13) fun (r20 : Int) => (bif (r20 != (0 : Int)) then (some (([] : List UInt8), r20)) else (lt (fun (_ : Unit) => (opt (f_lumref_PutText fu u13.Name) fun (r25 : ((List UInt8) × Int)) => (opt (f_lumref_Put fu (IntKind.u64.wrap u13.Time)) fun (r27 : (List UInt8)) => (req (r25.1.length + r27.length ≤ 9223372036854775807) (opt (f_lumref_Put fu (IntKind.u64.wrap (u13.World.length : Int))) fun (r30 : (List UInt8)) => (req ((r25.1 ++ r27).length + r30.length ≤ 9223372036854775807) (lt (fun (j32s12 : (List UInt8)) => (req (((l6x4.length + ([j32s12]).length) * 16 : Nat) ≤ 140737488355328 ∧ l6x4.length + ([j32s12]).length ≤ 9223372036854775807) (kk12 (l6x4 ++ ([j32s12]))))) fun (kk33 : (List UInt8) → Option ((List UInt8) × Int)) => (f_lumref_OldPack_L39 u13 kk33 fu fu ((r25.1 ++ r27) ++ r30) (0 : Int))))))))) fun (kk23 : Unit → Option ((List UInt8) × Int)) => (req (0 ≤ l6i22 ∧ l6i22 ≤ (a0.length : Int)) (f_lumref_OldPack_L65 a0 l6i22 u13 kk23 fu (0 : Int)))))))) else (kk3 l6x4)))
def f_lumref_OldPack (fu : Nat) (a0 : (List S_api_Old)) : Option ((List UInt8) × Int) := (bif (decide ((a0.length : Int) > (20 : Int))) then (some (([] : List UInt8), (2 : Int))) else (lt (fun (j2x4 : (List (List UInt8))) => (opt (f_lumref_Frames fu j2x4) fun (r5 : ((List UInt8) × Int)) => (some (r5.1, r5.2)))) fun (kk3 : (List (List UInt8)) → Option ((List UInt8) × Int)) => (f_lumref_OldPack_L8 a0 kk3 fu fu ([] : List (List UInt8)) (0 : Int))))
set_option maxRecDepth 100000 in
set_option maxHeartbeats 2000000 in
set_option maxHeartbeats 2000000 in
theorem f_lumref_OldPack_ok (fu : Nat) (v0_0 : Value) (a0 : (List S_api_Old)) {r : ((List UInt8) × Int)} (h : f_lumref_OldPack fu a0 = some r) : FnOk Tryz.prog 6 [v0_0] [(fDat (tyList tyS_api_Old) [v0_0] a0), uMax] [] (fun (i : Unit) => { val := (Value.tuple #[(str r.1), (int .i64 r.2)]) }) := by
 unfold f_lumref_OldPack at h
 refine fn_enter Tryz.func6 rfl Tryz.ntmps6 rfl (fun w0 Z0 => ?_)
 refine aw_sr ?_
 refine al_as rfl rfl ?_
 refine al_as rfl rfl ?_
 refine al_nt ?_
 refine aw_seq ?_
 refine aw_sr ?_
 refine al_mv rfl rfl ?_
 refine al_val (ov_lenD 0 rfl rfl Tryz.underlying22 rfl) ?_
 refine al_in rfl rfl rfl rfl ?_
 refine al_nt ?_
 refine aw_cond rfl (fun hb1 => ?_) (fun hb1 => ?_)
 ·replace h := bif_t hb1 h
  refine aw_sr ?_
  refine al_as rfl rfl ?_
  refine al_as rfl rfl ?_
  refine al_nt ?_
  refine aw_ret ?_
  refine aq_then_ret ?_
  obtain rfl := Option.some.inj h
  exact fn_ret () [] [] rfl rfl rfl rfl (res2 rfl rfl rfl) rfl rfl rfl (by decide)
 ·replace h := bif_f hb1 h
  refine aw_skip ?_
  refine aq_tr ?_
  refine al_as rfl rfl ?_
  refine al_nt ?_
  obtain ⟨kk3, hkk3, h⟩ := lt_some h
  refine aw_seq_join (ι := Value × (List (List UInt8))) (fun i => (memOf w0 Z0 [] [(oRow i.1 9 tyStr i.2)] [(fDat (tyList tyS_api_Old) [v0_0] a0), uMax])) (fun i => (tab [(4, i.1)])) (fun i => kk3 i.2 = some r) ?_ ?_
  ·rintro ⟨j2v4, j2x4⟩ h
   have h : kk3 j2x4 = some r := h
   rw [hkk3] at h
   dsimp only at h
   clear hkk3
   refine aw_show (m := (memOf w0 Z0 [] [(oRow j2v4 9 tyStr j2x4)] [(fDat (tyList tyS_api_Old) [v0_0] a0), uMax])) (S := (tab [(4, j2v4)])) ?_
   refine aw_sr ?_
   refine al_mv rfl rfl ?_
   obtain ⟨r5, hc4, h⟩ := opt_some h
   refine al_call (vs := [j2v4]) (f_lumref_Frames_ok fu j2v4 j2x4 hc4) [0] [] [0] (pre_own 0 rfl rfl pre_nil) rfl (by simp) (by decide) (.inr flat_res0) rfl Tryz.func24 rfl rfl rfl (fun _ => ?_)
   refine al_ex rfl rfl rfl ?_
   refine al_ex rfl rfl rfl ?_
   refine al_as rfl rfl ?_
   refine al_as rfl rfl ?_
   refine al_nt ?_
   refine aw_ret ?_
   obtain rfl := Option.some.inj h
   exact fn_ret () [] [] rfl rfl rfl rfl (res2 rfl rfl rfl) rfl rfl rfl (by decide)
  ·clear hkk3
   refine aw_sr ?_
   refine al_mv rfl rfl ?_
   refine al_val (ov_lenD 0 rfl rfl Tryz.underlying22 rfl) ?_
   refine al_mv rfl rfl ?_
   refine al_nt ?_
   refine aw_block ?_
   refine aw_nilR 9 tyStr ?_
   refine aw_state (aw_loop (ι := Value × (List (List UInt8)) × Int) (fun i => (memOf w0 Z0 [] [(oRow i.1 9 tyStr i.2.1)] [(fDat (tyList tyS_api_Old) [v0_0] a0), uMax])) (fun i => (tab [(0, v0_0), (4, i.1), (20, v0_0), (21, (iq (a0.length : Int))), (22, (iq i.2.2))])) (fun q i => f_lumref_OldPack_L8 a0 kk3 fu q i.2.1 i.2.2 = some r) ?_ fu (nS, ([] : List (List UInt8)), (0 : Int)) h) (fun w a hm hs => norm hm hs [0] [0, 1] [(0, v0_0), (4, nS), (20, v0_0), (21, (iq (a0.length : Int))), (22, (iq (0 : Int)))] (by decide) ⟨rfl, rfl, rfl, rfl, rfl, trivial⟩)
   clear h
   rintro k7 ⟨l6v4, l6x4, l6i22⟩ h
   have h : f_lumref_OldPack_L8 a0 kk3 fu k7 l6x4 l6i22 = some r := h
   obtain _ | k7 := k7
   · rw [f_lumref_OldPack_L8] at h; cases h
   rw [f_lumref_OldPack_L8] at h
   refine aw_show (m := (memOf w0 Z0 [] [(oRow l6v4 9 tyStr l6x4)] [(fDat (tyList tyS_api_Old) [v0_0] a0), uMax])) (S := (tab [(0, v0_0), (4, l6v4), (20, v0_0), (21, (iq (a0.length : Int))), (22, (iq l6i22))])) ?_
   obtain ⟨kk9, hkk9, h⟩ := lt_some h
   refine aw_body_join (ι := Value × (List (List UInt8)) × Int) (fun i => (memOf w0 Z0 [] [(oRow i.1 9 tyStr i.2.1)] [(fDat (tyList tyS_api_Old) [v0_0] a0), uMax])) (fun i => (tab [(0, v0_0), (4, i.1), (20, v0_0), (21, (iq (a0.length : Int))), (22, (iq i.2.2))])) (fun i => kk9 i.2.1 i.2.2 = some r) (fun i h => aq_again k7 i (Nat.lt_succ_self _) (by rw [hkk9] at h; exact h) (fun w a hm hs => ⟨hm, hs⟩)) ?_
   clear hkk9
   refine aw_sr ?_
   refine al_in rfl rfl rfl rfl ?_
   refine al_nt ?_
   refine aw_seq ?_
   refine aw_cond rfl (fun hb10 => ?_) (fun hb10 => ?_)
   ·replace h := bif_t hb10 h
    refine aw_skip ?_
    refine aq_then ?_
    obtain ⟨kk12, hkk12, h⟩ := lt_some h
    refine aw_seq_join (ι := Value × (List (List UInt8))) (fun i => (memOf w0 Z0 [] [(oRow i.1 9 tyStr i.2)] [(fDat (tyList tyS_api_Old) [v0_0] a0), uMax])) (fun i => (tab [(0, v0_0), (4, i.1), (20, v0_0), (21, (iq (a0.length : Int))), (22, (iq l6i22))])) (fun i => kk12 i.2 = some r) ?_ ?_
    ·rintro ⟨j11v4, j11x4⟩ h
     have h : kk12 j11x4 = some r := h
     rw [hkk12] at h
     dsimp only at h
     clear hkk12
     refine aw_show (m := (memOf w0 Z0 [] [(oRow j11v4 9 tyStr j11x4)] [(fDat (tyList tyS_api_Old) [v0_0] a0), uMax])) (S := (tab [(0, v0_0), (4, j11v4), (20, v0_0), (21, (iq (a0.length : Int))), (22, (iq l6i22))])) ?_
     refine aw_region ?_
     refine al_in rfl rfl rfl rfl ?_
     refine al_mv rfl rfl ?_
     refine al_nil ?_
     exact aq_join (j11v4, j11x4, (wq (l6i22 + (1 : Int)))) h (fun w a hm hs => norm hm hs [0] [0, 1] [(0, v0_0), (4, j11v4), (20, v0_0), (21, (iq (a0.length : Int))), (22, (iq (wq (l6i22 + (1 : Int)))))] (by decide) ⟨rfl, rfl, rfl, rfl, rfl, trivial⟩)
    ·clear hkk12
     refine aw_block ?_
     refine aw_sr ?_
     refine al_mv rfl rfl ?_
     obtain ⟨u13, hu14, h⟩ := opt_some h
     refine al_idxD 0 hu14 rfl rfl rfl Tryz.underlying22 sz49 rfl (fun p15 => ?_)
     refine al_loadPA 0 rfl rfl Tryz.underlying49 sz49 rfl rfl (fun cs17 => ?_)
     refine al_use (ι := Value) 0 rfl (fun j => cs17 = [(str u13.Name), (iq u13.Time), j]) (fun j => [(fDat (tyList tyS_api_Item) [j] u13.World)]) encnS_api_Old (fun s16 hq => ?_)
     subst hq
     refine al_alloc (zs := [(str ([] : List UInt8)), (iq (0 : Int)), nS]) (zeroOf_to to49) rfl rfl (fun g18 => ?_)
     refine al_as rfl rfl ?_
     refine al_store (i := 0) (vs := [(str u13.Name), (iq u13.Time), s16]) (cs' := [(str u13.Name), (iq u13.Time), s16]) rfl rfl rfl sz49 (cv_rfl rfl) rfl (co_val rfl (co_val rfl (co_fz 0 rfl co_nil))) (Nat.le_of_ble_eq_true rfl) rfl rfl ?_
     refine al_nt ?_
     refine aw_seq ?_
     refine aw_sr ?_
     refine al_val (ov_load (i := 0) (v := (ag [(str u13.Name), (iq u13.Time), s16])) rfl rfl Tryz.underlying49 sz49 rfl rfl rfl rfl) ?_
     obtain ⟨r20, hc19, h⟩ := opt_some h
     refine al_call (vs := [(ag [(str u13.Name), (iq u13.Time), s16])]) (f_lumref_oldErr_ok fu s16 u13 hc19) [] [] [0, 1] (pre_fz 0 rfl pre_nil) rfl (by simp) (by decide) (.inl rfl) rfl Tryz.func20 rfl rfl rfl (fun _ => ?_)
     refine al_as rfl rfl ?_
     refine al_nt ?_
     refine aw_sr ?_
     refine al_mv rfl rfl ?_
     refine al_in rfl rfl rfl rfl ?_
     refine al_nt ?_
     refine aw_cond rfl (fun hb21 => ?_) (fun hb21 => ?_)
     ·replace h := bif_t hb21 h
      refine aw_sr ?_
      refine al_mv rfl rfl ?_
      refine al_as rfl rfl ?_
      refine al_as rfl rfl ?_
      refine al_nt ?_
      refine aw_ret ?_
      refine aq_then_ret ?_
      refine aq_block_ret ?_
      refine aq_then_ret ?_
      refine aq_then_ret ?_
      refine aq_block_ret ?_
      refine aq_then_ret ?_
      obtain rfl := Option.some.inj h
      exact fn_ret () [] [] rfl rfl rfl rfl (res2 rfl rfl rfl) rfl rfl rfl (by decide)
     ·replace h := bif_f hb21 h
      refine aw_skip ?_
      refine aq_then ?_
      obtain ⟨kk23, hkk23, h⟩ := lt_some h
      refine aw_seq_join (ι := Unit) (fun i => (memOf w0 Z0 [] [(oRow l6v4 9 tyStr l6x4), (oBox g18 49 [(str u13.Name), (iq u13.Time), s16])] [(fDat (tyList tyS_api_Old) [v0_0] a0), (fDat (tyList tyS_api_Item) [s16] u13.World), (fDat tyS_api_Old [(str u13.Name), (iq u13.Time), s16] u13), (fPtr tyS_api_Old p15 u13), uMax])) (fun i => (tab [(0, v0_0), (4, l6v4), (6, (pq g18)), (20, v0_0), (21, (iq (a0.length : Int))), (22, (iq l6i22))])) (fun i => kk23 () = some r) ?_ ?_
      ·rintro _ h
       have h : kk23 () = some r := h
       rw [hkk23] at h
       dsimp only at h
       clear hkk23
       refine aw_show (m := (memOf w0 Z0 [] [(oRow l6v4 9 tyStr l6x4), (oBox g18 49 [(str u13.Name), (iq u13.Time), s16])] [(fDat (tyList tyS_api_Old) [v0_0] a0), (fDat (tyList tyS_api_Item) [s16] u13.World), (fDat tyS_api_Old [(str u13.Name), (iq u13.Time), s16] u13), (fPtr tyS_api_Old p15 u13), uMax])) (S := (tab [(0, v0_0), (4, l6v4), (6, (pq g18)), (20, v0_0), (21, (iq (a0.length : Int))), (22, (iq l6i22))])) ?_
       refine aw_sr ?_
       refine al_val (ov_fieldA (p := 0) rfl Tryz.underlying49 rfl sz9 rfl rfl rfl) ?_
       refine al_val (ov_load (i := 1) (v := (str u13.Name)) rfl rfl Tryz.underlying9 sz9 rfl rfl rfl rfl) ?_
       obtain ⟨r25, hc24, h⟩ := opt_some h
       refine al_call (vs := [(str u13.Name)]) (f_lumref_PutText_ok fu u13.Name hc24) [] [] [0, 1] (pre_fz 4 rfl pre_nil) rfl (by simp) (by decide) (.inl rfl) rfl Tryz.func21 rfl rfl rfl (fun _ => ?_)
       refine al_mv rfl rfl ?_
       refine al_ex rfl rfl rfl ?_
       refine al_ex rfl rfl rfl ?_
       refine al_as rfl rfl ?_
       refine al_as rfl rfl ?_
       refine al_nt ?_
       refine aw_seq ?_
       obtain ⟨r27, hc26, h⟩ := opt_some h
       obtain ⟨hc28, h⟩ := req_some h
       obtain ⟨r30, hc29, h⟩ := opt_some h
       obtain ⟨hc31, h⟩ := req_some h
       refine aw_region_draw 12 [(52, (fun u => fEq u (str r25.1))), (53, (fun u => fEq u (ptr g18 1))), (54, (fun u => fEq u (iq u13.Time))), (55, (fun u => fEq u (uq (wu u13.Time)))), (56, (fun u => fEq u (str r27))), (57, (fun u => fEq u (str (r25.1 ++ r27)))), (58, (fun u => fEq u (ptr g18 2))), (59, (fun u => fEq u s16)), (60, (fun u => fEq u (iq (u13.World.length : Int)))), (61, (fun u => fEq u (uq (wu (u13.World.length : Int))))), (62, (fun u => fEq u (str r30))), (63, (fun u => fEq u (str ((r25.1 ++ r27) ++ r30))))] (tab [(0, v0_0), (4, l6v4), (6, (pq g18)), (10, (str r25.1)), (20, v0_0), (21, (iq (a0.length : Int))), (22, (iq l6i22))]) mixed (by kernel_rfl) rfl rfl rfl (fun a hs => hs.tab _ (allT_mem ⟨rfl, rfl, rfl, rfl, rfl, rfl, rfl, trivial⟩)) ⟨⟨rfl, ld_val (ov_move rfl rfl)⟩, ⟨rfl, ld_val (ov_fieldA (p := 1) rfl Tryz.underlying49 rfl sz3 rfl rfl rfl)⟩, ⟨rfl, ld_eq (j := 1) rfl rfl (ld_val (ov_load (i := 1) (v := (iq u13.Time)) rfl rfl Tryz.underlying3 sz3 rfl rfl rfl rfl))⟩, ⟨rfl, ld_eq (j := 2) rfl rfl (ld_val (ov_convInt (by rw [Tryz.underlying3]; rfl) Tryz.underlying55 rfl rfl))⟩, ⟨rfl, ld_eq (j := 3) rfl rfl (ld_callV (vs := [(uq (wu u13.Time))]) (f_lumref_Put_ok fu (wu u13.Time) hc26) [] pre_nil rfl Tryz.func22 rfl rfl rfl)⟩, ⟨rfl, ld_eq (j := 0) rfl rfl (ld_eq (j := 4) rfl rfl (ld_val (ov_strAdd hc28 rfl rfl rfl)))⟩, ⟨rfl, ld_val (ov_fieldA (p := 2) rfl Tryz.underlying49 rfl sz34 rfl rfl rfl)⟩, ⟨rfl, ld_eq (j := 6) rfl rfl (ld_val (ov_load (i := 1) (v := s16) rfl rfl Tryz.underlying34 sz34 rfl rfl rfl rfl))⟩, ⟨rfl, ld_eq (j := 7) rfl rfl (ld_val (ov_lenD 1 rfl rfl Tryz.underlying34 rfl))⟩, ⟨rfl, ld_eq (j := 8) rfl rfl (ld_val (ov_convInt (by rw [Tryz.underlying3]; rfl) Tryz.underlying55 rfl rfl))⟩, ⟨rfl, ld_eq (j := 9) rfl rfl (ld_callV (vs := [(uq (wu (u13.World.length : Int)))]) (f_lumref_Put_ok fu (wu (u13.World.length : Int)) hc29) [] pre_nil rfl Tryz.func22 rfl rfl rfl)⟩, ⟨rfl, ld_eq (j := 5) rfl rfl (ld_eq (j := 10) rfl rfl (ld_val (ov_strAdd hc31 rfl rfl rfl)))⟩, trivial⟩ ?_
       refine tl_eq 11 rfl ?_
       refine tl_done ?_
       refine al_as rfl rfl ?_
       refine al_nt ?_
       obtain ⟨kk33, hkk33, h⟩ := lt_some h
       refine aw_seq_join (ι := (List UInt8)) (fun i => (memOf w0 Z0 [] [(oRow l6v4 9 tyStr l6x4)] [(fDat (tyList tyS_api_Old) [v0_0] a0), (fDat (tyList tyS_api_Item) [s16] u13.World), (fDat tyS_api_Old [(str u13.Name), (iq u13.Time), s16] u13), (fPtr tyS_api_Old p15 u13), uMax])) (fun i => (tab [(0, v0_0), (4, l6v4), (12, (str i)), (20, v0_0), (21, (iq (a0.length : Int))), (22, (iq l6i22))])) (fun i => kk33 i = some r) ?_ ?_
       ·rintro j32s12 h
        have h : kk33 j32s12 = some r := h
        rw [hkk33] at h
        dsimp only at h
        clear hkk33
        refine aw_show (m := (memOf w0 Z0 [] [(oRow l6v4 9 tyStr l6x4)] [(fDat (tyList tyS_api_Old) [v0_0] a0), (fDat (tyList tyS_api_Item) [s16] u13.World), (fDat tyS_api_Old [(str u13.Name), (iq u13.Time), s16] u13), (fPtr tyS_api_Old p15 u13), uMax])) (S := (tab [(0, v0_0), (4, l6v4), (12, (str j32s12)), (20, v0_0), (21, (iq (a0.length : Int))), (22, (iq l6i22))])) ?_
        refine aw_region ?_
        refine al_mv rfl rfl ?_
        refine al_mv rfl rfl ?_
        refine al_buildSlice (τ := tyStr) (e := 9) (k := 1) (sz := 0) (by_ := 0) (z := undef) (cs := [(str j32s12)]) (xs := [j32s12]) rfl (by decide) (fun w a hm hs => ⟨([(str j32s12)]).toArray, rfl, by simp only [List.map_toArray, List.map_cons, List.map_nil, hs.ev (x := .tmp 106) rfl]; exact run_bs [(str j32s12)] [(str j32s12)] Tryz.underlying47 to9 rfl rfl (bs_cons (l := [(str j32s12)]) (cs := []) (cv_rfl rfl) rfl bs_nil) hm⟩) (fun hm => ⟨_, _, rfl, (fun _ => rfl) hm, rfl⟩) rfl (fun v34 => ?_)
        obtain ⟨hc35, h⟩ := req_some h
        refine al_append 1 hc35.1 hc35.2 rfl (src_own (i := 1) 0 rfl) rfl rfl Tryz.underlying47 to9 rfl rfl rfl (fun v36 => ?_)
        refine al_as rfl rfl ?_
        refine al_nil ?_
        refine aq_block ?_
        exact aq_join (v36, (l6x4 ++ ([j32s12]))) h (fun w a hm hs => norm hm hs [1] [0, 4] [(0, v0_0), (4, v36), (20, v0_0), (21, (iq (a0.length : Int))), (22, (iq l6i22))] (by decide) ⟨rfl, rfl, rfl, rfl, rfl, trivial⟩)
       ·clear hkk33
        refine aw_sr ?_
        refine al_val (ov_fieldA (p := 2) rfl Tryz.underlying49 rfl sz34 rfl rfl rfl) ?_
        refine al_val (ov_load (i := 1) (v := s16) rfl rfl Tryz.underlying34 sz34 rfl rfl rfl rfl) ?_
        refine al_val (ov_lenD 1 rfl rfl Tryz.underlying34 rfl) ?_
        refine al_mv rfl rfl ?_
        refine al_nt ?_
        refine aw_block ?_
        refine aw_state (aw_loop (ι := (List UInt8) × Int) (fun i => (memOf w0 Z0 [] [(oRow l6v4 9 tyStr l6x4)] [(fDat (tyList tyS_api_Old) [v0_0] a0), (fDat (tyList tyS_api_Item) [s16] u13.World), (fDat tyS_api_Old [(str u13.Name), (iq u13.Time), s16] u13), (fPtr tyS_api_Old p15 u13), uMax])) (fun i => (tab [(0, v0_0), (4, l6v4), (12, (str i.1)), (20, v0_0), (21, (iq (a0.length : Int))), (22, (iq l6i22)), (65, s16), (66, (iq (u13.World.length : Int))), (67, (iq i.2))])) (fun q i => f_lumref_OldPack_L39 u13 kk33 fu q i.1 i.2 = some r) ?_ fu (((r25.1 ++ r27) ++ r30), (0 : Int)) h) (fun w a hm hs => norm hm hs [0] [0, 1, 2, 3, 4] [(0, v0_0), (4, l6v4), (12, (str ((r25.1 ++ r27) ++ r30))), (20, v0_0), (21, (iq (a0.length : Int))), (22, (iq l6i22)), (65, s16), (66, (iq (u13.World.length : Int))), (67, (iq (0 : Int)))] (by decide) ⟨rfl, rfl, rfl, rfl, rfl, rfl, rfl, rfl, rfl, trivial⟩)
        clear h
        rintro k38 ⟨l37s12, l37i67⟩ h
        have h : f_lumref_OldPack_L39 u13 kk33 fu k38 l37s12 l37i67 = some r := h
        obtain _ | k38 := k38
        · rw [f_lumref_OldPack_L39] at h; cases h
        rw [f_lumref_OldPack_L39] at h
        refine aw_show (m := (memOf w0 Z0 [] [(oRow l6v4 9 tyStr l6x4)] [(fDat (tyList tyS_api_Old) [v0_0] a0), (fDat (tyList tyS_api_Item) [s16] u13.World), (fDat tyS_api_Old [(str u13.Name), (iq u13.Time), s16] u13), (fPtr tyS_api_Old p15 u13), uMax])) (S := (tab [(0, v0_0), (4, l6v4), (12, (str l37s12)), (20, v0_0), (21, (iq (a0.length : Int))), (22, (iq l6i22)), (65, s16), (66, (iq (u13.World.length : Int))), (67, (iq l37i67))])) ?_
        refine aw_sr ?_
        refine al_in rfl rfl rfl rfl ?_
        refine al_nt ?_
        refine aw_seq ?_
        refine aw_cond rfl (fun hb40 => ?_) (fun hb40 => ?_)
        ·replace h := bif_t hb40 h
         refine aw_skip ?_
         refine aq_then ?_
         refine aw_seq ?_
         refine aw_block ?_
         refine aw_sr ?_
         obtain ⟨u41, hu42, h⟩ := opt_some h
         refine al_idxD 1 hu42 rfl rfl rfl Tryz.underlying34 sz57 rfl (fun p43 => ?_)
         refine al_val (ov_loadP (ds := [(str u41.Path), (iq u41.Kind), (iq u41.Mode), (iq u41.Time), (str u41.Bytes)]) 0 rfl encS_api_Item rfl Tryz.underlying57 sz57 rfl rfl rfl) ?_
         refine al_alloc (zs := [(str ([] : List UInt8)), (iq (0 : Int)), (iq (0 : Int)), (iq (0 : Int)), (str ([] : List UInt8))]) (zeroOf_to to57) rfl rfl (fun g44 => ?_)
         refine al_store (i := 0) (vs := [(str u41.Path), (iq u41.Kind), (iq u41.Mode), (iq u41.Time), (str u41.Bytes)]) (cs' := [(str u41.Path), (iq u41.Kind), (iq u41.Mode), (iq u41.Time), (str u41.Bytes)]) rfl rfl rfl sz57 (cv_rfl rfl) rfl (co_val rfl (co_val rfl (co_val rfl (co_val rfl (co_val rfl co_nil))))) (Nat.le_of_ble_eq_true rfl) rfl rfl ?_
         refine al_nt ?_
         refine aw_sr ?_
         refine al_val (ov_fieldA (p := 0) rfl Tryz.underlying57 rfl sz9 rfl rfl rfl) ?_
         refine al_val (ov_load (i := 0) (v := (str u41.Path)) rfl rfl Tryz.underlying9 sz9 rfl rfl rfl rfl) ?_
         obtain ⟨r46, hc45, h⟩ := opt_some h
         refine al_call (vs := [(str u41.Path)]) (f_lumref_PutText_ok fu u41.Path hc45) [] [] [0, 1] (pre_fz 5 rfl pre_nil) rfl (by simp) (by decide) (.inl rfl) rfl Tryz.func21 rfl rfl rfl (fun _ => ?_)
         refine al_mv rfl rfl ?_
         refine al_ex rfl rfl rfl ?_
         refine al_ex rfl rfl rfl ?_
         refine al_as rfl rfl ?_
         refine al_as rfl rfl ?_
         refine al_nt ?_
         obtain ⟨hc48, h⟩ := req_some h
         obtain ⟨hc49, h⟩ := req_some h
         obtain ⟨r51, hc50, h⟩ := opt_some h
         obtain ⟨hc52, h⟩ := req_some h
         obtain ⟨r54, hc53, h⟩ := opt_some h
         obtain ⟨hc55, h⟩ := req_some h
         obtain ⟨r57, hc56, h⟩ := opt_some h
         obtain ⟨hc58, h⟩ := req_some h
         obtain ⟨hc59, h⟩ := req_some h
         obtain ⟨hc60, h⟩ := req_some h
         refine aw_region_draw 27 [(77, (fun u => fEq u (str l37s12))), (78, (fun u => fEq u (str r46.1))), (79, (fun u => fEq u (ptr g44 1))), (80, (fun u => fEq u (iq u41.Kind))), (81, (fun u => fEq u (i8 (w8 u41.Kind)))), (82, (fun v47 => (fDat (tyList tyU8) [v47] [(UInt8.ofNat ((w8 u41.Kind)).toNat)]))), (83, (fun u => fEq u (str [(UInt8.ofNat ((w8 u41.Kind)).toNat)]))), (84, (fun u => fEq u (str (r46.1 ++ ([(UInt8.ofNat ((w8 u41.Kind)).toNat)]))))), (85, (fun u => fEq u (ptr g44 2))), (86, (fun u => fEq u (iq u41.Mode))), (87, (fun u => fEq u (uq (wu u41.Mode)))), (88, (fun u => fEq u (str r51))), (89, (fun u => fEq u (str ((r46.1 ++ ([(UInt8.ofNat ((w8 u41.Kind)).toNat)])) ++ r51)))), (90, (fun u => fEq u (ptr g44 3))), (91, (fun u => fEq u (iq u41.Time))), (92, (fun u => fEq u (str r54))), (93, (fun u => fEq u (str (((r46.1 ++ ([(UInt8.ofNat ((w8 u41.Kind)).toNat)])) ++ r51) ++ r54)))), (94, (fun u => fEq u (ptr g44 4))), (95, (fun u => fEq u (str u41.Bytes))), (96, (fun u => fEq u (iq (u41.Bytes.length : Int)))), (97, (fun u => fEq u (uq (wu (u41.Bytes.length : Int))))), (98, (fun u => fEq u (str r57))), (99, (fun u => fEq u (str ((((r46.1 ++ ([(UInt8.ofNat ((w8 u41.Kind)).toNat)])) ++ r51) ++ r54) ++ r57)))), (100, (fun u => fEq u (ptr g44 4))), (101, (fun u => fEq u (str u41.Bytes))), (102, (fun u => fEq u (str (((((r46.1 ++ ([(UInt8.ofNat ((w8 u41.Kind)).toNat)])) ++ r51) ++ r54) ++ r57) ++ u41.Bytes)))), (103, (fun u => fEq u (str (l37s12 ++ (((((r46.1 ++ ([(UInt8.ofNat ((w8 u41.Kind)).toNat)])) ++ r51) ++ r54) ++ r57) ++ u41.Bytes)))))] (tab [(0, v0_0), (4, l6v4), (12, (str l37s12)), (14, (pq g44)), (15, (str r46.1)), (20, v0_0), (21, (iq (a0.length : Int))), (22, (iq l6i22)), (65, s16), (66, (iq (u13.World.length : Int))), (67, (iq l37i67))]) mixed (by kernel_rfl) rfl rfl rfl (fun a hs => hs.tab _ (allT_mem ⟨rfl, rfl, rfl, rfl, rfl, rfl, rfl, rfl, rfl, rfl, rfl, trivial⟩)) ⟨⟨rfl, ld_val (ov_move rfl rfl)⟩, ⟨rfl, ld_val (ov_move rfl rfl)⟩, ⟨rfl, ld_val (ov_fieldA (p := 1) rfl Tryz.underlying57 rfl sz3 rfl rfl rfl)⟩, ⟨rfl, ld_eq (j := 2) rfl rfl (ld_val (ov_load (i := 0) (v := (iq u41.Kind)) rfl rfl Tryz.underlying3 sz3 rfl rfl rfl rfl))⟩, ⟨rfl, ld_eq (j := 3) rfl rfl (ld_val (ov_convInt (by rw [Tryz.underlying3]; rfl) Tryz.underlying5 rfl rfl))⟩, ⟨rfl, ld_eq (j := 4) rfl rfl (ld_buildSlice (τ := tyU8) (e := 5) (k := 1) (cs := [(i8 (w8 u41.Kind))]) (xs := [(UInt8.ofNat ((w8 u41.Kind)).toNat)]) rfl (by decide) rfl (fun w a hm hs => ⟨([(i8 (w8 u41.Kind))]).toArray, rfl, by simp only [List.map_toArray, List.map_cons, List.map_nil, hs.ev (x := .tmp 81) rfl]; exact run_bs [(i8 (w8 u41.Kind))] [(i8 (w8 u41.Kind))] Tryz.underlying58 to5 rfl rfl (bs_cons (l := [(i8 (w8 u41.Kind))]) (cs := []) (cv_rfl rfl) rfl bs_nil) hm⟩) (fun hm => ⟨_, _, rfl, (fun _ => u8_rep hc48) hm, rfl⟩) rfl)⟩, ⟨rfl, ld_fact (j := 5) rfl rfl (fun v47 => ld_val (ov_toStr 0 rfl rfl Tryz.underlying58 Tryz.underlying5 Tryz.underlying9 rfl))⟩, ⟨rfl, ld_eq (j := 1) rfl rfl (ld_eq (j := 6) rfl rfl (ld_val (ov_strAdd hc49 rfl rfl rfl)))⟩, ⟨rfl, ld_val (ov_fieldA (p := 2) rfl Tryz.underlying57 rfl sz3 rfl rfl rfl)⟩, ⟨rfl, ld_eq (j := 8) rfl rfl (ld_val (ov_load (i := 0) (v := (iq u41.Mode)) rfl rfl Tryz.underlying3 sz3 rfl rfl rfl rfl))⟩, ⟨rfl, ld_eq (j := 9) rfl rfl (ld_val (ov_convInt (by rw [Tryz.underlying3]; rfl) Tryz.underlying55 rfl rfl))⟩, ⟨rfl, ld_eq (j := 10) rfl rfl (ld_callV (vs := [(uq (wu u41.Mode))]) (f_lumref_Put_ok fu (wu u41.Mode) hc50) [] pre_nil rfl Tryz.func22 rfl rfl rfl)⟩, ⟨rfl, ld_eq (j := 7) rfl rfl (ld_eq (j := 11) rfl rfl (ld_val (ov_strAdd hc52 rfl rfl rfl)))⟩, ⟨rfl, ld_val (ov_fieldA (p := 3) rfl Tryz.underlying57 rfl sz3 rfl rfl rfl)⟩, ⟨rfl, ld_eq (j := 13) rfl rfl (ld_val (ov_load (i := 0) (v := (iq u41.Time)) rfl rfl Tryz.underlying3 sz3 rfl rfl rfl rfl))⟩, ⟨rfl, ld_eq (j := 14) rfl rfl (ld_callV (vs := [(iq u41.Time)]) (f_lumref_PutInt_ok fu u41.Time hc53) [] pre_nil rfl Tryz.func23 rfl rfl rfl)⟩, ⟨rfl, ld_eq (j := 12) rfl rfl (ld_eq (j := 15) rfl rfl (ld_val (ov_strAdd hc55 rfl rfl rfl)))⟩, ⟨rfl, ld_val (ov_fieldA (p := 4) rfl Tryz.underlying57 rfl sz9 rfl rfl rfl)⟩, ⟨rfl, ld_eq (j := 17) rfl rfl (ld_val (ov_load (i := 0) (v := (str u41.Bytes)) rfl rfl Tryz.underlying9 sz9 rfl rfl rfl rfl))⟩, ⟨rfl, ld_eq (j := 18) rfl rfl (ld_val (ov_strLen Tryz.underlying9 rfl rfl))⟩, ⟨rfl, ld_eq (j := 19) rfl rfl (ld_val (ov_convInt (by rw [Tryz.underlying3]; rfl) Tryz.underlying55 rfl rfl))⟩, ⟨rfl, ld_eq (j := 20) rfl rfl (ld_callV (vs := [(uq (wu (u41.Bytes.length : Int)))]) (f_lumref_Put_ok fu (wu (u41.Bytes.length : Int)) hc56) [] pre_nil rfl Tryz.func22 rfl rfl rfl)⟩, ⟨rfl, ld_eq (j := 16) rfl rfl (ld_eq (j := 21) rfl rfl (ld_val (ov_strAdd hc58 rfl rfl rfl)))⟩, ⟨rfl, ld_val (ov_fieldA (p := 4) rfl Tryz.underlying57 rfl sz9 rfl rfl rfl)⟩, ⟨rfl, ld_eq (j := 23) rfl rfl (ld_val (ov_load (i := 0) (v := (str u41.Bytes)) rfl rfl Tryz.underlying9 sz9 rfl rfl rfl rfl))⟩, ⟨rfl, ld_eq (j := 22) rfl rfl (ld_eq (j := 24) rfl rfl (ld_val (ov_strAdd hc59 rfl rfl rfl)))⟩, ⟨rfl, ld_eq (j := 0) rfl rfl (ld_eq (j := 25) rfl rfl (ld_val (ov_strAdd hc60 rfl rfl rfl)))⟩, trivial⟩ ?_
         refine tl_eq 26 rfl ?_
         refine tl_done ?_
         refine al_as rfl rfl ?_
         refine al_nil ?_
         refine aq_block ?_
         refine aq_then ?_
         refine aw_region ?_
         refine al_in rfl rfl rfl rfl ?_
         refine al_mv rfl rfl ?_
         refine al_nil ?_
         exact aq_again k38 ((l37s12 ++ (((((r46.1 ++ ([(UInt8.ofNat ((w8 u41.Kind)).toNat)])) ++ r51) ++ r54) ++ r57) ++ u41.Bytes)), (wq (l37i67 + (1 : Int)))) (Nat.lt_succ_self _) h (fun w a hm hs => norm hm hs [1] [1, 2, 3, 4, 5] [(0, v0_0), (4, l6v4), (12, (str (l37s12 ++ (((((r46.1 ++ ([(UInt8.ofNat ((w8 u41.Kind)).toNat)])) ++ r51) ++ r54) ++ r57) ++ u41.Bytes)))), (20, v0_0), (21, (iq (a0.length : Int))), (22, (iq l6i22)), (65, s16), (66, (iq (u13.World.length : Int))), (67, (iq (wq (l37i67 + (1 : Int)))))] (by decide) ⟨rfl, rfl, rfl, rfl, rfl, rfl, rfl, rfl, rfl, trivial⟩)
        ·replace h := bif_f hb40 h
         refine aw_exit ?_
         refine aq_then_exit ?_
         refine aq_then_exit ?_
         refine aq_block_exit ?_
         exact aq_join l37s12 h (fun w a hm hs => norm hm hs [0] [0, 1, 2, 3, 4] [(0, v0_0), (4, l6v4), (12, (str l37s12)), (20, v0_0), (21, (iq (a0.length : Int))), (22, (iq l6i22))] (by decide) ⟨rfl, rfl, rfl, rfl, rfl, rfl, trivial⟩)
      ·clear hkk23
       refine aw_sr ?_
       refine al_mv rfl rfl ?_
       refine al_mv rfl rfl ?_
       obtain ⟨hc61, h⟩ := req_some h
       refine al_sliceDT 3 hc61.1 hc61.2 rfl rfl rfl Tryz.underlying22 sz49 rfl (fun s62 => ?_)
       refine al_val (ov_lenD 0 rfl rfl Tryz.underlying22 rfl) ?_
       refine al_mv rfl rfl ?_
       refine al_nt ?_
       refine aw_block ?_
       refine aw_state (aw_loop (ι := Int) (fun i => (memOf w0 Z0 [] [(oRow l6v4 9 tyStr l6x4), (oBox g18 49 [(str u13.Name), (iq u13.Time), s16])] [(fDat (tyList tyS_api_Old) [v0_0] a0), (fDat (tyList tyS_api_Item) [s16] u13.World), (fDat (tyList tyS_api_Old) [s62] (a0.take (l6i22).toNat)), (fDat tyS_api_Old [(str u13.Name), (iq u13.Time), s16] u13), (fPtr tyS_api_Old p15 u13), uMax])) (fun i => (tab [(0, v0_0), (4, l6v4), (6, (pq g18)), (20, v0_0), (21, (iq (a0.length : Int))), (22, (iq l6i22)), (34, s62), (35, (iq ((a0.take (l6i22).toNat).length : Int))), (36, (iq i))])) (fun q i => f_lumref_OldPack_L65 a0 l6i22 u13 kk23 q i = some r) ?_ fu (0 : Int) h) (fun w a hm hs => norm hm hs [1, 0] [4, 1, 0, 2, 3, 5] [(0, v0_0), (4, l6v4), (6, (pq g18)), (20, v0_0), (21, (iq (a0.length : Int))), (22, (iq l6i22)), (34, s62), (35, (iq ((a0.take (l6i22).toNat).length : Int))), (36, (iq (0 : Int)))] (by decide) ⟨rfl, rfl, rfl, rfl, rfl, rfl, rfl, rfl, rfl, trivial⟩)
       clear h
       rintro k64 l63i36 h
       have h : f_lumref_OldPack_L65 a0 l6i22 u13 kk23 k64 l63i36 = some r := h
       obtain _ | k64 := k64
       · rw [f_lumref_OldPack_L65] at h; cases h
       rw [f_lumref_OldPack_L65] at h
       refine aw_show (m := (memOf w0 Z0 [] [(oRow l6v4 9 tyStr l6x4), (oBox g18 49 [(str u13.Name), (iq u13.Time), s16])] [(fDat (tyList tyS_api_Old) [v0_0] a0), (fDat (tyList tyS_api_Item) [s16] u13.World), (fDat (tyList tyS_api_Old) [s62] (a0.take (l6i22).toNat)), (fDat tyS_api_Old [(str u13.Name), (iq u13.Time), s16] u13), (fPtr tyS_api_Old p15 u13), uMax])) (S := (tab [(0, v0_0), (4, l6v4), (6, (pq g18)), (20, v0_0), (21, (iq (a0.length : Int))), (22, (iq l6i22)), (34, s62), (35, (iq ((a0.take (l6i22).toNat).length : Int))), (36, (iq l63i36))])) ?_
       refine aw_sr ?_
       refine al_in rfl rfl rfl rfl ?_
       refine al_nt ?_
       refine aw_seq ?_
       refine aw_cond rfl (fun hb66 => ?_) (fun hb66 => ?_)
       ·replace h := bif_t hb66 h
        refine aw_skip ?_
        refine aq_then ?_
        refine aw_seq ?_
        refine aw_block ?_
        refine aw_sr ?_
        obtain ⟨u67, hu68, h⟩ := opt_some h
        refine al_idxD 2 hu68 rfl rfl rfl Tryz.underlying22 sz49 rfl (fun p69 => ?_)
        refine al_loadPA 0 rfl rfl Tryz.underlying49 sz49 rfl rfl (fun cs71 => ?_)
        refine al_use (ι := Value) 0 rfl (fun j => cs71 = [(str u67.Name), (iq u67.Time), j]) (fun j => [(fDat (tyList tyS_api_Item) [j] u67.World)]) encnS_api_Old (fun s70 hq => ?_)
        subst hq
        refine al_alloc (zs := [(str ([] : List UInt8)), (iq (0 : Int)), nS]) (zeroOf_to to49) rfl rfl (fun g72 => ?_)
        refine al_store (i := 0) (vs := [(str u67.Name), (iq u67.Time), s70]) (cs' := [(str u67.Name), (iq u67.Time), s70]) rfl rfl rfl sz49 (cv_rfl rfl) rfl (co_val rfl (co_val rfl (co_fz 0 rfl co_nil))) (Nat.le_of_ble_eq_true rfl) rfl rfl ?_
        refine al_nt ?_
        refine aw_sr ?_
        refine al_val (ov_fieldA (p := 0) rfl Tryz.underlying49 rfl sz9 rfl rfl rfl) ?_
        refine al_val (ov_load (i := 0) (v := (str u67.Name)) rfl rfl Tryz.underlying9 sz9 rfl rfl rfl rfl) ?_
        refine al_val (ov_fieldA (p := 0) rfl Tryz.underlying49 rfl sz9 rfl rfl rfl) ?_
        refine al_val (ov_load (i := 2) (v := (str u13.Name)) rfl rfl Tryz.underlying9 sz9 rfl rfl rfl rfl) ?_
        refine al_val (ov_strCmp rfl rfl rfl rfl) ?_
        refine al_nt ?_
        refine aw_cond rfl (fun hb73 => ?_) (fun hb73 => ?_)
        ·replace h := bif_t hb73 h
         refine aw_sr ?_
         refine al_as rfl rfl ?_
         refine al_as rfl rfl ?_
         refine al_nt ?_
         refine aw_ret ?_
         refine aq_block_ret ?_
         refine aq_then_ret ?_
         refine aq_then_ret ?_
         refine aq_block_ret ?_
         refine aq_then_ret ?_
         refine aq_block_ret ?_
         refine aq_then_ret ?_
         refine aq_then_ret ?_
         refine aq_block_ret ?_
         refine aq_then_ret ?_
         obtain rfl := Option.some.inj h
         exact fn_ret () [] [] rfl rfl rfl rfl (res2 rfl rfl rfl) rfl rfl rfl (by decide)
        ·replace h := bif_f hb73 h
         refine aw_skip ?_
         refine aq_block ?_
         refine aq_then ?_
         refine aw_region ?_
         refine al_in rfl rfl rfl rfl ?_
         refine al_mv rfl rfl ?_
         refine al_nil ?_
         exact aq_again k64 (wq (l63i36 + (1 : Int))) (Nat.lt_succ_self _) h (fun w a hm hs => norm hm hs [1, 2] [3, 4, 5, 6, 7, 8] [(0, v0_0), (4, l6v4), (6, (pq g18)), (20, v0_0), (21, (iq (a0.length : Int))), (22, (iq l6i22)), (34, s62), (35, (iq ((a0.take (l6i22).toNat).length : Int))), (36, (iq (wq (l63i36 + (1 : Int)))))] (by decide) ⟨rfl, rfl, rfl, rfl, rfl, rfl, rfl, rfl, rfl, trivial⟩)
       ·replace h := bif_f hb66 h
        refine aw_exit ?_
        refine aq_then_exit ?_
        refine aq_then_exit ?_
        refine aq_block_exit ?_
        exact aq_join () h (fun w a hm hs => norm hm hs [0, 1] [0, 1, 3, 4, 5] [(0, v0_0), (4, l6v4), (6, (pq g18)), (20, v0_0), (21, (iq (a0.length : Int))), (22, (iq l6i22))] (by decide) ⟨rfl, rfl, rfl, rfl, rfl, rfl, trivial⟩)
   ·replace h := bif_f hb10 h
    refine aw_exit ?_
    refine aq_then_exit ?_
    refine aq_then_exit ?_
    refine aq_block_exit ?_
    exact aq_join (l6v4, l6x4) h (fun w a hm hs => norm hm hs [0] [0, 1] [(4, l6v4)] (by decide) ⟨rfl, trivial⟩)
def f_num_value_L5 (a0 : (List UInt8)) (kk2 : (Int → Option Int)) : Nat → Int → Int → Option Int
  | 0, _, _ => none
  | k4 + 1, l3i3, l3i7 => (bif (decide (l3i7 < (a0.length : Int))) then (req (0 ≤ l3i7 ∧ l3i7 < (a0.length : Int)) (f_num_value_L5 a0 kk2 k4 (bits .or .u64 (IntKind.u64.wrap (l3i3 * 2 ^ min ((8 : Int)).toNat (IntKind.bits .u64))) (IntKind.u64.wrap (En.bAt a0 l3i7))) (IntKind.i64.wrap (l3i7 + (1 : Int))))) else (kk2 l3i3))
def f_num_value (fu : Nat) (a0 : (List UInt8)) : Option Int := (lt (fun (j1i3 : Int) => (some j1i3)) fun (kk2 : Int → Option Int) => (f_num_value_L5 a0 kk2 fu (0 : Int) (0 : Int)))
set_option maxHeartbeats 2000000 in
set_option maxRecDepth 100000 in
theorem f_num_value_ok (fu : Nat) (a0 : (List UInt8)) {r : Int} (h : f_num_value fu a0 = some r) : FnOk Tryz.prog 86 [(str a0)] [] [] (fun (i : Unit) => { val := (int .u64 r) }) := by
 unfold f_num_value at h
 refine fn_enter Tryz.func86 rfl Tryz.ntmps86 rfl (fun w0 Z0 => ?_)
 refine aw_sr ?_
 refine al_as rfl rfl ?_
 refine al_nt ?_
 refine aw_sr ?_
 refine al_as rfl rfl ?_
 refine al_nt ?_
 obtain ⟨kk2, hkk2, h⟩ := lt_some h
 refine aw_seq_join (ι := Int) (fun i => (memOf w0 Z0 [] [] [])) (fun i => (tab [(3, (uq i))])) (fun i => kk2 i = some r) ?_ ?_
 ·rintro j1i3 h
  have h : kk2 j1i3 = some r := h
  rw [hkk2] at h
  dsimp only at h
  clear hkk2
  refine aw_show (m := (memOf w0 Z0 [] [] [])) (S := (tab [(3, (uq j1i3))])) ?_
  refine aw_sr ?_
  refine al_mv rfl rfl ?_
  refine al_as rfl rfl ?_
  refine al_nt ?_
  refine aw_ret ?_
  obtain rfl := Option.some.inj h
  exact fn_ret () [] [] rfl rfl rfl rfl (res1 rfl rfl) rfl rfl rfl (by decide)
 ·clear hkk2
  refine aw_sr ?_
  refine al_mv rfl rfl ?_
  refine al_val (ov_strLen Tryz.underlying9 rfl rfl) ?_
  refine al_mv rfl rfl ?_
  refine al_nt ?_
  refine aw_block ?_
  refine aw_state (aw_loop (ι := Int × Int) (fun i => (memOf w0 Z0 [] [] [])) (fun i => (tab [(0, (str a0)), (3, (uq i.1)), (6, (iq (a0.length : Int))), (7, (iq i.2))])) (fun q i => f_num_value_L5 a0 kk2 q i.1 i.2 = some r) ?_ fu ((0 : Int), (0 : Int)) h) (fun w a hm hs => norm hm hs [] [] [(0, (str a0)), (3, (uq (0 : Int))), (6, (iq (a0.length : Int))), (7, (iq (0 : Int)))] (by decide) ⟨rfl, rfl, rfl, rfl, trivial⟩)
  clear h
  rintro k4 ⟨l3i3, l3i7⟩ h
  have h : f_num_value_L5 a0 kk2 k4 l3i3 l3i7 = some r := h
  obtain _ | k4 := k4
  · rw [f_num_value_L5] at h; cases h
  rw [f_num_value_L5] at h
  refine aw_show (m := (memOf w0 Z0 [] [] [])) (S := (tab [(0, (str a0)), (3, (uq l3i3)), (6, (iq (a0.length : Int))), (7, (iq l3i7))])) ?_
  refine aw_sr ?_
  refine al_in rfl rfl rfl rfl ?_
  refine al_nt ?_
  refine aw_seq ?_
  refine aw_cond rfl (fun hb6 => ?_) (fun hb6 => ?_)
  ·replace h := bif_t hb6 h
   refine aw_skip ?_
   refine aq_then ?_
   refine aw_seq ?_
   refine aw_block ?_
   refine aw_sr ?_
   refine al_mv rfl rfl ?_
   refine al_as rfl rfl ?_
   refine al_nt ?_
   refine aw_region ?_
   refine al_mv rfl rfl ?_
   refine al_val (ov_shl (by decide) rfl rfl rfl) ?_
   refine al_mv rfl rfl ?_
   refine al_mv rfl rfl ?_
   obtain ⟨hc7, h⟩ := req_some h
   refine al_val (ov_strIdx hc7.1 hc7.2 Tryz.underlying9 rfl rfl rfl) ?_
   refine al_val (ov_convInt (by rw [Tryz.underlying5]; rfl) Tryz.underlying55 rfl rfl) ?_
   refine al_in rfl rfl rfl rfl ?_
   refine al_as rfl rfl ?_
   refine al_nil ?_
   refine aq_block ?_
   refine aq_then ?_
   refine aw_region ?_
   refine al_in rfl rfl rfl rfl ?_
   refine al_mv rfl rfl ?_
   refine al_nil ?_
   exact aq_again k4 ((bits .or .u64 (wu (l3i3 * 2 ^ min ((8 : Int)).toNat (IntKind.bits .u64))) (wu (En.bAt a0 l3i7))), (wq (l3i7 + (1 : Int)))) (Nat.lt_succ_self _) h (fun w a hm hs => norm hm hs [] [] [(0, (str a0)), (3, (uq (bits .or .u64 (wu (l3i3 * 2 ^ min ((8 : Int)).toNat (IntKind.bits .u64))) (wu (En.bAt a0 l3i7))))), (6, (iq (a0.length : Int))), (7, (iq (wq (l3i7 + (1 : Int)))))] (by decide) ⟨rfl, rfl, rfl, rfl, trivial⟩)
  ·replace h := bif_f hb6 h
   refine aw_exit ?_
   refine aq_then_exit ?_
   refine aq_then_exit ?_
   refine aq_block_exit ?_
   exact aq_join l3i3 h (fun w a hm hs => norm hm hs [] [] [(3, (uq l3i3))] (by decide) ⟨rfl, trivial⟩)
def f_num_Get (fu : Nat) (a0 : (List UInt8)) : Option (Int × Int × Int) := (bif (a0 == ([] : List UInt8)) then (some ((0 : Int), (0 : Int), (3 : Int))) else (req (0 ≤ (0 : Int) ∧ (0 : Int) < (a0.length : Int)) (bif (decide ((IntKind.i64.wrap (En.bAt a0 (0 : Int))) > (8 : Int))) then (some ((0 : Int), (0 : Int), (4 : Int))) else (bif (decide ((a0.length : Int) < (IntKind.i64.wrap ((1 : Int) + (IntKind.i64.wrap (En.bAt a0 (0 : Int))))))) then (some ((0 : Int), (0 : Int), (3 : Int))) else (lt (fun (j5b20 : Bool) => (bif j5b20 then (some ((0 : Int), (0 : Int), (4 : Int))) else (req (0 ≤ (1 : Int) ∧ (1 : Int) ≤ (IntKind.i64.wrap ((1 : Int) + (IntKind.i64.wrap (En.bAt a0 (0 : Int))))) ∧ (IntKind.i64.wrap ((1 : Int) + (IntKind.i64.wrap (En.bAt a0 (0 : Int))))) ≤ (a0.length : Int)) (opt (f_num_value fu (cut a0 (1 : Int) (IntKind.i64.wrap ((1 : Int) + (IntKind.i64.wrap (En.bAt a0 (0 : Int))))))) fun (r10 : Int) => (some (r10, (IntKind.i64.wrap ((1 : Int) + (IntKind.i64.wrap (En.bAt a0 (0 : Int))))), (0 : Int))))))) fun (kk6 : Bool → Option (Int × Int × Int)) => (bif (decide ((IntKind.i64.wrap (En.bAt a0 (0 : Int))) > (0 : Int))) then (req (0 ≤ (1 : Int) ∧ (1 : Int) < (a0.length : Int)) (kk6 ((En.bAt a0 (1 : Int)) == (0 : Int)))) else (kk6 false)))))))
set_option maxHeartbeats 2000000 in
set_option maxRecDepth 100000 in
theorem f_num_Get_ok (fu : Nat) (a0 : (List UInt8)) {r : (Int × Int × Int)} (h : f_num_Get fu a0 = some r) : FnOk Tryz.prog 55 [(str a0)] [] [] (fun (i : Unit) => { val := (Value.tuple #[(int .u64 r.1), (int .i64 r.2.1), (int .i64 r.2.2)]) }) := by
 unfold f_num_Get at h
 refine fn_enter Tryz.func55 rfl Tryz.ntmps55 rfl (fun w0 Z0 => ?_)
 refine aw_sr ?_
 refine al_as rfl rfl ?_
 refine al_as rfl rfl ?_
 refine al_as rfl rfl ?_
 refine al_nt ?_
 refine aw_seq ?_
 refine aw_sr ?_
 refine al_mv rfl rfl ?_
 refine al_val (ov_strCmp rfl rfl rfl rfl) ?_
 refine al_nt ?_
 refine aw_cond rfl (fun hb1 => ?_) (fun hb1 => ?_)
 ·replace h := bif_t hb1 h
  refine aw_sr ?_
  refine al_as rfl rfl ?_
  refine al_as rfl rfl ?_
  refine al_as rfl rfl ?_
  refine al_nt ?_
  refine aw_ret ?_
  refine aq_then_ret ?_
  obtain rfl := Option.some.inj h
  exact fn_ret () [] [] rfl rfl rfl rfl (res3 rfl rfl rfl rfl) rfl rfl rfl (by decide)
 ·replace h := bif_f hb1 h
  refine aw_skip ?_
  refine aq_tr ?_
  refine al_mv rfl rfl ?_
  obtain ⟨hc2, h⟩ := req_some h
  refine al_val (ov_strIdx hc2.1 hc2.2 Tryz.underlying9 rfl rfl rfl) ?_
  refine al_val (ov_convInt (by rw [Tryz.underlying5]; rfl) Tryz.underlying3 rfl rfl) ?_
  refine al_as rfl rfl ?_
  refine al_nt ?_
  refine aw_seq ?_
  refine aw_block ?_
  refine aw_sr ?_
  refine al_mv rfl rfl ?_
  refine al_in rfl rfl rfl rfl ?_
  refine al_as rfl rfl ?_
  refine al_nt ?_
  refine aw_cond rfl (fun hb3 => ?_) (fun hb3 => ?_)
  ·replace h := bif_t hb3 h
   refine aw_sr ?_
   refine al_as rfl rfl ?_
   refine al_as rfl rfl ?_
   refine al_as rfl rfl ?_
   refine al_nt ?_
   refine aw_ret ?_
   refine aq_block_ret ?_
   refine aq_then_ret ?_
   obtain rfl := Option.some.inj h
   exact fn_ret () [] [] rfl rfl rfl rfl (res3 rfl rfl rfl rfl) rfl rfl rfl (by decide)
  ·replace h := bif_f hb3 h
   refine aw_sr ?_
   refine al_mv rfl rfl ?_
   refine al_val (ov_strLen Tryz.underlying9 rfl rfl) ?_
   refine al_mv rfl rfl ?_
   refine al_in rfl rfl rfl rfl ?_
   refine al_in rfl rfl rfl rfl ?_
   refine al_as rfl rfl ?_
   refine al_nt ?_
   refine aw_cond rfl (fun hb4 => ?_) (fun hb4 => ?_)
   ·replace h := bif_t hb4 h
    refine aw_sr ?_
    refine al_as rfl rfl ?_
    refine al_as rfl rfl ?_
    refine al_as rfl rfl ?_
    refine al_nt ?_
    refine aw_ret ?_
    refine aq_block_ret ?_
    refine aq_then_ret ?_
    obtain rfl := Option.some.inj h
    exact fn_ret () [] [] rfl rfl rfl rfl (res3 rfl rfl rfl rfl) rfl rfl rfl (by decide)
   ·replace h := bif_f hb4 h
    obtain ⟨kk6, hkk6, h⟩ := lt_some h
    refine aw_seq_join (ι := Bool) (fun i => (memOf w0 Z0 [] [] [])) (fun i => (tab [(0, (str a0)), (5, (iq (wq (En.bAt a0 (0 : Int))))), (20, (bool i))])) (fun i => kk6 i = some r) ?_ ?_
    ·rintro j5b20 h
     have h : kk6 j5b20 = some r := h
     rw [hkk6] at h
     dsimp only at h
     clear hkk6
     refine aw_show (m := (memOf w0 Z0 [] [] [])) (S := (tab [(0, (str a0)), (5, (iq (wq (En.bAt a0 (0 : Int))))), (20, (bool j5b20))])) ?_
     refine aw_cond rfl (fun hb7 => ?_) (fun hb7 => ?_)
     ·replace h := bif_t hb7 h
      refine aw_sr ?_
      refine al_as rfl rfl ?_
      refine al_as rfl rfl ?_
      refine al_as rfl rfl ?_
      refine al_nt ?_
      refine aw_ret ?_
      refine aq_block_ret ?_
      refine aq_then_ret ?_
      obtain rfl := Option.some.inj h
      exact fn_ret () [] [] rfl rfl rfl rfl (res3 rfl rfl rfl rfl) rfl rfl rfl (by decide)
     ·replace h := bif_f hb7 h
      refine aw_skip ?_
      refine aq_block ?_
      refine aq_tr ?_
      refine al_mv rfl rfl ?_
      refine al_mv rfl rfl ?_
      refine al_in rfl rfl rfl rfl ?_
      obtain ⟨hc8, h⟩ := req_some h
      refine al_val (ov_strCut hc8.1 hc8.2.1 hc8.2.2 Tryz.underlying9 rfl rfl rfl rfl) ?_
      obtain ⟨r10, hc9, h⟩ := opt_some h
      refine al_call (vs := [(str (cut a0 (1 : Int) (wq ((1 : Int) + (wq (En.bAt a0 (0 : Int)))))))]) (f_num_value_ok fu (cut a0 (1 : Int) (wq ((1 : Int) + (wq (En.bAt a0 (0 : Int)))))) hc9) [] [] [] pre_nil rfl (by simp) (by decide) (.inl rfl) rfl Tryz.func86 rfl rfl rfl (fun _ => ?_)
      refine al_mv rfl rfl ?_
      refine al_in rfl rfl rfl rfl ?_
      refine al_as rfl rfl ?_
      refine al_as rfl rfl ?_
      refine al_as rfl rfl ?_
      refine al_nt ?_
      refine aw_ret ?_
      obtain rfl := Option.some.inj h
      exact fn_ret () [] [] rfl rfl rfl rfl (res3 rfl rfl rfl rfl) rfl rfl rfl (by decide)
    ·clear hkk6
     refine aw_region ?_
     refine al_mv rfl rfl ?_
     refine al_in rfl rfl rfl rfl ?_
     refine al_mv rfl rfl ?_
     refine al_caseB 23 rfl (fun hb11 => ?_) (fun hb11 => ?_)
     ·replace h := bif_t hb11 h
      refine al_mv rfl rfl ?_
      obtain ⟨hc12, h⟩ := req_some h
      refine al_val (ov_strIdx hc12.1 hc12.2 Tryz.underlying9 rfl rfl rfl) ?_
      refine al_in rfl rfl rfl rfl ?_
      refine al_val (ov_pick_t rfl rfl rfl) ?_
      refine al_as rfl rfl ?_
      refine al_nil ?_
      exact aq_join ((En.bAt a0 (1 : Int)) == (0 : Int)) h (fun w a hm hs => norm hm hs [] [] [(0, (str a0)), (5, (iq (wq (En.bAt a0 (0 : Int))))), (20, (bool ((En.bAt a0 (1 : Int)) == (0 : Int))))] (by decide) ⟨rfl, rfl, rfl, trivial⟩)
     ·replace h := bif_f hb11 h
      refine al_skip ?_
      refine al_skip ?_
      refine al_skip ?_
      refine al_val (ov_pick_f rfl rfl rfl) ?_
      refine al_as rfl rfl ?_
      refine al_nil ?_
      exact aq_join false h (fun w a hm hs => norm hm hs [] [] [(0, (str a0)), (5, (iq (wq (En.bAt a0 (0 : Int))))), (20, (bool false))] (by decide) ⟨rfl, rfl, rfl, trivial⟩)
def f_journal_Scan_L3 (a0 : (List UInt8)) (fu : Nat) : Nat → (List (List UInt8)) → Int → Option ((List (List UInt8)) × Int)
  | 0, _, _ => none
  | k2 + 1, l1x4, l1i5 => (req (0 ≤ l1i5 ∧ l1i5 ≤ (a0.length : Int)) (opt (f_num_Get fu (a0.drop (l1i5).toNat)) fun (r6 : (Int × Int × Int)) => (lt (fun (j7b25 : Bool) => (bif j7b25 then (some (l1x4, l1i5)) else (lt (fun (j10b51 : Bool) => (bif j10b51 then (some (l1x4, l1i5)) else (req (0 ≤ r6.2.1 ∧ r6.2.1 ≤ (IntKind.i64.wrap (r6.2.1 + (IntKind.i64.wrap r6.1))) ∧ (IntKind.i64.wrap (r6.2.1 + (IntKind.i64.wrap r6.1))) ≤ ((a0.drop (l1i5).toNat).length : Int)) (req (((l1x4.length + ([(cut (a0.drop (l1i5).toNat) r6.2.1 (IntKind.i64.wrap (r6.2.1 + (IntKind.i64.wrap r6.1))))]).length) * 16 : Nat) ≤ 140737488355328 ∧ l1x4.length + ([(cut (a0.drop (l1i5).toNat) r6.2.1 (IntKind.i64.wrap (r6.2.1 + (IntKind.i64.wrap r6.1))))]).length ≤ 9223372036854775807) (f_journal_Scan_L3 a0 fu k2 (l1x4 ++ ([(cut (a0.drop (l1i5).toNat) r6.2.1 (IntKind.i64.wrap (r6.2.1 + (IntKind.i64.wrap r6.1))))])) (IntKind.i64.wrap (l1i5 + (IntKind.i64.wrap ((IntKind.i64.wrap (r6.2.1 + (IntKind.i64.wrap r6.1))) + (8 : Int)))))))))) fun (kk11 : Bool → Option ((List (List UInt8)) × Int)) => (bif (decide (((a0.drop (l1i5).toNat).length : Int) < (IntKind.i64.wrap ((IntKind.i64.wrap (r6.2.1 + (IntKind.i64.wrap r6.1))) + (8 : Int))))) then (kk11 true) else (req (0 ≤ (IntKind.i64.wrap (r6.2.1 + (IntKind.i64.wrap r6.1))) ∧ (IntKind.i64.wrap (r6.2.1 + (IntKind.i64.wrap r6.1))) ≤ ((a0.drop (l1i5).toNat).length : Int)) (req (0 ≤ (IntKind.i64.wrap (r6.2.1 + (IntKind.i64.wrap r6.1))) ∧ (IntKind.i64.wrap (r6.2.1 + (IntKind.i64.wrap r6.1))) ≤ (IntKind.i64.wrap ((IntKind.i64.wrap (r6.2.1 + (IntKind.i64.wrap r6.1))) + (8 : Int))) ∧ (IntKind.i64.wrap ((IntKind.i64.wrap (r6.2.1 + (IntKind.i64.wrap r6.1))) + (8 : Int))) ≤ ((a0.drop (l1i5).toNat).length : Int)) (req ((cut (a0.drop (l1i5).toNat) (IntKind.i64.wrap (r6.2.1 + (IntKind.i64.wrap r6.1))) (IntKind.i64.wrap ((IntKind.i64.wrap (r6.2.1 + (IntKind.i64.wrap r6.1))) + (8 : Int)))).length ≤ 9223372036854775807) (req (8 ≤ (cut (a0.drop (l1i5).toNat) (IntKind.i64.wrap (r6.2.1 + (IntKind.i64.wrap r6.1))) (IntKind.i64.wrap ((IntKind.i64.wrap (r6.2.1 + (IntKind.i64.wrap r6.1))) + (8 : Int)))).length) (opt (f_mix_ID fu ((a0.drop (l1i5).toNat).take ((IntKind.i64.wrap (r6.2.1 + (IntKind.i64.wrap r6.1)))).toNat)) fun (r25 : A8u8) => (kk11 (!(r25 == (ofA8u8 (cut (a0.drop (l1i5).toNat) (IntKind.i64.wrap (r6.2.1 + (IntKind.i64.wrap r6.1))) (IntKind.i64.wrap ((IntKind.i64.wrap (r6.2.1 + (IntKind.i64.wrap r6.1))) + (8 : Int))))))))))))))))) fun (kk8 : Bool → Option ((List (List UInt8)) × Int)) => (bif (r6.2.2 != (0 : Int)) then (kk8 true) else (kk8 (decide (r6.1 > (4096 : Int))))))))
def f_journal_Scan (fu : Nat) (a0 : (List UInt8)) : Option ((List (List UInt8)) × Int) := (f_journal_Scan_L3 a0 fu fu ([] : List (List UInt8)) (0 : Int))
set_option maxHeartbeats 2000000 in
set_option maxRecDepth 100000 in
theorem f_journal_Scan_ok (fu : Nat) (a0 : (List UInt8)) {r : ((List (List UInt8)) × Int)} (h : f_journal_Scan fu a0 = some r) : FnOk Tryz.prog 25 [(str a0)] [] [] (fun (i : Value) => { val := (Value.tuple #[i, (int .i64 r.2)]), own := [(oRow i 9 tyStr r.1)] }) := by
 unfold f_journal_Scan at h
 refine fn_enter Tryz.func25 rfl Tryz.ntmps25 rfl (fun w0 Z0 => ?_)
 refine aw_sr ?_
 refine al_as rfl rfl ?_
 refine al_as rfl rfl ?_
 refine al_nt ?_
 refine aw_sr ?_
 refine al_as rfl rfl ?_
 refine al_nt ?_
 refine aw_sr ?_
 refine al_as rfl rfl ?_
 refine al_nt ?_
 refine aw_block ?_
 refine aw_nilR 9 tyStr ?_
 refine aw_state (aw_loop (ι := Value × (List (List UInt8)) × Int) (fun i => (memOf w0 Z0 [] [(oRow i.1 9 tyStr i.2.1)] [])) (fun i => (tab [(0, (str a0)), (4, i.1), (5, (iq i.2.2))])) (fun q i => f_journal_Scan_L3 a0 fu q i.2.1 i.2.2 = some r) ?_ fu (nS, ([] : List (List UInt8)), (0 : Int)) h) (fun w a hm hs => norm hm hs [0] [] [(0, (str a0)), (4, nS), (5, (iq (0 : Int)))] (by decide) ⟨rfl, rfl, rfl, trivial⟩)
 clear h
 rintro k2 ⟨l1v4, l1x4, l1i5⟩ h
 have h : f_journal_Scan_L3 a0 fu k2 l1x4 l1i5 = some r := h
 obtain _ | k2 := k2
 · rw [f_journal_Scan_L3] at h; cases h
 rw [f_journal_Scan_L3] at h
 refine aw_show (m := (memOf w0 Z0 [] [(oRow l1v4 9 tyStr l1x4)] [])) (S := (tab [(0, (str a0)), (4, l1v4), (5, (iq l1i5))])) ?_
 refine aw_block ?_
 refine aw_sr ?_
 refine al_mv rfl rfl ?_
 refine al_mv rfl rfl ?_
 obtain ⟨hc4, h⟩ := req_some h
 refine al_val (ov_strFrom hc4.1 hc4.2 Tryz.underlying9 rfl rfl rfl) ?_
 refine al_as rfl rfl ?_
 refine al_nt ?_
 refine aw_sr ?_
 refine al_mv rfl rfl ?_
 obtain ⟨r6, hc5, h⟩ := opt_some h
 refine al_call (vs := [(str (a0.drop (l1i5).toNat))]) (f_num_Get_ok fu (a0.drop (l1i5).toNat) hc5) [] [] [0] pre_nil rfl (by simp) (by decide) (.inl rfl) rfl Tryz.func55 rfl rfl rfl (fun _ => ?_)
 refine al_mv rfl rfl ?_
 refine al_ex rfl rfl rfl ?_
 refine al_ex rfl rfl rfl ?_
 refine al_ex rfl rfl rfl ?_
 refine al_as rfl rfl ?_
 refine al_as rfl rfl ?_
 refine al_as rfl rfl ?_
 refine al_nt ?_
 refine aw_seq ?_
 obtain ⟨kk8, hkk8, h⟩ := lt_some h
 refine aw_seq_join (ι := Bool) (fun i => (memOf w0 Z0 [] [(oRow l1v4 9 tyStr l1x4)] [])) (fun i => (tab [(0, (str a0)), (4, l1v4), (5, (iq l1i5)), (6, (str (a0.drop (l1i5).toNat))), (7, (uq r6.1)), (8, (iq r6.2.1)), (25, (bool i))])) (fun i => kk8 i = some r) ?_ ?_
 ·rintro j7b25 h
  have h : kk8 j7b25 = some r := h
  rw [hkk8] at h
  dsimp only at h
  clear hkk8
  refine aw_show (m := (memOf w0 Z0 [] [(oRow l1v4 9 tyStr l1x4)] [])) (S := (tab [(0, (str a0)), (4, l1v4), (5, (iq l1i5)), (6, (str (a0.drop (l1i5).toNat))), (7, (uq r6.1)), (8, (iq r6.2.1)), (25, (bool j7b25))])) ?_
  refine aw_cond rfl (fun hb9 => ?_) (fun hb9 => ?_)
  ·replace h := bif_t hb9 h
   refine aw_sr ?_
   refine al_mv rfl rfl ?_
   refine al_mv rfl rfl ?_
   refine al_as rfl rfl ?_
   refine al_as rfl rfl ?_
   refine al_nt ?_
   refine aw_ret ?_
   refine aq_then_ret ?_
   refine aq_block_ret ?_
   refine aq_then_ret ?_
   refine aq_block_ret ?_
   obtain rfl := Option.some.inj h
   exact fn_ret l1v4 [0] [] rfl rfl rfl rfl (res2 rfl rfl rfl) rfl rfl rfl (by decide)
  ·replace h := bif_f hb9 h
   refine aw_skip ?_
   refine aq_tr ?_
   refine al_mv rfl rfl ?_
   refine al_mv rfl rfl ?_
   refine al_val (ov_convInt (by rw [Tryz.underlying55]; rfl) Tryz.underlying3 rfl rfl) ?_
   refine al_in rfl rfl rfl rfl ?_
   refine al_as rfl rfl ?_
   refine al_nt ?_
   refine aw_seq ?_
   obtain ⟨kk11, hkk11, h⟩ := lt_some h
   refine aw_seq_join (ι := Bool) (fun i => (memOf w0 Z0 [] [(oRow l1v4 9 tyStr l1x4)] [])) (fun i => (tab [(0, (str a0)), (4, l1v4), (5, (iq l1i5)), (6, (str (a0.drop (l1i5).toNat))), (8, (iq r6.2.1)), (10, (iq (wq (r6.2.1 + (wq r6.1))))), (51, (bool i))])) (fun i => kk11 i = some r) ?_ ?_
   ·rintro j10b51 h
    have h : kk11 j10b51 = some r := h
    rw [hkk11] at h
    dsimp only at h
    clear hkk11
    refine aw_show (m := (memOf w0 Z0 [] [(oRow l1v4 9 tyStr l1x4)] [])) (S := (tab [(0, (str a0)), (4, l1v4), (5, (iq l1i5)), (6, (str (a0.drop (l1i5).toNat))), (8, (iq r6.2.1)), (10, (iq (wq (r6.2.1 + (wq r6.1))))), (51, (bool j10b51))])) ?_
    refine aw_cond rfl (fun hb12 => ?_) (fun hb12 => ?_)
    ·replace h := bif_t hb12 h
     refine aw_sr ?_
     refine al_mv rfl rfl ?_
     refine al_mv rfl rfl ?_
     refine al_as rfl rfl ?_
     refine al_as rfl rfl ?_
     refine al_nt ?_
     refine aw_ret ?_
     refine aq_then_ret ?_
     refine aq_block_ret ?_
     refine aq_then_ret ?_
     refine aq_block_ret ?_
     obtain rfl := Option.some.inj h
     exact fn_ret l1v4 [0] [] rfl rfl rfl rfl (res2 rfl rfl rfl) rfl rfl rfl (by decide)
    ·replace h := bif_f hb12 h
     refine aw_skip ?_
     refine aq_tr ?_
     refine al_mv rfl rfl ?_
     refine al_mv rfl rfl ?_
     refine al_mv rfl rfl ?_
     refine al_mv rfl rfl ?_
     obtain ⟨hc13, h⟩ := req_some h
     refine al_val (ov_strCut hc13.1 hc13.2.1 hc13.2.2 Tryz.underlying9 rfl rfl rfl rfl) ?_
     refine al_buildSlice (τ := tyStr) (e := 9) (k := 1) (sz := 0) (by_ := 0) (z := undef) (cs := [(str (cut (a0.drop (l1i5).toNat) r6.2.1 (wq (r6.2.1 + (wq r6.1)))))]) (xs := [(cut (a0.drop (l1i5).toNat) r6.2.1 (wq (r6.2.1 + (wq r6.1))))]) rfl (by decide) (fun w a hm hs => ⟨([(str (cut (a0.drop (l1i5).toNat) r6.2.1 (wq (r6.2.1 + (wq r6.1)))))]).toArray, rfl, by simp only [List.map_toArray, List.map_cons, List.map_nil, hs.ev (x := .tmp 58) rfl]; exact run_bs [(str (cut (a0.drop (l1i5).toNat) r6.2.1 (wq (r6.2.1 + (wq r6.1)))))] [(str (cut (a0.drop (l1i5).toNat) r6.2.1 (wq (r6.2.1 + (wq r6.1)))))] Tryz.underlying47 to9 rfl rfl (bs_cons (l := [(str (cut (a0.drop (l1i5).toNat) r6.2.1 (wq (r6.2.1 + (wq r6.1)))))]) (cs := []) (cv_rfl rfl) rfl bs_nil) hm⟩) (fun hm => ⟨_, _, rfl, (fun _ => rfl) hm, rfl⟩) rfl (fun v14 => ?_)
     obtain ⟨hc15, h⟩ := req_some h
     refine al_append 1 hc15.1 hc15.2 rfl (src_own (i := 1) 0 rfl) rfl rfl Tryz.underlying47 to9 rfl rfl rfl (fun v16 => ?_)
     refine al_as rfl rfl ?_
     refine al_nt ?_
     refine aw_region ?_
     refine al_mv rfl rfl ?_
     refine al_mv rfl rfl ?_
     refine al_in rfl rfl rfl rfl ?_
     refine al_in rfl rfl rfl rfl ?_
     refine al_as rfl rfl ?_
     refine al_nil ?_
     refine aq_block ?_
     exact aq_again k2 (v16, (l1x4 ++ ([(cut (a0.drop (l1i5).toNat) r6.2.1 (wq (r6.2.1 + (wq r6.1))))])), (wq (l1i5 + (wq ((wq (r6.2.1 + (wq r6.1))) + (8 : Int)))))) (Nat.lt_succ_self _) h (fun w a hm hs => norm hm hs [1] [] [(0, (str a0)), (4, v16), (5, (iq (wq (l1i5 + (wq ((wq (r6.2.1 + (wq r6.1))) + (8 : Int)))))))] (by decide) ⟨rfl, rfl, rfl, trivial⟩)
   ·clear hkk11
    rcases Bool.eq_false_or_eq_true (decide (((a0.drop (l1i5).toNat).length : Int) < (wq ((wq (r6.2.1 + (wq r6.1))) + (8 : Int))))) with hb17 | hb17
    ·replace h := bif_t hb17 h
     refine aw_region_open [⟨0, 32, Unit, fun _ => { val := (str (a0.drop (l1i5).toNat)) }⟩, ⟨1, 33, Unit, fun _ => { val := (iq ((a0.drop (l1i5).toNat).length : Int)) }⟩, ⟨2, 34, Unit, fun _ => { val := (iq (wq (r6.2.1 + (wq r6.1)))) }⟩, ⟨3, 35, Unit, fun _ => { val := (iq (wq ((wq (r6.2.1 + (wq r6.1))) + (8 : Int)))) }⟩, ⟨4, 36, Unit, fun _ => { val := (bool (decide (((a0.drop (l1i5).toNat).length : Int) < (wq ((wq (r6.2.1 + (wq r6.1))) + (8 : Int)))))) }⟩, ⟨5, 37, Unit, fun _ => { val := (bool true) }⟩, ⟨6, 38, Unit, fun _ => { val := undef }⟩, ⟨7, 39, Unit, fun _ => { val := undef }⟩, ⟨8, 40, Unit, fun _ => { val := undef }⟩, ⟨10, 42, Unit, fun _ => { val := undef }⟩, ⟨11, 43, Unit, fun _ => { val := undef }⟩, ⟨12, 44, Unit, fun _ => { val := undef }⟩, ⟨13, 45, Unit, fun _ => { val := undef }⟩, ⟨14, 46, Unit, fun _ => { val := undef }⟩, ⟨15, 47, Unit, fun _ => { val := undef }⟩, ⟨16, 48, Unit, fun _ => { val := undef }⟩, ⟨17, 49, Unit, fun _ => { val := undef }⟩] (tab [(0, (str a0)), (4, l1v4), (5, (iq l1i5)), (6, (str (a0.drop (l1i5).toNat))), (8, (iq r6.2.1)), (10, (iq (wq (r6.2.1 + (wq r6.1)))))]) mixed (fun a hs => hs.tab _ (allT_mem ⟨rfl, rfl, rfl, rfl, rfl, rfl, trivial⟩)) ?_
     refine ta_show (m := (memOf w0 Z0 [] [(oRow l1v4 9 tyStr l1x4)] [])) (S := (tab [(0, (str a0)), (4, l1v4), (5, (iq l1i5)), (6, (str (a0.drop (l1i5).toNat))), (8, (iq r6.2.1)), (10, (iq (wq (r6.2.1 + (wq r6.1)))))])) ?_
     refine ta_step 9 _ [0, 1, 2, 3, 4, 5, 6, 7, 8, 10, 11, 12, 13, 14, 15, 16, 17] [32, 33, 34, 35, 36, 37, 38, 39, 40, 42, 43, 44, 45, 46, 47, 48, 49] [0, 1, 2, 3, 4, 5, 6, 7, 8] [18, 19] [⟨0, 32, Unit, fun _ => { val := (str (a0.drop (l1i5).toNat)) }⟩, ⟨1, 33, Unit, fun _ => { val := (iq ((a0.drop (l1i5).toNat).length : Int)) }⟩, ⟨2, 34, Unit, fun _ => { val := (iq (wq (r6.2.1 + (wq r6.1)))) }⟩, ⟨3, 35, Unit, fun _ => { val := (iq (wq ((wq (r6.2.1 + (wq r6.1))) + (8 : Int)))) }⟩, ⟨4, 36, Unit, fun _ => { val := (bool (decide (((a0.drop (l1i5).toNat).length : Int) < (wq ((wq (r6.2.1 + (wq r6.1))) + (8 : Int)))))) }⟩, ⟨5, 37, Unit, fun _ => { val := (bool true) }⟩, ⟨6, 38, Unit, fun _ => { val := undef }⟩, ⟨7, 39, Unit, fun _ => { val := undef }⟩, ⟨8, 40, Unit, fun _ => { val := undef }⟩] [⟨10, 42, Unit, fun _ => { val := undef }⟩, ⟨11, 43, Unit, fun _ => { val := undef }⟩, ⟨12, 44, Unit, fun _ => { val := undef }⟩, ⟨13, 45, Unit, fun _ => { val := undef }⟩, ⟨14, 46, Unit, fun _ => { val := undef }⟩, ⟨15, 47, Unit, fun _ => { val := undef }⟩, ⟨16, 48, Unit, fun _ => { val := undef }⟩, ⟨17, 49, Unit, fun _ => { val := undef }⟩] rfl rfl rfl (by kernel_rfl) rfl rfl rfl ⟨⟨_, rfl, [], rfl, by
 intro X_ Y_ F_ K_ hK_
 refine al_show (m := Mem.plus (memOf w0 Z0 [] [(oRow l1v4 9 tyStr l1x4)] []) X_ Y_) (S := over (tab [(0, (str a0)), (4, l1v4), (5, (iq l1i5)), (6, (str (a0.drop (l1i5).toNat))), (8, (iq r6.2.1)), (10, (iq (wq (r6.2.1 + (wq r6.1)))))]) F_) ?_
 refine al_mv rfl rfl ?_
 refine al_nil ?_
 exact fr_fin hK_ ()⟩, ⟨_, rfl, [0], rfl, by
 intro _
 intro X_ Y_ F_ K_ hK_
 refine al_show (m := Mem.plus (memOf w0 Z0 [] [(oRow l1v4 9 tyStr l1x4)] []) X_ Y_) (S := over (put (tab [(0, (str a0)), (4, l1v4), (5, (iq l1i5)), (6, (str (a0.drop (l1i5).toNat))), (8, (iq r6.2.1)), (10, (iq (wq (r6.2.1 + (wq r6.1)))))]) 32 (str (a0.drop (l1i5).toNat))) F_) ?_
 refine al_val (ov_strLen Tryz.underlying9 rfl rfl) ?_
 refine al_nil ?_
 exact fr_fin hK_ ()⟩, ⟨_, rfl, [], rfl, by
 intro X_ Y_ F_ K_ hK_
 refine al_show (m := Mem.plus (memOf w0 Z0 [] [(oRow l1v4 9 tyStr l1x4)] []) X_ Y_) (S := over (tab [(0, (str a0)), (4, l1v4), (5, (iq l1i5)), (6, (str (a0.drop (l1i5).toNat))), (8, (iq r6.2.1)), (10, (iq (wq (r6.2.1 + (wq r6.1)))))]) F_) ?_
 refine al_mv rfl rfl ?_
 refine al_nil ?_
 exact fr_fin hK_ ()⟩, ⟨_, rfl, [2], rfl, by
 intro _
 intro X_ Y_ F_ K_ hK_
 refine al_show (m := Mem.plus (memOf w0 Z0 [] [(oRow l1v4 9 tyStr l1x4)] []) X_ Y_) (S := over (put (tab [(0, (str a0)), (4, l1v4), (5, (iq l1i5)), (6, (str (a0.drop (l1i5).toNat))), (8, (iq r6.2.1)), (10, (iq (wq (r6.2.1 + (wq r6.1)))))]) 34 (iq (wq (r6.2.1 + (wq r6.1))))) F_) ?_
 refine al_in rfl rfl rfl rfl ?_
 refine al_nil ?_
 exact fr_fin hK_ ()⟩, ⟨_, rfl, [1, 3], rfl, by
 intro _
 intro _
 intro X_ Y_ F_ K_ hK_
 refine al_show (m := Mem.plus (memOf w0 Z0 [] [(oRow l1v4 9 tyStr l1x4)] []) X_ Y_) (S := over (put (put (tab [(0, (str a0)), (4, l1v4), (5, (iq l1i5)), (6, (str (a0.drop (l1i5).toNat))), (8, (iq r6.2.1)), (10, (iq (wq (r6.2.1 + (wq r6.1)))))]) 33 (iq ((a0.drop (l1i5).toNat).length : Int))) 35 (iq (wq ((wq (r6.2.1 + (wq r6.1))) + (8 : Int))))) F_) ?_
 refine al_in rfl rfl rfl rfl ?_
 refine al_nil ?_
 exact fr_fin hK_ ()⟩, ⟨_, rfl, [4], rfl, by
 intro _
 intro X_ Y_ F_ K_ hK_
 refine al_show (m := Mem.plus (memOf w0 Z0 [] [(oRow l1v4 9 tyStr l1x4)] []) X_ Y_) (S := over (put (tab [(0, (str a0)), (4, l1v4), (5, (iq l1i5)), (6, (str (a0.drop (l1i5).toNat))), (8, (iq r6.2.1)), (10, (iq (wq (r6.2.1 + (wq r6.1)))))]) 36 (bool (decide (((a0.drop (l1i5).toNat).length : Int) < (wq ((wq (r6.2.1 + (wq r6.1))) + (8 : Int))))))) F_) ?_
 refine al_val (ov_cast (by first | rw [hb17] | rfl) (ov_move rfl rfl)) ?_
 refine al_nil ?_
 exact fr_fin hK_ ()⟩, ⟨_, rfl, [5], rfl, by
 intro _
 intro X_ Y_ F_ K_ hK_
 refine al_show (m := Mem.plus (memOf w0 Z0 [] [(oRow l1v4 9 tyStr l1x4)] []) X_ Y_) (S := over (put (tab [(0, (str a0)), (4, l1v4), (5, (iq l1i5)), (6, (str (a0.drop (l1i5).toNat))), (8, (iq r6.2.1)), (10, (iq (wq (r6.2.1 + (wq r6.1)))))]) 37 (bool true)) F_) ?_
 refine al_skip ?_
 refine al_nil ?_
 exact fr_fin hK_ ()⟩, ⟨_, rfl, [5], rfl, by
 intro _
 intro X_ Y_ F_ K_ hK_
 refine al_show (m := Mem.plus (memOf w0 Z0 [] [(oRow l1v4 9 tyStr l1x4)] []) X_ Y_) (S := over (put (tab [(0, (str a0)), (4, l1v4), (5, (iq l1i5)), (6, (str (a0.drop (l1i5).toNat))), (8, (iq r6.2.1)), (10, (iq (wq (r6.2.1 + (wq r6.1)))))]) 37 (bool true)) F_) ?_
 refine al_skip ?_
 refine al_nil ?_
 exact fr_fin hK_ ()⟩, ⟨_, rfl, [5, 6, 7], rfl, by
 intro _
 intro _
 intro _
 intro X_ Y_ F_ K_ hK_
 refine al_show (m := Mem.plus (memOf w0 Z0 [] [(oRow l1v4 9 tyStr l1x4)] []) X_ Y_) (S := over (put (put (put (tab [(0, (str a0)), (4, l1v4), (5, (iq l1i5)), (6, (str (a0.drop (l1i5).toNat))), (8, (iq r6.2.1)), (10, (iq (wq (r6.2.1 + (wq r6.1)))))]) 37 (bool true)) 38 undef) 39 undef) F_) ?_
 refine al_skip ?_
 refine al_nil ?_
 exact fr_fin hK_ ()⟩, ⟨_, rfl, [5], rfl, by
 intro _
 intro X_ Y_ F_ K_ hK_
 refine al_show (m := Mem.plus (memOf w0 Z0 [] [(oRow l1v4 9 tyStr l1x4)] []) X_ Y_) (S := over (put (tab [(0, (str a0)), (4, l1v4), (5, (iq l1i5)), (6, (str (a0.drop (l1i5).toNat))), (8, (iq r6.2.1)), (10, (iq (wq (r6.2.1 + (wq r6.1)))))]) 37 (bool true)) F_) ?_
 refine al_skip ?_
 refine al_nil ?_
 exact fr_fin hK_ ()⟩, ⟨_, rfl, [5], rfl, by
 intro _
 intro X_ Y_ F_ K_ hK_
 refine al_show (m := Mem.plus (memOf w0 Z0 [] [(oRow l1v4 9 tyStr l1x4)] []) X_ Y_) (S := over (put (tab [(0, (str a0)), (4, l1v4), (5, (iq l1i5)), (6, (str (a0.drop (l1i5).toNat))), (8, (iq r6.2.1)), (10, (iq (wq (r6.2.1 + (wq r6.1)))))]) 37 (bool true)) F_) ?_
 refine al_skip ?_
 refine al_nil ?_
 exact fr_fin hK_ ()⟩, ⟨_, rfl, [5], rfl, by
 intro _
 intro X_ Y_ F_ K_ hK_
 refine al_show (m := Mem.plus (memOf w0 Z0 [] [(oRow l1v4 9 tyStr l1x4)] []) X_ Y_) (S := over (put (tab [(0, (str a0)), (4, l1v4), (5, (iq l1i5)), (6, (str (a0.drop (l1i5).toNat))), (8, (iq r6.2.1)), (10, (iq (wq (r6.2.1 + (wq r6.1)))))]) 37 (bool true)) F_) ?_
 refine al_skip ?_
 refine al_nil ?_
 exact fr_fin hK_ ()⟩, ⟨_, rfl, [5, 11], rfl, by
 intro _
 intro _
 intro X_ Y_ F_ K_ hK_
 refine al_show (m := Mem.plus (memOf w0 Z0 [] [(oRow l1v4 9 tyStr l1x4)] []) X_ Y_) (S := over (put (put (tab [(0, (str a0)), (4, l1v4), (5, (iq l1i5)), (6, (str (a0.drop (l1i5).toNat))), (8, (iq r6.2.1)), (10, (iq (wq (r6.2.1 + (wq r6.1)))))]) 37 (bool true)) 44 undef) F_) ?_
 refine al_skip ?_
 refine al_nil ?_
 exact fr_fin hK_ ()⟩, ⟨_, rfl, [5, 9, 10, 12], rfl, by
 intro _
 intro _
 intro _
 intro _
 intro X_ Y_ F_ K_ hK_
 refine al_show (m := Mem.plus (memOf w0 Z0 [] [(oRow l1v4 9 tyStr l1x4)] []) X_ Y_) (S := over (put (put (put (put (tab [(0, (str a0)), (4, l1v4), (5, (iq l1i5)), (6, (str (a0.drop (l1i5).toNat))), (8, (iq r6.2.1)), (10, (iq (wq (r6.2.1 + (wq r6.1)))))]) 37 (bool true)) 42 undef) 43 undef) 45 undef) F_) ?_
 refine al_skip ?_
 refine al_nil ?_
 exact fr_fin hK_ ()⟩, ⟨_, rfl, [5, 13], rfl, by
 intro _
 intro _
 intro X_ Y_ F_ K_ hK_
 refine al_show (m := Mem.plus (memOf w0 Z0 [] [(oRow l1v4 9 tyStr l1x4)] []) X_ Y_) (S := over (put (put (tab [(0, (str a0)), (4, l1v4), (5, (iq l1i5)), (6, (str (a0.drop (l1i5).toNat))), (8, (iq r6.2.1)), (10, (iq (wq (r6.2.1 + (wq r6.1)))))]) 37 (bool true)) 46 undef) F_) ?_
 refine al_skip ?_
 refine al_nil ?_
 exact fr_fin hK_ ()⟩, ⟨_, rfl, [5, 14], rfl, by
 intro _
 intro _
 intro X_ Y_ F_ K_ hK_
 refine al_show (m := Mem.plus (memOf w0 Z0 [] [(oRow l1v4 9 tyStr l1x4)] []) X_ Y_) (S := over (put (put (tab [(0, (str a0)), (4, l1v4), (5, (iq l1i5)), (6, (str (a0.drop (l1i5).toNat))), (8, (iq r6.2.1)), (10, (iq (wq (r6.2.1 + (wq r6.1)))))]) 37 (bool true)) 47 undef) F_) ?_
 refine al_skip ?_
 refine al_nil ?_
 exact fr_fin hK_ ()⟩, ⟨_, rfl, [5, 15], rfl, by
 intro _
 intro _
 intro X_ Y_ F_ K_ hK_
 refine al_show (m := Mem.plus (memOf w0 Z0 [] [(oRow l1v4 9 tyStr l1x4)] []) X_ Y_) (S := over (put (put (tab [(0, (str a0)), (4, l1v4), (5, (iq l1i5)), (6, (str (a0.drop (l1i5).toNat))), (8, (iq r6.2.1)), (10, (iq (wq (r6.2.1 + (wq r6.1)))))]) 37 (bool true)) 48 undef) F_) ?_
 refine al_skip ?_
 refine al_nil ?_
 exact fr_fin hK_ ()⟩, trivial⟩ ?_
     intro _
     intro _
     intro _
     intro _
     intro _
     intro _
     intro _
     intro _
     intro _
     intro X_ Y_ F_ K_ hK_
     refine al_show (m := Mem.plus (memOf w0 Z0 [] [(oRow l1v4 9 tyStr l1x4)] []) X_ Y_) (S := over (put (put (put (put (put (put (put (put (put (tab [(0, (str a0)), (4, l1v4), (5, (iq l1i5)), (6, (str (a0.drop (l1i5).toNat))), (8, (iq r6.2.1)), (10, (iq (wq (r6.2.1 + (wq r6.1)))))]) 32 (str (a0.drop (l1i5).toNat))) 33 (iq ((a0.drop (l1i5).toNat).length : Int))) 34 (iq (wq (r6.2.1 + (wq r6.1))))) 35 (iq (wq ((wq (r6.2.1 + (wq r6.1))) + (8 : Int))))) 36 (bool (decide (((a0.drop (l1i5).toNat).length : Int) < (wq ((wq (r6.2.1 + (wq r6.1))) + (8 : Int))))))) 37 (bool true)) 38 undef) 39 undef) 40 undef) F_) ?_
     refine al_skip ?_
     refine al_nil ?_
     refine aq_show (m := Mem.plus (memOf w0 Z0 [] [(oRow l1v4 9 tyStr l1x4)] []) X_ Y_) ?_
     refine aq_next hK_ [0] [] [(0, (str a0)), (4, l1v4), (5, (iq l1i5)), (6, (str (a0.drop (l1i5).toNat))), (8, (iq r6.2.1)), (10, (iq (wq (r6.2.1 + (wq r6.1))))), (37, (bool true)), (41, undef)] [42, 43, 44, 45, 46, 47, 48, 49] [⟨18, 50, Unit, fun _ => { val := undef }⟩, ⟨19, 51, Unit, fun _ => { val := (bool true) }⟩] rfl rfl (by decide) rfl ⟨rfl, rfl, rfl, rfl, rfl, rfl, rfl, rfl, trivial⟩ ⟨rfl, rfl, rfl, rfl, rfl, rfl, rfl, rfl, trivial⟩ ?_
     clear hK_ K_ F_ X_ Y_
     refine ta_show (m := (memOf w0 Z0 [] [(oRow l1v4 9 tyStr l1x4)] [])) (S := (tab [(0, (str a0)), (4, l1v4), (5, (iq l1i5)), (6, (str (a0.drop (l1i5).toNat))), (8, (iq r6.2.1)), (10, (iq (wq (r6.2.1 + (wq r6.1))))), (37, (bool true)), (41, undef)])) ?_
     refine ta_end [10, 11, 12, 13, 14, 15, 16, 17, 18, 19] [42, 43, 44, 45, 46, 47, 48, 49, 50, 51] rfl rfl (by kernel_rfl) rfl ⟨⟨_, rfl, [], rfl, by
 intro X_ Y_ F_ K_ hK_
 refine al_show (m := Mem.plus (memOf w0 Z0 [] [(oRow l1v4 9 tyStr l1x4)] []) X_ Y_) (S := over (tab [(0, (str a0)), (4, l1v4), (5, (iq l1i5)), (6, (str (a0.drop (l1i5).toNat))), (8, (iq r6.2.1)), (10, (iq (wq (r6.2.1 + (wq r6.1))))), (37, (bool true)), (41, undef)]) F_) ?_
 refine al_skip ?_
 refine al_nil ?_
 exact fr_fin hK_ ()⟩, ⟨_, rfl, [], rfl, by
 intro X_ Y_ F_ K_ hK_
 refine al_show (m := Mem.plus (memOf w0 Z0 [] [(oRow l1v4 9 tyStr l1x4)] []) X_ Y_) (S := over (tab [(0, (str a0)), (4, l1v4), (5, (iq l1i5)), (6, (str (a0.drop (l1i5).toNat))), (8, (iq r6.2.1)), (10, (iq (wq (r6.2.1 + (wq r6.1))))), (37, (bool true)), (41, undef)]) F_) ?_
 refine al_skip ?_
 refine al_nil ?_
 exact fr_fin hK_ ()⟩, ⟨_, rfl, [], rfl, by
 intro X_ Y_ F_ K_ hK_
 refine al_show (m := Mem.plus (memOf w0 Z0 [] [(oRow l1v4 9 tyStr l1x4)] []) X_ Y_) (S := over (tab [(0, (str a0)), (4, l1v4), (5, (iq l1i5)), (6, (str (a0.drop (l1i5).toNat))), (8, (iq r6.2.1)), (10, (iq (wq (r6.2.1 + (wq r6.1))))), (37, (bool true)), (41, undef)]) F_) ?_
 refine al_skip ?_
 refine al_nil ?_
 exact fr_fin hK_ ()⟩, ⟨_, rfl, [2], rfl, by
 intro _
 intro X_ Y_ F_ K_ hK_
 refine al_show (m := Mem.plus (memOf w0 Z0 [] [(oRow l1v4 9 tyStr l1x4)] []) X_ Y_) (S := over (put (tab [(0, (str a0)), (4, l1v4), (5, (iq l1i5)), (6, (str (a0.drop (l1i5).toNat))), (8, (iq r6.2.1)), (10, (iq (wq (r6.2.1 + (wq r6.1))))), (37, (bool true)), (41, undef)]) 44 undef) F_) ?_
 refine al_skip ?_
 refine al_nil ?_
 exact fr_fin hK_ ()⟩, ⟨_, rfl, [0, 1, 3], rfl, by
 intro _
 intro _
 intro _
 intro X_ Y_ F_ K_ hK_
 refine al_show (m := Mem.plus (memOf w0 Z0 [] [(oRow l1v4 9 tyStr l1x4)] []) X_ Y_) (S := over (put (put (put (tab [(0, (str a0)), (4, l1v4), (5, (iq l1i5)), (6, (str (a0.drop (l1i5).toNat))), (8, (iq r6.2.1)), (10, (iq (wq (r6.2.1 + (wq r6.1))))), (37, (bool true)), (41, undef)]) 42 undef) 43 undef) 45 undef) F_) ?_
 refine al_skip ?_
 refine al_nil ?_
 exact fr_fin hK_ ()⟩, ⟨_, rfl, [4], rfl, by
 intro _
 intro X_ Y_ F_ K_ hK_
 refine al_show (m := Mem.plus (memOf w0 Z0 [] [(oRow l1v4 9 tyStr l1x4)] []) X_ Y_) (S := over (put (tab [(0, (str a0)), (4, l1v4), (5, (iq l1i5)), (6, (str (a0.drop (l1i5).toNat))), (8, (iq r6.2.1)), (10, (iq (wq (r6.2.1 + (wq r6.1))))), (37, (bool true)), (41, undef)]) 46 undef) F_) ?_
 refine al_skip ?_
 refine al_nil ?_
 exact fr_fin hK_ ()⟩, ⟨_, rfl, [5], rfl, by
 intro _
 intro X_ Y_ F_ K_ hK_
 refine al_show (m := Mem.plus (memOf w0 Z0 [] [(oRow l1v4 9 tyStr l1x4)] []) X_ Y_) (S := over (put (tab [(0, (str a0)), (4, l1v4), (5, (iq l1i5)), (6, (str (a0.drop (l1i5).toNat))), (8, (iq r6.2.1)), (10, (iq (wq (r6.2.1 + (wq r6.1))))), (37, (bool true)), (41, undef)]) 47 undef) F_) ?_
 refine al_skip ?_
 refine al_nil ?_
 exact fr_fin hK_ ()⟩, ⟨_, rfl, [6], rfl, by
 intro _
 intro X_ Y_ F_ K_ hK_
 refine al_show (m := Mem.plus (memOf w0 Z0 [] [(oRow l1v4 9 tyStr l1x4)] []) X_ Y_) (S := over (put (tab [(0, (str a0)), (4, l1v4), (5, (iq l1i5)), (6, (str (a0.drop (l1i5).toNat))), (8, (iq r6.2.1)), (10, (iq (wq (r6.2.1 + (wq r6.1))))), (37, (bool true)), (41, undef)]) 48 undef) F_) ?_
 refine al_skip ?_
 refine al_nil ?_
 exact fr_fin hK_ ()⟩, ⟨_, rfl, [7], rfl, by
 intro _
 intro X_ Y_ F_ K_ hK_
 refine al_show (m := Mem.plus (memOf w0 Z0 [] [(oRow l1v4 9 tyStr l1x4)] []) X_ Y_) (S := over (put (tab [(0, (str a0)), (4, l1v4), (5, (iq l1i5)), (6, (str (a0.drop (l1i5).toNat))), (8, (iq r6.2.1)), (10, (iq (wq (r6.2.1 + (wq r6.1))))), (37, (bool true)), (41, undef)]) 49 undef) F_) ?_
 refine al_skip ?_
 refine al_nil ?_
 exact fr_fin hK_ ()⟩, ⟨_, rfl, [8], rfl, by
 intro _
 intro X_ Y_ F_ K_ hK_
 refine al_show (m := Mem.plus (memOf w0 Z0 [] [(oRow l1v4 9 tyStr l1x4)] []) X_ Y_) (S := over (put (tab [(0, (str a0)), (4, l1v4), (5, (iq l1i5)), (6, (str (a0.drop (l1i5).toNat))), (8, (iq r6.2.1)), (10, (iq (wq (r6.2.1 + (wq r6.1))))), (37, (bool true)), (41, undef)]) 50 undef) F_) ?_
 refine al_val (ov_pick_t rfl rfl rfl) ?_
 refine al_nil ?_
 exact fr_fin hK_ ()⟩, trivial⟩ ?_
     intro _
     intro _
     intro _
     intro _
     intro _
     intro _
     intro _
     intro _
     intro _
     intro _
     refine aq_show (m := (memOf w0 Z0 [] [(oRow l1v4 9 tyStr l1x4)] [])) (S := (put (put (put (put (put (put (put (put (put (put (tab [(0, (str a0)), (4, l1v4), (5, (iq l1i5)), (6, (str (a0.drop (l1i5).toNat))), (8, (iq r6.2.1)), (10, (iq (wq (r6.2.1 + (wq r6.1))))), (37, (bool true)), (41, undef)]) 42 undef) 43 undef) 44 undef) 45 undef) 46 undef) 47 undef) 48 undef) 49 undef) 50 undef) 51 (bool true))) ?_
     exact aq_join true h (fun w a hm hs => norm hm hs [0] [] [(0, (str a0)), (4, l1v4), (5, (iq l1i5)), (6, (str (a0.drop (l1i5).toNat))), (8, (iq r6.2.1)), (10, (iq (wq (r6.2.1 + (wq r6.1))))), (51, (bool true))] (by decide) ⟨rfl, rfl, rfl, rfl, rfl, rfl, rfl, trivial⟩)
    ·replace h := bif_f hb17 h
     obtain ⟨hc18, h⟩ := req_some h
     obtain ⟨hc19, h⟩ := req_some h
     obtain ⟨hc20, h⟩ := req_some h
     obtain ⟨hc23, h⟩ := req_some h
     refine aw_region_open [⟨0, 32, Unit, fun _ => { val := (str (a0.drop (l1i5).toNat)) }⟩, ⟨1, 33, Unit, fun _ => { val := (iq ((a0.drop (l1i5).toNat).length : Int)) }⟩, ⟨2, 34, Unit, fun _ => { val := (iq (wq (r6.2.1 + (wq r6.1)))) }⟩, ⟨3, 35, Unit, fun _ => { val := (iq (wq ((wq (r6.2.1 + (wq r6.1))) + (8 : Int)))) }⟩, ⟨4, 36, Unit, fun _ => { val := (bool (decide (((a0.drop (l1i5).toNat).length : Int) < (wq ((wq (r6.2.1 + (wq r6.1))) + (8 : Int)))))) }⟩, ⟨5, 37, Unit, fun _ => { val := (bool false) }⟩, ⟨6, 38, Unit, fun _ => { val := (str (a0.drop (l1i5).toNat)) }⟩, ⟨7, 39, Unit, fun _ => { val := (iq (wq (r6.2.1 + (wq r6.1)))) }⟩, ⟨8, 40, Unit, fun _ => { val := (str ((a0.drop (l1i5).toNat).take ((wq (r6.2.1 + (wq r6.1)))).toNat)) }⟩, ⟨10, 42, Unit, fun _ => { val := (str (a0.drop (l1i5).toNat)) }⟩, ⟨11, 43, Unit, fun _ => { val := (iq (wq (r6.2.1 + (wq r6.1)))) }⟩, ⟨12, 44, Unit, fun _ => { val := (iq (wq (r6.2.1 + (wq r6.1)))) }⟩, ⟨13, 45, Unit, fun _ => { val := (iq (wq ((wq (r6.2.1 + (wq r6.1))) + (8 : Int)))) }⟩, ⟨14, 46, Unit, fun _ => { val := (str (cut (a0.drop (l1i5).toNat) (wq (r6.2.1 + (wq r6.1))) (wq ((wq (r6.2.1 + (wq r6.1))) + (8 : Int))))) }⟩, ⟨15, 47, Value, fun (i : Value) => { val := i, fz := [(fDat (tyList tyU8) [i] (cut (a0.drop (l1i5).toNat) (wq (r6.2.1 + (wq r6.1))) (wq ((wq (r6.2.1 + (wq r6.1))) + (8 : Int)))))] }⟩, ⟨16, 48, Value, fun (i : Value) => { val := i, fz := [(fPtr tyA8u8 i (ofA8u8 (cut (a0.drop (l1i5).toNat) (wq (r6.2.1 + (wq r6.1))) (wq ((wq (r6.2.1 + (wq r6.1))) + (8 : Int))))))] }⟩, ⟨17, 49, Unit, fun _ => { val := (ag (cA8u8 (ofA8u8 (cut (a0.drop (l1i5).toNat) (wq (r6.2.1 + (wq r6.1))) (wq ((wq (r6.2.1 + (wq r6.1))) + (8 : Int))))))) }⟩] (tab [(0, (str a0)), (4, l1v4), (5, (iq l1i5)), (6, (str (a0.drop (l1i5).toNat))), (8, (iq r6.2.1)), (10, (iq (wq (r6.2.1 + (wq r6.1)))))]) mixed (fun a hs => hs.tab _ (allT_mem ⟨rfl, rfl, rfl, rfl, rfl, rfl, trivial⟩)) ?_
     refine ta_show (m := (memOf w0 Z0 [] [(oRow l1v4 9 tyStr l1x4)] [])) (S := (tab [(0, (str a0)), (4, l1v4), (5, (iq l1i5)), (6, (str (a0.drop (l1i5).toNat))), (8, (iq r6.2.1)), (10, (iq (wq (r6.2.1 + (wq r6.1)))))])) ?_
     refine ta_step 9 _ [0, 1, 2, 3, 4, 5, 6, 7, 8, 10, 11, 12, 13, 14, 15, 16, 17] [32, 33, 34, 35, 36, 37, 38, 39, 40, 42, 43, 44, 45, 46, 47, 48, 49] [0, 1, 2, 3, 4, 5, 6, 7, 8] [18, 19] [⟨0, 32, Unit, fun _ => { val := (str (a0.drop (l1i5).toNat)) }⟩, ⟨1, 33, Unit, fun _ => { val := (iq ((a0.drop (l1i5).toNat).length : Int)) }⟩, ⟨2, 34, Unit, fun _ => { val := (iq (wq (r6.2.1 + (wq r6.1)))) }⟩, ⟨3, 35, Unit, fun _ => { val := (iq (wq ((wq (r6.2.1 + (wq r6.1))) + (8 : Int)))) }⟩, ⟨4, 36, Unit, fun _ => { val := (bool (decide (((a0.drop (l1i5).toNat).length : Int) < (wq ((wq (r6.2.1 + (wq r6.1))) + (8 : Int)))))) }⟩, ⟨5, 37, Unit, fun _ => { val := (bool false) }⟩, ⟨6, 38, Unit, fun _ => { val := (str (a0.drop (l1i5).toNat)) }⟩, ⟨7, 39, Unit, fun _ => { val := (iq (wq (r6.2.1 + (wq r6.1)))) }⟩, ⟨8, 40, Unit, fun _ => { val := (str ((a0.drop (l1i5).toNat).take ((wq (r6.2.1 + (wq r6.1)))).toNat)) }⟩] [⟨10, 42, Unit, fun _ => { val := (str (a0.drop (l1i5).toNat)) }⟩, ⟨11, 43, Unit, fun _ => { val := (iq (wq (r6.2.1 + (wq r6.1)))) }⟩, ⟨12, 44, Unit, fun _ => { val := (iq (wq (r6.2.1 + (wq r6.1)))) }⟩, ⟨13, 45, Unit, fun _ => { val := (iq (wq ((wq (r6.2.1 + (wq r6.1))) + (8 : Int)))) }⟩, ⟨14, 46, Unit, fun _ => { val := (str (cut (a0.drop (l1i5).toNat) (wq (r6.2.1 + (wq r6.1))) (wq ((wq (r6.2.1 + (wq r6.1))) + (8 : Int))))) }⟩, ⟨15, 47, Value, fun (i : Value) => { val := i, fz := [(fDat (tyList tyU8) [i] (cut (a0.drop (l1i5).toNat) (wq (r6.2.1 + (wq r6.1))) (wq ((wq (r6.2.1 + (wq r6.1))) + (8 : Int)))))] }⟩, ⟨16, 48, Value, fun (i : Value) => { val := i, fz := [(fPtr tyA8u8 i (ofA8u8 (cut (a0.drop (l1i5).toNat) (wq (r6.2.1 + (wq r6.1))) (wq ((wq (r6.2.1 + (wq r6.1))) + (8 : Int))))))] }⟩, ⟨17, 49, Unit, fun _ => { val := (ag (cA8u8 (ofA8u8 (cut (a0.drop (l1i5).toNat) (wq (r6.2.1 + (wq r6.1))) (wq ((wq (r6.2.1 + (wq r6.1))) + (8 : Int))))))) }⟩] rfl rfl rfl (by kernel_rfl) rfl rfl rfl ⟨⟨_, rfl, [], rfl, by
 intro X_ Y_ F_ K_ hK_
 refine al_show (m := Mem.plus (memOf w0 Z0 [] [(oRow l1v4 9 tyStr l1x4)] []) X_ Y_) (S := over (tab [(0, (str a0)), (4, l1v4), (5, (iq l1i5)), (6, (str (a0.drop (l1i5).toNat))), (8, (iq r6.2.1)), (10, (iq (wq (r6.2.1 + (wq r6.1)))))]) F_) ?_
 refine al_mv rfl rfl ?_
 refine al_nil ?_
 exact fr_fin hK_ ()⟩, ⟨_, rfl, [0], rfl, by
 intro _
 intro X_ Y_ F_ K_ hK_
 refine al_show (m := Mem.plus (memOf w0 Z0 [] [(oRow l1v4 9 tyStr l1x4)] []) X_ Y_) (S := over (put (tab [(0, (str a0)), (4, l1v4), (5, (iq l1i5)), (6, (str (a0.drop (l1i5).toNat))), (8, (iq r6.2.1)), (10, (iq (wq (r6.2.1 + (wq r6.1)))))]) 32 (str (a0.drop (l1i5).toNat))) F_) ?_
 refine al_val (ov_strLen Tryz.underlying9 rfl rfl) ?_
 refine al_nil ?_
 exact fr_fin hK_ ()⟩, ⟨_, rfl, [], rfl, by
 intro X_ Y_ F_ K_ hK_
 refine al_show (m := Mem.plus (memOf w0 Z0 [] [(oRow l1v4 9 tyStr l1x4)] []) X_ Y_) (S := over (tab [(0, (str a0)), (4, l1v4), (5, (iq l1i5)), (6, (str (a0.drop (l1i5).toNat))), (8, (iq r6.2.1)), (10, (iq (wq (r6.2.1 + (wq r6.1)))))]) F_) ?_
 refine al_mv rfl rfl ?_
 refine al_nil ?_
 exact fr_fin hK_ ()⟩, ⟨_, rfl, [2], rfl, by
 intro _
 intro X_ Y_ F_ K_ hK_
 refine al_show (m := Mem.plus (memOf w0 Z0 [] [(oRow l1v4 9 tyStr l1x4)] []) X_ Y_) (S := over (put (tab [(0, (str a0)), (4, l1v4), (5, (iq l1i5)), (6, (str (a0.drop (l1i5).toNat))), (8, (iq r6.2.1)), (10, (iq (wq (r6.2.1 + (wq r6.1)))))]) 34 (iq (wq (r6.2.1 + (wq r6.1))))) F_) ?_
 refine al_in rfl rfl rfl rfl ?_
 refine al_nil ?_
 exact fr_fin hK_ ()⟩, ⟨_, rfl, [1, 3], rfl, by
 intro _
 intro _
 intro X_ Y_ F_ K_ hK_
 refine al_show (m := Mem.plus (memOf w0 Z0 [] [(oRow l1v4 9 tyStr l1x4)] []) X_ Y_) (S := over (put (put (tab [(0, (str a0)), (4, l1v4), (5, (iq l1i5)), (6, (str (a0.drop (l1i5).toNat))), (8, (iq r6.2.1)), (10, (iq (wq (r6.2.1 + (wq r6.1)))))]) 33 (iq ((a0.drop (l1i5).toNat).length : Int))) 35 (iq (wq ((wq (r6.2.1 + (wq r6.1))) + (8 : Int))))) F_) ?_
 refine al_in rfl rfl rfl rfl ?_
 refine al_nil ?_
 exact fr_fin hK_ ()⟩, ⟨_, rfl, [4], rfl, by
 intro _
 intro X_ Y_ F_ K_ hK_
 refine al_show (m := Mem.plus (memOf w0 Z0 [] [(oRow l1v4 9 tyStr l1x4)] []) X_ Y_) (S := over (put (tab [(0, (str a0)), (4, l1v4), (5, (iq l1i5)), (6, (str (a0.drop (l1i5).toNat))), (8, (iq r6.2.1)), (10, (iq (wq (r6.2.1 + (wq r6.1)))))]) 36 (bool (decide (((a0.drop (l1i5).toNat).length : Int) < (wq ((wq (r6.2.1 + (wq r6.1))) + (8 : Int))))))) F_) ?_
 refine al_val (ov_cast (by first | rw [hb17] | rfl) (ov_move rfl rfl)) ?_
 refine al_nil ?_
 exact fr_fin hK_ ()⟩, ⟨_, rfl, [5], rfl, by
 intro _
 intro X_ Y_ F_ K_ hK_
 refine al_show (m := Mem.plus (memOf w0 Z0 [] [(oRow l1v4 9 tyStr l1x4)] []) X_ Y_) (S := over (put (tab [(0, (str a0)), (4, l1v4), (5, (iq l1i5)), (6, (str (a0.drop (l1i5).toNat))), (8, (iq r6.2.1)), (10, (iq (wq (r6.2.1 + (wq r6.1)))))]) 37 (bool false)) F_) ?_
 refine al_mv rfl rfl ?_
 refine al_nil ?_
 exact fr_fin hK_ ()⟩, ⟨_, rfl, [5], rfl, by
 intro _
 intro X_ Y_ F_ K_ hK_
 refine al_show (m := Mem.plus (memOf w0 Z0 [] [(oRow l1v4 9 tyStr l1x4)] []) X_ Y_) (S := over (put (tab [(0, (str a0)), (4, l1v4), (5, (iq l1i5)), (6, (str (a0.drop (l1i5).toNat))), (8, (iq r6.2.1)), (10, (iq (wq (r6.2.1 + (wq r6.1)))))]) 37 (bool false)) F_) ?_
 refine al_mv rfl rfl ?_
 refine al_nil ?_
 exact fr_fin hK_ ()⟩, ⟨_, rfl, [5, 6, 7], rfl, by
 intro _
 intro _
 intro _
 intro X_ Y_ F_ K_ hK_
 refine al_show (m := Mem.plus (memOf w0 Z0 [] [(oRow l1v4 9 tyStr l1x4)] []) X_ Y_) (S := over (put (put (put (tab [(0, (str a0)), (4, l1v4), (5, (iq l1i5)), (6, (str (a0.drop (l1i5).toNat))), (8, (iq r6.2.1)), (10, (iq (wq (r6.2.1 + (wq r6.1)))))]) 37 (bool false)) 38 (str (a0.drop (l1i5).toNat))) 39 (iq (wq (r6.2.1 + (wq r6.1))))) F_) ?_
 refine al_val (ov_strTo hc18.1 hc18.2 Tryz.underlying9 rfl rfl rfl) ?_
 refine al_nil ?_
 exact fr_fin hK_ ()⟩, ⟨_, rfl, [5], rfl, by
 intro _
 intro X_ Y_ F_ K_ hK_
 refine al_show (m := Mem.plus (memOf w0 Z0 [] [(oRow l1v4 9 tyStr l1x4)] []) X_ Y_) (S := over (put (tab [(0, (str a0)), (4, l1v4), (5, (iq l1i5)), (6, (str (a0.drop (l1i5).toNat))), (8, (iq r6.2.1)), (10, (iq (wq (r6.2.1 + (wq r6.1)))))]) 37 (bool false)) F_) ?_
 refine al_mv rfl rfl ?_
 refine al_nil ?_
 exact fr_fin hK_ ()⟩, ⟨_, rfl, [5], rfl, by
 intro _
 intro X_ Y_ F_ K_ hK_
 refine al_show (m := Mem.plus (memOf w0 Z0 [] [(oRow l1v4 9 tyStr l1x4)] []) X_ Y_) (S := over (put (tab [(0, (str a0)), (4, l1v4), (5, (iq l1i5)), (6, (str (a0.drop (l1i5).toNat))), (8, (iq r6.2.1)), (10, (iq (wq (r6.2.1 + (wq r6.1)))))]) 37 (bool false)) F_) ?_
 refine al_mv rfl rfl ?_
 refine al_nil ?_
 exact fr_fin hK_ ()⟩, ⟨_, rfl, [5], rfl, by
 intro _
 intro X_ Y_ F_ K_ hK_
 refine al_show (m := Mem.plus (memOf w0 Z0 [] [(oRow l1v4 9 tyStr l1x4)] []) X_ Y_) (S := over (put (tab [(0, (str a0)), (4, l1v4), (5, (iq l1i5)), (6, (str (a0.drop (l1i5).toNat))), (8, (iq r6.2.1)), (10, (iq (wq (r6.2.1 + (wq r6.1)))))]) 37 (bool false)) F_) ?_
 refine al_mv rfl rfl ?_
 refine al_nil ?_
 exact fr_fin hK_ ()⟩, ⟨_, rfl, [5, 11], rfl, by
 intro _
 intro _
 intro X_ Y_ F_ K_ hK_
 refine al_show (m := Mem.plus (memOf w0 Z0 [] [(oRow l1v4 9 tyStr l1x4)] []) X_ Y_) (S := over (put (put (tab [(0, (str a0)), (4, l1v4), (5, (iq l1i5)), (6, (str (a0.drop (l1i5).toNat))), (8, (iq r6.2.1)), (10, (iq (wq (r6.2.1 + (wq r6.1)))))]) 37 (bool false)) 44 (iq (wq (r6.2.1 + (wq r6.1))))) F_) ?_
 refine al_in rfl rfl rfl rfl ?_
 refine al_nil ?_
 exact fr_fin hK_ ()⟩, ⟨_, rfl, [5, 9, 10, 12], rfl, by
 intro _
 intro _
 intro _
 intro _
 intro X_ Y_ F_ K_ hK_
 refine al_show (m := Mem.plus (memOf w0 Z0 [] [(oRow l1v4 9 tyStr l1x4)] []) X_ Y_) (S := over (put (put (put (put (tab [(0, (str a0)), (4, l1v4), (5, (iq l1i5)), (6, (str (a0.drop (l1i5).toNat))), (8, (iq r6.2.1)), (10, (iq (wq (r6.2.1 + (wq r6.1)))))]) 37 (bool false)) 42 (str (a0.drop (l1i5).toNat))) 43 (iq (wq (r6.2.1 + (wq r6.1))))) 45 (iq (wq ((wq (r6.2.1 + (wq r6.1))) + (8 : Int))))) F_) ?_
 refine al_val (ov_strCut hc19.1 hc19.2.1 hc19.2.2 Tryz.underlying9 rfl rfl rfl rfl) ?_
 refine al_nil ?_
 exact fr_fin hK_ ()⟩, ⟨_, rfl, [5, 13], rfl, by
 intro _
 intro _
 intro X_ Y_ F_ K_ hK_
 refine al_show (m := Mem.plus (memOf w0 Z0 [] [(oRow l1v4 9 tyStr l1x4)] []) X_ Y_) (S := over (put (put (tab [(0, (str a0)), (4, l1v4), (5, (iq l1i5)), (6, (str (a0.drop (l1i5).toNat))), (8, (iq r6.2.1)), (10, (iq (wq (r6.2.1 + (wq r6.1)))))]) 37 (bool false)) 46 (str (cut (a0.drop (l1i5).toNat) (wq (r6.2.1 + (wq r6.1))) (wq ((wq (r6.2.1 + (wq r6.1))) + (8 : Int)))))) F_) ?_
 refine al_bytes hc20 rfl Tryz.underlying9 Tryz.underlying58 Tryz.underlying5 rfl (fun s21 => ?_)
 refine al_nil ?_
 exact fr_fin hK_ s21⟩, ⟨_, rfl, [5, 14], rfl, by
 intro _
 intro s21
 intro X_ Y_ F_ K_ hK_
 refine al_show (m := Mem.plus (memOf w0 Z0 [] [(oRow l1v4 9 tyStr l1x4)] [(fDat (tyList tyU8) [s21] (cut (a0.drop (l1i5).toNat) (wq (r6.2.1 + (wq r6.1))) (wq ((wq (r6.2.1 + (wq r6.1))) + (8 : Int)))))]) X_ Y_) (S := over (put (put (tab [(0, (str a0)), (4, l1v4), (5, (iq l1i5)), (6, (str (a0.drop (l1i5).toNat))), (8, (iq r6.2.1)), (10, (iq (wq (r6.2.1 + (wq r6.1)))))]) 37 (bool false)) 47 s21) F_) ?_
 refine al_s2ap (τA := tyA8u8) (x := (ofA8u8 (cut (a0.drop (l1i5).toNat) (wq (r6.2.1 + (wq r6.1))) (wq ((wq (r6.2.1 + (wq r6.1))) + (8 : Int)))))) 0 8 hc23 rfl (fun h9 => oflA8u8 hc23 h9) rfl rfl Tryz.underlying37 rfl (fun p22 => ?_)
 refine al_nil ?_
 exact fr_fin hK_ p22⟩, ⟨_, rfl, [5, 15], rfl, by
 intro _
 intro p22
 intro X_ Y_ F_ K_ hK_
 refine al_show (m := Mem.plus (memOf w0 Z0 [] [(oRow l1v4 9 tyStr l1x4)] [(fPtr tyA8u8 p22 (ofA8u8 (cut (a0.drop (l1i5).toNat) (wq (r6.2.1 + (wq r6.1))) (wq ((wq (r6.2.1 + (wq r6.1))) + (8 : Int))))))]) X_ Y_) (S := over (put (put (tab [(0, (str a0)), (4, l1v4), (5, (iq l1i5)), (6, (str (a0.drop (l1i5).toNat))), (8, (iq r6.2.1)), (10, (iq (wq (r6.2.1 + (wq r6.1)))))]) 37 (bool false)) 48 p22) F_) ?_
 refine al_val (ov_loadP (ds := (cA8u8 (ofA8u8 (cut (a0.drop (l1i5).toNat) (wq (r6.2.1 + (wq r6.1))) (wq ((wq (r6.2.1 + (wq r6.1))) + (8 : Int))))))) 0 rfl encA8u8 rfl Tryz.underlying37 sz37 rfl rfl rfl) ?_
 refine al_nil ?_
 exact fr_fin hK_ ()⟩, trivial⟩ ?_
     intro _
     intro _
     intro _
     intro _
     intro _
     intro _
     intro _
     intro _
     intro _
     intro X_ Y_ F_ K_ hK_
     refine al_show (m := Mem.plus (memOf w0 Z0 [] [(oRow l1v4 9 tyStr l1x4)] []) X_ Y_) (S := over (put (put (put (put (put (put (put (put (put (tab [(0, (str a0)), (4, l1v4), (5, (iq l1i5)), (6, (str (a0.drop (l1i5).toNat))), (8, (iq r6.2.1)), (10, (iq (wq (r6.2.1 + (wq r6.1)))))]) 32 (str (a0.drop (l1i5).toNat))) 33 (iq ((a0.drop (l1i5).toNat).length : Int))) 34 (iq (wq (r6.2.1 + (wq r6.1))))) 35 (iq (wq ((wq (r6.2.1 + (wq r6.1))) + (8 : Int))))) 36 (bool (decide (((a0.drop (l1i5).toNat).length : Int) < (wq ((wq (r6.2.1 + (wq r6.1))) + (8 : Int))))))) 37 (bool false)) 38 (str (a0.drop (l1i5).toNat))) 39 (iq (wq (r6.2.1 + (wq r6.1))))) 40 (str ((a0.drop (l1i5).toNat).take ((wq (r6.2.1 + (wq r6.1)))).toNat))) F_) ?_
     obtain ⟨r25, hc24, h⟩ := opt_some h
     refine al_callX (vs := [(str ((a0.drop (l1i5).toNat).take ((wq (r6.2.1 + (wq r6.1)))).toNat))]) (f_mix_ID_ok fu ((a0.drop (l1i5).toNat).take ((wq (r6.2.1 + (wq r6.1)))).toNat) hc24) [] [] [0] pre_nil rfl (by simp) (by decide) rfl (.inl rfl) rfl Tryz.func56 rfl rfl rfl (fun _ => ?_)
     refine al_nil ?_
     refine aq_show (m := Mem.plus (memOf w0 Z0 [] [(oRow l1v4 9 tyStr l1x4)] []) X_ Y_) ?_
     refine aq_next hK_ [0] [] [(0, (str a0)), (4, l1v4), (5, (iq l1i5)), (6, (str (a0.drop (l1i5).toNat))), (8, (iq r6.2.1)), (10, (iq (wq (r6.2.1 + (wq r6.1))))), (37, (bool false)), (41, (ag (cA8u8 r25)))] [42, 43, 44, 45, 46, 47, 48, 49] [⟨18, 50, Unit, fun _ => { val := (bool (!(r25 == (ofA8u8 (cut (a0.drop (l1i5).toNat) (wq (r6.2.1 + (wq r6.1))) (wq ((wq (r6.2.1 + (wq r6.1))) + (8 : Int)))))))) }⟩, ⟨19, 51, Unit, fun _ => { val := (bool (!(r25 == (ofA8u8 (cut (a0.drop (l1i5).toNat) (wq (r6.2.1 + (wq r6.1))) (wq ((wq (r6.2.1 + (wq r6.1))) + (8 : Int)))))))) }⟩] rfl rfl (by decide) rfl ⟨rfl, rfl, rfl, rfl, rfl, rfl, rfl, rfl, trivial⟩ ⟨rfl, rfl, rfl, rfl, rfl, rfl, rfl, rfl, trivial⟩ ?_
     clear hK_ K_ F_ X_ Y_
     refine ta_show (m := (memOf w0 Z0 [] [(oRow l1v4 9 tyStr l1x4)] [])) (S := (tab [(0, (str a0)), (4, l1v4), (5, (iq l1i5)), (6, (str (a0.drop (l1i5).toNat))), (8, (iq r6.2.1)), (10, (iq (wq (r6.2.1 + (wq r6.1))))), (37, (bool false)), (41, (ag (cA8u8 r25)))])) ?_
     refine ta_end [10, 11, 12, 13, 14, 15, 16, 17, 18, 19] [42, 43, 44, 45, 46, 47, 48, 49, 50, 51] rfl rfl (by kernel_rfl) rfl ⟨⟨_, rfl, [], rfl, by
 intro X_ Y_ F_ K_ hK_
 refine al_show (m := Mem.plus (memOf w0 Z0 [] [(oRow l1v4 9 tyStr l1x4)] []) X_ Y_) (S := over (tab [(0, (str a0)), (4, l1v4), (5, (iq l1i5)), (6, (str (a0.drop (l1i5).toNat))), (8, (iq r6.2.1)), (10, (iq (wq (r6.2.1 + (wq r6.1))))), (37, (bool false)), (41, (ag (cA8u8 r25)))]) F_) ?_
 refine al_mv rfl rfl ?_
 refine al_nil ?_
 exact fr_fin hK_ ()⟩, ⟨_, rfl, [], rfl, by
 intro X_ Y_ F_ K_ hK_
 refine al_show (m := Mem.plus (memOf w0 Z0 [] [(oRow l1v4 9 tyStr l1x4)] []) X_ Y_) (S := over (tab [(0, (str a0)), (4, l1v4), (5, (iq l1i5)), (6, (str (a0.drop (l1i5).toNat))), (8, (iq r6.2.1)), (10, (iq (wq (r6.2.1 + (wq r6.1))))), (37, (bool false)), (41, (ag (cA8u8 r25)))]) F_) ?_
 refine al_mv rfl rfl ?_
 refine al_nil ?_
 exact fr_fin hK_ ()⟩, ⟨_, rfl, [], rfl, by
 intro X_ Y_ F_ K_ hK_
 refine al_show (m := Mem.plus (memOf w0 Z0 [] [(oRow l1v4 9 tyStr l1x4)] []) X_ Y_) (S := over (tab [(0, (str a0)), (4, l1v4), (5, (iq l1i5)), (6, (str (a0.drop (l1i5).toNat))), (8, (iq r6.2.1)), (10, (iq (wq (r6.2.1 + (wq r6.1))))), (37, (bool false)), (41, (ag (cA8u8 r25)))]) F_) ?_
 refine al_mv rfl rfl ?_
 refine al_nil ?_
 exact fr_fin hK_ ()⟩, ⟨_, rfl, [2], rfl, by
 intro _
 intro X_ Y_ F_ K_ hK_
 refine al_show (m := Mem.plus (memOf w0 Z0 [] [(oRow l1v4 9 tyStr l1x4)] []) X_ Y_) (S := over (put (tab [(0, (str a0)), (4, l1v4), (5, (iq l1i5)), (6, (str (a0.drop (l1i5).toNat))), (8, (iq r6.2.1)), (10, (iq (wq (r6.2.1 + (wq r6.1))))), (37, (bool false)), (41, (ag (cA8u8 r25)))]) 44 (iq (wq (r6.2.1 + (wq r6.1))))) F_) ?_
 refine al_in rfl rfl rfl rfl ?_
 refine al_nil ?_
 exact fr_fin hK_ ()⟩, ⟨_, rfl, [0, 1, 3], rfl, by
 intro _
 intro _
 intro _
 intro X_ Y_ F_ K_ hK_
 refine al_show (m := Mem.plus (memOf w0 Z0 [] [(oRow l1v4 9 tyStr l1x4)] []) X_ Y_) (S := over (put (put (put (tab [(0, (str a0)), (4, l1v4), (5, (iq l1i5)), (6, (str (a0.drop (l1i5).toNat))), (8, (iq r6.2.1)), (10, (iq (wq (r6.2.1 + (wq r6.1))))), (37, (bool false)), (41, (ag (cA8u8 r25)))]) 42 (str (a0.drop (l1i5).toNat))) 43 (iq (wq (r6.2.1 + (wq r6.1))))) 45 (iq (wq ((wq (r6.2.1 + (wq r6.1))) + (8 : Int))))) F_) ?_
 refine al_val (ov_strCut hc19.1 hc19.2.1 hc19.2.2 Tryz.underlying9 rfl rfl rfl rfl) ?_
 refine al_nil ?_
 exact fr_fin hK_ ()⟩, ⟨_, rfl, [4], rfl, by
 intro _
 intro X_ Y_ F_ K_ hK_
 refine al_show (m := Mem.plus (memOf w0 Z0 [] [(oRow l1v4 9 tyStr l1x4)] []) X_ Y_) (S := over (put (tab [(0, (str a0)), (4, l1v4), (5, (iq l1i5)), (6, (str (a0.drop (l1i5).toNat))), (8, (iq r6.2.1)), (10, (iq (wq (r6.2.1 + (wq r6.1))))), (37, (bool false)), (41, (ag (cA8u8 r25)))]) 46 (str (cut (a0.drop (l1i5).toNat) (wq (r6.2.1 + (wq r6.1))) (wq ((wq (r6.2.1 + (wq r6.1))) + (8 : Int)))))) F_) ?_
 refine al_bytes hc20 rfl Tryz.underlying9 Tryz.underlying58 Tryz.underlying5 rfl (fun s21 => ?_)
 refine al_nil ?_
 exact fr_fin hK_ s21⟩, ⟨_, rfl, [5], rfl, by
 intro s21
 intro X_ Y_ F_ K_ hK_
 refine al_show (m := Mem.plus (memOf w0 Z0 [] [(oRow l1v4 9 tyStr l1x4)] [(fDat (tyList tyU8) [s21] (cut (a0.drop (l1i5).toNat) (wq (r6.2.1 + (wq r6.1))) (wq ((wq (r6.2.1 + (wq r6.1))) + (8 : Int)))))]) X_ Y_) (S := over (put (tab [(0, (str a0)), (4, l1v4), (5, (iq l1i5)), (6, (str (a0.drop (l1i5).toNat))), (8, (iq r6.2.1)), (10, (iq (wq (r6.2.1 + (wq r6.1))))), (37, (bool false)), (41, (ag (cA8u8 r25)))]) 47 s21) F_) ?_
 refine al_s2ap (τA := tyA8u8) (x := (ofA8u8 (cut (a0.drop (l1i5).toNat) (wq (r6.2.1 + (wq r6.1))) (wq ((wq (r6.2.1 + (wq r6.1))) + (8 : Int)))))) 0 8 hc23 rfl (fun h9 => oflA8u8 hc23 h9) rfl rfl Tryz.underlying37 rfl (fun p22 => ?_)
 refine al_nil ?_
 exact fr_fin hK_ p22⟩, ⟨_, rfl, [6], rfl, by
 intro p22
 intro X_ Y_ F_ K_ hK_
 refine al_show (m := Mem.plus (memOf w0 Z0 [] [(oRow l1v4 9 tyStr l1x4)] [(fPtr tyA8u8 p22 (ofA8u8 (cut (a0.drop (l1i5).toNat) (wq (r6.2.1 + (wq r6.1))) (wq ((wq (r6.2.1 + (wq r6.1))) + (8 : Int))))))]) X_ Y_) (S := over (put (tab [(0, (str a0)), (4, l1v4), (5, (iq l1i5)), (6, (str (a0.drop (l1i5).toNat))), (8, (iq r6.2.1)), (10, (iq (wq (r6.2.1 + (wq r6.1))))), (37, (bool false)), (41, (ag (cA8u8 r25)))]) 48 p22) F_) ?_
 refine al_val (ov_loadP (ds := (cA8u8 (ofA8u8 (cut (a0.drop (l1i5).toNat) (wq (r6.2.1 + (wq r6.1))) (wq ((wq (r6.2.1 + (wq r6.1))) + (8 : Int))))))) 0 rfl encA8u8 rfl Tryz.underlying37 sz37 rfl rfl rfl) ?_
 refine al_nil ?_
 exact fr_fin hK_ ()⟩, ⟨_, rfl, [7], rfl, by
 intro _
 intro X_ Y_ F_ K_ hK_
 refine al_show (m := Mem.plus (memOf w0 Z0 [] [(oRow l1v4 9 tyStr l1x4)] []) X_ Y_) (S := over (put (tab [(0, (str a0)), (4, l1v4), (5, (iq l1i5)), (6, (str (a0.drop (l1i5).toNat))), (8, (iq r6.2.1)), (10, (iq (wq (r6.2.1 + (wq r6.1))))), (37, (bool false)), (41, (ag (cA8u8 r25)))]) 49 (ag (cA8u8 (ofA8u8 (cut (a0.drop (l1i5).toNat) (wq (r6.2.1 + (wq r6.1))) (wq ((wq (r6.2.1 + (wq r6.1))) + (8 : Int)))))))) F_) ?_
 refine al_val (ov_neqA (cs := (cA8u8 r25)) (ds := (cA8u8 (ofA8u8 (cut (a0.drop (l1i5).toNat) (wq (r6.2.1 + (wq r6.1))) (wq ((wq (r6.2.1 + (wq r6.1))) + (8 : Int))))))) (ls := [5, 5, 5, 5, 5, 5, 5, 5]) (p := (r25 == (ofA8u8 (cut (a0.drop (l1i5).toNat) (wq (r6.2.1 + (wq r6.1))) (wq ((wq (r6.2.1 + (wq r6.1))) + (8 : Int))))))) eg37 kt37 lv37 rfl rfl (by kernel_rfl) (by kernel_rfl) (fit_cons (fit_u8 Tryz.underlying5) (fit_cons (fit_u8 Tryz.underlying5) (fit_cons (fit_u8 Tryz.underlying5) (fit_cons (fit_u8 Tryz.underlying5) (fit_cons (fit_u8 Tryz.underlying5) (fit_cons (fit_u8 Tryz.underlying5) (fit_cons (fit_u8 Tryz.underlying5) (fit_cons (fit_u8 Tryz.underlying5) fit_nil)))))))) (fit_cons (fit_u8 Tryz.underlying5) (fit_cons (fit_u8 Tryz.underlying5) (fit_cons (fit_u8 Tryz.underlying5) (fit_cons (fit_u8 Tryz.underlying5) (fit_cons (fit_u8 Tryz.underlying5) (fit_cons (fit_u8 Tryz.underlying5) (fit_cons (fit_u8 Tryz.underlying5) (fit_cons (fit_u8 Tryz.underlying5) fit_nil)))))))) (injA8u8 (x := r25) (y := (ofA8u8 (cut (a0.drop (l1i5).toNat) (wq (r6.2.1 + (wq r6.1))) (wq ((wq (r6.2.1 + (wq r6.1))) + (8 : Int))))))) rfl) ?_
 refine al_nil ?_
 exact fr_fin hK_ ()⟩, ⟨_, rfl, [8], rfl, by
 intro _
 intro X_ Y_ F_ K_ hK_
 refine al_show (m := Mem.plus (memOf w0 Z0 [] [(oRow l1v4 9 tyStr l1x4)] []) X_ Y_) (S := over (put (tab [(0, (str a0)), (4, l1v4), (5, (iq l1i5)), (6, (str (a0.drop (l1i5).toNat))), (8, (iq r6.2.1)), (10, (iq (wq (r6.2.1 + (wq r6.1))))), (37, (bool false)), (41, (ag (cA8u8 r25)))]) 50 (bool (!(r25 == (ofA8u8 (cut (a0.drop (l1i5).toNat) (wq (r6.2.1 + (wq r6.1))) (wq ((wq (r6.2.1 + (wq r6.1))) + (8 : Int))))))))) F_) ?_
 refine al_val (ov_pick_f rfl rfl rfl) ?_
 refine al_nil ?_
 exact fr_fin hK_ ()⟩, trivial⟩ ?_
     intro _
     intro _
     intro _
     intro _
     intro _
     intro s21
     intro p22
     intro _
     intro _
     intro _
     refine aq_show (m := (memOf w0 Z0 [] [(oRow l1v4 9 tyStr l1x4)] [(fPtr tyA8u8 p22 (ofA8u8 (cut (a0.drop (l1i5).toNat) (wq (r6.2.1 + (wq r6.1))) (wq ((wq (r6.2.1 + (wq r6.1))) + (8 : Int)))))), (fDat (tyList tyU8) [s21] (cut (a0.drop (l1i5).toNat) (wq (r6.2.1 + (wq r6.1))) (wq ((wq (r6.2.1 + (wq r6.1))) + (8 : Int)))))])) (S := (put (put (put (put (put (put (put (put (put (put (tab [(0, (str a0)), (4, l1v4), (5, (iq l1i5)), (6, (str (a0.drop (l1i5).toNat))), (8, (iq r6.2.1)), (10, (iq (wq (r6.2.1 + (wq r6.1))))), (37, (bool false)), (41, (ag (cA8u8 r25)))]) 42 (str (a0.drop (l1i5).toNat))) 43 (iq (wq (r6.2.1 + (wq r6.1))))) 44 (iq (wq (r6.2.1 + (wq r6.1))))) 45 (iq (wq ((wq (r6.2.1 + (wq r6.1))) + (8 : Int))))) 46 (str (cut (a0.drop (l1i5).toNat) (wq (r6.2.1 + (wq r6.1))) (wq ((wq (r6.2.1 + (wq r6.1))) + (8 : Int)))))) 47 s21) 48 p22) 49 (ag (cA8u8 (ofA8u8 (cut (a0.drop (l1i5).toNat) (wq (r6.2.1 + (wq r6.1))) (wq ((wq (r6.2.1 + (wq r6.1))) + (8 : Int)))))))) 50 (bool (!(r25 == (ofA8u8 (cut (a0.drop (l1i5).toNat) (wq (r6.2.1 + (wq r6.1))) (wq ((wq (r6.2.1 + (wq r6.1))) + (8 : Int))))))))) 51 (bool (!(r25 == (ofA8u8 (cut (a0.drop (l1i5).toNat) (wq (r6.2.1 + (wq r6.1))) (wq ((wq (r6.2.1 + (wq r6.1))) + (8 : Int)))))))))) ?_
     exact aq_join (!(r25 == (ofA8u8 (cut (a0.drop (l1i5).toNat) (wq (r6.2.1 + (wq r6.1))) (wq ((wq (r6.2.1 + (wq r6.1))) + (8 : Int))))))) h (fun w a hm hs => norm hm hs [0] [] [(0, (str a0)), (4, l1v4), (5, (iq l1i5)), (6, (str (a0.drop (l1i5).toNat))), (8, (iq r6.2.1)), (10, (iq (wq (r6.2.1 + (wq r6.1))))), (51, (bool (!(r25 == (ofA8u8 (cut (a0.drop (l1i5).toNat) (wq (r6.2.1 + (wq r6.1))) (wq ((wq (r6.2.1 + (wq r6.1))) + (8 : Int)))))))))] (by decide) ⟨rfl, rfl, rfl, rfl, rfl, rfl, rfl, trivial⟩)
 ·clear hkk8
  refine aw_region ?_
  refine al_mv rfl rfl ?_
  refine al_in rfl rfl rfl rfl ?_
  refine al_mv rfl rfl ?_
  refine al_caseB 22 rfl (fun hb26 => ?_) (fun hb26 => ?_)
  ·replace h := bif_t hb26 h
   refine al_skip ?_
   refine al_skip ?_
   refine al_val (ov_pick_t rfl rfl rfl) ?_
   refine al_nil ?_
   exact aq_join true h (fun w a hm hs => norm hm hs [0] [] [(0, (str a0)), (4, l1v4), (5, (iq l1i5)), (6, (str (a0.drop (l1i5).toNat))), (7, (uq r6.1)), (8, (iq r6.2.1)), (25, (bool true))] (by decide) ⟨rfl, rfl, rfl, rfl, rfl, rfl, rfl, trivial⟩)
  ·replace h := bif_f hb26 h
   refine al_mv rfl rfl ?_
   refine al_in rfl rfl rfl rfl ?_
   refine al_val (ov_pick_f rfl rfl rfl) ?_
   refine al_nil ?_
   exact aq_join (decide (r6.1 > (4096 : Int))) h (fun w a hm hs => norm hm hs [0] [] [(0, (str a0)), (4, l1v4), (5, (iq l1i5)), (6, (str (a0.drop (l1i5).toNat))), (7, (uq r6.1)), (8, (iq r6.2.1)), (25, (bool (decide (r6.1 > (4096 : Int)))))] (by decide) ⟨rfl, rfl, rfl, rfl, rfl, rfl, rfl, trivial⟩)
def f_num_GetText_L5 (a0 : (List UInt8)) (kk2 : (Unit → Option ((List UInt8) × Int × Int))) : Nat → (List UInt8) → Int → Option ((List UInt8) × Int × Int)
  | 0, _, _ => none
  | k4 + 1, l3x5, l3i6 => (bif (decide (l3i6 < (a0.length : Int))) then (lt (fun (j7x5 : (List UInt8)) (j7i6 : Int) => (bif (decide ((j7x5.length : Int) > (1024 : Int))) then (some (([] : List UInt8), (0 : Int), (2 : Int))) else (f_num_GetText_L5 a0 kk2 k4 j7x5 (IntKind.i64.wrap (j7i6 + (1 : Int)))))) fun (kk8 : (List UInt8) → Int → Option ((List UInt8) × Int × Int)) => (req (0 ≤ l3i6 ∧ l3i6 < (a0.length : Int)) (bif ((En.bAt a0 l3i6) == (0 : Int)) then (bif ((IntKind.i64.wrap (l3i6 + (1 : Int))) == (a0.length : Int)) then (kk2 ()) else (req (0 ≤ (IntKind.i64.wrap (l3i6 + (1 : Int))) ∧ (IntKind.i64.wrap (l3i6 + (1 : Int))) < (a0.length : Int)) (bif ((En.bAt a0 (IntKind.i64.wrap (l3i6 + (1 : Int)))) == (0 : Int)) then (some (l3x5, (IntKind.i64.wrap ((IntKind.i64.wrap (l3i6 + (1 : Int))) + (1 : Int))), (0 : Int))) else (bif ((En.bAt a0 (IntKind.i64.wrap (l3i6 + (1 : Int)))) == (255 : Int)) then (req (0 ≤ (0 : Int) ∧ (0 : Int) ≤ 255) (req (((l3x5.length + ([(UInt8.ofNat ((0 : Int)).toNat)]).length) * 1 : Nat) ≤ 140737488355328 ∧ l3x5.length + ([(UInt8.ofNat ((0 : Int)).toNat)]).length ≤ 9223372036854775807) (kk8 (l3x5 ++ ([(UInt8.ofNat ((0 : Int)).toNat)])) (IntKind.i64.wrap (l3i6 + (1 : Int)))))) else (some (([] : List UInt8), (0 : Int), (4 : Int))))))) else (req (0 ≤ l3i6 ∧ l3i6 < (a0.length : Int)) (req (0 ≤ (En.bAt a0 l3i6) ∧ (En.bAt a0 l3i6) ≤ 255) (req (((l3x5.length + ([(UInt8.ofNat ((En.bAt a0 l3i6)).toNat)]).length) * 1 : Nat) ≤ 140737488355328 ∧ l3x5.length + ([(UInt8.ofNat ((En.bAt a0 l3i6)).toNat)]).length ≤ 9223372036854775807) (kk8 (l3x5 ++ ([(UInt8.ofNat ((En.bAt a0 l3i6)).toNat)])) l3i6))))))) else (kk2 ()))
def f_num_GetText (fu : Nat) (a0 : (List UInt8)) : Option ((List UInt8) × Int × Int) := (lt (fun (_ : Unit) => (some (([] : List UInt8), (0 : Int), (3 : Int)))) fun (kk2 : Unit → Option ((List UInt8) × Int × Int)) => (f_num_GetText_L5 a0 kk2 fu ([] : List UInt8) (0 : Int)))
set_option maxHeartbeats 2000000 in
set_option maxRecDepth 100000 in
theorem f_num_GetText_ok (fu : Nat) (a0 : (List UInt8)) {r : ((List UInt8) × Int × Int)} (h : f_num_GetText fu a0 = some r) : FnOk Tryz.prog 89 [(str a0)] [] [] (fun (i : Unit) => { val := (Value.tuple #[(str r.1), (int .i64 r.2.1), (int .i64 r.2.2)]) }) := by
 unfold f_num_GetText at h
 refine fn_enter Tryz.func89 rfl Tryz.ntmps89 rfl (fun w0 Z0 => ?_)
 refine aw_sr ?_
 refine al_as rfl rfl ?_
 refine al_as rfl rfl ?_
 refine al_as rfl rfl ?_
 refine al_nt ?_
 refine aw_sr ?_
 refine al_as rfl rfl ?_
 refine al_nt ?_
 obtain ⟨kk2, hkk2, h⟩ := lt_some h
 refine aw_seq_join (ι := Unit) (fun i => (memOf w0 Z0 [] [] [])) (fun i => (tab [])) (fun i => kk2 () = some r) ?_ ?_
 ·rintro _ h
  have h : kk2 () = some r := h
  rw [hkk2] at h
  dsimp only at h
  clear hkk2
  refine aw_show (m := (memOf w0 Z0 [] [] [])) (S := (tab [])) ?_
  refine aw_sr ?_
  refine al_as rfl rfl ?_
  refine al_as rfl rfl ?_
  refine al_as rfl rfl ?_
  refine al_nt ?_
  refine aw_ret ?_
  obtain rfl := Option.some.inj h
  exact fn_ret () [] [] rfl rfl rfl rfl (res3 rfl rfl rfl rfl) rfl rfl rfl (by decide)
 ·clear hkk2
  refine aw_sr ?_
  refine al_as rfl rfl ?_
  refine al_nt ?_
  refine aw_block ?_
  refine aw_nilR 5 tyU8 ?_
  refine aw_state (aw_loop (ι := Value × (List UInt8) × Int) (fun i => (memOf w0 Z0 [] [(oRow i.1 5 tyU8 i.2.1)] [])) (fun i => (tab [(0, (str a0)), (5, i.1), (6, (iq i.2.2))])) (fun q i => f_num_GetText_L5 a0 kk2 q i.2.1 i.2.2 = some r) ?_ fu (nS, ([] : List UInt8), (0 : Int)) h) (fun w a hm hs => norm hm hs [0] [] [(0, (str a0)), (5, nS), (6, (iq (0 : Int)))] (by decide) ⟨rfl, rfl, rfl, trivial⟩)
  clear h
  rintro k4 ⟨l3v5, l3x5, l3i6⟩ h
  have h : f_num_GetText_L5 a0 kk2 k4 l3x5 l3i6 = some r := h
  obtain _ | k4 := k4
  · rw [f_num_GetText_L5] at h; cases h
  rw [f_num_GetText_L5] at h
  refine aw_show (m := (memOf w0 Z0 [] [(oRow l3v5 5 tyU8 l3x5)] [])) (S := (tab [(0, (str a0)), (5, l3v5), (6, (iq l3i6))])) ?_
  refine aw_seq ?_
  refine aw_sr ?_
  refine al_mv rfl rfl ?_
  refine al_mv rfl rfl ?_
  refine al_val (ov_strLen Tryz.underlying9 rfl rfl) ?_
  refine al_in rfl rfl rfl rfl ?_
  refine al_nt ?_
  refine aw_cond rfl (fun hb6 => ?_) (fun hb6 => ?_)
  ·replace h := bif_t hb6 h
   refine aw_skip ?_
   refine aq_then ?_
   refine aw_seq ?_
   refine aw_block ?_
   obtain ⟨kk8, hkk8, h⟩ := lt_some h
   refine aw_seq_join (ι := Value × (List UInt8) × Int) (fun i => (memOf w0 Z0 [] [(oRow i.1 5 tyU8 i.2.1)] [])) (fun i => (tab [(0, (str a0)), (5, i.1), (6, (iq i.2.2))])) (fun i => kk8 i.2.1 i.2.2 = some r) ?_ ?_
   ·rintro ⟨j7v5, j7x5, j7i6⟩ h
    have h : kk8 j7x5 j7i6 = some r := h
    rw [hkk8] at h
    dsimp only at h
    clear hkk8
    refine aw_show (m := (memOf w0 Z0 [] [(oRow j7v5 5 tyU8 j7x5)] [])) (S := (tab [(0, (str a0)), (5, j7v5), (6, (iq j7i6))])) ?_
    refine aw_sr ?_
    refine al_mv rfl rfl ?_
    refine al_val (ov_lenR 0 rfl rfl Tryz.underlying58 rfl) ?_
    refine al_in rfl rfl rfl rfl ?_
    refine al_nt ?_
    refine aw_cond rfl (fun hb9 => ?_) (fun hb9 => ?_)
    ·replace h := bif_t hb9 h
     refine aw_sr ?_
     refine al_as rfl rfl ?_
     refine al_as rfl rfl ?_
     refine al_as rfl rfl ?_
     refine al_nt ?_
     refine aw_ret ?_
     refine aq_block_ret ?_
     refine aq_then_ret ?_
     refine aq_then_ret ?_
     refine aq_block_ret ?_
     refine aq_then_ret ?_
     obtain rfl := Option.some.inj h
     exact fn_ret () [] [] rfl rfl rfl rfl (res3 rfl rfl rfl rfl) rfl rfl rfl (by decide)
    ·replace h := bif_f hb9 h
     refine aw_skip ?_
     refine aq_block ?_
     refine aq_then ?_
     refine aw_region ?_
     refine al_mv rfl rfl ?_
     refine al_in rfl rfl rfl rfl ?_
     refine al_as rfl rfl ?_
     refine al_nil ?_
     exact aq_again k4 (j7v5, j7x5, (wq (j7i6 + (1 : Int)))) (Nat.lt_succ_self _) h (fun w a hm hs => norm hm hs [0] [] [(0, (str a0)), (5, j7v5), (6, (iq (wq (j7i6 + (1 : Int)))))] (by decide) ⟨rfl, rfl, rfl, trivial⟩)
   ·clear hkk8
    refine aw_sr ?_
    refine al_mv rfl rfl ?_
    refine al_mv rfl rfl ?_
    obtain ⟨hc10, h⟩ := req_some h
    refine al_val (ov_strIdx hc10.1 hc10.2 Tryz.underlying9 rfl rfl rfl) ?_
    refine al_in rfl rfl rfl rfl ?_
    refine al_nt ?_
    refine aw_cond rfl (fun hb11 => ?_) (fun hb11 => ?_)
    ·replace h := bif_t hb11 h
     refine aw_seq ?_
     refine aw_sr ?_
     refine al_mv rfl rfl ?_
     refine al_in rfl rfl rfl rfl ?_
     refine al_as rfl rfl ?_
     refine al_nt ?_
     refine aw_sr ?_
     refine al_mv rfl rfl ?_
     refine al_mv rfl rfl ?_
     refine al_val (ov_strLen Tryz.underlying9 rfl rfl) ?_
     refine al_in rfl rfl rfl rfl ?_
     refine al_nt ?_
     refine aw_cond rfl (fun hb12 => ?_) (fun hb12 => ?_)
     ·replace h := bif_t hb12 h
      refine aw_exit ?_
      refine aq_then_exit ?_
      refine aq_then_exit ?_
      refine aq_block_other rfl ?_
      refine aq_then_exit ?_
      refine aq_then_exit ?_
      refine aq_block_exit ?_
      exact aq_join () h (fun w a hm hs => norm hm hs [] [] [] (by decide) trivial)
     ·replace h := bif_f hb12 h
      refine aw_skip ?_
      refine aq_then ?_
      refine aw_seq ?_
      refine aw_sr ?_
      refine al_mv rfl rfl ?_
      refine al_mv rfl rfl ?_
      obtain ⟨hc13, h⟩ := req_some h
      refine al_val (ov_strIdx hc13.1 hc13.2 Tryz.underlying9 rfl rfl rfl) ?_
      refine al_nt ?_
      refine aw_block ?_
      refine aw_sr ?_
      refine al_in rfl rfl rfl rfl ?_
      refine al_as rfl rfl ?_
      refine al_nt ?_
      refine aw_cond rfl (fun hb14 => ?_) (fun hb14 => ?_)
      ·replace h := bif_t hb14 h
       refine aw_sr ?_
       refine al_mv rfl rfl ?_
       refine al_val (ov_toStrR 0 rfl rfl Tryz.underlying58 Tryz.underlying5 Tryz.underlying9 rfl) ?_
       refine al_mv rfl rfl ?_
       refine al_in rfl rfl rfl rfl ?_
       refine al_as rfl rfl ?_
       refine al_as rfl rfl ?_
       refine al_as rfl rfl ?_
       refine al_nt ?_
       refine aw_ret ?_
       refine aq_block_ret ?_
       refine aq_then_ret ?_
       refine aq_then_ret ?_
       refine aq_block_ret ?_
       refine aq_then_ret ?_
       refine aq_then_ret ?_
       refine aq_block_ret ?_
       refine aq_then_ret ?_
       obtain rfl := Option.some.inj h
       exact fn_ret () [] [] rfl rfl rfl rfl (res3 rfl rfl rfl rfl) rfl rfl rfl (by decide)
      ·replace h := bif_f hb14 h
       refine aw_sr ?_
       refine al_in rfl rfl rfl rfl ?_
       refine al_as rfl rfl ?_
       refine al_nt ?_
       refine aw_cond rfl (fun hb15 => ?_) (fun hb15 => ?_)
       ·replace h := bif_t hb15 h
        refine aw_skip ?_
        refine aq_block ?_
        refine aq_then ?_
        refine aw_region ?_
        refine al_mv rfl rfl ?_
        obtain ⟨hc17, h⟩ := req_some h
        refine al_buildSlice (τ := tyU8) (e := 5) (k := 1) (sz := 0) (by_ := 0) (z := undef) (cs := [(i8 (0 : Int))]) (xs := [(UInt8.ofNat ((0 : Int)).toNat)]) rfl (by decide) (fun w a hm hs => ⟨([(i8 (0 : Int))]).toArray, rfl, by simp only [List.map_toArray, List.map_cons, List.map_nil, hs.ev (x := .const (i8 (0 : Int))) rfl]; exact run_bs [(i8 (0 : Int))] [(i8 (0 : Int))] Tryz.underlying58 to5 rfl rfl (bs_cons (l := [(i8 (0 : Int))]) (cs := []) (cv_rfl rfl) rfl bs_nil) hm⟩) (fun hm => ⟨_, _, rfl, (fun _ => u8_rep hc17) hm, rfl⟩) rfl (fun v16 => ?_)
        obtain ⟨hc18, h⟩ := req_some h
        refine al_append 1 hc18.1 hc18.2 rfl (src_own (i := 1) 0 rfl) rfl rfl Tryz.underlying58 to5 rfl rfl rfl (fun v19 => ?_)
        refine al_as rfl rfl ?_
        refine al_nil ?_
        exact aq_join (v19, (l3x5 ++ ([(UInt8.ofNat ((0 : Int)).toNat)])), (wq (l3i6 + (1 : Int)))) h (fun w a hm hs => norm hm hs [1] [] [(0, (str a0)), (5, v19), (6, (iq (wq (l3i6 + (1 : Int)))))] (by decide) ⟨rfl, rfl, rfl, trivial⟩)
       ·replace h := bif_f hb15 h
        refine aw_sr ?_
        refine al_as rfl rfl ?_
        refine al_as rfl rfl ?_
        refine al_as rfl rfl ?_
        refine al_nt ?_
        refine aw_ret ?_
        refine aq_block_ret ?_
        refine aq_then_ret ?_
        refine aq_then_ret ?_
        refine aq_block_ret ?_
        refine aq_then_ret ?_
        refine aq_then_ret ?_
        refine aq_block_ret ?_
        refine aq_then_ret ?_
        obtain rfl := Option.some.inj h
        exact fn_ret () [] [] rfl rfl rfl rfl (res3 rfl rfl rfl rfl) rfl rfl rfl (by decide)
    ·replace h := bif_f hb11 h
     refine aw_region ?_
     refine al_mv rfl rfl ?_
     refine al_mv rfl rfl ?_
     refine al_mv rfl rfl ?_
     obtain ⟨hc20, h⟩ := req_some h
     refine al_val (ov_strIdx hc20.1 hc20.2 Tryz.underlying9 rfl rfl rfl) ?_
     obtain ⟨hc22, h⟩ := req_some h
     refine al_buildSlice (τ := tyU8) (e := 5) (k := 1) (sz := 0) (by_ := 0) (z := undef) (cs := [(i8 (En.bAt a0 l3i6))]) (xs := [(UInt8.ofNat ((En.bAt a0 l3i6)).toNat)]) rfl (by decide) (fun w a hm hs => ⟨([(i8 (En.bAt a0 l3i6))]).toArray, rfl, by simp only [List.map_toArray, List.map_cons, List.map_nil, hs.ev (x := .tmp 40) rfl]; exact run_bs [(i8 (En.bAt a0 l3i6))] [(i8 (En.bAt a0 l3i6))] Tryz.underlying58 to5 rfl rfl (bs_cons (l := [(i8 (En.bAt a0 l3i6))]) (cs := []) (cv_rfl rfl) rfl bs_nil) hm⟩) (fun hm => ⟨_, _, rfl, (fun _ => u8_rep hc22) hm, rfl⟩) rfl (fun v21 => ?_)
     obtain ⟨hc23, h⟩ := req_some h
     refine al_append 1 hc23.1 hc23.2 rfl (src_own (i := 1) 0 rfl) rfl rfl Tryz.underlying58 to5 rfl rfl rfl (fun v24 => ?_)
     refine al_as rfl rfl ?_
     refine al_nil ?_
     exact aq_join (v24, (l3x5 ++ ([(UInt8.ofNat ((En.bAt a0 l3i6)).toNat)])), l3i6) h (fun w a hm hs => norm hm hs [1] [] [(0, (str a0)), (5, v24), (6, (iq l3i6))] (by decide) ⟨rfl, rfl, rfl, trivial⟩)
  ·replace h := bif_f hb6 h
   refine aw_exit ?_
   refine aq_then_exit ?_
   refine aq_then_exit ?_
   refine aq_block_exit ?_
   exact aq_join () h (fun w a hm hs => norm hm hs [] [] [] (by decide) trivial)
-- STUCK (*lumberroom/move.reader).take: lty ['pointer', 64]
-- STUCK (*lumberroom/move.reader).text: lty ['pointer', 64]
-- STUCK (*lumberroom/move.reader).number: lty ['pointer', 64]
-- STUCK (*lumberroom/move.reader).kind: lty ['pointer', 64]
def f_num_GetInt (fu : Nat) (a0 : (List UInt8)) : Option (Int × Int × Int) := (bif (a0 == ([] : List UInt8)) then (some ((0 : Int), (0 : Int), (3 : Int))) else (req (0 ≤ (0 : Int) ∧ (0 : Int) < (a0.length : Int)) (req (0 ≤ (0 : Int) ∧ (0 : Int) < (a0.length : Int)) (lt (fun (j4i5 : Int) => (bif (decide (j4i5 > (8 : Int))) then (some ((0 : Int), (0 : Int), (4 : Int))) else (bif (decide ((a0.length : Int) < (IntKind.i64.wrap ((1 : Int) + j4i5)))) then (some ((0 : Int), (0 : Int), (3 : Int))) else (req (0 ≤ (1 : Int) ∧ (1 : Int) ≤ (IntKind.i64.wrap ((1 : Int) + j4i5)) ∧ (IntKind.i64.wrap ((1 : Int) + j4i5)) ≤ (a0.length : Int)) (lt (fun (j9s7 : (List UInt8)) => (opt (f_num_value fu j9s7) fun (r12 : Int) => (lt (fun (j13b51 : Bool) => (bif j13b51 then (some ((0 : Int), (0 : Int), (4 : Int))) else (bif (decide ((En.bAt a0 (0 : Int)) < (128 : Int))) then (some ((IntKind.i64.wrap ((-1 : Int) - (IntKind.i64.wrap r12))), (IntKind.i64.wrap ((1 : Int) + j4i5)), (0 : Int))) else (some ((IntKind.i64.wrap r12), (IntKind.i64.wrap ((1 : Int) + j4i5)), (0 : Int)))))) fun (kk14 : Bool → Option (Int × Int × Int)) => (bif (decide (j4i5 > (0 : Int))) then (req (0 ≤ (0 : Int) ∧ (0 : Int) < (j9s7.length : Int)) (bif ((En.bAt j9s7 (0 : Int)) == (0 : Int)) then (kk14 true) else (kk14 (decide (r12 > (9223372036854775807 : Int)))))) else (kk14 (decide (r12 > (9223372036854775807 : Int)))))))) fun (kk10 : (List UInt8) → Option (Int × Int × Int)) => (bif (decide ((En.bAt a0 (0 : Int)) < (128 : Int))) then (opt (f_num_turned fu (cut a0 (1 : Int) (IntKind.i64.wrap ((1 : Int) + j4i5)))) fun (r22 : (List UInt8)) => (kk10 r22)) else (kk10 (cut a0 (1 : Int) (IntKind.i64.wrap ((1 : Int) + j4i5)))))))))) fun (kk5 : Int → Option (Int × Int × Int)) => (bif (decide ((En.bAt a0 (0 : Int)) < (128 : Int))) then (req (0 ≤ (0 : Int) ∧ (0 : Int) < (a0.length : Int)) (kk5 (IntKind.i64.wrap ((127 : Int) - (IntKind.i64.wrap (En.bAt a0 (0 : Int))))))) else (kk5 (IntKind.i64.wrap ((IntKind.i64.wrap (En.bAt a0 (0 : Int))) - (128 : Int)))))))))
set_option maxRecDepth 100000 in
set_option maxHeartbeats 2000000 in
set_option maxHeartbeats 2000000 in
theorem f_num_GetInt_ok (fu : Nat) (a0 : (List UInt8)) {r : (Int × Int × Int)} (h : f_num_GetInt fu a0 = some r) : FnOk Tryz.prog 90 [(str a0)] [] [] (fun (i : Unit) => { val := (Value.tuple #[(int .i64 r.1), (int .i64 r.2.1), (int .i64 r.2.2)]) }) := by
 unfold f_num_GetInt at h
 refine fn_enter Tryz.func90 rfl Tryz.ntmps90 rfl (fun w0 Z0 => ?_)
 refine aw_sr ?_
 refine al_as rfl rfl ?_
 refine al_as rfl rfl ?_
 refine al_as rfl rfl ?_
 refine al_nt ?_
 refine aw_seq ?_
 refine aw_sr ?_
 refine al_mv rfl rfl ?_
 refine al_val (ov_strCmp rfl rfl rfl rfl) ?_
 refine al_nt ?_
 refine aw_cond rfl (fun hb1 => ?_) (fun hb1 => ?_)
 ·replace h := bif_t hb1 h
  refine aw_sr ?_
  refine al_as rfl rfl ?_
  refine al_as rfl rfl ?_
  refine al_as rfl rfl ?_
  refine al_nt ?_
  refine aw_ret ?_
  refine aq_then_ret ?_
  obtain rfl := Option.some.inj h
  exact fn_ret () [] [] rfl rfl rfl rfl (res3 rfl rfl rfl rfl) rfl rfl rfl (by decide)
 ·replace h := bif_f hb1 h
  refine aw_skip ?_
  refine aq_then ?_
  refine aw_seq ?_
  obtain ⟨hc2, h⟩ := req_some h
  obtain ⟨hc3, h⟩ := req_some h
  refine aw_region_draw 8 [(11, (fun u => fEq u (str a0))), (12, (fun u => fEq u (i8 (En.bAt a0 (0 : Int))))), (13, (fun u => fEq u (iq (wq (En.bAt a0 (0 : Int)))))), (14, (fun u => fEq u (iq (wq ((wq (En.bAt a0 (0 : Int))) - (128 : Int)))))), (15, (fun u => fEq u (str a0))), (16, (fun u => fEq u (i8 (En.bAt a0 (0 : Int))))), (17, (fun u => fEq u (bool (decide ((En.bAt a0 (0 : Int)) < (128 : Int)))))), (5, (fun u => fEq u (iq (wq ((wq (En.bAt a0 (0 : Int))) - (128 : Int))))))] (tab [(0, (str a0))]) mixed (by kernel_rfl) rfl rfl rfl (fun a hs => hs.tab _ (allT_mem ⟨rfl, trivial⟩)) ⟨⟨rfl, ld_val (ov_move rfl rfl)⟩, ⟨rfl, ld_eq (j := 0) rfl rfl (ld_val (ov_strIdx hc2.1 hc2.2 Tryz.underlying9 rfl rfl rfl))⟩, ⟨rfl, ld_eq (j := 1) rfl rfl (ld_val (ov_convInt (by rw [Tryz.underlying5]; rfl) Tryz.underlying3 rfl rfl))⟩, ⟨rfl, ld_eq (j := 2) rfl rfl (ld_val (ov_int rfl rfl rfl rfl))⟩, ⟨rfl, ld_val (ov_move rfl rfl)⟩, ⟨rfl, ld_eq (j := 4) rfl rfl (ld_val (ov_strIdx hc3.1 hc3.2 Tryz.underlying9 rfl rfl rfl))⟩, ⟨rfl, ld_eq (j := 5) rfl rfl (ld_val (ov_int rfl rfl rfl rfl))⟩, ⟨rfl, ld_eq (j := 3) rfl rfl (ld_val (ov_assign rfl rfl))⟩, trivial⟩ ?_
  refine tl_eq 6 rfl ?_
  refine tl_eq 7 rfl ?_
  refine tl_done ?_
  refine al_as rfl rfl ?_
  refine al_nt ?_
  obtain ⟨kk5, hkk5, h⟩ := lt_some h
  refine aw_seq_join (ι := Int) (fun i => (memOf w0 Z0 [] [] [])) (fun i => (tab [(0, (str a0)), (5, (iq i)), (6, (bool (decide ((En.bAt a0 (0 : Int)) < (128 : Int)))))])) (fun i => kk5 i = some r) ?_ ?_
  ·rintro j4i5 h
   have h : kk5 j4i5 = some r := h
   rw [hkk5] at h
   dsimp only at h
   clear hkk5
   refine aw_show (m := (memOf w0 Z0 [] [] [])) (S := (tab [(0, (str a0)), (5, (iq j4i5)), (6, (bool (decide ((En.bAt a0 (0 : Int)) < (128 : Int)))))])) ?_
   refine aw_seq ?_
   refine aw_block ?_
   refine aw_sr ?_
   refine al_mv rfl rfl ?_
   refine al_in rfl rfl rfl rfl ?_
   refine al_as rfl rfl ?_
   refine al_nt ?_
   refine aw_cond rfl (fun hb6 => ?_) (fun hb6 => ?_)
   ·replace h := bif_t hb6 h
    refine aw_sr ?_
    refine al_as rfl rfl ?_
    refine al_as rfl rfl ?_
    refine al_as rfl rfl ?_
    refine al_nt ?_
    refine aw_ret ?_
    refine aq_block_ret ?_
    refine aq_then_ret ?_
    obtain rfl := Option.some.inj h
    exact fn_ret () [] [] rfl rfl rfl rfl (res3 rfl rfl rfl rfl) rfl rfl rfl (by decide)
   ·replace h := bif_f hb6 h
    refine aw_sr ?_
    refine al_mv rfl rfl ?_
    refine al_val (ov_strLen Tryz.underlying9 rfl rfl) ?_
    refine al_mv rfl rfl ?_
    refine al_in rfl rfl rfl rfl ?_
    refine al_in rfl rfl rfl rfl ?_
    refine al_as rfl rfl ?_
    refine al_nt ?_
    refine aw_cond rfl (fun hb7 => ?_) (fun hb7 => ?_)
    ·replace h := bif_t hb7 h
     refine aw_sr ?_
     refine al_as rfl rfl ?_
     refine al_as rfl rfl ?_
     refine al_as rfl rfl ?_
     refine al_nt ?_
     refine aw_ret ?_
     refine aq_block_ret ?_
     refine aq_then_ret ?_
     obtain rfl := Option.some.inj h
     exact fn_ret () [] [] rfl rfl rfl rfl (res3 rfl rfl rfl rfl) rfl rfl rfl (by decide)
    ·replace h := bif_f hb7 h
     refine aw_skip ?_
     refine aq_block ?_
     refine aq_tr ?_
     refine al_mv rfl rfl ?_
     refine al_mv rfl rfl ?_
     refine al_in rfl rfl rfl rfl ?_
     obtain ⟨hc8, h⟩ := req_some h
     refine al_val (ov_strCut hc8.1 hc8.2.1 hc8.2.2 Tryz.underlying9 rfl rfl rfl rfl) ?_
     refine al_as rfl rfl ?_
     refine al_nt ?_
     obtain ⟨kk10, hkk10, h⟩ := lt_some h
     refine aw_seq_join (ι := (List UInt8)) (fun i => (memOf w0 Z0 [] [] [])) (fun i => (tab [(5, (iq j4i5)), (6, (bool (decide ((En.bAt a0 (0 : Int)) < (128 : Int))))), (7, (str i))])) (fun i => kk10 i = some r) ?_ ?_
     ·rintro j9s7 h
      have h : kk10 j9s7 = some r := h
      rw [hkk10] at h
      dsimp only at h
      clear hkk10
      refine aw_show (m := (memOf w0 Z0 [] [] [])) (S := (tab [(5, (iq j4i5)), (6, (bool (decide ((En.bAt a0 (0 : Int)) < (128 : Int))))), (7, (str j9s7))])) ?_
      refine aw_sr ?_
      refine al_mv rfl rfl ?_
      obtain ⟨r12, hc11, h⟩ := opt_some h
      refine al_call (vs := [(str j9s7)]) (f_num_value_ok fu j9s7 hc11) [] [] [] pre_nil rfl (by simp) (by decide) (.inl rfl) rfl Tryz.func86 rfl rfl rfl (fun _ => ?_)
      refine al_as rfl rfl ?_
      refine al_nt ?_
      refine aw_seq ?_
      obtain ⟨kk14, hkk14, h⟩ := lt_some h
      refine aw_seq_join (ι := Bool) (fun i => (memOf w0 Z0 [] [] [])) (fun i => (tab [(5, (iq j4i5)), (6, (bool (decide ((En.bAt a0 (0 : Int)) < (128 : Int))))), (8, (uq r12)), (51, (bool i))])) (fun i => kk14 i = some r) ?_ ?_
      ·rintro j13b51 h
       have h : kk14 j13b51 = some r := h
       rw [hkk14] at h
       dsimp only at h
       clear hkk14
       refine aw_show (m := (memOf w0 Z0 [] [] [])) (S := (tab [(5, (iq j4i5)), (6, (bool (decide ((En.bAt a0 (0 : Int)) < (128 : Int))))), (8, (uq r12)), (51, (bool j13b51))])) ?_
       refine aw_cond rfl (fun hb15 => ?_) (fun hb15 => ?_)
       ·replace h := bif_t hb15 h
        refine aw_sr ?_
        refine al_as rfl rfl ?_
        refine al_as rfl rfl ?_
        refine al_as rfl rfl ?_
        refine al_nt ?_
        refine aw_ret ?_
        refine aq_then_ret ?_
        obtain rfl := Option.some.inj h
        exact fn_ret () [] [] rfl rfl rfl rfl (res3 rfl rfl rfl rfl) rfl rfl rfl (by decide)
       ·replace h := bif_f hb15 h
        refine aw_skip ?_
        refine aq_then ?_
        refine aw_seq ?_
        refine aw_sr ?_
        refine al_mv rfl rfl ?_
        refine al_nt ?_
        refine aw_cond rfl (fun hb16 => ?_) (fun hb16 => ?_)
        ·replace h := bif_t hb16 h
         refine aw_sr ?_
         refine al_mv rfl rfl ?_
         refine al_val (ov_convInt (by rw [Tryz.underlying55]; rfl) Tryz.underlying3 rfl rfl) ?_
         refine al_in rfl rfl rfl rfl ?_
         refine al_mv rfl rfl ?_
         refine al_in rfl rfl rfl rfl ?_
         refine al_as rfl rfl ?_
         refine al_as rfl rfl ?_
         refine al_as rfl rfl ?_
         refine al_nt ?_
         refine aw_ret ?_
         refine aq_then_ret ?_
         obtain rfl := Option.some.inj h
         exact fn_ret () [] [] rfl rfl rfl rfl (res3 rfl rfl rfl rfl) rfl rfl rfl (by decide)
        ·replace h := bif_f hb16 h
         refine aw_skip ?_
         refine aq_tr ?_
         refine al_mv rfl rfl ?_
         refine al_val (ov_convInt (by rw [Tryz.underlying55]; rfl) Tryz.underlying3 rfl rfl) ?_
         refine al_mv rfl rfl ?_
         refine al_in rfl rfl rfl rfl ?_
         refine al_as rfl rfl ?_
         refine al_as rfl rfl ?_
         refine al_as rfl rfl ?_
         refine al_nt ?_
         refine aw_ret ?_
         obtain rfl := Option.some.inj h
         exact fn_ret () [] [] rfl rfl rfl rfl (res3 rfl rfl rfl rfl) rfl rfl rfl (by decide)
      ·clear hkk14
       refine aw_region ?_
       refine al_mv rfl rfl ?_
       refine al_in rfl rfl rfl rfl ?_
       refine al_mv rfl rfl ?_
       refine al_caseB 43 rfl (fun hb17 => ?_) (fun hb17 => ?_)
       ·replace h := bif_t hb17 h
        refine al_mv rfl rfl ?_
        obtain ⟨hc18, h⟩ := req_some h
        refine al_val (ov_strIdx hc18.1 hc18.2 Tryz.underlying9 rfl rfl rfl) ?_
        refine al_in rfl rfl rfl rfl ?_
        refine al_val (ov_pick_t rfl rfl rfl) ?_
        refine al_mv rfl rfl ?_
        refine al_caseB 48 rfl (fun hb19 => ?_) (fun hb19 => ?_)
        ·replace h := bif_t hb19 h
         refine al_skip ?_
         refine al_skip ?_
         refine al_val (ov_pick_t rfl rfl rfl) ?_
         refine al_nil ?_
         exact aq_join true h (fun w a hm hs => norm hm hs [] [] [(5, (iq j4i5)), (6, (bool (decide ((En.bAt a0 (0 : Int)) < (128 : Int))))), (8, (uq r12)), (51, (bool true))] (by decide) ⟨rfl, rfl, rfl, rfl, trivial⟩)
        ·replace h := bif_f hb19 h
         refine al_mv rfl rfl ?_
         refine al_in rfl rfl rfl rfl ?_
         refine al_val (ov_pick_f rfl rfl rfl) ?_
         refine al_nil ?_
         exact aq_join (decide (r12 > (9223372036854775807 : Int))) h (fun w a hm hs => norm hm hs [] [] [(5, (iq j4i5)), (6, (bool (decide ((En.bAt a0 (0 : Int)) < (128 : Int))))), (8, (uq r12)), (51, (bool (decide (r12 > (9223372036854775807 : Int)))))] (by decide) ⟨rfl, rfl, rfl, rfl, trivial⟩)
       ·replace h := bif_f hb17 h
        refine al_skip ?_
        refine al_skip ?_
        refine al_skip ?_
        refine al_val (ov_pick_f rfl rfl rfl) ?_
        refine al_mv rfl rfl ?_
        refine al_mv rfl rfl ?_
        refine al_in rfl rfl rfl rfl ?_
        refine al_val (ov_pick_f rfl rfl rfl) ?_
        refine al_nil ?_
        exact aq_join (decide (r12 > (9223372036854775807 : Int))) h (fun w a hm hs => norm hm hs [] [] [(5, (iq j4i5)), (6, (bool (decide ((En.bAt a0 (0 : Int)) < (128 : Int))))), (8, (uq r12)), (51, (bool (decide (r12 > (9223372036854775807 : Int)))))] (by decide) ⟨rfl, rfl, rfl, rfl, trivial⟩)
     ·clear hkk10
      refine aw_sr ?_
      refine al_mv rfl rfl ?_
      refine al_nt ?_
      refine aw_cond rfl (fun hb20 => ?_) (fun hb20 => ?_)
      ·replace h := bif_t hb20 h
       refine aw_region ?_
       refine al_mv rfl rfl ?_
       obtain ⟨r22, hc21, h⟩ := opt_some h
       refine al_call (vs := [(str (cut a0 (1 : Int) (wq ((1 : Int) + j4i5))))]) (f_num_turned_ok fu (cut a0 (1 : Int) (wq ((1 : Int) + j4i5))) hc21) [] [] [] pre_nil rfl (by simp) (by decide) (.inl rfl) rfl Tryz.func82 rfl rfl rfl (fun _ => ?_)
       refine al_as rfl rfl ?_
       refine al_nil ?_
       exact aq_join r22 h (fun w a hm hs => norm hm hs [] [] [(5, (iq j4i5)), (6, (bool (decide ((En.bAt a0 (0 : Int)) < (128 : Int))))), (7, (str r22))] (by decide) ⟨rfl, rfl, rfl, trivial⟩)
      ·replace h := bif_f hb20 h
       refine aw_skip ?_
       exact aq_join (cut a0 (1 : Int) (wq ((1 : Int) + j4i5))) h (fun w a hm hs => norm hm hs [] [] [(5, (iq j4i5)), (6, (bool (decide ((En.bAt a0 (0 : Int)) < (128 : Int))))), (7, (str (cut a0 (1 : Int) (wq ((1 : Int) + j4i5)))))] (by decide) ⟨rfl, rfl, rfl, trivial⟩)
  ·clear hkk5
   refine aw_sr ?_
   refine al_mv rfl rfl ?_
   refine al_nt ?_
   refine aw_cond rfl (fun hb23 => ?_) (fun hb23 => ?_)
   ·replace h := bif_t hb23 h
    refine aw_region ?_
    refine al_mv rfl rfl ?_
    obtain ⟨hc24, h⟩ := req_some h
    refine al_val (ov_strIdx hc24.1 hc24.2 Tryz.underlying9 rfl rfl rfl) ?_
    refine al_val (ov_convInt (by rw [Tryz.underlying5]; rfl) Tryz.underlying3 rfl rfl) ?_
    refine al_in rfl rfl rfl rfl ?_
    refine al_as rfl rfl ?_
    refine al_nil ?_
    exact aq_join (wq ((127 : Int) - (wq (En.bAt a0 (0 : Int))))) h (fun w a hm hs => norm hm hs [] [] [(0, (str a0)), (5, (iq (wq ((127 : Int) - (wq (En.bAt a0 (0 : Int))))))), (6, (bool (decide ((En.bAt a0 (0 : Int)) < (128 : Int)))))] (by decide) ⟨rfl, rfl, rfl, trivial⟩)
   ·replace h := bif_f hb23 h
    refine aw_skip ?_
    exact aq_join (wq ((wq (En.bAt a0 (0 : Int))) - (128 : Int))) h (fun w a hm hs => norm hm hs [] [] [(0, (str a0)), (5, (iq (wq ((wq (En.bAt a0 (0 : Int))) - (128 : Int))))), (6, (bool (decide ((En.bAt a0 (0 : Int)) < (128 : Int)))))] (by decide) ⟨rfl, rfl, rfl, trivial⟩)
-- STUCK (*lumberroom/move.reader).integer: lty ['pointer', 64]
-- STUCK (*lumberroom/move.reader).old: lty ['pointer', 64]
def f___move_reader__take (fu : Nat) (a0 : S_move_reader) (a1 : Int) (a2 : Int) : Option ((List UInt8) × S_move_reader) := (lt (fun (j1b24 : Bool) => (bif j1b24 then (some (([] : List UInt8), (S_move_reader.mk a0.s true))) else (req (0 ≤ a1 ∧ a1 ≤ (a0.s.length : Int)) (req (0 ≤ a1 ∧ a1 ≤ (a0.s.length : Int)) (some ((a0.s.take (a1).toNat), (S_move_reader.mk (a0.s.drop (a1).toNat) a0.bad))))))) fun (kk2 : Bool → Option ((List UInt8) × S_move_reader)) => (bif a0.bad then (kk2 true) else (bif (a2 != (0 : Int)) then (kk2 true) else (kk2 (decide (a1 > (a0.s.length : Int)))))))
set_option maxHeartbeats 2000000 in
set_option maxRecDepth 100000 in
theorem f___move_reader__take_ok (fu : Nat) (bx0 : Nat) (a0 : S_move_reader) (a1 : Int) (a2 : Int) {r : ((List UInt8) × S_move_reader)} (h : f___move_reader__take fu a0 a1 a2 = some r) : FnOk Tryz.prog 61 [(ptr bx0 0), (int .i64 a1), (int .i64 a2)] [] [(oBox bx0 64 [(str a0.s), (bool a0.bad)])] (fun (i : Unit) => { val := (str r.1), own := [(oBox bx0 64 [(str r.2.s), (bool r.2.bad)])] }) := by
 unfold f___move_reader__take at h
 refine fn_enter Tryz.func61 rfl Tryz.ntmps61 rfl (fun w0 Z0 => ?_)
 refine aw_sr ?_
 refine al_as rfl rfl ?_
 refine al_nt ?_
 refine aw_seq ?_
 obtain ⟨kk2, hkk2, h⟩ := lt_some h
 refine aw_seq_join (ι := Bool) (fun i => (memOf w0 Z0 [(oBox bx0 64 [(str a0.s), (bool a0.bad)])] [(oBox bx0 64 [(str a0.s), (bool a0.bad)])] [])) (fun i => (tab [(0, (pq bx0)), (1, (iq a1)), (24, (bool i))])) (fun i => kk2 i = some r) ?_ ?_
 ·rintro j1b24 h
  have h : kk2 j1b24 = some r := h
  rw [hkk2] at h
  dsimp only at h
  clear hkk2
  refine aw_show (m := (memOf w0 Z0 [(oBox bx0 64 [(str a0.s), (bool a0.bad)])] [(oBox bx0 64 [(str a0.s), (bool a0.bad)])] [])) (S := (tab [(0, (pq bx0)), (1, (iq a1)), (24, (bool j1b24))])) ?_
  refine aw_cond rfl (fun hb3 => ?_) (fun hb3 => ?_)
  ·replace h := bif_t hb3 h
   refine aw_sr ?_
   refine al_mv rfl rfl ?_
   refine al_val (ov_nilCheck rfl rfl) ?_
   refine al_val (ov_fieldA (p := 1) rfl Tryz.underlying64 rfl sz4 rfl rfl rfl) ?_
   refine al_store (i := 0) (vs := [(bool true)]) (cs' := [(str a0.s), (bool true)]) rfl rfl rfl sz4 (cv_rfl rfl) rfl (co_val rfl co_nil) (Nat.le_of_ble_eq_true rfl) rfl rfl ?_
   refine al_nt ?_
   refine aw_sr ?_
   refine al_as rfl rfl ?_
   refine al_nt ?_
   refine aw_ret ?_
   refine aq_then_ret ?_
   obtain rfl := Option.some.inj h
   exact fn_ret () [0] [] rfl rfl rfl rfl (res1 rfl rfl) rfl rfl rfl (by decide)
  ·replace h := bif_f hb3 h
   refine aw_skip ?_
   refine aq_tr ?_
   refine al_mv rfl rfl ?_
   refine al_val (ov_nilCheck rfl rfl) ?_
   refine al_val (ov_fieldA (p := 0) rfl Tryz.underlying64 rfl sz9 rfl rfl rfl) ?_
   refine al_val (ov_load (i := 0) (v := (str a0.s)) rfl rfl Tryz.underlying9 sz9 rfl rfl rfl rfl) ?_
   refine al_mv rfl rfl ?_
   obtain ⟨hc4, h⟩ := req_some h
   refine al_val (ov_strTo hc4.1 hc4.2 Tryz.underlying9 rfl rfl rfl) ?_
   refine al_as rfl rfl ?_
   refine al_nt ?_
   refine aw_sr ?_
   refine al_mv rfl rfl ?_
   refine al_mv rfl rfl ?_
   refine al_val (ov_nilCheck rfl rfl) ?_
   refine al_val (ov_fieldA (p := 0) rfl Tryz.underlying64 rfl sz9 rfl rfl rfl) ?_
   refine al_val (ov_load (i := 0) (v := (str a0.s)) rfl rfl Tryz.underlying9 sz9 rfl rfl rfl rfl) ?_
   refine al_mv rfl rfl ?_
   obtain ⟨hc5, h⟩ := req_some h
   refine al_val (ov_strFrom hc5.1 hc5.2 Tryz.underlying9 rfl rfl rfl) ?_
   refine al_val (ov_nilCheck rfl rfl) ?_
   refine al_val (ov_fieldA (p := 0) rfl Tryz.underlying64 rfl sz9 rfl rfl rfl) ?_
   refine al_store (i := 0) (vs := [(str (a0.s.drop (a1).toNat))]) (cs' := [(str (a0.s.drop (a1).toNat)), (bool a0.bad)]) rfl rfl rfl sz9 (cv_rfl rfl) rfl (co_val rfl co_nil) (Nat.le_of_ble_eq_true rfl) rfl rfl ?_
   refine al_nt ?_
   refine aw_sr ?_
   refine al_mv rfl rfl ?_
   refine al_as rfl rfl ?_
   refine al_nt ?_
   refine aw_ret ?_
   obtain rfl := Option.some.inj h
   exact fn_ret () [0] [] rfl rfl rfl rfl (res1 rfl rfl) rfl rfl rfl (by decide)
 ·clear hkk2
  refine aw_region ?_
  refine al_mv rfl rfl ?_
  refine al_val (ov_nilCheck rfl rfl) ?_
  refine al_val (ov_fieldA (p := 1) rfl Tryz.underlying64 rfl sz4 rfl rfl rfl) ?_
  refine al_val (ov_load (i := 0) (v := (bool a0.bad)) rfl rfl Tryz.underlying4 sz4 rfl rfl rfl rfl) ?_
  refine al_mv rfl rfl ?_
  refine al_caseB 12 rfl (fun hb6 => ?_) (fun hb6 => ?_)
  ·replace h := bif_t hb6 h
   refine al_skip ?_
   refine al_skip ?_
   refine al_val (ov_pick_t rfl rfl rfl) ?_
   refine al_mv rfl rfl ?_
   refine al_skip ?_
   refine al_skip ?_
   refine al_skip ?_
   refine al_skip ?_
   refine al_skip ?_
   refine al_skip ?_
   refine al_skip ?_
   refine al_val (ov_pick_t rfl rfl rfl) ?_
   refine al_nil ?_
   exact aq_join true h (fun w a hm hs => norm hm hs [0] [] [(0, (pq bx0)), (1, (iq a1)), (24, (bool true))] (by decide) ⟨rfl, rfl, rfl, trivial⟩)
  ·replace h := bif_f hb6 h
   refine al_mv rfl rfl ?_
   refine al_in rfl rfl rfl rfl ?_
   refine al_val (ov_pick_f rfl rfl rfl) ?_
   refine al_mv rfl rfl ?_
   refine al_caseB 16 rfl (fun hb7 => ?_) (fun hb7 => ?_)
   ·replace h := bif_t hb7 h
    refine al_skip ?_
    refine al_skip ?_
    refine al_skip ?_
    refine al_skip ?_
    refine al_skip ?_
    refine al_skip ?_
    refine al_skip ?_
    refine al_val (ov_pick_t rfl rfl rfl) ?_
    refine al_nil ?_
    exact aq_join true h (fun w a hm hs => norm hm hs [0] [] [(0, (pq bx0)), (1, (iq a1)), (24, (bool true))] (by decide) ⟨rfl, rfl, rfl, trivial⟩)
   ·replace h := bif_f hb7 h
    refine al_mv rfl rfl ?_
    refine al_mv rfl rfl ?_
    refine al_val (ov_nilCheck rfl rfl) ?_
    refine al_val (ov_fieldA (p := 0) rfl Tryz.underlying64 rfl sz9 rfl rfl rfl) ?_
    refine al_val (ov_load (i := 0) (v := (str a0.s)) rfl rfl Tryz.underlying9 sz9 rfl rfl rfl rfl) ?_
    refine al_val (ov_strLen Tryz.underlying9 rfl rfl) ?_
    refine al_in rfl rfl rfl rfl ?_
    refine al_val (ov_pick_f rfl rfl rfl) ?_
    refine al_nil ?_
    exact aq_join (decide (a1 > (a0.s.length : Int))) h (fun w a hm hs => norm hm hs [0] [] [(0, (pq bx0)), (1, (iq a1)), (24, (bool (decide (a1 > (a0.s.length : Int)))))] (by decide) ⟨rfl, rfl, rfl, trivial⟩)
def f___move_reader__text (fu : Nat) (a0 : S_move_reader) : Option ((List UInt8) × S_move_reader) := (opt (f_num_GetText fu a0.s) fun (r2 : ((List UInt8) × Int × Int)) => (opt (f___move_reader__take fu a0 r2.2.1 r2.2.2) fun (r4 : ((List UInt8) × S_move_reader)) => (some (r2.1, (S_move_reader.mk r4.2.s r4.2.bad)))))
set_option maxHeartbeats 2000000 in
set_option maxRecDepth 100000 in
theorem f___move_reader__text_ok (fu : Nat) (bx0 : Nat) (a0 : S_move_reader) {r : ((List UInt8) × S_move_reader)} (h : f___move_reader__text fu a0 = some r) : FnOk Tryz.prog 57 [(ptr bx0 0)] [] [(oBox bx0 64 [(str a0.s), (bool a0.bad)])] (fun (i : Unit) => { val := (str r.1), own := [(oBox bx0 64 [(str r.2.s), (bool r.2.bad)])] }) := by
 unfold f___move_reader__text at h
 refine fn_enter Tryz.func57 rfl Tryz.ntmps57 rfl (fun w0 Z0 => ?_)
 refine aw_sr ?_
 refine al_as rfl rfl ?_
 refine al_nt ?_
 refine aw_sr ?_
 refine al_mv rfl rfl ?_
 refine al_val (ov_nilCheck rfl rfl) ?_
 refine al_val (ov_fieldA (p := 0) rfl Tryz.underlying64 rfl sz9 rfl rfl rfl) ?_
 refine al_val (ov_load (i := 0) (v := (str a0.s)) rfl rfl Tryz.underlying9 sz9 rfl rfl rfl rfl) ?_
 obtain ⟨r2, hc1, h⟩ := opt_some h
 refine al_call (vs := [(str a0.s)]) (f_num_GetText_ok fu a0.s hc1) [] [] [0] pre_nil rfl (by simp) (by decide) (.inl rfl) rfl Tryz.func89 rfl rfl rfl (fun _ => ?_)
 refine al_mv rfl rfl ?_
 refine al_ex rfl rfl rfl ?_
 refine al_ex rfl rfl rfl ?_
 refine al_ex rfl rfl rfl ?_
 refine al_as rfl rfl ?_
 refine al_as rfl rfl ?_
 refine al_as rfl rfl ?_
 refine al_nt ?_
 refine aw_sr ?_
 refine al_mv rfl rfl ?_
 refine al_mv rfl rfl ?_
 refine al_mv rfl rfl ?_
 obtain ⟨r4, hc3, h⟩ := opt_some h
 refine al_call (vs := [(pq bx0), (iq r2.2.1), (iq r2.2.2)]) (f___move_reader__take_ok fu bx0 a0 r2.2.1 r2.2.2 hc3) [] [0] [] pre_nil rfl (by simp) (by decide) (.inl rfl) rfl Tryz.func61 rfl rfl rfl (fun _ => ?_)
 refine al_nt ?_
 refine aw_sr ?_
 refine al_mv rfl rfl ?_
 refine al_as rfl rfl ?_
 refine al_nt ?_
 refine aw_ret ?_
 obtain rfl := Option.some.inj h
 exact fn_ret () [0] [] rfl rfl rfl rfl (res1 rfl rfl) rfl rfl rfl (by decide)
def f___move_reader__number (fu : Nat) (a0 : S_move_reader) (a1 : Int) : Option (Int × S_move_reader) := (opt (f_num_Get fu a0.s) fun (r2 : (Int × Int × Int)) => (opt (f___move_reader__take fu a0 r2.2.1 r2.2.2) fun (r4 : ((List UInt8) × S_move_reader)) => (lt (fun (j5b29 : Bool) => (bif j5b29 then (some ((0 : Int), (S_move_reader.mk r4.2.s true))) else (some ((IntKind.i64.wrap r2.1), (S_move_reader.mk r4.2.s r4.2.bad))))) fun (kk6 : Bool → Option (Int × S_move_reader)) => (bif r4.2.bad then (kk6 true) else (kk6 (decide (r2.1 > a1)))))))
set_option maxHeartbeats 2000000 in
set_option maxRecDepth 100000 in
theorem f___move_reader__number_ok (fu : Nat) (bx0 : Nat) (a0 : S_move_reader) (a1 : Int) {r : (Int × S_move_reader)} (h : f___move_reader__number fu a0 a1 = some r) : FnOk Tryz.prog 58 [(ptr bx0 0), (int .u64 a1)] [] [(oBox bx0 64 [(str a0.s), (bool a0.bad)])] (fun (i : Unit) => { val := (int .i64 r.1), own := [(oBox bx0 64 [(str r.2.s), (bool r.2.bad)])] }) := by
 unfold f___move_reader__number at h
 refine fn_enter Tryz.func58 rfl Tryz.ntmps58 rfl (fun w0 Z0 => ?_)
 refine aw_sr ?_
 refine al_as rfl rfl ?_
 refine al_nt ?_
 refine aw_sr ?_
 refine al_mv rfl rfl ?_
 refine al_val (ov_nilCheck rfl rfl) ?_
 refine al_val (ov_fieldA (p := 0) rfl Tryz.underlying64 rfl sz9 rfl rfl rfl) ?_
 refine al_val (ov_load (i := 0) (v := (str a0.s)) rfl rfl Tryz.underlying9 sz9 rfl rfl rfl rfl) ?_
 obtain ⟨r2, hc1, h⟩ := opt_some h
 refine al_call (vs := [(str a0.s)]) (f_num_Get_ok fu a0.s hc1) [] [] [0] pre_nil rfl (by simp) (by decide) (.inl rfl) rfl Tryz.func55 rfl rfl rfl (fun _ => ?_)
 refine al_mv rfl rfl ?_
 refine al_ex rfl rfl rfl ?_
 refine al_ex rfl rfl rfl ?_
 refine al_ex rfl rfl rfl ?_
 refine al_as rfl rfl ?_
 refine al_as rfl rfl ?_
 refine al_as rfl rfl ?_
 refine al_nt ?_
 refine aw_seq ?_
 refine aw_sr ?_
 refine al_mv rfl rfl ?_
 refine al_mv rfl rfl ?_
 refine al_mv rfl rfl ?_
 obtain ⟨r4, hc3, h⟩ := opt_some h
 refine al_call (vs := [(pq bx0), (iq r2.2.1), (iq r2.2.2)]) (f___move_reader__take_ok fu bx0 a0 r2.2.1 r2.2.2 hc3) [] [0] [] pre_nil rfl (by simp) (by decide) (.inl rfl) rfl Tryz.func61 rfl rfl rfl (fun _ => ?_)
 refine al_nt ?_
 obtain ⟨kk6, hkk6, h⟩ := lt_some h
 refine aw_seq_join (ι := Bool) (fun i => (memOf w0 Z0 [(oBox bx0 64 [(str a0.s), (bool a0.bad)])] [(oBox bx0 64 [(str r4.2.s), (bool r4.2.bad)])] [])) (fun i => (tab [(0, (pq bx0)), (5, (uq r2.1)), (29, (bool i))])) (fun i => kk6 i = some r) ?_ ?_
 ·rintro j5b29 h
  have h : kk6 j5b29 = some r := h
  rw [hkk6] at h
  dsimp only at h
  clear hkk6
  refine aw_show (m := (memOf w0 Z0 [(oBox bx0 64 [(str a0.s), (bool a0.bad)])] [(oBox bx0 64 [(str r4.2.s), (bool r4.2.bad)])] [])) (S := (tab [(0, (pq bx0)), (5, (uq r2.1)), (29, (bool j5b29))])) ?_
  refine aw_cond rfl (fun hb7 => ?_) (fun hb7 => ?_)
  ·replace h := bif_t hb7 h
   refine aw_sr ?_
   refine al_mv rfl rfl ?_
   refine al_val (ov_nilCheck rfl rfl) ?_
   refine al_val (ov_fieldA (p := 1) rfl Tryz.underlying64 rfl sz4 rfl rfl rfl) ?_
   refine al_store (i := 0) (vs := [(bool true)]) (cs' := [(str r4.2.s), (bool true)]) rfl rfl rfl sz4 (cv_rfl rfl) rfl (co_val rfl co_nil) (Nat.le_of_ble_eq_true rfl) rfl rfl ?_
   refine al_nt ?_
   refine aw_sr ?_
   refine al_as rfl rfl ?_
   refine al_nt ?_
   refine aw_ret ?_
   refine aq_then_ret ?_
   obtain rfl := Option.some.inj h
   exact fn_ret () [0] [] rfl rfl rfl rfl (res1 rfl rfl) rfl rfl rfl (by decide)
  ·replace h := bif_f hb7 h
   refine aw_skip ?_
   refine aq_tr ?_
   refine al_mv rfl rfl ?_
   refine al_val (ov_convInt (by rw [Tryz.underlying55]; rfl) Tryz.underlying3 rfl rfl) ?_
   refine al_as rfl rfl ?_
   refine al_nt ?_
   refine aw_ret ?_
   obtain rfl := Option.some.inj h
   exact fn_ret () [0] [] rfl rfl rfl rfl (res1 rfl rfl) rfl rfl rfl (by decide)
 ·clear hkk6
  refine aw_region ?_
  refine al_mv rfl rfl ?_
  refine al_val (ov_nilCheck rfl rfl) ?_
  refine al_val (ov_fieldA (p := 1) rfl Tryz.underlying64 rfl sz4 rfl rfl rfl) ?_
  refine al_val (ov_load (i := 0) (v := (bool r4.2.bad)) rfl rfl Tryz.underlying4 sz4 rfl rfl rfl rfl) ?_
  refine al_mv rfl rfl ?_
  refine al_caseB 25 rfl (fun hb8 => ?_) (fun hb8 => ?_)
  ·replace h := bif_t hb8 h
   refine al_skip ?_
   refine al_skip ?_
   refine al_skip ?_
   refine al_val (ov_pick_t rfl rfl rfl) ?_
   refine al_nil ?_
   exact aq_join true h (fun w a hm hs => norm hm hs [0] [] [(0, (pq bx0)), (5, (uq r2.1)), (29, (bool true))] (by decide) ⟨rfl, rfl, rfl, trivial⟩)
  ·replace h := bif_f hb8 h
   refine al_mv rfl rfl ?_
   refine al_mv rfl rfl ?_
   refine al_in rfl rfl rfl rfl ?_
   refine al_val (ov_pick_f rfl rfl rfl) ?_
   refine al_nil ?_
   exact aq_join (decide (r2.1 > a1)) h (fun w a hm hs => norm hm hs [0] [] [(0, (pq bx0)), (5, (uq r2.1)), (29, (bool (decide (r2.1 > a1))))] (by decide) ⟨rfl, rfl, rfl, trivial⟩)
def f___move_reader__kind (fu : Nat) (a0 : S_move_reader) : Option (Int × S_move_reader) := (opt (f___move_reader__take fu a0 (1 : Int) (0 : Int)) fun (r2 : ((List UInt8) × S_move_reader)) => (bif (!(r2.1 == ([] : List UInt8))) then (req (0 ≤ (0 : Int) ∧ (0 : Int) < (r2.1.length : Int)) (some ((IntKind.i64.wrap (En.bAt r2.1 (0 : Int))), (S_move_reader.mk r2.2.s r2.2.bad)))) else (some ((0 : Int), (S_move_reader.mk r2.2.s r2.2.bad)))))
set_option maxHeartbeats 2000000 in
set_option maxRecDepth 100000 in
theorem f___move_reader__kind_ok (fu : Nat) (bx0 : Nat) (a0 : S_move_reader) {r : (Int × S_move_reader)} (h : f___move_reader__kind fu a0 = some r) : FnOk Tryz.prog 59 [(ptr bx0 0)] [] [(oBox bx0 64 [(str a0.s), (bool a0.bad)])] (fun (i : Unit) => { val := (int .i64 r.1), own := [(oBox bx0 64 [(str r.2.s), (bool r.2.bad)])] }) := by
 unfold f___move_reader__kind at h
 refine fn_enter Tryz.func59 rfl Tryz.ntmps59 rfl (fun w0 Z0 => ?_)
 refine aw_sr ?_
 refine al_as rfl rfl ?_
 refine al_nt ?_
 refine aw_seq ?_
 refine aw_sr ?_
 refine al_mv rfl rfl ?_
 obtain ⟨r2, hc1, h⟩ := opt_some h
 refine al_call (vs := [(pq bx0), (iq (1 : Int)), (iq (0 : Int))]) (f___move_reader__take_ok fu bx0 a0 (1 : Int) (0 : Int) hc1) [] [0] [] pre_nil rfl (by simp) (by decide) (.inl rfl) rfl Tryz.func61 rfl rfl rfl (fun _ => ?_)
 refine al_as rfl rfl ?_
 refine al_nt ?_
 refine aw_sr ?_
 refine al_mv rfl rfl ?_
 refine al_val (ov_strCmp rfl rfl rfl rfl) ?_
 refine al_nt ?_
 refine aw_cond rfl (fun hb3 => ?_) (fun hb3 => ?_)
 ·replace h := bif_t hb3 h
  refine aw_sr ?_
  refine al_mv rfl rfl ?_
  obtain ⟨hc4, h⟩ := req_some h
  refine al_val (ov_strIdx hc4.1 hc4.2 Tryz.underlying9 rfl rfl rfl) ?_
  refine al_val (ov_convInt (by rw [Tryz.underlying5]; rfl) Tryz.underlying3 rfl rfl) ?_
  refine al_as rfl rfl ?_
  refine al_nt ?_
  refine aw_ret ?_
  refine aq_then_ret ?_
  obtain rfl := Option.some.inj h
  exact fn_ret () [0] [] rfl rfl rfl rfl (res1 rfl rfl) rfl rfl rfl (by decide)
 ·replace h := bif_f hb3 h
  refine aw_skip ?_
  refine aq_tr ?_
  refine al_as rfl rfl ?_
  refine al_nt ?_
  refine aw_ret ?_
  obtain rfl := Option.some.inj h
  exact fn_ret () [0] [] rfl rfl rfl rfl (res1 rfl rfl) rfl rfl rfl (by decide)
def f___move_reader__integer (fu : Nat) (a0 : S_move_reader) : Option (Int × S_move_reader) := (opt (f_num_GetInt fu a0.s) fun (r2 : (Int × Int × Int)) => (opt (f___move_reader__take fu a0 r2.2.1 r2.2.2) fun (r4 : ((List UInt8) × S_move_reader)) => (some (r2.1, (S_move_reader.mk r4.2.s r4.2.bad)))))
set_option maxHeartbeats 2000000 in
set_option maxRecDepth 100000 in
theorem f___move_reader__integer_ok (fu : Nat) (bx0 : Nat) (a0 : S_move_reader) {r : (Int × S_move_reader)} (h : f___move_reader__integer fu a0 = some r) : FnOk Tryz.prog 60 [(ptr bx0 0)] [] [(oBox bx0 64 [(str a0.s), (bool a0.bad)])] (fun (i : Unit) => { val := (int .i64 r.1), own := [(oBox bx0 64 [(str r.2.s), (bool r.2.bad)])] }) := by
 unfold f___move_reader__integer at h
 refine fn_enter Tryz.func60 rfl Tryz.ntmps60 rfl (fun w0 Z0 => ?_)
 refine aw_sr ?_
 refine al_as rfl rfl ?_
 refine al_nt ?_
 refine aw_sr ?_
 refine al_mv rfl rfl ?_
 refine al_val (ov_nilCheck rfl rfl) ?_
 refine al_val (ov_fieldA (p := 0) rfl Tryz.underlying64 rfl sz9 rfl rfl rfl) ?_
 refine al_val (ov_load (i := 0) (v := (str a0.s)) rfl rfl Tryz.underlying9 sz9 rfl rfl rfl rfl) ?_
 obtain ⟨r2, hc1, h⟩ := opt_some h
 refine al_call (vs := [(str a0.s)]) (f_num_GetInt_ok fu a0.s hc1) [] [] [0] pre_nil rfl (by simp) (by decide) (.inl rfl) rfl Tryz.func90 rfl rfl rfl (fun _ => ?_)
 refine al_mv rfl rfl ?_
 refine al_ex rfl rfl rfl ?_
 refine al_ex rfl rfl rfl ?_
 refine al_ex rfl rfl rfl ?_
 refine al_as rfl rfl ?_
 refine al_as rfl rfl ?_
 refine al_as rfl rfl ?_
 refine al_nt ?_
 refine aw_sr ?_
 refine al_mv rfl rfl ?_
 refine al_mv rfl rfl ?_
 refine al_mv rfl rfl ?_
 obtain ⟨r4, hc3, h⟩ := opt_some h
 refine al_call (vs := [(pq bx0), (iq r2.2.1), (iq r2.2.2)]) (f___move_reader__take_ok fu bx0 a0 r2.2.1 r2.2.2 hc3) [] [0] [] pre_nil rfl (by simp) (by decide) (.inl rfl) rfl Tryz.func61 rfl rfl rfl (fun _ => ?_)
 refine al_nt ?_
 refine aw_sr ?_
 refine al_mv rfl rfl ?_
 refine al_as rfl rfl ?_
 refine al_nt ?_
 refine aw_ret ?_
 obtain rfl := Option.some.inj h
 exact fn_ret () [0] [] rfl rfl rfl rfl (res1 rfl rfl) rfl rfl rfl (by decide)
def f___move_reader__old_L13 (kk8 : ((List UInt8) → Bool → (List S_api_Item) → Option (S_api_Old × S_move_reader))) (r10 : (Int × S_move_reader)) (fu : Nat) : Nat → (List UInt8) → Bool → (List S_api_Item) → Int → Option (S_api_Old × S_move_reader)
  | 0, _, _, _, _ => none
  | k12 + 1, l11s0_0, l11b0_1, l11x3_2, l11i12 => (bif (decide (l11i12 < r10.1)) then (opt (f___move_reader__text fu (S_move_reader.mk l11s0_0 l11b0_1)) fun (r16 : ((List UInt8) × S_move_reader)) => (opt (f___move_reader__kind fu (S_move_reader.mk r16.2.s r16.2.bad)) fun (r18 : (Int × S_move_reader)) => (opt (f___move_reader__number fu (S_move_reader.mk r18.2.s r18.2.bad) (511 : Int)) fun (r20 : (Int × S_move_reader)) => (opt (f___move_reader__integer fu (S_move_reader.mk r20.2.s r20.2.bad)) fun (r22 : (Int × S_move_reader)) => (opt (f___move_reader__number fu (S_move_reader.mk r22.2.s r22.2.bad) (4096 : Int)) fun (r25 : (Int × S_move_reader)) => (opt (f___move_reader__take fu (S_move_reader.mk r25.2.s r25.2.bad) r25.1 (0 : Int)) fun (r27 : ((List UInt8) × S_move_reader)) => (req (((l11x3_2.length + ([(S_api_Item.mk r16.1 r18.1 r20.1 r22.1 r27.1)]).length) * 56 : Nat) ≤ 140737488355328 ∧ l11x3_2.length + ([(S_api_Item.mk r16.1 r18.1 r20.1 r22.1 r27.1)]).length ≤ 9223372036854775807) (f___move_reader__old_L13 kk8 r10 fu k12 r27.2.s r27.2.bad (l11x3_2 ++ ([(S_api_Item.mk r16.1 r18.1 r20.1 r22.1 r27.1)])) (IntKind.i64.wrap (l11i12 + (1 : Int))))))))))) else (kk8 l11s0_0 l11b0_1 l11x3_2))
def f___move_reader__old (fu : Nat) (a0 : S_move_reader) : Option (S_api_Old × S_move_reader) := (opt (f___move_reader__text fu a0) fun (r3 : ((List UInt8) × S_move_reader)) => (opt (f___move_reader__number fu (S_move_reader.mk r3.2.s r3.2.bad) (4223371679 : Int)) fun (r5 : (Int × S_move_reader)) => (lt (fun (j7s0_0 : (List UInt8)) (j7b0_1 : Bool) (j7x3_2 : (List S_api_Item)) => (some ((S_api_Old.mk r3.1 r5.1 j7x3_2), (S_move_reader.mk j7s0_0 j7b0_1)))) fun (kk8 : (List UInt8) → Bool → (List S_api_Item) → Option (S_api_Old × S_move_reader)) => (opt (f___move_reader__number fu (S_move_reader.mk r5.2.s r5.2.bad) (100 : Int)) fun (r10 : (Int × S_move_reader)) => (f___move_reader__old_L13 kk8 r10 fu fu r10.2.s r10.2.bad ([] : List S_api_Item) (0 : Int))))))
end Go.Proofs.YtfhifdmbdkkgaaaGreatDoor
