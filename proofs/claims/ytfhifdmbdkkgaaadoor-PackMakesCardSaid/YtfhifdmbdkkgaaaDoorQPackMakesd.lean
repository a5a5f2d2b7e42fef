/- What PackMakes leans on, part 4. No condition. -/
import Derived.Test.YtfhifdmbdkkgaaaDoorQPackMakesc
import Derived.Test.YtfhifdmbdkkgaaaDoorChecked
namespace Go.Proofs.YtfhifdmbdkkgaaaDoor
open Go.RowKit YtfhifdmbdkkgaaaDoor.En
set_option linter.unusedVariables false
set_option linter.unusedSimpArgs false
open Go.Value (int bool)
set_option maxRecDepth 100000 in
set_option maxHeartbeats 2000000 in
set_option maxHeartbeats 2000000 in
theorem f_press_Press_ok (fu : Nat) (a0 : (List UInt8)) {r : ((List UInt8) × Int)} (h : f_press_Press fu a0 = some r) : FnOk Tryd.prog 10 [(str a0)] [] [] (fun (i : Unit) => { val := (Value.tuple #[(str r.1), (int .i64 r.2)]) }) := by
 unfold f_press_Press at h
 refine fn_enter Tryd.func10 rfl Tryd.ntmps10 rfl (fun w0 Z0 => ?_)
 refine aw_sr ?_
 refine al_as rfl rfl ?_
 refine al_as rfl rfl ?_
 refine al_nt ?_
 refine aw_sr ?_
 refine al_mv rfl rfl ?_
 obtain ⟨r2, hc1, h⟩ := opt_some h
 refine al_call (vs := [(str a0)]) (f_lz_Greedy_ok fu a0 hc1) [] [] [] pre_nil rfl (by simp) (by decide) (.inl rfl) rfl Tryd.func38 rfl rfl rfl (fun v3 => ?_)
 refine al_mv rfl rfl ?_
 refine al_ex rfl rfl rfl ?_
 refine al_ex rfl rfl rfl ?_
 refine al_as rfl rfl ?_
 refine al_as rfl rfl ?_
 refine al_nt ?_
 refine aw_seq ?_
 refine aw_sr ?_
 refine al_mv rfl rfl ?_
 refine al_in rfl rfl rfl rfl ?_
 refine al_nt ?_
 refine aw_cond rfl (fun hb4 => ?_) (fun hb4 => ?_)
 ·replace h := bif_t hb4 h
  refine aw_sr ?_
  refine al_mv rfl rfl ?_
  refine al_as rfl rfl ?_
  refine al_as rfl rfl ?_
  refine al_nt ?_
  refine aw_ret ?_
  refine aq_then_ret ?_
  obtain rfl := Option.some.inj h
  exact fn_ret () [] [] rfl rfl rfl rfl (res2 rfl rfl rfl) rfl rfl rfl (by decide)
 ·replace h := bif_f hb4 h
  refine aw_skip ?_
  refine aq_tr ?_
  refine al_mv rfl rfl ?_
  obtain ⟨r6, hc5, h⟩ := opt_some h
  refine al_call (vs := [v3]) (f_lz_Pack_ok fu v3 r2.1 hc5) [0] [] [0] (pre_own 0 rfl rfl pre_nil) rfl (by simp) (by decide) (.inr flat_res0) rfl Tryd.func39 rfl rfl rfl (fun _ => ?_)
  refine al_mv rfl rfl ?_
  refine al_ex rfl rfl rfl ?_
  refine al_ex rfl rfl rfl ?_
  refine al_as rfl rfl ?_
  refine al_as rfl rfl ?_
  refine al_nt ?_
  refine aw_sr ?_
  obtain ⟨hc7, h⟩ := req_some h
  refine al_make (τ := tq) (x0 := 0) hc7.1 hc7.2.1 hc7.2.2 rfl rfl Tryd.underlying71 to3 (fun _ _ => rfl) rfl rfl (fun v8 => ?_)
  refine al_as rfl rfl ?_
  refine al_nt ?_
  refine aw_sr ?_
  refine al_as rfl rfl ?_
  refine al_nt ?_
  obtain ⟨kk10, hkk10, h⟩ := lt_some h
  refine aw_seq_join (ι := (List Int) × Int) (fun i => (memOf w0 Z0 [] [(oRow v8 3 tq i.1)] [])) (fun i => (tab [(0, (str a0)), (6, (str r6.1)), (8, v8), (9, (iq i.2))])) (fun i => kk10 i.1 i.2 = some r) ?_ ?_
  ·rintro ⟨j9x8, j9i9⟩ h
   have h : kk10 j9x8 j9i9 = some r := h
   rw [hkk10] at h
   dsimp only at h
   clear hkk10
   refine aw_show (m := (memOf w0 Z0 [] [(oRow v8 3 tq j9x8)] [])) (S := (tab [(0, (str a0)), (6, (str r6.1)), (8, v8), (9, (iq j9i9))])) ?_
   refine aw_sr ?_
   refine al_mv rfl rfl ?_
   obtain ⟨r12, hc11, h⟩ := opt_some h
   refine al_call (vs := [v8]) (f_huff_Lengths_ok fu v8 j9x8 hc11) [0] [] [0] (pre_own 0 rfl rfl pre_nil) rfl (by simp) (by decide) (.inr (flat_res1 (fun _ => flat_row flat_enc))) rfl Tryd.func40 rfl rfl rfl (fun v13 => ?_)
   refine al_mv rfl rfl ?_
   refine al_ex rfl rfl rfl ?_
   refine al_ex rfl rfl rfl ?_
   refine al_as rfl rfl ?_
   refine al_as rfl rfl ?_
   refine al_nt ?_
   refine aw_sr ?_
   refine al_mv rfl rfl ?_
   obtain ⟨r15, hc14, h⟩ := opt_some h
   refine al_call (vs := [v13]) (f_huff_Codes_ok fu v13 r12.1 hc14) [0] [] [0, 1] (pre_own 0 rfl rfl pre_nil) rfl (by simp) (by decide) (.inr (flat_res1 (fun _ => flat_row flat_enc))) rfl Tryd.func41 rfl rfl rfl (fun v16 => ?_)
   refine al_mv rfl rfl ?_
   refine al_ex rfl rfl rfl ?_
   refine al_ex rfl rfl rfl ?_
   refine al_as rfl rfl ?_
   refine al_as rfl rfl ?_
   refine al_nt ?_
   refine aw_sr ?_
   obtain ⟨hc18, h⟩ := req_some h
   refine al_buildSlice (τ := tyU8) (e := 5) (k := 1) (sz := 0) (by_ := 0) (z := undef) (cs := [(i8 (1 : Int))]) (xs := [(UInt8.ofNat ((1 : Int)).toNat)]) rfl (by decide) (fun w a hm hs => ⟨([(i8 (1 : Int))]).toArray, rfl, by simp only [List.map_toArray, List.map_cons, List.map_nil, hs.ev (x := .const (i8 (1 : Int))) rfl]; exact run_bs [(i8 (1 : Int))] [(i8 (1 : Int))] Tryd.underlying74 to5 rfl rfl (bs_cons (l := [(i8 (1 : Int))]) (cs := []) (cv_rfl rfl) rfl bs_nil) hm⟩) (fun hm => ⟨_, _, rfl, (fun _ => u8_rep hc18) hm, rfl⟩) rfl (fun v17 => ?_)
   refine al_as rfl rfl ?_
   refine al_nt ?_
   obtain ⟨kk20, hkk20, h⟩ := lt_some h
   refine aw_seq_join (ι := Value × (List UInt8)) (fun i => (memOf w0 Z0 [] [(oRow v13 3 tq r12.1), (oRow v16 3 tq r15.1), (oRow i.1 5 tyU8 i.2)] [])) (fun i => (tab [(0, (str a0)), (6, (str r6.1)), (11, v13), (13, v16), (15, i.1)])) (fun i => kk20 i.2 = some r) ?_ ?_
   ·rintro ⟨j19v15, j19x15⟩ h
    have h : kk20 j19x15 = some r := h
    rw [hkk20] at h
    dsimp only at h
    clear hkk20
    refine aw_show (m := (memOf w0 Z0 [] [(oRow v13 3 tq r12.1), (oRow v16 3 tq r15.1), (oRow j19v15 5 tyU8 j19x15)] [])) (S := (tab [(0, (str a0)), (6, (str r6.1)), (11, v13), (13, v16), (15, j19v15)])) ?_
    obtain ⟨kk22, hkk22, h⟩ := lt_some h
    refine aw_seq_join (ι := Value × (List UInt8)) (fun i => (memOf w0 Z0 [] [(oRow v13 3 tq r12.1), (oRow v16 3 tq r15.1), (oRow i.1 5 tyU8 i.2)] [])) (fun i => (tab [(0, (str a0)), (6, (str r6.1)), (11, v13), (13, v16), (15, i.1)])) (fun i => kk22 i.2 = some r) ?_ ?_
    ·rintro ⟨j21v15, j21x15⟩ h
     have h : kk22 j21x15 = some r := h
     rw [hkk22] at h
     dsimp only at h
     clear hkk22
     refine aw_show (m := (memOf w0 Z0 [] [(oRow v13 3 tq r12.1), (oRow v16 3 tq r15.1), (oRow j21v15 5 tyU8 j21x15)] [])) (S := (tab [(0, (str a0)), (6, (str r6.1)), (11, v13), (13, v16), (15, j21v15)])) ?_
     refine aw_sr ?_
     refine al_val (ov_build (cells := ([nS, (iq (0 : Int))]).toArray) (cs := [nS, (iq (0 : Int))]) rfl (fun w a hm hs => by simp only [List.map_toArray, List.map_cons, List.map_nil, List.toList_toArray]; kernel_rfl)) ?_
     refine al_box (vs := [nS, (iq (0 : Int))]) rfl (cv_rfl rfl) rfl (fun g23 => ?_)
     refine al_as rfl rfl ?_
     refine al_nt ?_
     obtain ⟨kk25, hkk25, h⟩ := lt_some h
     refine aw_seq_join (ι := Value × (List UInt8) × Int) (fun i => (memOf w0 Z0 [] [(oRow j21v15 5 tyU8 j21x15), (oRow i.1 5 tyU8 i.2.1), (oBox g23 79 [i.1, (iq i.2.2)])] [])) (fun i => (tab [(0, (str a0)), (15, j21v15), (20, (pq g23))])) (fun i => kk25 i.2.1 i.2.2 = some r) ?_ ?_
     ·rintro ⟨j24v20_0, j24x20_0, j24i20_1⟩ h
      have h : kk25 j24x20_0 j24i20_1 = some r := h
      rw [hkk25] at h
      dsimp only at h
      clear hkk25
      refine aw_show (m := (memOf w0 Z0 [] [(oRow j21v15 5 tyU8 j21x15), (oRow j24v20_0 5 tyU8 j24x20_0), (oBox g23 79 [j24v20_0, (iq j24i20_1)])] [])) (S := (tab [(0, (str a0)), (15, j21v15), (20, (pq g23))])) ?_
      refine aw_sr ?_
      refine al_mv rfl rfl ?_
      refine al_mv rfl rfl ?_
      refine al_val (ov_nilCheck rfl rfl) ?_
      refine al_val (ov_fieldA (p := 0) rfl Tryd.underlying79 rfl sz74 rfl rfl rfl) ?_
      refine al_val (ov_load (i := 2) (v := j24v20_0) rfl rfl Tryd.underlying74 sz74 rfl rfl rfl rfl) ?_
      obtain ⟨hc26, h⟩ := req_some h
      refine al_append 0 hc26.1 hc26.2 rfl (src_own (i := 0) 1 rfl) rfl rfl Tryd.underlying74 to5 rfl rfl rfl (fun v27 => ?_)
      refine al_as rfl rfl ?_
      refine al_nt ?_
      refine aw_seq ?_
      refine aw_sr ?_
      refine al_mv rfl rfl ?_
      refine al_val (ov_lenR 0 rfl rfl Tryd.underlying74 rfl) ?_
      refine al_mv rfl rfl ?_
      refine al_val (ov_strLen Tryd.underlying9 rfl rfl) ?_
      refine al_in rfl rfl rfl rfl ?_
      refine al_in rfl rfl rfl rfl ?_
      refine al_nt ?_
      refine aw_cond rfl (fun hb28 => ?_) (fun hb28 => ?_)
      ·replace h := bif_t hb28 h
       refine aw_sr ?_
       refine al_mv rfl rfl ?_
       refine al_val (ov_toStrR 0 rfl rfl Tryd.underlying74 Tryd.underlying5 Tryd.underlying9 rfl) ?_
       refine al_as rfl rfl ?_
       refine al_as rfl rfl ?_
       refine al_nt ?_
       refine aw_ret ?_
       refine aq_then_ret ?_
       obtain rfl := Option.some.inj h
       exact fn_ret () [] [] rfl rfl rfl rfl (res2 rfl rfl rfl) rfl rfl rfl (by decide)
      ·replace h := bif_f hb28 h
       refine aw_skip ?_
       refine aq_tr ?_
       obtain ⟨hc30, h⟩ := req_some h
       refine al_buildSlice (τ := tyU8) (e := 5) (k := 1) (sz := 0) (by_ := 0) (z := undef) (cs := [(i8 (0 : Int))]) (xs := [(UInt8.ofNat ((0 : Int)).toNat)]) rfl (by decide) (fun w a hm hs => ⟨([(i8 (0 : Int))]).toArray, rfl, by simp only [List.map_toArray, List.map_cons, List.map_nil, hs.ev (x := .const (i8 (0 : Int))) rfl]; exact run_bs [(i8 (0 : Int))] [(i8 (0 : Int))] Tryd.underlying74 to5 rfl rfl (bs_cons (l := [(i8 (0 : Int))]) (cs := []) (cv_rfl rfl) rfl bs_nil) hm⟩) (fun hm => ⟨_, _, rfl, (fun _ => u8_rep hc30) hm, rfl⟩) rfl (fun v29 => ?_)
       refine al_val (ov_toStrR 0 rfl rfl Tryd.underlying74 Tryd.underlying5 Tryd.underlying9 rfl) ?_
       refine al_mv rfl rfl ?_
       obtain ⟨hc31, h⟩ := req_some h
       refine al_val (ov_strAdd hc31 rfl rfl rfl) ?_
       refine al_as rfl rfl ?_
       refine al_as rfl rfl ?_
       refine al_nt ?_
       refine aw_ret ?_
       obtain rfl := Option.some.inj h
       exact fn_ret () [] [] rfl rfl rfl rfl (res2 rfl rfl rfl) rfl rfl rfl (by decide)
     ·clear hkk25
      refine aw_sr ?_
      refine al_mv rfl rfl ?_
      refine al_val (ov_strLen Tryd.underlying9 rfl rfl) ?_
      refine al_mv rfl rfl ?_
      refine al_nt ?_
      refine aw_block ?_
      refine aw_nilR 5 tyU8 ?_
      refine aw_state (aw_loop (ι := Value × (List UInt8) × Int × Int) (fun i => (memOf w0 Z0 [] [(oRow v13 3 tq r12.1), (oRow v16 3 tq r15.1), (oRow j21v15 5 tyU8 j21x15), (oRow i.1 5 tyU8 i.2.1), (oBox g23 79 [i.1, (iq i.2.2.1)])] [])) (fun i => (tab [(0, (str a0)), (6, (str r6.1)), (11, v13), (13, v16), (15, j21v15), (20, (pq g23)), (107, (iq (r6.1.length : Int))), (108, (iq i.2.2.2))])) (fun q i => f_press_Press_L34 r6 r12 r15 kk25 fu q i.2.1 i.2.2.1 i.2.2.2 = some r) ?_ fu (nS, ([] : List UInt8), (0 : Int), (0 : Int)) h) (fun w a hm hs => norm hm hs [2, 3, 4, 0, 1] [] [(0, (str a0)), (6, (str r6.1)), (11, v13), (13, v16), (15, j21v15), (20, (pq g23)), (107, (iq (r6.1.length : Int))), (108, (iq (0 : Int)))] (by decide) ⟨rfl, rfl, rfl, rfl, rfl, rfl, rfl, rfl, trivial⟩)
      clear h
      rintro k33 ⟨l32v20_0, l32x20_0, l32i20_1, l32i108⟩ h
      have h : f_press_Press_L34 r6 r12 r15 kk25 fu k33 l32x20_0 l32i20_1 l32i108 = some r := h
      obtain _ | k33 := k33
      · rw [f_press_Press_L34] at h; cases h
      rw [f_press_Press_L34] at h
      refine aw_show (m := (memOf w0 Z0 [] [(oRow v13 3 tq r12.1), (oRow v16 3 tq r15.1), (oRow j21v15 5 tyU8 j21x15), (oRow l32v20_0 5 tyU8 l32x20_0), (oBox g23 79 [l32v20_0, (iq l32i20_1)])] [])) (S := (tab [(0, (str a0)), (6, (str r6.1)), (11, v13), (13, v16), (15, j21v15), (20, (pq g23)), (107, (iq (r6.1.length : Int))), (108, (iq l32i108))])) ?_
      refine aw_sr ?_
      refine al_in rfl rfl rfl rfl ?_
      refine al_nt ?_
      refine aw_seq ?_
      refine aw_cond rfl (fun hb35 => ?_) (fun hb35 => ?_)
      ·replace h := bif_t hb35 h
       refine aw_skip ?_
       refine aq_then ?_
       refine aw_seq ?_
       refine aw_block ?_
       refine aw_sr ?_
       refine al_mv rfl rfl ?_
       refine al_as rfl rfl ?_
       refine al_nt ?_
       obtain ⟨hc36, h⟩ := req_some h
       obtain ⟨u37, hu38, h⟩ := opt_some h
       obtain ⟨hc41, h⟩ := req_some h
       obtain ⟨u42, hu43, h⟩ := opt_some h
       refine aw_region_draw 13 [(111, (fun u => fEq u (pq g23))), (112, (fun u => fEq u v16)), (113, (fun u => fEq u (str r6.1))), (114, (fun u => fEq u (iq l32i108))), (115, (fun u => fEq u (i8 (En.bAt r6.1 l32i108)))), (116, (fun p => fElt v16 p (((En.bAt r6.1 l32i108)).toNat * Ty.size tq))), (117, (fun u => fEq u (iq u37))), (118, (fun u => fEq u v13)), (119, (fun u => fEq u (str r6.1))), (120, (fun u => fEq u (iq l32i108))), (121, (fun u => fEq u (i8 (En.bAt r6.1 l32i108)))), (122, (fun p => fElt v13 p (((En.bAt r6.1 l32i108)).toNat * Ty.size tq))), (123, (fun u => fEq u (iq u42)))] (tab [(0, (str a0)), (6, (str r6.1)), (11, v13), (13, v16), (15, j21v15), (20, (pq g23)), (21, (iq l32i108)), (107, (iq (r6.1.length : Int))), (108, (iq l32i108))]) mixed (by kernel_rfl) rfl rfl rfl (fun a hs => hs.tab _ (allT_mem ⟨rfl, rfl, rfl, rfl, rfl, rfl, rfl, rfl, rfl, trivial⟩)) ⟨⟨rfl, ld_val (ov_move rfl rfl)⟩, ⟨rfl, ld_val (ov_move rfl rfl)⟩, ⟨rfl, ld_val (ov_move rfl rfl)⟩, ⟨rfl, ld_val (ov_move rfl rfl)⟩, ⟨rfl, ld_eq (j := 2) rfl rfl (ld_eq (j := 3) rfl rfl (ld_val (ov_strIdx hc36.1 hc36.2 Tryd.underlying9 rfl rfl rfl)))⟩, ⟨rfl, ld_eq (j := 1) rfl rfl (ld_eq (j := 4) rfl rfl (ld_of (of_idxR 1 (at_some hu38).1 (at_some hu38).2.1 rfl rfl rfl Tryd.underlying71 sz3 rfl)))⟩, ⟨rfl, ld_elt (j := 5) rfl rfl (fun p39 hp40 => ld_val (ov_loadR (ds := [(iq u37)]) 1 rfl hp40 (at_some hu38).2.2 (fun h => h) rfl Tryd.underlying3 sz3 rfl rfl rfl))⟩, ⟨rfl, ld_val (ov_move rfl rfl)⟩, ⟨rfl, ld_val (ov_move rfl rfl)⟩, ⟨rfl, ld_val (ov_move rfl rfl)⟩, ⟨rfl, ld_eq (j := 8) rfl rfl (ld_eq (j := 9) rfl rfl (ld_val (ov_strIdx hc41.1 hc41.2 Tryd.underlying9 rfl rfl rfl)))⟩, ⟨rfl, ld_eq (j := 7) rfl rfl (ld_eq (j := 10) rfl rfl (ld_of (of_idxR 0 (at_some hu43).1 (at_some hu43).2.1 rfl rfl rfl Tryd.underlying71 sz3 rfl)))⟩, ⟨rfl, ld_elt (j := 11) rfl rfl (fun p44 hp45 => ld_val (ov_loadR (ds := [(iq u42)]) 0 rfl hp45 (at_some hu43).2.2 (fun h => h) rfl Tryd.underlying3 sz3 rfl rfl rfl))⟩, trivial⟩ ?_
       refine tl_eq 0 rfl ?_
       refine tl_eq 6 rfl ?_
       refine tl_eq 12 rfl ?_
       refine tl_done ?_
       obtain ⟨r47, hc46, h⟩ := opt_some h
       refine al_call (vs := [(pq g23), (iq u37), (iq u42)]) (f___press_writer__put_ok fu g23 l32v20_0 (D_press_writer.mk l32x20_0 l32i20_1) u37 u42 hc46) [] [4, 3] [0, 1, 2] pre_nil rfl (by simp) (by decide) (.inl rfl) rfl Tryd.func43 rfl rfl rfl (fun v48 => ?_)
       refine al_nil ?_
       refine aq_block ?_
       refine aq_then ?_
       refine aw_region ?_
       refine al_in rfl rfl rfl rfl ?_
       refine al_mv rfl rfl ?_
       refine al_nil ?_
       exact aq_again k33 (v48, r47.out, r47.free, (wq (l32i108 + (1 : Int)))) (Nat.lt_succ_self _) h (fun w a hm hs => norm hm hs [2, 3, 4, 1, 0] [] [(0, (str a0)), (6, (str r6.1)), (11, v13), (13, v16), (15, j21v15), (20, (pq g23)), (107, (iq (r6.1.length : Int))), (108, (iq (wq (l32i108 + (1 : Int)))))] (by decide) ⟨rfl, rfl, rfl, rfl, rfl, rfl, rfl, rfl, trivial⟩)
      ·replace h := bif_f hb35 h
       refine aw_exit ?_
       refine aq_then_exit ?_
       refine aq_then_exit ?_
       refine aq_block_exit ?_
       exact aq_join (l32v20_0, l32x20_0, l32i20_1) h (fun w a hm hs => norm hm hs [2, 3, 4] [] [(0, (str a0)), (15, j21v15), (20, (pq g23))] (by decide) ⟨rfl, rfl, rfl, trivial⟩)
    ·clear hkk22
     refine aw_sr ?_
     refine al_mv rfl rfl ?_
     refine al_val (ov_lenR 0 rfl rfl Tryd.underlying71 rfl) ?_
     refine al_mv rfl rfl ?_
     refine al_nt ?_
     refine aw_block ?_
     refine aw_state (aw_loop (ι := Value × (List UInt8) × Int) (fun i => (memOf w0 Z0 [] [(oRow v13 3 tq r12.1), (oRow v16 3 tq r15.1), (oRow i.1 5 tyU8 i.2.1)] [])) (fun i => (tab [(0, (str a0)), (6, (str r6.1)), (11, v13), (13, v16), (15, i.1), (87, v13), (88, (iq (r12.1.length : Int))), (89, (iq i.2.2))])) (fun q i => f_press_Press_L51 r12 kk22 q i.2.1 i.2.2 = some r) ?_ fu (j19v15, j19x15, (0 : Int)) h) (fun w a hm hs => norm hm hs [0, 1, 2] [] [(0, (str a0)), (6, (str r6.1)), (11, v13), (13, v16), (15, j19v15), (87, v13), (88, (iq (r12.1.length : Int))), (89, (iq (0 : Int)))] (by decide) ⟨rfl, rfl, rfl, rfl, rfl, rfl, rfl, rfl, trivial⟩)
     clear h
     rintro k50 ⟨l49v15, l49x15, l49i89⟩ h
     have h : f_press_Press_L51 r12 kk22 k50 l49x15 l49i89 = some r := h
     obtain _ | k50 := k50
     · rw [f_press_Press_L51] at h; cases h
     rw [f_press_Press_L51] at h
     refine aw_show (m := (memOf w0 Z0 [] [(oRow v13 3 tq r12.1), (oRow v16 3 tq r15.1), (oRow l49v15 5 tyU8 l49x15)] [])) (S := (tab [(0, (str a0)), (6, (str r6.1)), (11, v13), (13, v16), (15, l49v15), (87, v13), (88, (iq (r12.1.length : Int))), (89, (iq l49i89))])) ?_
     refine aw_sr ?_
     refine al_in rfl rfl rfl rfl ?_
     refine al_nt ?_
     refine aw_seq ?_
     refine aw_cond rfl (fun hb52 => ?_) (fun hb52 => ?_)
     ·replace h := bif_t hb52 h
      refine aw_skip ?_
      refine aq_then ?_
      obtain ⟨kk54, hkk54, h⟩ := lt_some h
      refine aw_seq_join (ι := Value × (List UInt8)) (fun i => (memOf w0 Z0 [] [(oRow v13 3 tq r12.1), (oRow v16 3 tq r15.1), (oRow i.1 5 tyU8 i.2)] [])) (fun i => (tab [(0, (str a0)), (6, (str r6.1)), (11, v13), (13, v16), (15, i.1), (87, v13), (88, (iq (r12.1.length : Int))), (89, (iq l49i89))])) (fun i => kk54 i.2 = some r) ?_ ?_
      ·rintro ⟨j53v15, j53x15⟩ h
       have h : kk54 j53x15 = some r := h
       rw [hkk54] at h
       dsimp only at h
       clear hkk54
       refine aw_show (m := (memOf w0 Z0 [] [(oRow v13 3 tq r12.1), (oRow v16 3 tq r15.1), (oRow j53v15 5 tyU8 j53x15)] [])) (S := (tab [(0, (str a0)), (6, (str r6.1)), (11, v13), (13, v16), (15, j53v15), (87, v13), (88, (iq (r12.1.length : Int))), (89, (iq l49i89))])) ?_
       refine aw_region ?_
       refine al_in rfl rfl rfl rfl ?_
       refine al_mv rfl rfl ?_
       refine al_nil ?_
       exact aq_again k50 (j53v15, j53x15, (wq (l49i89 + (1 : Int)))) (Nat.lt_succ_self _) h (fun w a hm hs => norm hm hs [0, 1, 2] [] [(0, (str a0)), (6, (str r6.1)), (11, v13), (13, v16), (15, j53v15), (87, v13), (88, (iq (r12.1.length : Int))), (89, (iq (wq (l49i89 + (1 : Int)))))] (by decide) ⟨rfl, rfl, rfl, rfl, rfl, rfl, rfl, rfl, trivial⟩)
      ·clear hkk54
       refine aw_block ?_
       refine aw_sr ?_
       refine al_mv rfl rfl ?_
       obtain ⟨u55, hu56, h⟩ := opt_some h
       refine al_idxR 0 (at_some hu56).1 (at_some hu56).2.1 rfl rfl rfl Tryd.underlying71 sz3 rfl (fun p57 hp58 => ?_)
       refine al_val (ov_loadR (ds := [(iq u55)]) 0 rfl hp58 (at_some hu56).2.2 (fun h => h) rfl Tryd.underlying3 sz3 rfl rfl rfl) ?_
       refine al_as rfl rfl ?_
       refine al_as rfl rfl ?_
       refine al_nt ?_
       refine aw_sr ?_
       refine al_mv rfl rfl ?_
       refine al_in rfl rfl rfl rfl ?_
       refine al_nt ?_
       refine aw_cond rfl (fun hb59 => ?_) (fun hb59 => ?_)
       ·replace h := bif_t hb59 h
        refine aw_region ?_
        refine al_mv rfl rfl ?_
        refine al_mv rfl rfl ?_
        refine al_val (ov_convInt (by rw [Tryd.underlying3]; rfl) Tryd.underlying5 rfl rfl) ?_
        refine al_mv rfl rfl ?_
        refine al_val (ov_convInt (by rw [Tryd.underlying3]; rfl) Tryd.underlying5 rfl rfl) ?_
        obtain ⟨hc61, h⟩ := req_some h
        obtain ⟨hc62, h⟩ := req_some h
        refine al_buildSlice (τ := tyU8) (e := 5) (k := 2) (sz := 0) (by_ := 0) (z := undef) (cs := [(i8 (w8 l49i89)), (i8 (w8 u55))]) (xs := [(UInt8.ofNat ((w8 l49i89)).toNat), (UInt8.ofNat ((w8 u55)).toNat)]) rfl (by decide) (fun w a hm hs => ⟨([(i8 (w8 l49i89)), (i8 (w8 u55))]).toArray, rfl, by simp only [List.map_toArray, List.map_cons, List.map_nil, hs.ev (x := .tmp 98) rfl, hs.ev (x := .tmp 100) rfl]; exact run_bs [(i8 (w8 l49i89)), (i8 (w8 u55))] [(i8 (w8 l49i89)), (i8 (w8 u55))] Tryd.underlying74 to5 rfl rfl (bs_cons (l := [(i8 (w8 l49i89))]) (cs := [(i8 (w8 u55))]) (cv_rfl rfl) rfl (bs_cons (l := [(i8 (w8 u55))]) (cs := []) (cv_rfl rfl) rfl bs_nil)) hm⟩) (fun hm => ⟨_, _, rfl, (fun _ => u8_rep hc61) hm, ⟨_, _, rfl, (fun _ => u8_rep hc62) hm, rfl⟩⟩) rfl (fun v60 => ?_)
        obtain ⟨hc63, h⟩ := req_some h
        refine al_append 3 hc63.1 hc63.2 rfl (src_own (i := 3) 0 rfl) rfl rfl Tryd.underlying74 to5 rfl rfl rfl (fun v64 => ?_)
        refine al_as rfl rfl ?_
        refine al_nil ?_
        refine aq_block ?_
        exact aq_join (v64, (l49x15 ++ ([(UInt8.ofNat ((w8 l49i89)).toNat), (UInt8.ofNat ((w8 u55)).toNat)]))) h (fun w a hm hs => norm hm hs [1, 2, 3] [] [(0, (str a0)), (6, (str r6.1)), (11, v13), (13, v16), (15, v64), (87, v13), (88, (iq (r12.1.length : Int))), (89, (iq l49i89))] (by decide) ⟨rfl, rfl, rfl, rfl, rfl, rfl, rfl, rfl, trivial⟩)
       ·replace h := bif_f hb59 h
        refine aw_skip ?_
        refine aq_block ?_
        exact aq_join (l49v15, l49x15) h (fun w a hm hs => norm hm hs [0, 1, 2] [] [(0, (str a0)), (6, (str r6.1)), (11, v13), (13, v16), (15, l49v15), (87, v13), (88, (iq (r12.1.length : Int))), (89, (iq l49i89))] (by decide) ⟨rfl, rfl, rfl, rfl, rfl, rfl, rfl, rfl, trivial⟩)
     ·replace h := bif_f hb52 h
      refine aw_exit ?_
      refine aq_then_exit ?_
      refine aq_then_exit ?_
      refine aq_block_exit ?_
      exact aq_join (l49v15, l49x15) h (fun w a hm hs => norm hm hs [0, 1, 2] [] [(0, (str a0)), (6, (str r6.1)), (11, v13), (13, v16), (15, l49v15)] (by decide) ⟨rfl, rfl, rfl, rfl, rfl, trivial⟩)
   ·clear hkk20
    refine aw_sr ?_
    refine al_mv rfl rfl ?_
    refine al_val (ov_strLen Tryd.underlying9 rfl rfl) ?_
    refine al_mv rfl rfl ?_
    refine al_val (ov_strLen Tryd.underlying9 rfl rfl) ?_
    refine al_mv rfl rfl ?_
    refine al_buildSlice (τ := tq) (e := 3) (k := 3) (sz := 0) (by_ := 0) (z := undef) (cs := [(iq (a0.length : Int)), (iq (r6.1.length : Int)), (iq j9i9)]) (xs := [(a0.length : Int), (r6.1.length : Int), j9i9]) rfl (by decide) (fun w a hm hs => ⟨([(iq (a0.length : Int)), (iq (r6.1.length : Int)), (iq j9i9)]).toArray, rfl, by simp only [List.map_toArray, List.map_cons, List.map_nil, hs.ev (x := .tmp 71) rfl, hs.ev (x := .tmp 73) rfl, hs.ev (x := .tmp 74) rfl]; exact run_bs [(iq (a0.length : Int)), (iq (r6.1.length : Int)), (iq j9i9)] [(iq (a0.length : Int)), (iq (r6.1.length : Int)), (iq j9i9)] Tryd.underlying71 to3 rfl rfl (bs_cons (l := [(iq (a0.length : Int))]) (cs := [(iq (r6.1.length : Int)), (iq j9i9)]) (cv_rfl rfl) rfl (bs_cons (l := [(iq (r6.1.length : Int))]) (cs := [(iq j9i9)]) (cv_rfl rfl) rfl (bs_cons (l := [(iq j9i9)]) (cs := []) (cv_rfl rfl) rfl bs_nil))) hm⟩) (fun hm => ⟨_, _, rfl, (fun _ => rfl) hm, ⟨_, _, rfl, (fun _ => rfl) hm, ⟨_, _, rfl, (fun _ => rfl) hm, rfl⟩⟩⟩) rfl (fun v65 => ?_)
    refine al_val (ov_lenR 0 rfl rfl Tryd.underlying71 rfl) ?_
    refine al_mv rfl rfl ?_
    refine al_nt ?_
    refine aw_block ?_
    refine aw_state (aw_loop (ι := Value × (List UInt8) × Int) (fun i => (memOf w0 Z0 [] [(oRow v13 3 tq r12.1), (oRow v16 3 tq r15.1), (oRow i.1 5 tyU8 i.2.1), (oRow v65 3 tq [(a0.length : Int), (r6.1.length : Int), j9i9])] [])) (fun i => (tab [(0, (str a0)), (6, (str r6.1)), (11, v13), (13, v16), (15, i.1), (75, v65), (76, (iq (([(a0.length : Int), (r6.1.length : Int), j9i9]).length : Int))), (77, (iq i.2.2))])) (fun q i => f_press_Press_L68 a0 r6 j9i9 kk20 fu q i.2.1 i.2.2 = some r) ?_ fu (v17, ([(UInt8.ofNat ((1 : Int)).toNat)]), (0 : Int)) h) (fun w a hm hs => norm hm hs [3, 2, 1, 0] [] [(0, (str a0)), (6, (str r6.1)), (11, v13), (13, v16), (15, v17), (75, v65), (76, (iq (([(a0.length : Int), (r6.1.length : Int), j9i9]).length : Int))), (77, (iq (0 : Int)))] (by decide) ⟨rfl, rfl, rfl, rfl, rfl, rfl, rfl, rfl, trivial⟩)
    clear h
    rintro k67 ⟨l66v15, l66x15, l66i77⟩ h
    have h : f_press_Press_L68 a0 r6 j9i9 kk20 fu k67 l66x15 l66i77 = some r := h
    obtain _ | k67 := k67
    · rw [f_press_Press_L68] at h; cases h
    rw [f_press_Press_L68] at h
    refine aw_show (m := (memOf w0 Z0 [] [(oRow v13 3 tq r12.1), (oRow v16 3 tq r15.1), (oRow l66v15 5 tyU8 l66x15), (oRow v65 3 tq [(a0.length : Int), (r6.1.length : Int), j9i9])] [])) (S := (tab [(0, (str a0)), (6, (str r6.1)), (11, v13), (13, v16), (15, l66v15), (75, v65), (76, (iq (([(a0.length : Int), (r6.1.length : Int), j9i9]).length : Int))), (77, (iq l66i77))])) ?_
    refine aw_sr ?_
    refine al_in rfl rfl rfl rfl ?_
    refine al_nt ?_
    refine aw_seq ?_
    refine aw_cond rfl (fun hb69 => ?_) (fun hb69 => ?_)
    ·replace h := bif_t hb69 h
     refine aw_skip ?_
     refine aq_then ?_
     refine aw_seq ?_
     refine aw_block ?_
     refine aw_sr ?_
     obtain ⟨u70, hu71, h⟩ := opt_some h
     refine al_idxR 3 (at_some hu71).1 (at_some hu71).2.1 rfl rfl rfl Tryd.underlying71 sz3 rfl (fun p72 hp73 => ?_)
     refine al_val (ov_loadR (ds := [(iq u70)]) 3 rfl hp73 (at_some hu71).2.2 (fun h => h) rfl Tryd.underlying3 sz3 rfl rfl rfl) ?_
     refine al_as rfl rfl ?_
     refine al_nt ?_
     refine aw_region ?_
     refine al_mv rfl rfl ?_
     refine al_mv rfl rfl ?_
     refine al_val (ov_convInt (by rw [Tryd.underlying3]; rfl) Tryd.underlying76 rfl rfl) ?_
     obtain ⟨r75, hc74, h⟩ := opt_some h
     refine al_call (vs := [(uq (wu u70))]) (f_num_Put_ok fu (wu u70) hc74) [] [] [0, 1, 2, 3] pre_nil rfl (by simp) (by decide) (.inl rfl) rfl Tryd.func42 rfl rfl rfl (fun _ => ?_)
     obtain ⟨hc76, h⟩ := req_some h
     refine al_appendS 2 hc76 rfl rfl rfl Tryd.underlying74 Tryd.underlying9 to5 rfl (fun v77 => ?_)
     refine al_as rfl rfl ?_
     refine al_nil ?_
     refine aq_block ?_
     refine aq_then ?_
     refine aw_region ?_
     refine al_in rfl rfl rfl rfl ?_
     refine al_mv rfl rfl ?_
     refine al_nil ?_
     exact aq_again k67 (v77, (l66x15 ++ r75), (wq (l66i77 + (1 : Int)))) (Nat.lt_succ_self _) h (fun w a hm hs => norm hm hs [0, 1, 2, 3] [] [(0, (str a0)), (6, (str r6.1)), (11, v13), (13, v16), (15, v77), (75, v65), (76, (iq (([(a0.length : Int), (r6.1.length : Int), j9i9]).length : Int))), (77, (iq (wq (l66i77 + (1 : Int)))))] (by decide) ⟨rfl, rfl, rfl, rfl, rfl, rfl, rfl, rfl, trivial⟩)
    ·replace h := bif_f hb69 h
     refine aw_exit ?_
     refine aq_then_exit ?_
     refine aq_then_exit ?_
     refine aq_block_exit ?_
     exact aq_join (l66v15, l66x15) h (fun w a hm hs => norm hm hs [0, 1, 2] [] [(0, (str a0)), (6, (str r6.1)), (11, v13), (13, v16), (15, l66v15)] (by decide) ⟨rfl, rfl, rfl, rfl, rfl, trivial⟩)
  ·clear hkk10
   refine aw_sr ?_
   refine al_mv rfl rfl ?_
   refine al_val (ov_strLen Tryd.underlying9 rfl rfl) ?_
   refine al_mv rfl rfl ?_
   refine al_nt ?_
   refine aw_block ?_
   refine aw_state (aw_loop (ι := (List Int) × Int × Int) (fun i => (memOf w0 Z0 [] [(oRow v8 3 tq i.1)] [])) (fun i => (tab [(0, (str a0)), (6, (str r6.1)), (8, v8), (9, (iq i.2.1)), (37, (iq (r6.1.length : Int))), (38, (iq i.2.2))])) (fun q i => f_press_Press_L80 r6 kk10 q i.1 i.2.1 i.2.2 = some r) ?_ fu ((List.replicate ((256 : Int)).toNat 0), (0 : Int), (0 : Int)) h) (fun w a hm hs => norm hm hs [0] [] [(0, (str a0)), (6, (str r6.1)), (8, v8), (9, (iq (0 : Int))), (37, (iq (r6.1.length : Int))), (38, (iq (0 : Int)))] (by decide) ⟨rfl, rfl, rfl, rfl, rfl, rfl, trivial⟩)
   clear h
   rintro k79 ⟨l78x8, l78i9, l78i38⟩ h
   have h : f_press_Press_L80 r6 kk10 k79 l78x8 l78i9 l78i38 = some r := h
   obtain _ | k79 := k79
   · rw [f_press_Press_L80] at h; cases h
   rw [f_press_Press_L80] at h
   refine aw_show (m := (memOf w0 Z0 [] [(oRow v8 3 tq l78x8)] [])) (S := (tab [(0, (str a0)), (6, (str r6.1)), (8, v8), (9, (iq l78i9)), (37, (iq (r6.1.length : Int))), (38, (iq l78i38))])) ?_
   refine aw_sr ?_
   refine al_in rfl rfl rfl rfl ?_
   refine al_nt ?_
   refine aw_seq ?_
   refine aw_cond rfl (fun hb81 => ?_) (fun hb81 => ?_)
   ·replace h := bif_t hb81 h
    refine aw_skip ?_
    refine aq_then ?_
    refine aw_seq ?_
    refine aw_block ?_
    refine aw_sr ?_
    refine al_mv rfl rfl ?_
    refine al_as rfl rfl ?_
    refine al_nt ?_
    obtain ⟨kk83, hkk83, h⟩ := lt_some h
    refine aw_seq_join (ι := Int) (fun i => (memOf w0 Z0 [] [(oRow v8 3 tq l78x8)] [])) (fun i => (tab [(0, (str a0)), (6, (str r6.1)), (8, v8), (9, (iq i)), (10, (iq l78i38)), (37, (iq (r6.1.length : Int))), (38, (iq l78i38))])) (fun i => kk83 i = some r) ?_ ?_
    ·rintro j82i9 h
     have h : kk83 j82i9 = some r := h
     rw [hkk83] at h
     dsimp only at h
     clear hkk83
     refine aw_show (m := (memOf w0 Z0 [] [(oRow v8 3 tq l78x8)] [])) (S := (tab [(0, (str a0)), (6, (str r6.1)), (8, v8), (9, (iq j82i9)), (10, (iq l78i38)), (37, (iq (r6.1.length : Int))), (38, (iq l78i38))])) ?_
     refine aw_region ?_
     refine al_mv rfl rfl ?_
     refine al_mv rfl rfl ?_
     refine al_mv rfl rfl ?_
     obtain ⟨hc84, h⟩ := req_some h
     refine al_val (ov_strIdx hc84.1 hc84.2 Tryd.underlying9 rfl rfl rfl) ?_
     obtain ⟨u85, hu86, h⟩ := opt_some h
     refine al_idxR 0 (at_some hu86).1 (at_some hu86).2.1 rfl rfl rfl Tryd.underlying71 sz3 rfl (fun p87 hp88 => ?_)
     refine al_val (ov_loadR (ds := [(iq u85)]) 0 rfl hp88 (at_some hu86).2.2 (fun h => h) rfl Tryd.underlying3 sz3 rfl rfl rfl) ?_
     refine al_in rfl rfl rfl rfl ?_
     obtain ⟨u89, hu90, h⟩ := opt_some h
     refine al_idxR 0 (at_some hu90).1 (at_some hu90).2.1 rfl rfl rfl Tryd.underlying71 sz3 rfl (fun p91 hp92 => ?_)
     refine al_storeR (k := ((En.bAt r6.1 l78i38)).toNat) (x := (wq (u85 + (1 : Int)))) (vs := [(iq (wq (u85 + (1 : Int))))]) 0 rfl hp92 (idx_lt hu90) rfl rfl (cv_rfl rfl) (fun _ => rfl) sz3 rfl ?_
     refine al_nil ?_
     refine aq_block ?_
     refine aq_then ?_
     refine aw_region ?_
     refine al_in rfl rfl rfl rfl ?_
     refine al_mv rfl rfl ?_
     refine al_nil ?_
     exact aq_again k79 ((l78x8.set ((En.bAt r6.1 l78i38)).toNat (wq (u85 + (1 : Int)))), j82i9, (wq (l78i38 + (1 : Int)))) (Nat.lt_succ_self _) h (fun w a hm hs => norm hm hs [0] [] [(0, (str a0)), (6, (str r6.1)), (8, v8), (9, (iq j82i9)), (37, (iq (r6.1.length : Int))), (38, (iq (wq (l78i38 + (1 : Int)))))] (by decide) ⟨rfl, rfl, rfl, rfl, rfl, rfl, trivial⟩)
    ·clear hkk83
     refine aw_sr ?_
     refine al_mv rfl rfl ?_
     refine al_mv rfl rfl ?_
     refine al_mv rfl rfl ?_
     obtain ⟨hc93, h⟩ := req_some h
     refine al_val (ov_strIdx hc93.1 hc93.2 Tryd.underlying9 rfl rfl rfl) ?_
     obtain ⟨u94, hu95, h⟩ := opt_some h
     refine al_idxR 0 (at_some hu95).1 (at_some hu95).2.1 rfl rfl rfl Tryd.underlying71 sz3 rfl (fun p96 hp97 => ?_)
     refine al_val (ov_loadR (ds := [(iq u94)]) 0 rfl hp97 (at_some hu95).2.2 (fun h => h) rfl Tryd.underlying3 sz3 rfl rfl rfl) ?_
     refine al_in rfl rfl rfl rfl ?_
     refine al_nt ?_
     refine aw_cond rfl (fun hb98 => ?_) (fun hb98 => ?_)
     ·replace h := bif_t hb98 h
      refine aw_region ?_
      refine al_mv rfl rfl ?_
      refine al_in rfl rfl rfl rfl ?_
      refine al_as rfl rfl ?_
      refine al_nil ?_
      exact aq_join (wq (l78i9 + (1 : Int))) h (fun w a hm hs => norm hm hs [0] [] [(0, (str a0)), (6, (str r6.1)), (8, v8), (9, (iq (wq (l78i9 + (1 : Int))))), (10, (iq l78i38)), (37, (iq (r6.1.length : Int))), (38, (iq l78i38))] (by decide) ⟨rfl, rfl, rfl, rfl, rfl, rfl, rfl, trivial⟩)
     ·replace h := bif_f hb98 h
      refine aw_skip ?_
      exact aq_join l78i9 h (fun w a hm hs => norm hm hs [0] [] [(0, (str a0)), (6, (str r6.1)), (8, v8), (9, (iq l78i9)), (10, (iq l78i38)), (37, (iq (r6.1.length : Int))), (38, (iq l78i38))] (by decide) ⟨rfl, rfl, rfl, rfl, rfl, rfl, rfl, trivial⟩)
   ·replace h := bif_f hb81 h
    refine aw_exit ?_
    refine aq_then_exit ?_
    refine aq_then_exit ?_
    refine aq_block_exit ?_
    exact aq_join (l78x8, l78i9) h (fun w a hm hs => norm hm hs [0] [] [(0, (str a0)), (6, (str r6.1)), (8, v8), (9, (iq l78i9))] (by decide) ⟨rfl, rfl, rfl, rfl, trivial⟩)
def f_pack_Make_L19 (a0 : (List S_api_Blob)) (kk6 : ((List UInt8) → (List UInt8) → Option ((List UInt8) × Int))) (fu : Nat) : Nat → (List (A8u8 × S_api_Blob)) → (List UInt8) → (List UInt8) → Int → Option ((List UInt8) × Int)
  | 0, _, _, _, _ => none
  | k18 + 1, l17xm4, l17s5, l17s6, l17i27 => (bif (decide (l17i27 < (a0.length : Int))) then (opt (at? a0 l17i27) fun (u21 : S_api_Blob) => (opt (f_pack_ID fu u21) fun (r26 : (A8u8 × Int)) => (bif (r26.2 != (0 : Int)) then (some (([] : List UInt8), r26.2)) else (bif (gget l17xm4 r26.1).isSome then (req ((Lit.int .i64 (((gget l17xm4 r26.1).getD (S_api_Blob.mk (0 : Int) ([] : (List UInt8)))).Kind)).wf = true) (req ((((gget l17xm4 r26.1).getD (S_api_Blob.mk (0 : Int) ([] : (List UInt8)))).Bytes).length ≤ 9223372036854775807) (req ((Lit.int .i64 u21.Kind).wf = true) (req (u21.Bytes.length ≤ 9223372036854775807) (bif ((S_api_Blob.mk (((gget l17xm4 r26.1).getD (S_api_Blob.mk (0 : Int) ([] : (List UInt8)))).Kind) (((gget l17xm4 r26.1).getD (S_api_Blob.mk (0 : Int) ([] : (List UInt8)))).Bytes)) == u21) then (some (([] : List UInt8), (10 : Int))) else (some (([] : List UInt8), (11 : Int)))))))) else (opt (f_press_Press fu u21.Bytes) fun (r37 : ((List UInt8) × Int)) => (req (l17s5.length + r37.1.length ≤ 9223372036854775807) (req (0 ≤ (IntKind.u8.wrap u21.Kind) ∧ (IntKind.u8.wrap u21.Kind) ≤ 255) (req (([(UInt8.ofNat ((IntKind.u8.wrap u21.Kind)).toNat)]).length + (lA8u8 r26.1).length ≤ 9223372036854775807) (opt (f_num_Put fu (IntKind.u64.wrap (r37.1.length : Int))) fun (r44 : (List UInt8)) => (req ((([(UInt8.ofNat ((IntKind.u8.wrap u21.Kind)).toNat)]) ++ (lA8u8 r26.1)).length + r44.length ≤ 9223372036854775807) (req (l17s6.length + ((([(UInt8.ofNat ((IntKind.u8.wrap u21.Kind)).toNat)]) ++ (lA8u8 r26.1)) ++ r44).length ≤ 9223372036854775807) (f_pack_Make_L19 a0 kk6 fu k18 (gset l17xm4 r26.1 u21) (l17s5 ++ r37.1) (l17s6 ++ ((([(UInt8.ofNat ((IntKind.u8.wrap u21.Kind)).toNat)]) ++ (lA8u8 r26.1)) ++ r44)) (IntKind.i64.wrap (l17i27 + (1 : Int))))))))))))))) else (kk6 l17s5 l17s6))
def f_pack_Make (fu : Nat) (a0 : (List S_api_Blob)) : Option ((List UInt8) × Int) := (bif (decide ((a0.length : Int) > (40 : Int))) then (some (([] : List UInt8), (2 : Int))) else (opt (f_num_Put fu (IntKind.u64.wrap (a0.length : Int))) fun (r4 : (List UInt8)) => (lt (fun (j5s5 : (List UInt8)) (j5s6 : (List UInt8)) => (req (j5s5.length + j5s6.length ≤ 9223372036854775807) (req (0 ≤ (IntKind.u8.wrap (j5s6.length : Int)) ∧ (IntKind.u8.wrap (j5s6.length : Int)) ≤ 255) (req (0 ≤ (IntKind.u8.wrap (((j5s6.length : Int)).fdiv (2 ^ min ((8 : Int)).toNat (IntKind.bits .i64)))) ∧ (IntKind.u8.wrap (((j5s6.length : Int)).fdiv (2 ^ min ((8 : Int)).toNat (IntKind.bits .i64)))) ≤ 255) (req ((j5s5 ++ j5s6).length + ([(UInt8.ofNat ((IntKind.u8.wrap (j5s6.length : Int))).toNat), (UInt8.ofNat ((IntKind.u8.wrap (((j5s6.length : Int)).fdiv (2 ^ min ((8 : Int)).toNat (IntKind.bits .i64))))).toNat)]).length ≤ 9223372036854775807) (opt (f_mix_ID fu ((j5s5 ++ j5s6) ++ ([(UInt8.ofNat ((IntKind.u8.wrap (j5s6.length : Int))).toNat), (UInt8.ofNat ((IntKind.u8.wrap (((j5s6.length : Int)).fdiv (2 ^ min ((8 : Int)).toNat (IntKind.bits .i64))))).toNat)]))) fun (r13 : A8u8) => (req (((j5s5 ++ j5s6) ++ ([(UInt8.ofNat ((IntKind.u8.wrap (j5s6.length : Int))).toNat), (UInt8.ofNat ((IntKind.u8.wrap (((j5s6.length : Int)).fdiv (2 ^ min ((8 : Int)).toNat (IntKind.bits .i64))))).toNat)])).length + (lA8u8 r13).length ≤ 9223372036854775807) (some ((((j5s5 ++ j5s6) ++ ([(UInt8.ofNat ((IntKind.u8.wrap (j5s6.length : Int))).toNat), (UInt8.ofNat ((IntKind.u8.wrap (((j5s6.length : Int)).fdiv (2 ^ min ((8 : Int)).toNat (IntKind.bits .i64))))).toNat)])) ++ (lA8u8 r13)), (0 : Int)))))))))) fun (kk6 : (List UInt8) → (List UInt8) → Option ((List UInt8) × Int)) => (f_pack_Make_L19 a0 kk6 fu fu ([] : List (A8u8 × S_api_Blob)) ([] : List UInt8) r4 (0 : Int)))))
set_option maxRecDepth 100000 in
set_option maxHeartbeats 2000000 in
set_option maxHeartbeats 2000000 in
theorem f_pack_Make_ok (fu : Nat) (v0_0 : Value) (a0 : (List S_api_Blob)) {r : ((List UInt8) × Int)} (h : f_pack_Make fu a0 = some r) : FnOk Tryd.prog 14 [v0_0] [(fDat (tyList tyS_api_Blob) [v0_0] a0)] [] (fun (i : Unit) => { val := (Value.tuple #[(str r.1), (int .i64 r.2)]) }) := by
 unfold f_pack_Make at h
 refine fn_enter Tryd.func14 rfl Tryd.ntmps14 rfl (fun w0 Z0 => ?_)
 refine aw_sr ?_
 refine al_as rfl rfl ?_
 refine al_as rfl rfl ?_
 refine al_nt ?_
 refine aw_seq ?_
 refine aw_sr ?_
 refine al_mv rfl rfl ?_
 refine al_val (ov_lenD 0 rfl rfl Tryd.underlying26 rfl) ?_
 refine al_in rfl rfl rfl rfl ?_
 refine al_nt ?_
 refine aw_cond rfl (fun hb1 => ?_) (fun hb1 => ?_)
 ·replace h := bif_t hb1 h
  refine aw_sr ?_
  refine al_as rfl rfl ?_
  refine al_as rfl rfl ?_
  refine al_nt ?_
  refine aw_ret ?_
  refine aq_then_ret ?_
  obtain rfl := Option.some.inj h
  exact fn_ret () [] [] rfl rfl rfl rfl (res2 rfl rfl rfl) rfl rfl rfl (by decide)
 ·replace h := bif_f hb1 h
  refine aw_skip ?_
  refine aq_tr ?_
  refine al_makeMapK (ν := S_api_Blob) 30 (fun x : A8u8 => ag (cA8u8 x)) (fun x : S_api_Blob => ag [(iq x.Kind), (str x.Bytes)]) rfl (fun g2 => ?_)
  refine al_as rfl rfl ?_
  refine al_nt ?_
  refine aw_sr ?_
  refine al_mv rfl rfl ?_
  refine al_val (ov_lenD 0 rfl rfl Tryd.underlying26 rfl) ?_
  refine al_val (ov_convInt (by rw [Tryd.underlying3]; rfl) Tryd.underlying76 rfl rfl) ?_
  obtain ⟨r4, hc3, h⟩ := opt_some h
  refine al_call (vs := [(uq (wu (a0.length : Int)))]) (f_num_Put_ok fu (wu (a0.length : Int)) hc3) [] [] [0] pre_nil rfl (by simp) (by decide) (.inl rfl) rfl Tryd.func42 rfl rfl rfl (fun _ => ?_)
  refine al_as rfl rfl ?_
  refine al_as rfl rfl ?_
  refine al_nt ?_
  obtain ⟨kk6, hkk6, h⟩ := lt_some h
  refine aw_seq_join (ι := (List UInt8) × (List UInt8)) (fun i => (memOf w0 Z0 [] [] [(fDat (tyList tyS_api_Blob) [v0_0] a0)])) (fun i => (tab [(5, (str i.1)), (6, (str i.2))])) (fun i => kk6 i.1 i.2 = some r) ?_ ?_
  ·rintro ⟨j5s5, j5s6⟩ h
   have h : kk6 j5s5 j5s6 = some r := h
   rw [hkk6] at h
   dsimp only at h
   clear hkk6
   refine aw_show (m := (memOf w0 Z0 [] [] [(fDat (tyList tyS_api_Blob) [v0_0] a0)])) (S := (tab [(5, (str j5s5)), (6, (str j5s6))])) ?_
   refine aw_sr ?_
   refine al_mv rfl rfl ?_
   refine al_mv rfl rfl ?_
   obtain ⟨hc7, h⟩ := req_some h
   refine al_val (ov_strAdd hc7 rfl rfl rfl) ?_
   refine al_mv rfl rfl ?_
   refine al_val (ov_strLen Tryd.underlying9 rfl rfl) ?_
   refine al_val (ov_convInt (by rw [Tryd.underlying3]; rfl) Tryd.underlying5 rfl rfl) ?_
   refine al_mv rfl rfl ?_
   refine al_val (ov_strLen Tryd.underlying9 rfl rfl) ?_
   refine al_val (ov_shr (by decide) rfl rfl rfl) ?_
   refine al_val (ov_convInt (by rw [Tryd.underlying3]; rfl) Tryd.underlying5 rfl rfl) ?_
   obtain ⟨hc9, h⟩ := req_some h
   obtain ⟨hc10, h⟩ := req_some h
   refine al_buildSlice (τ := tyU8) (e := 5) (k := 2) (sz := 0) (by_ := 0) (z := undef) (cs := [(i8 (w8 (j5s6.length : Int))), (i8 (w8 (((j5s6.length : Int)).fdiv (2 ^ min ((8 : Int)).toNat (IntKind.bits .i64)))))]) (xs := [(UInt8.ofNat ((w8 (j5s6.length : Int))).toNat), (UInt8.ofNat ((w8 (((j5s6.length : Int)).fdiv (2 ^ min ((8 : Int)).toNat (IntKind.bits .i64))))).toNat)]) rfl (by decide) (fun w a hm hs => ⟨([(i8 (w8 (j5s6.length : Int))), (i8 (w8 (((j5s6.length : Int)).fdiv (2 ^ min ((8 : Int)).toNat (IntKind.bits .i64)))))]).toArray, rfl, by simp only [List.map_toArray, List.map_cons, List.map_nil, hs.ev (x := .tmp 82) rfl, hs.ev (x := .tmp 86) rfl]; exact run_bs [(i8 (w8 (j5s6.length : Int))), (i8 (w8 (((j5s6.length : Int)).fdiv (2 ^ min ((8 : Int)).toNat (IntKind.bits .i64)))))] [(i8 (w8 (j5s6.length : Int))), (i8 (w8 (((j5s6.length : Int)).fdiv (2 ^ min ((8 : Int)).toNat (IntKind.bits .i64)))))] Tryd.underlying74 to5 rfl rfl (bs_cons (l := [(i8 (w8 (j5s6.length : Int)))]) (cs := [(i8 (w8 (((j5s6.length : Int)).fdiv (2 ^ min ((8 : Int)).toNat (IntKind.bits .i64)))))]) (cv_rfl rfl) rfl (bs_cons (l := [(i8 (w8 (((j5s6.length : Int)).fdiv (2 ^ min ((8 : Int)).toNat (IntKind.bits .i64)))))]) (cs := []) (cv_rfl rfl) rfl bs_nil)) hm⟩) (fun hm => ⟨_, _, rfl, (fun _ => u8_rep hc9) hm, ⟨_, _, rfl, (fun _ => u8_rep hc10) hm, rfl⟩⟩) rfl (fun v8 => ?_)
   refine al_val (ov_toStrR 0 rfl rfl Tryd.underlying74 Tryd.underlying5 Tryd.underlying9 rfl) ?_
   obtain ⟨hc11, h⟩ := req_some h
   refine al_val (ov_strAdd hc11 rfl rfl rfl) ?_
   refine al_as rfl rfl ?_
   refine al_nt ?_
   refine aw_sr ?_
   refine al_mv rfl rfl ?_
   obtain ⟨r13, hc12, h⟩ := opt_some h
   refine al_call (vs := [(str ((j5s5 ++ j5s6) ++ ([(UInt8.ofNat ((w8 (j5s6.length : Int))).toNat), (UInt8.ofNat ((w8 (((j5s6.length : Int)).fdiv (2 ^ min ((8 : Int)).toNat (IntKind.bits .i64))))).toNat)])))]) (f_mix_ID_ok fu ((j5s5 ++ j5s6) ++ ([(UInt8.ofNat ((w8 (j5s6.length : Int))).toNat), (UInt8.ofNat ((w8 (((j5s6.length : Int)).fdiv (2 ^ min ((8 : Int)).toNat (IntKind.bits .i64))))).toNat)])) hc12) [] [] [0] pre_nil rfl (by simp) (by decide) (.inl rfl) rfl Tryd.func46 rfl rfl rfl (fun _ => ?_)
   refine al_alloc (zs := (cA8u8 (A8u8.mk (0 : UInt8) (0 : UInt8) (0 : UInt8) (0 : UInt8) (0 : UInt8) (0 : UInt8) (0 : UInt8) (0 : UInt8)))) (zeroOf_to to30) rfl rfl (fun g14 => ?_)
   refine al_store (i := 0) (vs := (cA8u8 r13)) (cs' := (cA8u8 r13)) rfl rfl rfl sz30 (cv_rfl rfl) rfl (co_all (oneA8u8 r13)) (Nat.le_of_ble_eq_true rfl) rfl rfl ?_
   refine al_nt ?_
   refine aw_seq ?_
   refine aw_freezeB 0 (r13) rfl rfl (fun _ _ => mkA8u8 rfl) ?_
   refine aw_region ?_
   refine al_mv rfl rfl ?_
   refine al_of (of_sliceP 0 lrepA8u8 rfl rfl rfl rfl Tryd.underlying30 sz5 rfl) (fun s15 => ?_)
   refine al_val (ov_toStr 0 rfl rfl Tryd.underlying74 Tryd.underlying5 Tryd.underlying9 rfl) ?_
   obtain ⟨hc16, h⟩ := req_some h
   refine al_val (ov_strAdd hc16 rfl rfl rfl) ?_
   refine al_as rfl rfl ?_
   refine al_as rfl rfl ?_
   refine al_nt ?_
   refine aw_ret ?_
   obtain rfl := Option.some.inj h
   exact fn_ret () [] [] rfl rfl rfl rfl (res2 rfl rfl rfl) rfl rfl rfl (by decide)
  ·clear hkk6
   refine aw_sr ?_
   refine al_mv rfl rfl ?_
   refine al_val (ov_lenD 0 rfl rfl Tryd.underlying26 rfl) ?_
   refine al_mv rfl rfl ?_
   refine al_nt ?_
   refine aw_block ?_
   refine aw_state (aw_loop (ι := (List (A8u8 × S_api_Blob)) × (List UInt8) × (List UInt8) × Int) (fun i => (memOf w0 Z0 [] [(oMapK Tryd.prog 30 g2 (fun x : A8u8 => ag (cA8u8 x)) (fun x : S_api_Blob => ag [(iq x.Kind), (str x.Bytes)]) i.1)] [(fDat (tyList tyS_api_Blob) [v0_0] a0)])) (fun i => (tab [(4, (Value.map (some g2))), (5, (str i.2.1)), (6, (str i.2.2.1)), (25, v0_0), (26, (iq (a0.length : Int))), (27, (iq i.2.2.2))])) (fun q i => f_pack_Make_L19 a0 kk6 fu q i.1 i.2.1 i.2.2.1 i.2.2.2 = some r) ?_ fu (([] : List (A8u8 × S_api_Blob)), ([] : List UInt8), r4, (0 : Int)) h) (fun w a hm hs => norm hm hs [0] [0] [(4, (Value.map (some g2))), (5, (str ([] : List UInt8))), (6, (str r4)), (25, v0_0), (26, (iq (a0.length : Int))), (27, (iq (0 : Int)))] (by decide) ⟨rfl, rfl, rfl, rfl, rfl, rfl, trivial⟩)
   clear h
   rintro k18 ⟨l17xm4, l17s5, l17s6, l17i27⟩ h
   have h : f_pack_Make_L19 a0 kk6 fu k18 l17xm4 l17s5 l17s6 l17i27 = some r := h
   obtain _ | k18 := k18
   · rw [f_pack_Make_L19] at h; cases h
   rw [f_pack_Make_L19] at h
   refine aw_show (m := (memOf w0 Z0 [] [(oMapK Tryd.prog 30 g2 (fun x : A8u8 => ag (cA8u8 x)) (fun x : S_api_Blob => ag [(iq x.Kind), (str x.Bytes)]) l17xm4)] [(fDat (tyList tyS_api_Blob) [v0_0] a0)])) (S := (tab [(4, (Value.map (some g2))), (5, (str l17s5)), (6, (str l17s6)), (25, v0_0), (26, (iq (a0.length : Int))), (27, (iq l17i27))])) ?_
   refine aw_sr ?_
   refine al_in rfl rfl rfl rfl ?_
   refine al_nt ?_
   refine aw_seq ?_
   refine aw_cond rfl (fun hb20 => ?_) (fun hb20 => ?_)
   ·replace h := bif_t hb20 h
    refine aw_skip ?_
    refine aq_then ?_
    refine aw_seq ?_
    refine aw_block ?_
    refine aw_sr ?_
    obtain ⟨u21, hu22, h⟩ := opt_some h
    refine al_idxD 0 hu22 rfl rfl rfl Tryd.underlying26 sz28 rfl (fun p23 => ?_)
    refine al_val (ov_loadP (ds := [(iq u21.Kind), (str u21.Bytes)]) 0 rfl encS_api_Blob rfl Tryd.underlying28 sz28 rfl rfl rfl) ?_
    refine al_alloc (zs := [(iq (0 : Int)), (str ([] : List UInt8))]) (zeroOf_to to28) rfl rfl (fun g24 => ?_)
    refine al_store (i := 0) (vs := [(iq u21.Kind), (str u21.Bytes)]) (cs' := [(iq u21.Kind), (str u21.Bytes)]) rfl rfl rfl sz28 (cv_rfl rfl) rfl (co_val rfl (co_val rfl co_nil)) (Nat.le_of_ble_eq_true rfl) rfl rfl ?_
    refine al_nt ?_
    refine aw_sr ?_
    refine al_val (ov_load (i := 0) (v := (ag [(iq u21.Kind), (str u21.Bytes)])) rfl rfl Tryd.underlying28 sz28 rfl rfl rfl rfl) ?_
    obtain ⟨r26, hc25, h⟩ := opt_some h
    refine al_call (vs := [(ag [(iq u21.Kind), (str u21.Bytes)])]) (f_pack_ID_ok fu u21 hc25) [] [] [0, 1] pre_nil rfl (by simp) (by decide) (.inl rfl) rfl Tryd.func12 rfl rfl rfl (fun _ => ?_)
    refine al_mv rfl rfl ?_
    refine al_ex rfl rfl rfl ?_
    refine al_ex rfl rfl rfl ?_
    refine al_alloc (zs := (cA8u8 (A8u8.mk (0 : UInt8) (0 : UInt8) (0 : UInt8) (0 : UInt8) (0 : UInt8) (0 : UInt8) (0 : UInt8) (0 : UInt8)))) (zeroOf_to to30) rfl rfl (fun g27 => ?_)
    refine al_store (i := 0) (vs := (cA8u8 r26.1)) (cs' := (cA8u8 r26.1)) rfl rfl rfl sz30 (cv_rfl rfl) rfl (co_all (oneA8u8 r26.1)) (Nat.le_of_ble_eq_true rfl) rfl rfl ?_
    refine al_as rfl rfl ?_
    refine al_nt ?_
    refine aw_seq ?_
    refine aw_sr ?_
    refine al_mv rfl rfl ?_
    refine al_in rfl rfl rfl rfl ?_
    refine al_nt ?_
    refine aw_cond rfl (fun hb28 => ?_) (fun hb28 => ?_)
    ·replace h := bif_t hb28 h
     refine aw_sr ?_
     refine al_mv rfl rfl ?_
     refine al_as rfl rfl ?_
     refine al_as rfl rfl ?_
     refine al_nt ?_
     refine aw_ret ?_
     refine aq_then_ret ?_
     refine aq_block_ret ?_
     refine aq_then_ret ?_
     refine aq_then_ret ?_
     refine aq_block_ret ?_
     refine aq_then_ret ?_
     obtain rfl := Option.some.inj h
     exact fn_ret () [] [] rfl rfl rfl rfl (res2 rfl rfl rfl) rfl rfl rfl (by decide)
    ·replace h := bif_f hb28 h
     refine aw_skip ?_
     refine aq_then ?_
     refine aw_seq ?_
     refine aw_sr ?_
     refine al_mv rfl rfl ?_
     refine al_val (ov_load (i := 0) (v := (ag (cA8u8 r26.1))) rfl rfl Tryd.underlying30 sz30 rfl rfl rfl rfl) ?_
     refine al_val (v := (Value.tuple #[(ag [(iq ((gget l17xm4 r26.1).getD (S_api_Blob.mk (0 : Int) ([] : (List UInt8)))).Kind), (str ((gget l17xm4 r26.1).getD (S_api_Blob.mk (0 : Int) ([] : (List UInt8)))).Bytes)]), (bool (gget l17xm4 r26.1).isSome)])) (ov_lookupOkK (k := r26.1) (ek := (fun x : A8u8 => ag (cA8u8 x))) (ew := (fun x : S_api_Blob => ag [(iq x.Kind), (str x.Bytes)])) (z := (S_api_Blob.mk (0 : Int) ([] : (List UInt8)))) 2 kd30 ki30 (kw30 r26.1) rfl rfl rfl Tryd.underlying84 (zeroOf_to to28) rfl) ?_
     refine al_mv rfl rfl ?_
     refine al_ex rfl rfl rfl ?_
     refine al_ex rfl rfl rfl ?_
     refine al_alloc (zs := [(iq (0 : Int)), (str ([] : List UInt8))]) (zeroOf_to to28) rfl rfl (fun g29 => ?_)
     refine al_store (i := 0) (vs := [(iq ((gget l17xm4 r26.1).getD (S_api_Blob.mk (0 : Int) ([] : (List UInt8)))).Kind), (str ((gget l17xm4 r26.1).getD (S_api_Blob.mk (0 : Int) ([] : (List UInt8)))).Bytes)]) (cs' := [(iq ((gget l17xm4 r26.1).getD (S_api_Blob.mk (0 : Int) ([] : (List UInt8)))).Kind), (str ((gget l17xm4 r26.1).getD (S_api_Blob.mk (0 : Int) ([] : (List UInt8)))).Bytes)]) rfl rfl rfl sz28 (cv_rfl rfl) rfl (co_val rfl (co_val rfl co_nil)) (Nat.le_of_ble_eq_true rfl) rfl rfl ?_
     refine al_as rfl rfl ?_
     refine al_nt ?_
     refine aw_sr ?_
     refine al_mv rfl rfl ?_
     refine al_nt ?_
     refine aw_cond rfl (fun hb30 => ?_) (fun hb30 => ?_)
     ·replace h := bif_t hb30 h
      refine aw_seq ?_
      refine aw_sr ?_
      refine al_val (ov_load (i := 0) (v := (ag [(iq ((gget l17xm4 r26.1).getD (S_api_Blob.mk (0 : Int) ([] : (List UInt8)))).Kind), (str ((gget l17xm4 r26.1).getD (S_api_Blob.mk (0 : Int) ([] : (List UInt8)))).Bytes)])) rfl rfl Tryd.underlying28 sz28 rfl rfl rfl rfl) ?_
      refine al_val (ov_load (i := 2) (v := (ag [(iq u21.Kind), (str u21.Bytes)])) rfl rfl Tryd.underlying28 sz28 rfl rfl rfl rfl) ?_
      obtain ⟨hc31, h⟩ := req_some h
      obtain ⟨hc32, h⟩ := req_some h
      obtain ⟨hc33, h⟩ := req_some h
      obtain ⟨hc34, h⟩ := req_some h
      refine al_val (ov_eqlA (cs := [(iq ((gget l17xm4 r26.1).getD (S_api_Blob.mk (0 : Int) ([] : (List UInt8)))).Kind), (str ((gget l17xm4 r26.1).getD (S_api_Blob.mk (0 : Int) ([] : (List UInt8)))).Bytes)]) (ds := [(iq u21.Kind), (str u21.Bytes)]) (ls := [3, 9]) (p := ((S_api_Blob.mk (((gget l17xm4 r26.1).getD (S_api_Blob.mk (0 : Int) ([] : (List UInt8)))).Kind) (((gget l17xm4 r26.1).getD (S_api_Blob.mk (0 : Int) ([] : (List UInt8)))).Bytes)) == u21)) eg28 kt28 lv28 rfl rfl (by kernel_rfl) (by kernel_rfl) (fit_cons (fit_int Tryd.underlying3 hc31) (fit_cons (fit_str Tryd.underlying9 hc32) fit_nil)) (fit_cons (fit_int Tryd.underlying3 hc33) (fit_cons (fit_str Tryd.underlying9 hc34) fit_nil)) (injS_api_Blob (x := (S_api_Blob.mk (((gget l17xm4 r26.1).getD (S_api_Blob.mk (0 : Int) ([] : (List UInt8)))).Kind) (((gget l17xm4 r26.1).getD (S_api_Blob.mk (0 : Int) ([] : (List UInt8)))).Bytes))) (y := u21)) rfl) ?_
      refine al_nt ?_
      refine aw_cond rfl (fun hb35 => ?_) (fun hb35 => ?_)
      ·replace h := bif_t hb35 h
       refine aw_sr ?_
       refine al_as rfl rfl ?_
       refine al_as rfl rfl ?_
       refine al_nt ?_
       refine aw_ret ?_
       refine aq_then_ret ?_
       refine aq_then_ret ?_
       refine aq_block_ret ?_
       refine aq_then_ret ?_
       refine aq_then_ret ?_
       refine aq_block_ret ?_
       refine aq_then_ret ?_
       obtain rfl := Option.some.inj h
       exact fn_ret () [] [] rfl rfl rfl rfl (res2 rfl rfl rfl) rfl rfl rfl (by decide)
      ·replace h := bif_f hb35 h
       refine aw_skip ?_
       refine aq_tr ?_
       refine al_as rfl rfl ?_
       refine al_as rfl rfl ?_
       refine al_nt ?_
       refine aw_ret ?_
       refine aq_then_ret ?_
       refine aq_block_ret ?_
       refine aq_then_ret ?_
       refine aq_then_ret ?_
       refine aq_block_ret ?_
       refine aq_then_ret ?_
       obtain rfl := Option.some.inj h
       exact fn_ret () [] [] rfl rfl rfl rfl (res2 rfl rfl rfl) rfl rfl rfl (by decide)
     ·replace h := bif_f hb30 h
      refine aw_skip ?_
      refine aq_tr ?_
      refine al_mv rfl rfl ?_
      refine al_val (ov_load (i := 1) (v := (ag (cA8u8 r26.1))) rfl rfl Tryd.underlying30 sz30 rfl rfl rfl rfl) ?_
      refine al_val (ov_load (i := 2) (v := (ag [(iq u21.Kind), (str u21.Bytes)])) rfl rfl Tryd.underlying28 sz28 rfl rfl rfl rfl) ?_
      refine al_mapSetK (ek := (fun x : A8u8 => ag (cA8u8 x))) (ew := (fun x : S_api_Blob => ag [(iq x.Kind), (str x.Bytes)])) (k := r26.1) (v := u21) 3 kd30 ki30 (kw30 r26.1) rfl rfl rfl rfl Tryd.underlying84 rfl ?_
      refine al_nt ?_
      refine aw_sr ?_
      refine al_val (ov_fieldA (p := 1) rfl Tryd.underlying28 rfl sz9 rfl rfl rfl) ?_
      refine al_val (ov_load (i := 2) (v := (str u21.Bytes)) rfl rfl Tryd.underlying9 sz9 rfl rfl rfl rfl) ?_
      obtain ⟨r37, hc36, h⟩ := opt_some h
      refine al_call (vs := [(str u21.Bytes)]) (f_press_Press_ok fu u21.Bytes hc36) [] [] [0, 1, 2, 3] pre_nil rfl (by simp) (by decide) (.inl rfl) rfl Tryd.func10 rfl rfl rfl (fun _ => ?_)
      refine al_mv rfl rfl ?_
      refine al_ex rfl rfl rfl ?_
      refine al_ex rfl rfl rfl ?_
      refine al_as rfl rfl ?_
      refine al_as rfl rfl ?_
      refine al_nt ?_
      refine aw_sr ?_
      refine al_mv rfl rfl ?_
      refine al_mv rfl rfl ?_
      obtain ⟨hc38, h⟩ := req_some h
      refine al_val (ov_strAdd hc38 rfl rfl rfl) ?_
      refine al_as rfl rfl ?_
      refine al_nt ?_
      refine aw_state (m' := (memOf w0 Z0 [] [(oBox g29 28 [(iq ((gget l17xm4 r26.1).getD (S_api_Blob.mk (0 : Int) ([] : (List UInt8)))).Kind), (str ((gget l17xm4 r26.1).getD (S_api_Blob.mk (0 : Int) ([] : (List UInt8)))).Bytes)]), (oBox g27 30 (cA8u8 r26.1)), (oBox g24 28 [(iq u21.Kind), (str u21.Bytes)]), (oMapK Tryd.prog 30 g2 (fun x : A8u8 => ag (cA8u8 x)) (fun x : S_api_Blob => ag [(iq x.Kind), (str x.Bytes)]) (gset l17xm4 r26.1 u21))] [(fPtr tyS_api_Blob p23 u21), (fDat (tyList tyS_api_Blob) [v0_0] a0)])) (S' := (tab [(4, (Value.map (some g2))), (5, (str (l17s5 ++ r37.1))), (6, (str l17s6)), (8, (pq g24)), (9, (pq g27)), (13, (str r37.1)), (25, v0_0), (26, (iq (a0.length : Int))), (27, (iq l17i27))])) ?_ (fun w a hm hs => norm hm hs [0, 1, 2, 3] [0, 1] [(4, (Value.map (some g2))), (5, (str (l17s5 ++ r37.1))), (6, (str l17s6)), (8, (pq g24)), (9, (pq g27)), (13, (str r37.1)), (25, v0_0), (26, (iq (a0.length : Int))), (27, (iq l17i27))] (by decide) ⟨rfl, rfl, rfl, rfl, rfl, rfl, rfl, rfl, rfl, trivial⟩)
      refine aw_freezeB 1 (r26.1) rfl rfl (fun _ _ => mkA8u8 rfl) ?_
      obtain ⟨hc40, h⟩ := req_some h
      obtain ⟨hc42, h⟩ := req_some h
      obtain ⟨r44, hc43, h⟩ := opt_some h
      obtain ⟨hc45, h⟩ := req_some h
      obtain ⟨hc46, h⟩ := req_some h
      refine aw_region_draw 15 [(61, (fun u => fEq u (str l17s6))), (62, (fun u => fEq u (pq g24))), (63, (fun u => fEq u (iq u21.Kind))), (64, (fun u => fEq u (i8 (w8 u21.Kind)))), (65, (fun v39 => (fDat (tyList tyU8) [v39] [(UInt8.ofNat ((w8 u21.Kind)).toNat)]))), (66, (fun u => fEq u (str [(UInt8.ofNat ((w8 u21.Kind)).toNat)]))), (67, (fun s41 => (fDat (tyList tyU8) [s41] (lA8u8 r26.1)))), (68, (fun u => fEq u (str (lA8u8 r26.1)))), (69, (fun u => fEq u (str (([(UInt8.ofNat ((w8 u21.Kind)).toNat)]) ++ (lA8u8 r26.1))))), (70, (fun u => fEq u (str r37.1))), (71, (fun u => fEq u (iq (r37.1.length : Int)))), (72, (fun u => fEq u (uq (wu (r37.1.length : Int))))), (73, (fun u => fEq u (str r44))), (74, (fun u => fEq u (str ((([(UInt8.ofNat ((w8 u21.Kind)).toNat)]) ++ (lA8u8 r26.1)) ++ r44)))), (75, (fun u => fEq u (str (l17s6 ++ ((([(UInt8.ofNat ((w8 u21.Kind)).toNat)]) ++ (lA8u8 r26.1)) ++ r44)))))] (tab [(4, (Value.map (some g2))), (5, (str (l17s5 ++ r37.1))), (6, (str l17s6)), (8, (pq g24)), (9, (pq g27)), (13, (str r37.1)), (25, v0_0), (26, (iq (a0.length : Int))), (27, (iq l17i27))]) mixed (by kernel_rfl) rfl rfl rfl (fun a hs => hs.tab _ (allT_mem ⟨rfl, rfl, rfl, rfl, rfl, rfl, rfl, rfl, rfl, trivial⟩)) ⟨⟨rfl, ld_val (ov_move rfl rfl)⟩, ⟨rfl, ld_val (ov_fieldA (p := 0) rfl Tryd.underlying28 rfl sz3 rfl rfl rfl)⟩, ⟨rfl, ld_eq (j := 1) rfl rfl (ld_val (ov_load (i := 1) (v := (iq u21.Kind)) rfl rfl Tryd.underlying3 sz3 rfl rfl rfl rfl))⟩, ⟨rfl, ld_eq (j := 2) rfl rfl (ld_val (ov_convInt (by rw [Tryd.underlying3]; rfl) Tryd.underlying5 rfl rfl))⟩, ⟨rfl, ld_eq (j := 3) rfl rfl (ld_buildSlice (τ := tyU8) (e := 5) (k := 1) (cs := [(i8 (w8 u21.Kind))]) (xs := [(UInt8.ofNat ((w8 u21.Kind)).toNat)]) rfl (by decide) rfl (fun w a hm hs => ⟨([(i8 (w8 u21.Kind))]).toArray, rfl, by simp only [List.map_toArray, List.map_cons, List.map_nil, hs.ev (x := .tmp 64) rfl]; exact run_bs [(i8 (w8 u21.Kind))] [(i8 (w8 u21.Kind))] Tryd.underlying74 to5 rfl rfl (bs_cons (l := [(i8 (w8 u21.Kind))]) (cs := []) (cv_rfl rfl) rfl bs_nil) hm⟩) (fun hm => ⟨_, _, rfl, (fun _ => u8_rep hc40) hm, rfl⟩) rfl)⟩, ⟨rfl, ld_fact (j := 4) rfl rfl (fun v39 => ld_val (ov_toStr 0 rfl rfl Tryd.underlying74 Tryd.underlying5 Tryd.underlying9 rfl))⟩, ⟨rfl, ld_of (of_sliceP 0 lrepA8u8 rfl rfl rfl rfl Tryd.underlying30 sz5 rfl)⟩, ⟨rfl, ld_fact (j := 6) rfl rfl (fun s41 => ld_val (ov_toStr 0 rfl rfl Tryd.underlying74 Tryd.underlying5 Tryd.underlying9 rfl))⟩, ⟨rfl, ld_eq (j := 5) rfl rfl (ld_eq (j := 7) rfl rfl (ld_val (ov_strAdd hc42 rfl rfl rfl)))⟩, ⟨rfl, ld_val (ov_move rfl rfl)⟩, ⟨rfl, ld_eq (j := 9) rfl rfl (ld_val (ov_strLen Tryd.underlying9 rfl rfl))⟩, ⟨rfl, ld_eq (j := 10) rfl rfl (ld_val (ov_convInt (by rw [Tryd.underlying3]; rfl) Tryd.underlying76 rfl rfl))⟩, ⟨rfl, ld_eq (j := 11) rfl rfl (ld_callV (vs := [(uq (wu (r37.1.length : Int)))]) (f_num_Put_ok fu (wu (r37.1.length : Int)) hc43) [] pre_nil rfl Tryd.func42 rfl rfl rfl)⟩, ⟨rfl, ld_eq (j := 8) rfl rfl (ld_eq (j := 12) rfl rfl (ld_val (ov_strAdd hc45 rfl rfl rfl)))⟩, ⟨rfl, ld_eq (j := 0) rfl rfl (ld_eq (j := 13) rfl rfl (ld_val (ov_strAdd hc46 rfl rfl rfl)))⟩, trivial⟩ ?_
      refine tl_eq 14 rfl ?_
      refine tl_done ?_
      refine al_as rfl rfl ?_
      refine al_nil ?_
      refine aq_block ?_
      refine aq_then ?_
      refine aw_region ?_
      refine al_in rfl rfl rfl rfl ?_
      refine al_mv rfl rfl ?_
      refine al_nil ?_
      exact aq_again k18 ((gset l17xm4 r26.1 u21), (l17s5 ++ r37.1), (l17s6 ++ ((([(UInt8.ofNat ((w8 u21.Kind)).toNat)]) ++ (lA8u8 r26.1)) ++ r44)), (wq (l17i27 + (1 : Int)))) (Nat.lt_succ_self _) h (fun w a hm hs => norm hm hs [2] [2] [(4, (Value.map (some g2))), (5, (str (l17s5 ++ r37.1))), (6, (str (l17s6 ++ ((([(UInt8.ofNat ((w8 u21.Kind)).toNat)]) ++ (lA8u8 r26.1)) ++ r44)))), (25, v0_0), (26, (iq (a0.length : Int))), (27, (iq (wq (l17i27 + (1 : Int)))))] (by decide) ⟨rfl, rfl, rfl, rfl, rfl, rfl, trivial⟩)
   ·replace h := bif_f hb20 h
    refine aw_exit ?_
    refine aq_then_exit ?_
    refine aq_then_exit ?_
    refine aq_block_exit ?_
    exact aq_join (l17s5, l17s6) h (fun w a hm hs => norm hm hs [] [0] [(5, (str l17s5)), (6, (str l17s6))] (by decide) ⟨rfl, rfl, trivial⟩)
def f_lumref_Put (fu : Nat) (a0 : Int) : Option (List UInt8) := (opt (f_lumref_digits fu a0) fun (r2 : (List UInt8)) => (req (0 ≤ (IntKind.u8.wrap (r2.length : Int)) ∧ (IntKind.u8.wrap (r2.length : Int)) ≤ 255) (req (([(UInt8.ofNat ((IntKind.u8.wrap (r2.length : Int))).toNat)]).length + r2.length ≤ 9223372036854775807) (some (([(UInt8.ofNat ((IntKind.u8.wrap (r2.length : Int))).toNat)]) ++ r2)))))
set_option maxHeartbeats 2000000 in
set_option maxRecDepth 100000 in
theorem f_lumref_Put_ok (fu : Nat) (a0 : Int) {r : (List UInt8)} (h : f_lumref_Put fu a0 = some r) : FnOk Tryd.prog 49 [(int .u64 a0)] [] [] (fun (i : Unit) => { val := (str r) }) := by
 unfold f_lumref_Put at h
 refine fn_enter Tryd.func49 rfl Tryd.ntmps49 rfl (fun w0 Z0 => ?_)
 refine aw_sr ?_
 refine al_as rfl rfl ?_
 refine al_nt ?_
 refine aw_sr ?_
 refine al_mv rfl rfl ?_
 obtain ⟨r2, hc1, h⟩ := opt_some h
 refine al_call (vs := [(uq a0)]) (f_lumref_digits_ok fu a0 hc1) [] [] [] pre_nil rfl (by simp) (by decide) (.inl rfl) rfl Tryd.func107 rfl rfl rfl (fun _ => ?_)
 refine al_as rfl rfl ?_
 refine al_nt ?_
 refine aw_sr ?_
 refine al_mv rfl rfl ?_
 refine al_val (ov_strLen Tryd.underlying9 rfl rfl) ?_
 refine al_val (ov_convInt (by rw [Tryd.underlying3]; rfl) Tryd.underlying5 rfl rfl) ?_
 obtain ⟨hc4, h⟩ := req_some h
 refine al_buildSlice (τ := tyU8) (e := 5) (k := 1) (sz := 0) (by_ := 0) (z := undef) (cs := [(i8 (w8 (r2.length : Int)))]) (xs := [(UInt8.ofNat ((w8 (r2.length : Int))).toNat)]) rfl (by decide) (fun w a hm hs => ⟨([(i8 (w8 (r2.length : Int)))]).toArray, rfl, by simp only [List.map_toArray, List.map_cons, List.map_nil, hs.ev (x := .tmp 8) rfl]; exact run_bs [(i8 (w8 (r2.length : Int)))] [(i8 (w8 (r2.length : Int)))] Tryd.underlying74 to5 rfl rfl (bs_cons (l := [(i8 (w8 (r2.length : Int)))]) (cs := []) (cv_rfl rfl) rfl bs_nil) hm⟩) (fun hm => ⟨_, _, rfl, (fun _ => u8_rep hc4) hm, rfl⟩) rfl (fun v3 => ?_)
 refine al_val (ov_toStrR 0 rfl rfl Tryd.underlying74 Tryd.underlying5 Tryd.underlying9 rfl) ?_
 refine al_mv rfl rfl ?_
 obtain ⟨hc5, h⟩ := req_some h
 refine al_val (ov_strAdd hc5 rfl rfl rfl) ?_
 refine al_as rfl rfl ?_
 refine al_nt ?_
 refine aw_ret ?_
 obtain rfl := Option.some.inj h
 exact fn_ret () [] [] rfl rfl rfl rfl (res1 rfl rfl) rfl rfl rfl (by decide)
def f_lumref_Greedy_L30 (a0 : (List UInt8)) (l3i4 : Int) (l16i6 : Int) (kk26 : (Int → Option (List S_api_Token))) : Nat → Int → Option (List S_api_Token)
  | 0, _ => none
  | k29 + 1, l28i7 => (lt (fun (j31b49 : Bool) => (bif j31b49 then (f_lumref_Greedy_L30 a0 l3i4 l16i6 kk26 k29 (IntKind.i64.wrap (l28i7 + (1 : Int)))) else (kk26 l28i7))) fun (kk32 : Bool → Option (List S_api_Token)) => (bif (decide (l28i7 < (255 : Int))) then (bif (decide ((IntKind.i64.wrap (l3i4 + l28i7)) < (a0.length : Int))) then (req (0 ≤ (IntKind.i64.wrap (l3i4 + l28i7)) ∧ (IntKind.i64.wrap (l3i4 + l28i7)) < (a0.length : Int)) (req (0 ≤ (IntKind.i64.wrap ((IntKind.i64.wrap (l3i4 + l28i7)) - l16i6)) ∧ (IntKind.i64.wrap ((IntKind.i64.wrap (l3i4 + l28i7)) - l16i6)) < (a0.length : Int)) (kk32 ((En.bAt a0 (IntKind.i64.wrap (l3i4 + l28i7))) == (En.bAt a0 (IntKind.i64.wrap ((IntKind.i64.wrap (l3i4 + l28i7)) - l16i6))))))) else (kk32 false)) else (kk32 false)))
def f_lumref_Greedy_L18 (a0 : (List UInt8)) (l3i4 : Int) (kk11 : (Int → Int → Int → Option (List S_api_Token))) (fu : Nat) : Nat → Int → Int → Int → Int → Option (List S_api_Token)
  | 0, _, _, _, _ => none
  | k17 + 1, l16i5_0, l16i5_1, l16i5_2, l16i6 => (lt (fun (l16i5_0 : Int) (l16i5_1 : Int) (l16i5_2 : Int) (l16i6 : Int) => (f_lumref_Greedy_L18 a0 l3i4 kk11 fu k17 l16i5_0 l16i5_1 l16i5_2 l16i6)) fun (kk19 : Int → Int → Int → Int → Option (List S_api_Token)) => (lt (fun (j20b22 : Bool) => (bif j20b22 then (lt (fun (j23i5_0 : Int) (j23i5_1 : Int) (j23i5_2 : Int) => (kk19 j23i5_0 j23i5_1 j23i5_2 (IntKind.i64.wrap (l16i6 + (1 : Int))))) fun (kk24 : Int → Int → Int → Option (List S_api_Token)) => (lt (fun (j25i7 : Int) => (bif (decide (j25i7 > l16i5_1)) then (kk24 (0 : Int) j25i7 l16i6) else (kk24 l16i5_0 l16i5_1 l16i5_2))) fun (kk26 : Int → Option (List S_api_Token)) => (f_lumref_Greedy_L30 a0 l3i4 l16i6 kk26 fu (0 : Int)))) else (kk11 l16i5_0 l16i5_1 l16i5_2))) fun (kk21 : Bool → Option (List S_api_Token)) => (bif (decide (l16i6 ≤ (1024 : Int))) then (kk21 (decide (l16i6 ≤ l3i4))) else (kk21 false))))
def f_lumref_Greedy_L5 (a0 : (List UInt8)) (kk2 : ((List S_api_Token) → Option (List S_api_Token))) (fu : Nat) : Nat → (List S_api_Token) → Int → Option (List S_api_Token)
  | 0, _, _ => none
  | k4 + 1, l3x3, l3i4 => (lt (fun (l3x3 : (List S_api_Token)) (l3i4 : Int) => (f_lumref_Greedy_L5 a0 kk2 fu k4 l3x3 l3i4)) fun (kk6 : (List S_api_Token) → Int → Option (List S_api_Token)) => (bif (decide (l3i4 < (a0.length : Int))) then (req (0 ≤ l3i4 ∧ l3i4 < (a0.length : Int)) (lt (fun (j10i5_0 : Int) (j10i5_1 : Int) (j10i5_2 : Int) => (req (((l3x3.length + ([(S_api_Token.mk j10i5_0 j10i5_1 j10i5_2)]).length) * 24 : Nat) ≤ 140737488355328 ∧ l3x3.length + ([(S_api_Token.mk j10i5_0 j10i5_1 j10i5_2)]).length ≤ 9223372036854775807) (bif (j10i5_1 == (0 : Int)) then (kk6 (l3x3 ++ ([(S_api_Token.mk j10i5_0 j10i5_1 j10i5_2)])) (IntKind.i64.wrap (l3i4 + (1 : Int)))) else (kk6 (l3x3 ++ ([(S_api_Token.mk j10i5_0 j10i5_1 j10i5_2)])) (IntKind.i64.wrap (l3i4 + j10i5_1)))))) fun (kk11 : Int → Int → Int → Option (List S_api_Token)) => (f_lumref_Greedy_L18 a0 l3i4 kk11 fu fu (En.bAt a0 l3i4) (0 : Int) (0 : Int) (1 : Int)))) else (kk2 l3x3)))
def f_lumref_Greedy (fu : Nat) (a0 : (List UInt8)) : Option (List S_api_Token) := (lt (fun (j1x3 : (List S_api_Token)) => (some j1x3)) fun (kk2 : (List S_api_Token) → Option (List S_api_Token)) => (f_lumref_Greedy_L5 a0 kk2 fu fu ([] : List S_api_Token) (0 : Int)))
set_option maxRecDepth 100000 in
set_option maxHeartbeats 2000000 in
set_option maxHeartbeats 2000000 in
theorem f_lumref_Greedy_ok (fu : Nat) (a0 : (List UInt8)) {r : (List S_api_Token)} (h : f_lumref_Greedy fu a0 = some r) : FnOk Tryd.prog 96 [(str a0)] [] [] (fun (i : Value) => { val := i, own := [(oRow i 132 tyS_api_Token r)] }) := by
 unfold f_lumref_Greedy at h
 refine fn_enter Tryd.func96 rfl Tryd.ntmps96 rfl (fun w0 Z0 => ?_)
 refine aw_sr ?_
 refine al_as rfl rfl ?_
 refine al_nt ?_
 refine aw_sr ?_
 refine al_as rfl rfl ?_
 refine al_nt ?_
 obtain ⟨kk2, hkk2, h⟩ := lt_some h
 refine aw_seq_join (ι := Value × (List S_api_Token)) (fun i => (memOf w0 Z0 [] [(oRow i.1 132 tyS_api_Token i.2)] [])) (fun i => (tab [(3, i.1)])) (fun i => kk2 i.2 = some r) ?_ ?_
 ·rintro ⟨j1v3, j1x3⟩ h
  have h : kk2 j1x3 = some r := h
  rw [hkk2] at h
  dsimp only at h
  clear hkk2
  refine aw_show (m := (memOf w0 Z0 [] [(oRow j1v3 132 tyS_api_Token j1x3)] [])) (S := (tab [(3, j1v3)])) ?_
  refine aw_sr ?_
  refine al_mv rfl rfl ?_
  refine al_as rfl rfl ?_
  refine al_nt ?_
  refine aw_ret ?_
  obtain rfl := Option.some.inj h
  exact fn_ret j1v3 [0] [] rfl rfl rfl rfl (res1 rfl rfl) rfl rfl rfl (by decide)
 ·clear hkk2
  refine aw_sr ?_
  refine al_as rfl rfl ?_
  refine al_nt ?_
  refine aw_block ?_
  refine aw_nilR 132 tyS_api_Token ?_
  refine aw_state (aw_loop (ι := Value × (List S_api_Token) × Int) (fun i => (memOf w0 Z0 [] [(oRow i.1 132 tyS_api_Token i.2.1)] [])) (fun i => (tab [(0, (str a0)), (3, i.1), (4, (iq i.2.2))])) (fun q i => f_lumref_Greedy_L5 a0 kk2 fu q i.2.1 i.2.2 = some r) ?_ fu (nS, ([] : List S_api_Token), (0 : Int)) h) (fun w a hm hs => norm hm hs [0] [] [(0, (str a0)), (3, nS), (4, (iq (0 : Int)))] (by decide) ⟨rfl, rfl, rfl, trivial⟩)
  clear h
  rintro k4 ⟨l3v3, l3x3, l3i4⟩ h
  have h : f_lumref_Greedy_L5 a0 kk2 fu k4 l3x3 l3i4 = some r := h
  obtain _ | k4 := k4
  · rw [f_lumref_Greedy_L5] at h; cases h
  rw [f_lumref_Greedy_L5] at h
  refine aw_show (m := (memOf w0 Z0 [] [(oRow l3v3 132 tyS_api_Token l3x3)] [])) (S := (tab [(0, (str a0)), (3, l3v3), (4, (iq l3i4))])) ?_
  obtain ⟨kk6, hkk6, h⟩ := lt_some h
  refine aw_body_join (ι := Value × (List S_api_Token) × Int) (fun i => (memOf w0 Z0 [] [(oRow i.1 132 tyS_api_Token i.2.1)] [])) (fun i => (tab [(0, (str a0)), (3, i.1), (4, (iq i.2.2))])) (fun i => kk6 i.2.1 i.2.2 = some r) (fun i h => aq_again k4 i (Nat.lt_succ_self _) (by rw [hkk6] at h; exact h) (fun w a hm hs => ⟨hm, hs⟩)) ?_
  clear hkk6
  refine aw_seq ?_
  refine aw_sr ?_
  refine al_mv rfl rfl ?_
  refine al_mv rfl rfl ?_
  refine al_val (ov_strLen Tryd.underlying9 rfl rfl) ?_
  refine al_in rfl rfl rfl rfl ?_
  refine al_nt ?_
  refine aw_cond rfl (fun hb7 => ?_) (fun hb7 => ?_)
  ·replace h := bif_t hb7 h
   refine aw_skip ?_
   refine aq_then ?_
   refine aw_block ?_
   refine aw_sr ?_
   refine al_mv rfl rfl ?_
   refine al_mv rfl rfl ?_
   obtain ⟨hc8, h⟩ := req_some h
   refine al_val (ov_strIdx hc8.1 hc8.2 Tryd.underlying9 rfl rfl rfl) ?_
   refine al_val (ov_build (cells := ([(i8 (En.bAt a0 l3i4)), (iq (0 : Int)), (iq (0 : Int))]).toArray) (cs := [(i8 (En.bAt a0 l3i4)), (iq (0 : Int)), (iq (0 : Int))]) rfl (fun w a hm hs => by simp only [List.map_toArray, List.map_cons, List.map_nil, List.toList_toArray, hs.ev (x := .tmp 14) rfl]; kernel_rfl)) ?_
   refine al_alloc (zs := [(i8 (0 : Int)), (iq (0 : Int)), (iq (0 : Int))]) (zeroOf_to to132) rfl rfl (fun g9 => ?_)
   refine al_store (i := 0) (vs := [(i8 (En.bAt a0 l3i4)), (iq (0 : Int)), (iq (0 : Int))]) (cs' := [(i8 (En.bAt a0 l3i4)), (iq (0 : Int)), (iq (0 : Int))]) rfl rfl rfl sz132 (cv_rfl rfl) rfl (co_val rfl (co_val rfl (co_val rfl co_nil))) (Nat.le_of_ble_eq_true rfl) rfl rfl ?_
   refine al_nt ?_
   obtain ⟨kk11, hkk11, h⟩ := lt_some h
   refine aw_seq_join (ι := Int × Int × Int) (fun i => (memOf w0 Z0 [] [(oRow l3v3 132 tyS_api_Token l3x3), (oBox g9 132 [(i8 i.1), (iq i.2.1), (iq i.2.2)])] [])) (fun i => (tab [(0, (str a0)), (3, l3v3), (4, (iq l3i4)), (5, (pq g9))])) (fun i => kk11 i.1 i.2.1 i.2.2 = some r) ?_ ?_
   ·rintro ⟨j10i5_0, j10i5_1, j10i5_2⟩ h
    have h : kk11 j10i5_0 j10i5_1 j10i5_2 = some r := h
    rw [hkk11] at h
    dsimp only at h
    clear hkk11
    refine aw_show (m := (memOf w0 Z0 [] [(oRow l3v3 132 tyS_api_Token l3x3), (oBox g9 132 [(i8 j10i5_0), (iq j10i5_1), (iq j10i5_2)])] [])) (S := (tab [(0, (str a0)), (3, l3v3), (4, (iq l3i4)), (5, (pq g9))])) ?_
    refine aw_sr ?_
    refine al_mv rfl rfl ?_
    refine al_val (ov_load (i := 1) (v := (ag [(i8 j10i5_0), (iq j10i5_1), (iq j10i5_2)])) rfl rfl Tryd.underlying132 sz132 rfl rfl rfl rfl) ?_
    refine al_buildSlice (τ := tyS_api_Token) (e := 132) (k := 1) (sz := 0) (by_ := 0) (z := undef) (cs := [(i8 j10i5_0), (iq j10i5_1), (iq j10i5_2)]) (xs := [(S_api_Token.mk j10i5_0 j10i5_1 j10i5_2)]) rfl (by decide) (fun w a hm hs => ⟨([(i8 j10i5_0), (iq j10i5_1), (iq j10i5_2)]).toArray, rfl, by simp only [List.map_toArray, List.map_cons, List.map_nil, hs.ev (x := .tmp 60) rfl]; exact run_bs [(ag [(i8 j10i5_0), (iq j10i5_1), (iq j10i5_2)])] [(i8 j10i5_0), (iq j10i5_1), (iq j10i5_2)] Tryd.underlying67 to132 rfl rfl (bs_cons (l := [(i8 j10i5_0), (iq j10i5_1), (iq j10i5_2)]) (cs := []) (cv_rfl rfl) rfl bs_nil) hm⟩) (fun hm => ⟨_, _, rfl, (fun _ => mkS_api_Token rfl) hm, rfl⟩) rfl (fun v12 => ?_)
    obtain ⟨hc13, h⟩ := req_some h
    refine al_append 1 hc13.1 hc13.2 rfl (src_own (i := 1) 0 rfl) rfl rfl Tryd.underlying67 to132 rfl rfl rfl (fun v14 => ?_)
    refine al_as rfl rfl ?_
    refine al_nt ?_
    refine aw_sr ?_
    refine al_val (ov_fieldA (p := 1) rfl Tryd.underlying132 rfl sz3 rfl rfl rfl) ?_
    refine al_val (ov_load (i := 2) (v := (iq j10i5_1)) rfl rfl Tryd.underlying3 sz3 rfl rfl rfl rfl) ?_
    refine al_in rfl rfl rfl rfl ?_
    refine al_nt ?_
    refine aw_cond rfl (fun hb15 => ?_) (fun hb15 => ?_)
    ·replace h := bif_t hb15 h
     refine aw_region ?_
     refine al_mv rfl rfl ?_
     refine al_in rfl rfl rfl rfl ?_
     refine al_as rfl rfl ?_
     refine al_nil ?_
     refine aq_block ?_
     exact aq_join (v14, (l3x3 ++ ([(S_api_Token.mk j10i5_0 j10i5_1 j10i5_2)])), (wq (l3i4 + (1 : Int)))) h (fun w a hm hs => norm hm hs [1] [] [(0, (str a0)), (3, v14), (4, (iq (wq (l3i4 + (1 : Int)))))] (by decide) ⟨rfl, rfl, rfl, trivial⟩)
    ·replace h := bif_f hb15 h
     refine aw_region ?_
     refine al_mv rfl rfl ?_
     refine al_val (ov_fieldA (p := 1) rfl Tryd.underlying132 rfl sz3 rfl rfl rfl) ?_
     refine al_val (ov_load (i := 2) (v := (iq j10i5_1)) rfl rfl Tryd.underlying3 sz3 rfl rfl rfl rfl) ?_
     refine al_in rfl rfl rfl rfl ?_
     refine al_as rfl rfl ?_
     refine al_nil ?_
     refine aq_block ?_
     exact aq_join (v14, (l3x3 ++ ([(S_api_Token.mk j10i5_0 j10i5_1 j10i5_2)])), (wq (l3i4 + j10i5_1))) h (fun w a hm hs => norm hm hs [1] [] [(0, (str a0)), (3, v14), (4, (iq (wq (l3i4 + j10i5_1))))] (by decide) ⟨rfl, rfl, rfl, trivial⟩)
   ·clear hkk11
    refine aw_sr ?_
    refine al_as rfl rfl ?_
    refine al_nt ?_
    refine aw_block ?_
    refine aw_state (aw_loop (ι := Int × Int × Int × Int) (fun i => (memOf w0 Z0 [] [(oRow l3v3 132 tyS_api_Token l3x3), (oBox g9 132 [(i8 i.1), (iq i.2.1), (iq i.2.2.1)])] [])) (fun i => (tab [(0, (str a0)), (3, l3v3), (4, (iq l3i4)), (5, (pq g9)), (6, (iq i.2.2.2))])) (fun q i => f_lumref_Greedy_L18 a0 l3i4 kk11 fu q i.1 i.2.1 i.2.2.1 i.2.2.2 = some r) ?_ fu ((En.bAt a0 l3i4), (0 : Int), (0 : Int), (1 : Int)) h) (fun w a hm hs => norm hm hs [1, 0] [] [(0, (str a0)), (3, l3v3), (4, (iq l3i4)), (5, (pq g9)), (6, (iq (1 : Int)))] (by decide) ⟨rfl, rfl, rfl, rfl, rfl, trivial⟩)
    clear h
    rintro k17 ⟨l16i5_0, l16i5_1, l16i5_2, l16i6⟩ h
    have h : f_lumref_Greedy_L18 a0 l3i4 kk11 fu k17 l16i5_0 l16i5_1 l16i5_2 l16i6 = some r := h
    obtain _ | k17 := k17
    · rw [f_lumref_Greedy_L18] at h; cases h
    rw [f_lumref_Greedy_L18] at h
    refine aw_show (m := (memOf w0 Z0 [] [(oRow l3v3 132 tyS_api_Token l3x3), (oBox g9 132 [(i8 l16i5_0), (iq l16i5_1), (iq l16i5_2)])] [])) (S := (tab [(0, (str a0)), (3, l3v3), (4, (iq l3i4)), (5, (pq g9)), (6, (iq l16i6))])) ?_
    obtain ⟨kk19, hkk19, h⟩ := lt_some h
    refine aw_body_join (ι := Int × Int × Int × Int) (fun i => (memOf w0 Z0 [] [(oRow l3v3 132 tyS_api_Token l3x3), (oBox g9 132 [(i8 i.1), (iq i.2.1), (iq i.2.2.1)])] [])) (fun i => (tab [(0, (str a0)), (3, l3v3), (4, (iq l3i4)), (5, (pq g9)), (6, (iq i.2.2.2))])) (fun i => kk19 i.1 i.2.1 i.2.2.1 i.2.2.2 = some r) (fun i h => aq_again k17 i (Nat.lt_succ_self _) (by rw [hkk19] at h; exact h) (fun w a hm hs => ⟨hm, hs⟩)) ?_
    clear hkk19
    refine aw_seq ?_
    obtain ⟨kk21, hkk21, h⟩ := lt_some h
    refine aw_seq_join (ι := Bool) (fun i => (memOf w0 Z0 [] [(oRow l3v3 132 tyS_api_Token l3x3), (oBox g9 132 [(i8 l16i5_0), (iq l16i5_1), (iq l16i5_2)])] [])) (fun i => (tab [(0, (str a0)), (3, l3v3), (4, (iq l3i4)), (5, (pq g9)), (6, (iq l16i6)), (22, (bool i))])) (fun i => kk21 i = some r) ?_ ?_
    ·rintro j20b22 h
     have h : kk21 j20b22 = some r := h
     rw [hkk21] at h
     dsimp only at h
     clear hkk21
     refine aw_show (m := (memOf w0 Z0 [] [(oRow l3v3 132 tyS_api_Token l3x3), (oBox g9 132 [(i8 l16i5_0), (iq l16i5_1), (iq l16i5_2)])] [])) (S := (tab [(0, (str a0)), (3, l3v3), (4, (iq l3i4)), (5, (pq g9)), (6, (iq l16i6)), (22, (bool j20b22))])) ?_
     refine aw_cond rfl (fun hb22 => ?_) (fun hb22 => ?_)
     ·replace h := bif_t hb22 h
      refine aw_skip ?_
      refine aq_then ?_
      obtain ⟨kk24, hkk24, h⟩ := lt_some h
      refine aw_seq_join (ι := Int × Int × Int) (fun i => (memOf w0 Z0 [] [(oRow l3v3 132 tyS_api_Token l3x3), (oBox g9 132 [(i8 i.1), (iq i.2.1), (iq i.2.2)])] [])) (fun i => (tab [(0, (str a0)), (3, l3v3), (4, (iq l3i4)), (5, (pq g9)), (6, (iq l16i6))])) (fun i => kk24 i.1 i.2.1 i.2.2 = some r) ?_ ?_
      ·rintro ⟨j23i5_0, j23i5_1, j23i5_2⟩ h
       have h : kk24 j23i5_0 j23i5_1 j23i5_2 = some r := h
       rw [hkk24] at h
       dsimp only at h
       clear hkk24
       refine aw_show (m := (memOf w0 Z0 [] [(oRow l3v3 132 tyS_api_Token l3x3), (oBox g9 132 [(i8 j23i5_0), (iq j23i5_1), (iq j23i5_2)])] [])) (S := (tab [(0, (str a0)), (3, l3v3), (4, (iq l3i4)), (5, (pq g9)), (6, (iq l16i6))])) ?_
       refine aw_region ?_
       refine al_mv rfl rfl ?_
       refine al_in rfl rfl rfl rfl ?_
       refine al_as rfl rfl ?_
       refine al_nil ?_
       exact aq_join (j23i5_0, j23i5_1, j23i5_2, (wq (l16i6 + (1 : Int)))) h (fun w a hm hs => norm hm hs [0, 1] [] [(0, (str a0)), (3, l3v3), (4, (iq l3i4)), (5, (pq g9)), (6, (iq (wq (l16i6 + (1 : Int)))))] (by decide) ⟨rfl, rfl, rfl, rfl, rfl, trivial⟩)
      ·clear hkk24
       refine aw_block ?_
       refine aw_sr ?_
       refine al_as rfl rfl ?_
       refine al_nt ?_
       obtain ⟨kk26, hkk26, h⟩ := lt_some h
       refine aw_seq_join (ι := Int) (fun i => (memOf w0 Z0 [] [(oRow l3v3 132 tyS_api_Token l3x3), (oBox g9 132 [(i8 l16i5_0), (iq l16i5_1), (iq l16i5_2)])] [])) (fun i => (tab [(0, (str a0)), (3, l3v3), (4, (iq l3i4)), (5, (pq g9)), (6, (iq l16i6)), (7, (iq i))])) (fun i => kk26 i = some r) ?_ ?_
       ·rintro j25i7 h
        have h : kk26 j25i7 = some r := h
        rw [hkk26] at h
        dsimp only at h
        clear hkk26
        refine aw_show (m := (memOf w0 Z0 [] [(oRow l3v3 132 tyS_api_Token l3x3), (oBox g9 132 [(i8 l16i5_0), (iq l16i5_1), (iq l16i5_2)])] [])) (S := (tab [(0, (str a0)), (3, l3v3), (4, (iq l3i4)), (5, (pq g9)), (6, (iq l16i6)), (7, (iq j25i7))])) ?_
        refine aw_sr ?_
        refine al_mv rfl rfl ?_
        refine al_val (ov_fieldA (p := 1) rfl Tryd.underlying132 rfl sz3 rfl rfl rfl) ?_
        refine al_val (ov_load (i := 1) (v := (iq l16i5_1)) rfl rfl Tryd.underlying3 sz3 rfl rfl rfl rfl) ?_
        refine al_in rfl rfl rfl rfl ?_
        refine al_nt ?_
        refine aw_cond rfl (fun hb27 => ?_) (fun hb27 => ?_)
        ·replace h := bif_t hb27 h
         refine aw_region ?_
         refine al_mv rfl rfl ?_
         refine al_mv rfl rfl ?_
         refine al_val (ov_build (cells := ([(i8 (0 : Int)), (iq j25i7), (iq l16i6)]).toArray) (cs := [(i8 (0 : Int)), (iq j25i7), (iq l16i6)]) rfl (fun w a hm hs => by simp only [List.map_toArray, List.map_cons, List.map_nil, List.toList_toArray, hs.ev (x := .tmp 56) rfl, hs.ev (x := .tmp 57) rfl]; kernel_rfl)) ?_
         refine al_store (i := 1) (vs := [(i8 (0 : Int)), (iq j25i7), (iq l16i6)]) (cs' := [(i8 (0 : Int)), (iq j25i7), (iq l16i6)]) rfl rfl rfl sz132 (cv_rfl rfl) rfl (co_val rfl (co_val rfl (co_val rfl co_nil))) (Nat.le_of_ble_eq_true rfl) rfl rfl ?_
         refine al_nil ?_
         refine aq_block ?_
         exact aq_join ((0 : Int), j25i7, l16i6) h (fun w a hm hs => norm hm hs [0, 1] [] [(0, (str a0)), (3, l3v3), (4, (iq l3i4)), (5, (pq g9)), (6, (iq l16i6))] (by decide) ⟨rfl, rfl, rfl, rfl, rfl, trivial⟩)
        ·replace h := bif_f hb27 h
         refine aw_skip ?_
         refine aq_block ?_
         exact aq_join (l16i5_0, l16i5_1, l16i5_2) h (fun w a hm hs => norm hm hs [0, 1] [] [(0, (str a0)), (3, l3v3), (4, (iq l3i4)), (5, (pq g9)), (6, (iq l16i6))] (by decide) ⟨rfl, rfl, rfl, rfl, rfl, trivial⟩)
       ·clear hkk26
        refine aw_block ?_
        refine aw_state (aw_loop (ι := Int) (fun i => (memOf w0 Z0 [] [(oRow l3v3 132 tyS_api_Token l3x3), (oBox g9 132 [(i8 l16i5_0), (iq l16i5_1), (iq l16i5_2)])] [])) (fun i => (tab [(0, (str a0)), (3, l3v3), (4, (iq l3i4)), (5, (pq g9)), (6, (iq l16i6)), (7, (iq i))])) (fun q i => f_lumref_Greedy_L30 a0 l3i4 l16i6 kk26 q i = some r) ?_ fu (0 : Int) h) (fun w a hm hs => norm hm hs [0, 1] [] [(0, (str a0)), (3, l3v3), (4, (iq l3i4)), (5, (pq g9)), (6, (iq l16i6)), (7, (iq (0 : Int)))] (by decide) ⟨rfl, rfl, rfl, rfl, rfl, rfl, trivial⟩)
        clear h
        rintro k29 l28i7 h
        have h : f_lumref_Greedy_L30 a0 l3i4 l16i6 kk26 k29 l28i7 = some r := h
        obtain _ | k29 := k29
        · rw [f_lumref_Greedy_L30] at h; cases h
        rw [f_lumref_Greedy_L30] at h
        refine aw_show (m := (memOf w0 Z0 [] [(oRow l3v3 132 tyS_api_Token l3x3), (oBox g9 132 [(i8 l16i5_0), (iq l16i5_1), (iq l16i5_2)])] [])) (S := (tab [(0, (str a0)), (3, l3v3), (4, (iq l3i4)), (5, (pq g9)), (6, (iq l16i6)), (7, (iq l28i7))])) ?_
        refine aw_seq ?_
        obtain ⟨kk32, hkk32, h⟩ := lt_some h
        refine aw_seq_join (ι := Bool) (fun i => (memOf w0 Z0 [] [(oRow l3v3 132 tyS_api_Token l3x3), (oBox g9 132 [(i8 l16i5_0), (iq l16i5_1), (iq l16i5_2)])] [])) (fun i => (tab [(0, (str a0)), (3, l3v3), (4, (iq l3i4)), (5, (pq g9)), (6, (iq l16i6)), (7, (iq l28i7)), (49, (bool i))])) (fun i => kk32 i = some r) ?_ ?_
        ·rintro j31b49 h
         have h : kk32 j31b49 = some r := h
         rw [hkk32] at h
         dsimp only at h
         clear hkk32
         refine aw_show (m := (memOf w0 Z0 [] [(oRow l3v3 132 tyS_api_Token l3x3), (oBox g9 132 [(i8 l16i5_0), (iq l16i5_1), (iq l16i5_2)])] [])) (S := (tab [(0, (str a0)), (3, l3v3), (4, (iq l3i4)), (5, (pq g9)), (6, (iq l16i6)), (7, (iq l28i7)), (49, (bool j31b49))])) ?_
         refine aw_cond rfl (fun hb33 => ?_) (fun hb33 => ?_)
         ·replace h := bif_t hb33 h
          refine aw_skip ?_
          refine aq_then ?_
          refine aw_block ?_
          refine aw_region ?_
          refine al_mv rfl rfl ?_
          refine al_in rfl rfl rfl rfl ?_
          refine al_as rfl rfl ?_
          refine al_nil ?_
          refine aq_block ?_
          exact aq_again k29 (wq (l28i7 + (1 : Int))) (Nat.lt_succ_self _) h (fun w a hm hs => norm hm hs [0, 1] [] [(0, (str a0)), (3, l3v3), (4, (iq l3i4)), (5, (pq g9)), (6, (iq l16i6)), (7, (iq (wq (l28i7 + (1 : Int)))))] (by decide) ⟨rfl, rfl, rfl, rfl, rfl, rfl, trivial⟩)
         ·replace h := bif_f hb33 h
          refine aw_exit ?_
          refine aq_then_exit ?_
          refine aq_then_exit ?_
          refine aq_block_exit ?_
          exact aq_join l28i7 h (fun w a hm hs => norm hm hs [0, 1] [] [(0, (str a0)), (3, l3v3), (4, (iq l3i4)), (5, (pq g9)), (6, (iq l16i6)), (7, (iq l28i7))] (by decide) ⟨rfl, rfl, rfl, rfl, rfl, rfl, trivial⟩)
        ·clear hkk32
         rcases Bool.eq_false_or_eq_true (decide (l28i7 < (255 : Int))) with hb34 | hb34
         ·replace h := bif_t hb34 h
          rcases Bool.eq_false_or_eq_true (decide ((wq (l3i4 + l28i7)) < (a0.length : Int))) with hb35 | hb35
          ·replace h := bif_t hb35 h
           obtain ⟨hc36, h⟩ := req_some h
           obtain ⟨hc37, h⟩ := req_some h
           refine aw_region_draw 24 [(25, (fun u => fEq u (iq l28i7))), (26, (fun u => fEq u (bool true))), (27, (fun u => fEq u (bool true))), (28, (fun u => fEq u (iq l3i4))), (29, (fun u => fEq u (iq l28i7))), (30, (fun u => fEq u (iq (wq (l3i4 + l28i7))))), (31, (fun u => fEq u (str a0))), (32, (fun u => fEq u (iq (a0.length : Int)))), (33, (fun u => fEq u (bool true))), (34, (fun u => fEq u (bool true))), (35, (fun u => fEq u (bool true))), (36, (fun u => fEq u (str a0))), (37, (fun u => fEq u (iq l3i4))), (38, (fun u => fEq u (iq l28i7))), (39, (fun u => fEq u (iq (wq (l3i4 + l28i7))))), (40, (fun u => fEq u (i8 (En.bAt a0 (wq (l3i4 + l28i7)))))), (41, (fun u => fEq u (str a0))), (42, (fun u => fEq u (iq l3i4))), (43, (fun u => fEq u (iq l28i7))), (44, (fun u => fEq u (iq (wq (l3i4 + l28i7))))), (45, (fun u => fEq u (iq l16i6))), (46, (fun u => fEq u (iq (wq ((wq (l3i4 + l28i7)) - l16i6))))), (47, (fun u => fEq u (i8 (En.bAt a0 (wq ((wq (l3i4 + l28i7)) - l16i6)))))), (48, (fun u => fEq u (bool ((En.bAt a0 (wq (l3i4 + l28i7))) == (En.bAt a0 (wq ((wq (l3i4 + l28i7)) - l16i6)))))))] (tab [(0, (str a0)), (3, l3v3), (4, (iq l3i4)), (5, (pq g9)), (6, (iq l16i6)), (7, (iq l28i7))]) mixed (by kernel_rfl) rfl rfl rfl (fun a hs => hs.tab _ (allT_mem ⟨rfl, rfl, rfl, rfl, rfl, rfl, trivial⟩)) ⟨⟨rfl, ld_val (ov_move rfl rfl)⟩, ⟨rfl, ld_eq (j := 0) rfl rfl (ld_val (ov_cast (by first | rw [hb34] | rfl) (ov_int rfl rfl rfl rfl)))⟩, ⟨rfl, ld_eq (j := 1) rfl rfl (ld_val (ov_cast (by first | rw [hb34] | rfl) (ov_move rfl rfl)))⟩, ⟨rfl, ld_eq (j := 2) rfl rfl (ld_val (ov_move rfl rfl))⟩, ⟨rfl, ld_eq (j := 2) rfl rfl (ld_val (ov_move rfl rfl))⟩, ⟨rfl, ld_eq (j := 2) rfl rfl (ld_eq (j := 3) rfl rfl (ld_eq (j := 4) rfl rfl (ld_val (ov_int rfl rfl rfl rfl))))⟩, ⟨rfl, ld_eq (j := 2) rfl rfl (ld_val (ov_move rfl rfl))⟩, ⟨rfl, ld_eq (j := 2) rfl rfl (ld_eq (j := 6) rfl rfl (ld_val (ov_strLen Tryd.underlying9 rfl rfl)))⟩, ⟨rfl, ld_eq (j := 2) rfl rfl (ld_eq (j := 5) rfl rfl (ld_eq (j := 7) rfl rfl (ld_val (ov_cast (by first | rw [hb35] | rfl) (ov_int rfl rfl rfl rfl)))))⟩, ⟨rfl, ld_eq (j := 2) rfl rfl (ld_eq (j := 8) rfl rfl (ld_val (ov_cast (by first | rw [hb35] | rfl) (ov_pick_t rfl rfl rfl))))⟩, ⟨rfl, ld_eq (j := 9) rfl rfl (ld_val (ov_cast (by first | rw [hb35] | rfl) (ov_move rfl rfl)))⟩, ⟨rfl, ld_eq (j := 10) rfl rfl (ld_val (ov_move rfl rfl))⟩, ⟨rfl, ld_eq (j := 10) rfl rfl (ld_val (ov_move rfl rfl))⟩, ⟨rfl, ld_eq (j := 10) rfl rfl (ld_val (ov_move rfl rfl))⟩, ⟨rfl, ld_eq (j := 10) rfl rfl (ld_eq (j := 12) rfl rfl (ld_eq (j := 13) rfl rfl (ld_val (ov_int rfl rfl rfl rfl))))⟩, ⟨rfl, ld_eq (j := 10) rfl rfl (ld_eq (j := 11) rfl rfl (ld_eq (j := 14) rfl rfl (ld_val (ov_strIdx hc36.1 hc36.2 Tryd.underlying9 rfl rfl rfl))))⟩, ⟨rfl, ld_eq (j := 10) rfl rfl (ld_val (ov_move rfl rfl))⟩, ⟨rfl, ld_eq (j := 10) rfl rfl (ld_val (ov_move rfl rfl))⟩, ⟨rfl, ld_eq (j := 10) rfl rfl (ld_val (ov_move rfl rfl))⟩, ⟨rfl, ld_eq (j := 10) rfl rfl (ld_eq (j := 17) rfl rfl (ld_eq (j := 18) rfl rfl (ld_val (ov_int rfl rfl rfl rfl))))⟩, ⟨rfl, ld_eq (j := 10) rfl rfl (ld_val (ov_move rfl rfl))⟩, ⟨rfl, ld_eq (j := 10) rfl rfl (ld_eq (j := 19) rfl rfl (ld_eq (j := 20) rfl rfl (ld_val (ov_int rfl rfl rfl rfl))))⟩, ⟨rfl, ld_eq (j := 10) rfl rfl (ld_eq (j := 16) rfl rfl (ld_eq (j := 21) rfl rfl (ld_val (ov_strIdx hc37.1 hc37.2 Tryd.underlying9 rfl rfl rfl))))⟩, ⟨rfl, ld_eq (j := 10) rfl rfl (ld_eq (j := 15) rfl rfl (ld_eq (j := 22) rfl rfl (ld_val (ov_int rfl rfl rfl rfl))))⟩, trivial⟩ ?_
           refine tl_eq 10 rfl ?_
           refine tl_eq 23 rfl ?_
           refine tl_done ?_
           refine al_val (ov_pick_t rfl rfl rfl) ?_
           refine al_nil ?_
           exact aq_join ((En.bAt a0 (wq (l3i4 + l28i7))) == (En.bAt a0 (wq ((wq (l3i4 + l28i7)) - l16i6)))) h (fun w a hm hs => norm hm hs [0, 1] [] [(0, (str a0)), (3, l3v3), (4, (iq l3i4)), (5, (pq g9)), (6, (iq l16i6)), (7, (iq l28i7)), (49, (bool ((En.bAt a0 (wq (l3i4 + l28i7))) == (En.bAt a0 (wq ((wq (l3i4 + l28i7)) - l16i6))))))] (by decide) ⟨rfl, rfl, rfl, rfl, rfl, rfl, rfl, trivial⟩)
          ·replace h := bif_f hb35 h
           refine aw_region_draw 24 [(25, (fun u => fEq u (iq l28i7))), (26, (fun u => fEq u (bool true))), (27, (fun u => fEq u (bool true))), (28, (fun u => fEq u (iq l3i4))), (29, (fun u => fEq u (iq l28i7))), (30, (fun u => fEq u (iq (wq (l3i4 + l28i7))))), (31, (fun u => fEq u (str a0))), (32, (fun u => fEq u (iq (a0.length : Int)))), (33, (fun u => fEq u (bool false))), (34, (fun u => fEq u (bool false))), (35, (fun u => fEq u (bool false))), (36, (fun u => fEq u undef)), (37, (fun u => fEq u undef)), (38, (fun u => fEq u undef)), (39, (fun u => fEq u undef)), (40, (fun u => fEq u undef)), (41, (fun u => fEq u undef)), (42, (fun u => fEq u undef)), (43, (fun u => fEq u undef)), (44, (fun u => fEq u undef)), (45, (fun u => fEq u undef)), (46, (fun u => fEq u undef)), (47, (fun u => fEq u undef)), (48, (fun u => fEq u undef))] (tab [(0, (str a0)), (3, l3v3), (4, (iq l3i4)), (5, (pq g9)), (6, (iq l16i6)), (7, (iq l28i7))]) mixed (by kernel_rfl) rfl rfl rfl (fun a hs => hs.tab _ (allT_mem ⟨rfl, rfl, rfl, rfl, rfl, rfl, trivial⟩)) ⟨⟨rfl, ld_val (ov_move rfl rfl)⟩, ⟨rfl, ld_eq (j := 0) rfl rfl (ld_val (ov_cast (by first | rw [hb34] | rfl) (ov_int rfl rfl rfl rfl)))⟩, ⟨rfl, ld_eq (j := 1) rfl rfl (ld_val (ov_cast (by first | rw [hb34] | rfl) (ov_move rfl rfl)))⟩, ⟨rfl, ld_eq (j := 2) rfl rfl (ld_val (ov_move rfl rfl))⟩, ⟨rfl, ld_eq (j := 2) rfl rfl (ld_val (ov_move rfl rfl))⟩, ⟨rfl, ld_eq (j := 2) rfl rfl (ld_eq (j := 3) rfl rfl (ld_eq (j := 4) rfl rfl (ld_val (ov_int rfl rfl rfl rfl))))⟩, ⟨rfl, ld_eq (j := 2) rfl rfl (ld_val (ov_move rfl rfl))⟩, ⟨rfl, ld_eq (j := 2) rfl rfl (ld_eq (j := 6) rfl rfl (ld_val (ov_strLen Tryd.underlying9 rfl rfl)))⟩, ⟨rfl, ld_eq (j := 2) rfl rfl (ld_eq (j := 5) rfl rfl (ld_eq (j := 7) rfl rfl (ld_val (ov_cast (by first | rw [hb35] | rfl) (ov_int rfl rfl rfl rfl)))))⟩, ⟨rfl, ld_eq (j := 2) rfl rfl (ld_eq (j := 8) rfl rfl (ld_val (ov_cast (by first | rw [hb35] | rfl) (ov_pick_t rfl rfl rfl))))⟩, ⟨rfl, ld_eq (j := 9) rfl rfl (ld_val (ov_cast (by first | rw [hb35] | rfl) (ov_move rfl rfl)))⟩, ⟨rfl, ld_eq (j := 10) rfl rfl (ld_skip)⟩, ⟨rfl, ld_eq (j := 10) rfl rfl (ld_skip)⟩, ⟨rfl, ld_eq (j := 10) rfl rfl (ld_skip)⟩, ⟨rfl, ld_eq (j := 10) rfl rfl (ld_skip)⟩, ⟨rfl, ld_eq (j := 10) rfl rfl (ld_skip)⟩, ⟨rfl, ld_eq (j := 10) rfl rfl (ld_skip)⟩, ⟨rfl, ld_eq (j := 10) rfl rfl (ld_skip)⟩, ⟨rfl, ld_eq (j := 10) rfl rfl (ld_skip)⟩, ⟨rfl, ld_eq (j := 10) rfl rfl (ld_skip)⟩, ⟨rfl, ld_eq (j := 10) rfl rfl (ld_skip)⟩, ⟨rfl, ld_eq (j := 10) rfl rfl (ld_skip)⟩, ⟨rfl, ld_eq (j := 10) rfl rfl (ld_skip)⟩, ⟨rfl, ld_eq (j := 10) rfl rfl (ld_skip)⟩, trivial⟩ ?_
           refine tl_eq 10 rfl ?_
           refine tl_eq 23 rfl ?_
           refine tl_done ?_
           refine al_val (ov_pick_f rfl rfl rfl) ?_
           refine al_nil ?_
           exact aq_join false h (fun w a hm hs => norm hm hs [0, 1] [] [(0, (str a0)), (3, l3v3), (4, (iq l3i4)), (5, (pq g9)), (6, (iq l16i6)), (7, (iq l28i7)), (49, (bool false))] (by decide) ⟨rfl, rfl, rfl, rfl, rfl, rfl, rfl, trivial⟩)
         ·replace h := bif_f hb34 h
          refine aw_region_draw 24 [(25, (fun u => fEq u (iq l28i7))), (26, (fun u => fEq u (bool false))), (27, (fun u => fEq u (bool false))), (28, (fun u => fEq u undef)), (29, (fun u => fEq u undef)), (30, (fun u => fEq u undef)), (31, (fun u => fEq u undef)), (32, (fun u => fEq u undef)), (33, (fun u => fEq u undef)), (34, (fun u => fEq u (bool false))), (35, (fun u => fEq u (bool false))), (36, (fun u => fEq u undef)), (37, (fun u => fEq u undef)), (38, (fun u => fEq u undef)), (39, (fun u => fEq u undef)), (40, (fun u => fEq u undef)), (41, (fun u => fEq u undef)), (42, (fun u => fEq u undef)), (43, (fun u => fEq u undef)), (44, (fun u => fEq u undef)), (45, (fun u => fEq u undef)), (46, (fun u => fEq u undef)), (47, (fun u => fEq u undef)), (48, (fun u => fEq u undef))] (tab [(0, (str a0)), (3, l3v3), (4, (iq l3i4)), (5, (pq g9)), (6, (iq l16i6)), (7, (iq l28i7))]) mixed (by kernel_rfl) rfl rfl rfl (fun a hs => hs.tab _ (allT_mem ⟨rfl, rfl, rfl, rfl, rfl, rfl, trivial⟩)) ⟨⟨rfl, ld_val (ov_move rfl rfl)⟩, ⟨rfl, ld_eq (j := 0) rfl rfl (ld_val (ov_cast (by first | rw [hb34] | rfl) (ov_int rfl rfl rfl rfl)))⟩, ⟨rfl, ld_eq (j := 1) rfl rfl (ld_val (ov_cast (by first | rw [hb34] | rfl) (ov_move rfl rfl)))⟩, ⟨rfl, ld_eq (j := 2) rfl rfl (ld_skip)⟩, ⟨rfl, ld_eq (j := 2) rfl rfl (ld_skip)⟩, ⟨rfl, ld_eq (j := 2) rfl rfl (ld_skip)⟩, ⟨rfl, ld_eq (j := 2) rfl rfl (ld_skip)⟩, ⟨rfl, ld_eq (j := 2) rfl rfl (ld_skip)⟩, ⟨rfl, ld_eq (j := 2) rfl rfl (ld_skip)⟩, ⟨rfl, ld_eq (j := 2) rfl rfl (ld_eq (j := 8) rfl rfl (ld_val (ov_pick_f rfl rfl rfl)))⟩, ⟨rfl, ld_eq (j := 9) rfl rfl (ld_val (ov_move rfl rfl))⟩, ⟨rfl, ld_eq (j := 10) rfl rfl (ld_skip)⟩, ⟨rfl, ld_eq (j := 10) rfl rfl (ld_skip)⟩, ⟨rfl, ld_eq (j := 10) rfl rfl (ld_skip)⟩, ⟨rfl, ld_eq (j := 10) rfl rfl (ld_skip)⟩, ⟨rfl, ld_eq (j := 10) rfl rfl (ld_skip)⟩, ⟨rfl, ld_eq (j := 10) rfl rfl (ld_skip)⟩, ⟨rfl, ld_eq (j := 10) rfl rfl (ld_skip)⟩, ⟨rfl, ld_eq (j := 10) rfl rfl (ld_skip)⟩, ⟨rfl, ld_eq (j := 10) rfl rfl (ld_skip)⟩, ⟨rfl, ld_eq (j := 10) rfl rfl (ld_skip)⟩, ⟨rfl, ld_eq (j := 10) rfl rfl (ld_skip)⟩, ⟨rfl, ld_eq (j := 10) rfl rfl (ld_skip)⟩, ⟨rfl, ld_eq (j := 10) rfl rfl (ld_skip)⟩, trivial⟩ ?_
          refine tl_eq 10 rfl ?_
          refine tl_eq 23 rfl ?_
          refine tl_done ?_
          refine al_val (ov_pick_f rfl rfl rfl) ?_
          refine al_nil ?_
          exact aq_join false h (fun w a hm hs => norm hm hs [0, 1] [] [(0, (str a0)), (3, l3v3), (4, (iq l3i4)), (5, (pq g9)), (6, (iq l16i6)), (7, (iq l28i7)), (49, (bool false))] (by decide) ⟨rfl, rfl, rfl, rfl, rfl, rfl, rfl, trivial⟩)
     ·replace h := bif_f hb22 h
      refine aw_exit ?_
      refine aq_then_exit ?_
      refine aq_then_exit ?_
      refine aq_block_exit ?_
      exact aq_join (l16i5_0, l16i5_1, l16i5_2) h (fun w a hm hs => norm hm hs [0, 1] [] [(0, (str a0)), (3, l3v3), (4, (iq l3i4)), (5, (pq g9))] (by decide) ⟨rfl, rfl, rfl, rfl, trivial⟩)
    ·clear hkk21
     refine aw_region ?_
     refine al_mv rfl rfl ?_
     refine al_in rfl rfl rfl rfl ?_
     refine al_mv rfl rfl ?_
     refine al_caseB 18 rfl (fun hb38 => ?_) (fun hb38 => ?_)
     ·replace h := bif_t hb38 h
      refine al_mv rfl rfl ?_
      refine al_mv rfl rfl ?_
      refine al_in rfl rfl rfl rfl ?_
      refine al_val (ov_pick_t rfl rfl rfl) ?_
      refine al_nil ?_
      exact aq_join (decide (l16i6 ≤ l3i4)) h (fun w a hm hs => norm hm hs [0, 1] [] [(0, (str a0)), (3, l3v3), (4, (iq l3i4)), (5, (pq g9)), (6, (iq l16i6)), (22, (bool (decide (l16i6 ≤ l3i4))))] (by decide) ⟨rfl, rfl, rfl, rfl, rfl, rfl, trivial⟩)
     ·replace h := bif_f hb38 h
      refine al_skip ?_
      refine al_skip ?_
      refine al_skip ?_
      refine al_val (ov_pick_f rfl rfl rfl) ?_
      refine al_nil ?_
      exact aq_join false h (fun w a hm hs => norm hm hs [0, 1] [] [(0, (str a0)), (3, l3v3), (4, (iq l3i4)), (5, (pq g9)), (6, (iq l16i6)), (22, (bool false))] (by decide) ⟨rfl, rfl, rfl, rfl, rfl, rfl, trivial⟩)
  ·replace h := bif_f hb7 h
   refine aw_exit ?_
   refine aq_then_exit ?_
   refine aq_then_exit ?_
   refine aq_block_exit ?_
   exact aq_join (l3v3, l3x3) h (fun w a hm hs => norm hm hs [0] [] [(3, l3v3)] (by decide) ⟨rfl, trivial⟩)
def f_lumref_tokenText (fu : Nat) (a0 : S_api_Token) : Option (List UInt8) := (bif (a0.Len == (0 : Int)) then (req (0 ≤ (0 : Int) ∧ (0 : Int) ≤ 255) (req (0 ≤ a0.Lit ∧ a0.Lit ≤ 255) (some [(UInt8.ofNat ((0 : Int)).toNat), (UInt8.ofNat (a0.Lit).toNat)]))) else (req (0 ≤ (IntKind.u8.wrap a0.Len) ∧ (IntKind.u8.wrap a0.Len) ≤ 255) (req (0 ≤ (IntKind.u8.wrap ((a0.Dist).tmod (256 : Int))) ∧ (IntKind.u8.wrap ((a0.Dist).tmod (256 : Int))) ≤ 255) (req (0 ≤ (IntKind.u8.wrap (IntKind.i64.wrap ((a0.Dist).tdiv (256 : Int)))) ∧ (IntKind.u8.wrap (IntKind.i64.wrap ((a0.Dist).tdiv (256 : Int)))) ≤ 255) (some [(UInt8.ofNat ((IntKind.u8.wrap a0.Len)).toNat), (UInt8.ofNat ((IntKind.u8.wrap ((a0.Dist).tmod (256 : Int)))).toNat), (UInt8.ofNat ((IntKind.u8.wrap (IntKind.i64.wrap ((a0.Dist).tdiv (256 : Int))))).toNat)])))))
set_option maxHeartbeats 2000000 in
set_option maxRecDepth 100000 in
theorem f_lumref_tokenText_ok (fu : Nat) (a0 : S_api_Token) {r : (List UInt8)} (h : f_lumref_tokenText fu a0 = some r) : FnOk Tryd.prog 147 [(ag [(int .u8 a0.Lit), (int .i64 a0.Len), (int .i64 a0.Dist)])] [] [] (fun (i : Unit) => { val := (str r) }) := by
 unfold f_lumref_tokenText at h
 refine fn_enter Tryd.func147 rfl Tryd.ntmps147 rfl (fun w0 Z0 => ?_)
 refine aw_sr ?_
 refine al_box (vs := [(i8 a0.Lit), (iq a0.Len), (iq a0.Dist)]) rfl (cv_rfl rfl) rfl (fun g1 => ?_)
 refine al_as rfl rfl ?_
 refine al_nt ?_
 refine aw_seq ?_
 refine aw_sr ?_
 refine al_val (ov_fieldA (p := 1) rfl Tryd.underlying132 rfl sz3 rfl rfl rfl) ?_
 refine al_val (ov_load (i := 0) (v := (iq a0.Len)) rfl rfl Tryd.underlying3 sz3 rfl rfl rfl rfl) ?_
 refine al_in rfl rfl rfl rfl ?_
 refine al_nt ?_
 refine aw_cond rfl (fun hb2 => ?_) (fun hb2 => ?_)
 ·replace h := bif_t hb2 h
  refine aw_sr ?_
  refine al_val (ov_fieldA (p := 0) rfl Tryd.underlying132 rfl sz5 rfl rfl rfl) ?_
  refine al_val (ov_load (i := 0) (v := (i8 a0.Lit)) rfl rfl Tryd.underlying5 sz5 rfl rfl rfl rfl) ?_
  obtain ⟨hc4, h⟩ := req_some h
  obtain ⟨hc5, h⟩ := req_some h
  refine al_buildSlice (τ := tyU8) (e := 5) (k := 2) (sz := 0) (by_ := 0) (z := undef) (cs := [(i8 (0 : Int)), (i8 a0.Lit)]) (xs := [(UInt8.ofNat ((0 : Int)).toNat), (UInt8.ofNat (a0.Lit).toNat)]) rfl (by decide) (fun w a hm hs => ⟨([(i8 (0 : Int)), (i8 a0.Lit)]).toArray, rfl, by simp only [List.map_toArray, List.map_cons, List.map_nil, hs.ev (x := .const (i8 (0 : Int))) rfl, hs.ev (x := .tmp 7) rfl]; exact run_bs [(i8 (0 : Int)), (i8 a0.Lit)] [(i8 (0 : Int)), (i8 a0.Lit)] Tryd.underlying74 to5 rfl rfl (bs_cons (l := [(i8 (0 : Int))]) (cs := [(i8 a0.Lit)]) (cv_rfl rfl) rfl (bs_cons (l := [(i8 a0.Lit)]) (cs := []) (cv_rfl rfl) rfl bs_nil)) hm⟩) (fun hm => ⟨_, _, rfl, (fun _ => u8_rep hc4) hm, ⟨_, _, rfl, (fun _ => u8_rep hc5) hm, rfl⟩⟩) rfl (fun v3 => ?_)
  refine al_val (ov_toStrR 0 rfl rfl Tryd.underlying74 Tryd.underlying5 Tryd.underlying9 rfl) ?_
  refine al_as rfl rfl ?_
  refine al_nt ?_
  refine aw_ret ?_
  refine aq_then_ret ?_
  obtain rfl := Option.some.inj h
  exact fn_ret () [] [] rfl rfl rfl rfl (res1 rfl rfl) rfl rfl rfl (by decide)
 ·replace h := bif_f hb2 h
  refine aw_skip ?_
  refine aq_tr ?_
  refine al_val (ov_fieldA (p := 1) rfl Tryd.underlying132 rfl sz3 rfl rfl rfl) ?_
  refine al_val (ov_load (i := 0) (v := (iq a0.Len)) rfl rfl Tryd.underlying3 sz3 rfl rfl rfl rfl) ?_
  refine al_val (ov_convInt (by rw [Tryd.underlying3]; rfl) Tryd.underlying5 rfl rfl) ?_
  refine al_val (ov_fieldA (p := 2) rfl Tryd.underlying132 rfl sz3 rfl rfl rfl) ?_
  refine al_val (ov_load (i := 0) (v := (iq a0.Dist)) rfl rfl Tryd.underlying3 sz3 rfl rfl rfl rfl) ?_
  refine al_val (ov_rem (by decide) rfl rfl rfl) ?_
  refine al_val (ov_convInt (by rw [Tryd.underlying3]; rfl) Tryd.underlying5 rfl rfl) ?_
  refine al_val (ov_fieldA (p := 2) rfl Tryd.underlying132 rfl sz3 rfl rfl rfl) ?_
  refine al_val (ov_load (i := 0) (v := (iq a0.Dist)) rfl rfl Tryd.underlying3 sz3 rfl rfl rfl rfl) ?_
  refine al_val (ov_quo (by decide) rfl rfl rfl) ?_
  refine al_val (ov_convInt (by rw [Tryd.underlying3]; rfl) Tryd.underlying5 rfl rfl) ?_
  obtain ⟨hc7, h⟩ := req_some h
  obtain ⟨hc8, h⟩ := req_some h
  obtain ⟨hc9, h⟩ := req_some h
  refine al_buildSlice (τ := tyU8) (e := 5) (k := 3) (sz := 0) (by_ := 0) (z := undef) (cs := [(i8 (w8 a0.Len)), (i8 (w8 ((a0.Dist).tmod (256 : Int)))), (i8 (w8 (wq ((a0.Dist).tdiv (256 : Int)))))]) (xs := [(UInt8.ofNat ((w8 a0.Len)).toNat), (UInt8.ofNat ((w8 ((a0.Dist).tmod (256 : Int)))).toNat), (UInt8.ofNat ((w8 (wq ((a0.Dist).tdiv (256 : Int))))).toNat)]) rfl (by decide) (fun w a hm hs => ⟨([(i8 (w8 a0.Len)), (i8 (w8 ((a0.Dist).tmod (256 : Int)))), (i8 (w8 (wq ((a0.Dist).tdiv (256 : Int)))))]).toArray, rfl, by simp only [List.map_toArray, List.map_cons, List.map_nil, hs.ev (x := .tmp 12) rfl, hs.ev (x := .tmp 16) rfl, hs.ev (x := .tmp 20) rfl]; exact run_bs [(i8 (w8 a0.Len)), (i8 (w8 ((a0.Dist).tmod (256 : Int)))), (i8 (w8 (wq ((a0.Dist).tdiv (256 : Int)))))] [(i8 (w8 a0.Len)), (i8 (w8 ((a0.Dist).tmod (256 : Int)))), (i8 (w8 (wq ((a0.Dist).tdiv (256 : Int)))))] Tryd.underlying74 to5 rfl rfl (bs_cons (l := [(i8 (w8 a0.Len))]) (cs := [(i8 (w8 ((a0.Dist).tmod (256 : Int)))), (i8 (w8 (wq ((a0.Dist).tdiv (256 : Int)))))]) (cv_rfl rfl) rfl (bs_cons (l := [(i8 (w8 ((a0.Dist).tmod (256 : Int))))]) (cs := [(i8 (w8 (wq ((a0.Dist).tdiv (256 : Int)))))]) (cv_rfl rfl) rfl (bs_cons (l := [(i8 (w8 (wq ((a0.Dist).tdiv (256 : Int)))))]) (cs := []) (cv_rfl rfl) rfl bs_nil))) hm⟩) (fun hm => ⟨_, _, rfl, (fun _ => u8_rep hc7) hm, ⟨_, _, rfl, (fun _ => u8_rep hc8) hm, ⟨_, _, rfl, (fun _ => u8_rep hc9) hm, rfl⟩⟩⟩) rfl (fun v6 => ?_)
  refine al_val (ov_toStrR 0 rfl rfl Tryd.underlying74 Tryd.underlying5 Tryd.underlying9 rfl) ?_
  refine al_as rfl rfl ?_
  refine al_nt ?_
  refine aw_ret ?_
  obtain rfl := Option.some.inj h
  exact fn_ret () [] [] rfl rfl rfl rfl (res1 rfl rfl) rfl rfl rfl (by decide)
def f_lumref_TokensText_L5 (a0 : (List S_api_Token)) (kk2 : ((List UInt8) → Option (List UInt8))) (fu : Nat) : Nat → (List UInt8) → Int → Option (List UInt8)
  | 0, _, _ => none
  | k4 + 1, l3s3, l3i8 => (bif (decide (l3i8 < (a0.length : Int))) then (opt (at? a0 l3i8) fun (u7 : S_api_Token) => (opt (f_lumref_tokenText fu u7) fun (r12 : (List UInt8)) => (req (l3s3.length + r12.length ≤ 9223372036854775807) (f_lumref_TokensText_L5 a0 kk2 fu k4 (l3s3 ++ r12) (IntKind.i64.wrap (l3i8 + (1 : Int))))))) else (kk2 l3s3))
def f_lumref_TokensText (fu : Nat) (a0 : (List S_api_Token)) : Option (List UInt8) := (lt (fun (j1s3 : (List UInt8)) => (some j1s3)) fun (kk2 : (List UInt8) → Option (List UInt8)) => (f_lumref_TokensText_L5 a0 kk2 fu fu ([] : List UInt8) (0 : Int)))
set_option maxHeartbeats 2000000 in
set_option maxRecDepth 100000 in
theorem f_lumref_TokensText_ok (fu : Nat) (v0_0 : Value) (a0 : (List S_api_Token)) {r : (List UInt8)} (h : f_lumref_TokensText fu a0 = some r) : FnOk Tryd.prog 95 [v0_0] [(fDat (tyList tyS_api_Token) [v0_0] a0)] [] (fun (i : Unit) => { val := (str r) }) := by
 unfold f_lumref_TokensText at h
 refine fn_enter Tryd.func95 rfl Tryd.ntmps95 rfl (fun w0 Z0 => ?_)
 refine aw_sr ?_
 refine al_as rfl rfl ?_
 refine al_nt ?_
 refine aw_sr ?_
 refine al_as rfl rfl ?_
 refine al_nt ?_
 obtain ⟨kk2, hkk2, h⟩ := lt_some h
 refine aw_seq_join (ι := (List UInt8)) (fun i => (memOf w0 Z0 [] [] [(fDat (tyList tyS_api_Token) [v0_0] a0)])) (fun i => (tab [(3, (str i))])) (fun i => kk2 i = some r) ?_ ?_
 ·rintro j1s3 h
  have h : kk2 j1s3 = some r := h
  rw [hkk2] at h
  dsimp only at h
  clear hkk2
  refine aw_show (m := (memOf w0 Z0 [] [] [(fDat (tyList tyS_api_Token) [v0_0] a0)])) (S := (tab [(3, (str j1s3))])) ?_
  refine aw_sr ?_
  refine al_mv rfl rfl ?_
  refine al_as rfl rfl ?_
  refine al_nt ?_
  refine aw_ret ?_
  obtain rfl := Option.some.inj h
  exact fn_ret () [] [] rfl rfl rfl rfl (res1 rfl rfl) rfl rfl rfl (by decide)
 ·clear hkk2
  refine aw_sr ?_
  refine al_mv rfl rfl ?_
  refine al_val (ov_lenD 0 rfl rfl Tryd.underlying67 rfl) ?_
  refine al_mv rfl rfl ?_
  refine al_nt ?_
  refine aw_block ?_
  refine aw_state (aw_loop (ι := (List UInt8) × Int) (fun i => (memOf w0 Z0 [] [] [(fDat (tyList tyS_api_Token) [v0_0] a0)])) (fun i => (tab [(3, (str i.1)), (6, v0_0), (7, (iq (a0.length : Int))), (8, (iq i.2))])) (fun q i => f_lumref_TokensText_L5 a0 kk2 fu q i.1 i.2 = some r) ?_ fu (([] : List UInt8), (0 : Int)) h) (fun w a hm hs => norm hm hs [] [0] [(3, (str ([] : List UInt8))), (6, v0_0), (7, (iq (a0.length : Int))), (8, (iq (0 : Int)))] (by decide) ⟨rfl, rfl, rfl, rfl, trivial⟩)
  clear h
  rintro k4 ⟨l3s3, l3i8⟩ h
  have h : f_lumref_TokensText_L5 a0 kk2 fu k4 l3s3 l3i8 = some r := h
  obtain _ | k4 := k4
  · rw [f_lumref_TokensText_L5] at h; cases h
  rw [f_lumref_TokensText_L5] at h
  refine aw_show (m := (memOf w0 Z0 [] [] [(fDat (tyList tyS_api_Token) [v0_0] a0)])) (S := (tab [(3, (str l3s3)), (6, v0_0), (7, (iq (a0.length : Int))), (8, (iq l3i8))])) ?_
  refine aw_sr ?_
  refine al_in rfl rfl rfl rfl ?_
  refine al_nt ?_
  refine aw_seq ?_
  refine aw_cond rfl (fun hb6 => ?_) (fun hb6 => ?_)
  ·replace h := bif_t hb6 h
   refine aw_skip ?_
   refine aq_then ?_
   refine aw_seq ?_
   refine aw_block ?_
   refine aw_sr ?_
   obtain ⟨u7, hu8, h⟩ := opt_some h
   refine al_idxD 0 hu8 rfl rfl rfl Tryd.underlying67 sz132 rfl (fun p9 => ?_)
   refine al_val (ov_loadP (ds := [(i8 u7.Lit), (iq u7.Len), (iq u7.Dist)]) 0 rfl encS_api_Token rfl Tryd.underlying132 sz132 rfl rfl rfl) ?_
   refine al_alloc (zs := [(i8 (0 : Int)), (iq (0 : Int)), (iq (0 : Int))]) (zeroOf_to to132) rfl rfl (fun g10 => ?_)
   refine al_store (i := 0) (vs := [(i8 u7.Lit), (iq u7.Len), (iq u7.Dist)]) (cs' := [(i8 u7.Lit), (iq u7.Len), (iq u7.Dist)]) rfl rfl rfl sz132 (cv_rfl rfl) rfl (co_val rfl (co_val rfl (co_val rfl co_nil))) (Nat.le_of_ble_eq_true rfl) rfl rfl ?_
   refine al_nt ?_
   refine aw_region ?_
   refine al_mv rfl rfl ?_
   refine al_val (ov_load (i := 0) (v := (ag [(i8 u7.Lit), (iq u7.Len), (iq u7.Dist)])) rfl rfl Tryd.underlying132 sz132 rfl rfl rfl rfl) ?_
   obtain ⟨r12, hc11, h⟩ := opt_some h
   refine al_call (vs := [(ag [(i8 u7.Lit), (iq u7.Len), (iq u7.Dist)])]) (f_lumref_tokenText_ok fu u7 hc11) [] [] [0] pre_nil rfl (by simp) (by decide) (.inl rfl) rfl Tryd.func147 rfl rfl rfl (fun _ => ?_)
   obtain ⟨hc13, h⟩ := req_some h
   refine al_val (ov_strAdd hc13 rfl rfl rfl) ?_
   refine al_as rfl rfl ?_
   refine al_nil ?_
   refine aq_block ?_
   refine aq_then ?_
   refine aw_region ?_
   refine al_in rfl rfl rfl rfl ?_
   refine al_mv rfl rfl ?_
   refine al_nil ?_
   exact aq_again k4 ((l3s3 ++ r12), (wq (l3i8 + (1 : Int)))) (Nat.lt_succ_self _) h (fun w a hm hs => norm hm hs [] [1] [(3, (str (l3s3 ++ r12))), (6, v0_0), (7, (iq (a0.length : Int))), (8, (iq (wq (l3i8 + (1 : Int)))))] (by decide) ⟨rfl, rfl, rfl, rfl, trivial⟩)
  ·replace h := bif_f hb6 h
   refine aw_exit ?_
   refine aq_then_exit ?_
   refine aq_then_exit ?_
   refine aq_block_exit ?_
   exact aq_join l3s3 h (fun w a hm hs => norm hm hs [] [0] [(3, (str l3s3))] (by decide) ⟨rfl, trivial⟩)
def f_lumref_least_L13 (a0 : (List S_lumref_bunch)) (j2i4 : Int) (kk5 : ((List S_lumref_bunch) → Option (S_lumref_bunch × (List S_lumref_bunch)))) : Nat → (List S_lumref_bunch) → Int → Option (S_lumref_bunch × (List S_lumref_bunch))
  | 0, _, _ => none
  | k12 + 1, l11x7, l11i53 => (bif (decide (l11i53 < (a0.length : Int))) then (lt (fun (j15x7 : (List S_lumref_bunch)) => (f_lumref_least_L13 a0 j2i4 kk5 k12 j15x7 (IntKind.i64.wrap (l11i53 + (1 : Int))))) fun (kk16 : (List S_lumref_bunch) → Option (S_lumref_bunch × (List S_lumref_bunch))) => (opt (at? a0 l11i53) fun (u17 : S_lumref_bunch) => (bif (l11i53 != j2i4) then (req (((l11x7.length + ([u17]).length) * 32 : Nat) ≤ 140737488355328 ∧ l11x7.length + ([u17]).length ≤ 9223372036854775807) (kk16 (l11x7 ++ ([u17])))) else (kk16 l11x7)))) else (kk5 l11x7))
def f_lumref_least_L29 (a0 : (List S_lumref_bunch)) (kk3 : (Int → Option (S_lumref_bunch × (List S_lumref_bunch)))) : Nat → Int → Int → Option (S_lumref_bunch × (List S_lumref_bunch))
  | 0, _, _ => none
  | k28 + 1, l27i12, l27i4 => (bif (decide (l27i12 < (a0.length : Int))) then (lt (fun (j31i4 : Int) => (f_lumref_least_L29 a0 kk3 k28 (IntKind.i64.wrap (l27i12 + (1 : Int))) j31i4)) fun (kk32 : Int → Option (S_lumref_bunch × (List S_lumref_bunch))) => (opt (at? a0 l27i12) fun (u33 : S_lumref_bunch) => (lt (fun (j39b48 : Bool) => (bif j39b48 then (kk32 l27i12) else (kk32 l27i4))) fun (kk40 : Bool → Option (S_lumref_bunch × (List S_lumref_bunch))) => (opt (at? a0 l27i4) fun (u42 : S_lumref_bunch) => (bif (decide (u33.weight < u42.weight)) then (kk40 true) else (opt (at? a0 l27i4) fun (u47 : S_lumref_bunch) => (bif (u33.weight == u47.weight) then (opt (at? u33.signs (0 : Int)) fun (u52 : Int) => (opt (at? a0 l27i4) fun (u55 : S_lumref_bunch) => (opt (at? u55.signs (0 : Int)) fun (u60 : Int) => (kk40 (decide (u52 < u60)))))) else (kk40 false)))))))) else (kk3 l27i4))
def f_lumref_least (fu : Nat) (a0 : (List S_lumref_bunch)) : Option (S_lumref_bunch × (List S_lumref_bunch)) := (lt (fun (j2i4 : Int) => (lt (fun (j4x7 : (List S_lumref_bunch)) => (opt (at? a0 j2i4) fun (u6 : S_lumref_bunch) => (some (u6, j4x7)))) fun (kk5 : (List S_lumref_bunch) → Option (S_lumref_bunch × (List S_lumref_bunch))) => (f_lumref_least_L13 a0 j2i4 kk5 fu ([] : List S_lumref_bunch) (0 : Int)))) fun (kk3 : Int → Option (S_lumref_bunch × (List S_lumref_bunch))) => (f_lumref_least_L29 a0 kk3 fu (0 : Int) (0 : Int)))
set_option maxHeartbeats 2000000 in
set_option maxRecDepth 100000 in
theorem f_lumref_least_ok (fu : Nat) (v0_0 : Value) (a0 : (List S_lumref_bunch)) {r : (S_lumref_bunch × (List S_lumref_bunch))} (h : f_lumref_least fu a0 = some r) : FnOk Tryd.prog 148 [v0_0] [(fDat (tyList tyS_lumref_bunch) [v0_0] a0)] [] (fun (i : Value × Value) => { val := (Value.tuple #[(ag [(int .i64 r.1.weight), i.1]), i.2]), own := [(oRow i.2 204 tyS_lumref_bunch r.2)], fz := [(fDat (tyList (tyInt .i64)) [i.1] r.1.signs)] }) := by
 unfold f_lumref_least at h
 refine fn_enter Tryd.func148 rfl Tryd.ntmps148 rfl (fun w0 Z0 => ?_)
 refine aw_sr ?_
 refine al_alloc (zs := [(iq (0 : Int)), nS]) (zeroOf_to to204) rfl rfl (fun g1 => ?_)
 refine al_as rfl rfl ?_
 refine al_nt ?_
 refine aw_sr ?_
 refine al_as rfl rfl ?_
 refine al_nt ?_
 obtain ⟨kk3, hkk3, h⟩ := lt_some h
 refine aw_seq_join (ι := Int) (fun i => (memOf w0 Z0 [] [(oBox g1 204 [(iq (0 : Int)), nS])] [(fDat (tyList tyS_lumref_bunch) [v0_0] a0)])) (fun i => (tab [(0, v0_0), (2, (pq g1)), (4, (iq i))])) (fun i => kk3 i = some r) ?_ ?_
 ·rintro j2i4 h
  have h : kk3 j2i4 = some r := h
  rw [hkk3] at h
  dsimp only at h
  clear hkk3
  refine aw_show (m := (memOf w0 Z0 [] [(oBox g1 204 [(iq (0 : Int)), nS])] [(fDat (tyList tyS_lumref_bunch) [v0_0] a0)])) (S := (tab [(0, v0_0), (2, (pq g1)), (4, (iq j2i4))])) ?_
  refine aw_sr ?_
  refine al_as rfl rfl ?_
  refine al_nt ?_
  obtain ⟨kk5, hkk5, h⟩ := lt_some h
  refine aw_seq_join (ι := Value × (List S_lumref_bunch)) (fun i => (memOf w0 Z0 [] [(oBox g1 204 [(iq (0 : Int)), nS]), (oRow i.1 204 tyS_lumref_bunch i.2)] [(fDat (tyList tyS_lumref_bunch) [v0_0] a0)])) (fun i => (tab [(0, v0_0), (2, (pq g1)), (4, (iq j2i4)), (7, i.1)])) (fun i => kk5 i.2 = some r) ?_ ?_
  ·rintro ⟨j4v7, j4x7⟩ h
   have h : kk5 j4x7 = some r := h
   rw [hkk5] at h
   dsimp only at h
   clear hkk5
   refine aw_show (m := (memOf w0 Z0 [] [(oBox g1 204 [(iq (0 : Int)), nS]), (oRow j4v7 204 tyS_lumref_bunch j4x7)] [(fDat (tyList tyS_lumref_bunch) [v0_0] a0)])) (S := (tab [(0, v0_0), (2, (pq g1)), (4, (iq j2i4)), (7, j4v7)])) ?_
   refine aw_sr ?_
   refine al_mv rfl rfl ?_
   refine al_mv rfl rfl ?_
   obtain ⟨u6, hu7, h⟩ := opt_some h
   refine al_idxD 0 hu7 rfl rfl rfl Tryd.underlying202 sz204 rfl (fun p8 => ?_)
   refine al_loadPA 0 rfl rfl Tryd.underlying204 sz204 rfl rfl (fun cs10 => ?_)
   refine al_use (ι := Value) 0 rfl (fun j => cs10 = [(iq u6.weight), j]) (fun j => [(fDat (tyList tq) [j] u6.signs)]) encnS_lumref_bunch (fun s9 hq => ?_)
   subst hq
   refine al_mv rfl rfl ?_
   refine al_store (i := 0) (vs := [(iq u6.weight), s9]) (cs' := [(iq u6.weight), s9]) rfl rfl rfl sz204 (cv_rfl rfl) rfl (co_val rfl (co_fz 0 rfl co_nil)) (Nat.le_of_ble_eq_true rfl) rfl rfl ?_
   refine al_as rfl rfl ?_
   refine al_nt ?_
   refine aw_ret ?_
   obtain rfl := Option.some.inj h
   exact fn_ret (s9, j4v7) [1] [0] rfl rfl rfl rfl (resC rfl (resB (i := 0) rfl rfl Tryd.underlying204 sz204 rfl rfl rfl (resT rfl (resN))) rfl) rfl rfl rfl (by decide)
  ·clear hkk5
   refine aw_sr ?_
   refine al_mv rfl rfl ?_
   refine al_val (ov_lenD 0 rfl rfl Tryd.underlying202 rfl) ?_
   refine al_mv rfl rfl ?_
   refine al_nt ?_
   refine aw_block ?_
   refine aw_nilR 204 tyS_lumref_bunch ?_
   refine aw_state (aw_loop (ι := Value × (List S_lumref_bunch) × Int) (fun i => (memOf w0 Z0 [] [(oBox g1 204 [(iq (0 : Int)), nS]), (oRow i.1 204 tyS_lumref_bunch i.2.1)] [(fDat (tyList tyS_lumref_bunch) [v0_0] a0)])) (fun i => (tab [(0, v0_0), (2, (pq g1)), (4, (iq j2i4)), (7, i.1), (51, v0_0), (52, (iq (a0.length : Int))), (53, (iq i.2.2))])) (fun q i => f_lumref_least_L13 a0 j2i4 kk5 q i.2.1 i.2.2 = some r) ?_ fu (nS, ([] : List S_lumref_bunch), (0 : Int)) h) (fun w a hm hs => norm hm hs [1, 0] [0] [(0, v0_0), (2, (pq g1)), (4, (iq j2i4)), (7, nS), (51, v0_0), (52, (iq (a0.length : Int))), (53, (iq (0 : Int)))] (by decide) ⟨rfl, rfl, rfl, rfl, rfl, rfl, rfl, trivial⟩)
   clear h
   rintro k12 ⟨l11v7, l11x7, l11i53⟩ h
   have h : f_lumref_least_L13 a0 j2i4 kk5 k12 l11x7 l11i53 = some r := h
   obtain _ | k12 := k12
   · rw [f_lumref_least_L13] at h; cases h
   rw [f_lumref_least_L13] at h
   refine aw_show (m := (memOf w0 Z0 [] [(oBox g1 204 [(iq (0 : Int)), nS]), (oRow l11v7 204 tyS_lumref_bunch l11x7)] [(fDat (tyList tyS_lumref_bunch) [v0_0] a0)])) (S := (tab [(0, v0_0), (2, (pq g1)), (4, (iq j2i4)), (7, l11v7), (51, v0_0), (52, (iq (a0.length : Int))), (53, (iq l11i53))])) ?_
   refine aw_sr ?_
   refine al_in rfl rfl rfl rfl ?_
   refine al_nt ?_
   refine aw_seq ?_
   refine aw_cond rfl (fun hb14 => ?_) (fun hb14 => ?_)
   ·replace h := bif_t hb14 h
    refine aw_skip ?_
    refine aq_then ?_
    obtain ⟨kk16, hkk16, h⟩ := lt_some h
    refine aw_seq_join (ι := Value × (List S_lumref_bunch)) (fun i => (memOf w0 Z0 [] [(oBox g1 204 [(iq (0 : Int)), nS]), (oRow i.1 204 tyS_lumref_bunch i.2)] [(fDat (tyList tyS_lumref_bunch) [v0_0] a0)])) (fun i => (tab [(0, v0_0), (2, (pq g1)), (4, (iq j2i4)), (7, i.1), (51, v0_0), (52, (iq (a0.length : Int))), (53, (iq l11i53))])) (fun i => kk16 i.2 = some r) ?_ ?_
    ·rintro ⟨j15v7, j15x7⟩ h
     have h : kk16 j15x7 = some r := h
     rw [hkk16] at h
     dsimp only at h
     clear hkk16
     refine aw_show (m := (memOf w0 Z0 [] [(oBox g1 204 [(iq (0 : Int)), nS]), (oRow j15v7 204 tyS_lumref_bunch j15x7)] [(fDat (tyList tyS_lumref_bunch) [v0_0] a0)])) (S := (tab [(0, v0_0), (2, (pq g1)), (4, (iq j2i4)), (7, j15v7), (51, v0_0), (52, (iq (a0.length : Int))), (53, (iq l11i53))])) ?_
     refine aw_region ?_
     refine al_in rfl rfl rfl rfl ?_
     refine al_mv rfl rfl ?_
     refine al_nil ?_
     exact aq_again k12 (j15v7, j15x7, (wq (l11i53 + (1 : Int)))) (Nat.lt_succ_self _) h (fun w a hm hs => norm hm hs [0, 1] [0] [(0, v0_0), (2, (pq g1)), (4, (iq j2i4)), (7, j15v7), (51, v0_0), (52, (iq (a0.length : Int))), (53, (iq (wq (l11i53 + (1 : Int)))))] (by decide) ⟨rfl, rfl, rfl, rfl, rfl, rfl, rfl, trivial⟩)
    ·clear hkk16
     refine aw_block ?_
     refine aw_sr ?_
     refine al_mv rfl rfl ?_
     obtain ⟨u17, hu18, h⟩ := opt_some h
     refine al_idxD 0 hu18 rfl rfl rfl Tryd.underlying202 sz204 rfl (fun p19 => ?_)
     refine al_loadPA 0 rfl rfl Tryd.underlying204 sz204 rfl rfl (fun cs21 => ?_)
     refine al_use (ι := Value) 0 rfl (fun j => cs21 = [(iq u17.weight), j]) (fun j => [(fDat (tyList tq) [j] u17.signs)]) encnS_lumref_bunch (fun s20 hq => ?_)
     subst hq
     refine al_alloc (zs := [(iq (0 : Int)), nS]) (zeroOf_to to204) rfl rfl (fun g22 => ?_)
     refine al_as rfl rfl ?_
     refine al_store (i := 0) (vs := [(iq u17.weight), s20]) (cs' := [(iq u17.weight), s20]) rfl rfl rfl sz204 (cv_rfl rfl) rfl (co_val rfl (co_fz 0 rfl co_nil)) (Nat.le_of_ble_eq_true rfl) rfl rfl ?_
     refine al_nt ?_
     refine aw_sr ?_
     refine al_mv rfl rfl ?_
     refine al_mv rfl rfl ?_
     refine al_in rfl rfl rfl rfl ?_
     refine al_nt ?_
     refine aw_cond rfl (fun hb23 => ?_) (fun hb23 => ?_)
     ·replace h := bif_t hb23 h
      refine aw_region ?_
      refine al_mv rfl rfl ?_
      refine al_val (ov_load (i := 0) (v := (ag [(iq u17.weight), s20])) rfl rfl Tryd.underlying204 sz204 rfl rfl rfl rfl) ?_
      refine al_buildSlice (τ := tyS_lumref_bunch) (e := 204) (k := 1) (sz := 0) (by_ := 0) (z := undef) (cs := [(iq u17.weight), s20]) (xs := [u17]) rfl (by decide) (fun w a hm hs => ⟨([(iq u17.weight), s20]).toArray, rfl, by simp only [List.map_toArray, List.map_cons, List.map_nil, hs.ev (x := .tmp 62) rfl]; exact run_bs [(ag [(iq u17.weight), s20])] [(iq u17.weight), s20] Tryd.underlying202 to204 rfl rfl (bs_cons (l := [(iq u17.weight), s20]) (cs := []) (cv_rfl rfl) rfl bs_nil) hm⟩) (fun hm => ⟨_, _, rfl, (fun hm => mknS_lumref_bunch rfl (fz_at (i := 0) hm rfl)) hm, rfl⟩) rfl (fun v24 => ?_)
      obtain ⟨hc25, h⟩ := req_some h
      refine al_append 3 hc25.1 hc25.2 rfl (src_own (i := 3) 0 rfl) rfl rfl Tryd.underlying202 to204 rfl rfl rfl (fun v26 => ?_)
      refine al_as rfl rfl ?_
      refine al_nil ?_
      refine aq_block ?_
      exact aq_join (v26, (l11x7 ++ ([u17]))) h (fun w a hm hs => norm hm hs [2, 3] [3] [(0, v0_0), (2, (pq g1)), (4, (iq j2i4)), (7, v26), (51, v0_0), (52, (iq (a0.length : Int))), (53, (iq l11i53))] (by decide) ⟨rfl, rfl, rfl, rfl, rfl, rfl, rfl, trivial⟩)
     ·replace h := bif_f hb23 h
      refine aw_skip ?_
      refine aq_block ?_
      exact aq_join (l11v7, l11x7) h (fun w a hm hs => norm hm hs [1, 2] [3] [(0, v0_0), (2, (pq g1)), (4, (iq j2i4)), (7, l11v7), (51, v0_0), (52, (iq (a0.length : Int))), (53, (iq l11i53))] (by decide) ⟨rfl, rfl, rfl, rfl, rfl, rfl, rfl, trivial⟩)
   ·replace h := bif_f hb14 h
    refine aw_exit ?_
    refine aq_then_exit ?_
    refine aq_then_exit ?_
    refine aq_block_exit ?_
    exact aq_join (l11v7, l11x7) h (fun w a hm hs => norm hm hs [0, 1] [0] [(0, v0_0), (2, (pq g1)), (4, (iq j2i4)), (7, l11v7)] (by decide) ⟨rfl, rfl, rfl, rfl, trivial⟩)
 ·clear hkk3
  refine aw_sr ?_
  refine al_mv rfl rfl ?_
  refine al_val (ov_lenD 0 rfl rfl Tryd.underlying202 rfl) ?_
  refine al_mv rfl rfl ?_
  refine al_nt ?_
  refine aw_block ?_
  refine aw_state (aw_loop (ι := Int × Int) (fun i => (memOf w0 Z0 [] [(oBox g1 204 [(iq (0 : Int)), nS])] [(fDat (tyList tyS_lumref_bunch) [v0_0] a0)])) (fun i => (tab [(0, v0_0), (2, (pq g1)), (4, (iq i.2)), (10, v0_0), (11, (iq (a0.length : Int))), (12, (iq i.1))])) (fun q i => f_lumref_least_L29 a0 kk3 q i.1 i.2 = some r) ?_ fu ((0 : Int), (0 : Int)) h) (fun w a hm hs => norm hm hs [0] [0] [(0, v0_0), (2, (pq g1)), (4, (iq (0 : Int))), (10, v0_0), (11, (iq (a0.length : Int))), (12, (iq (0 : Int)))] (by decide) ⟨rfl, rfl, rfl, rfl, rfl, rfl, trivial⟩)
  clear h
  rintro k28 ⟨l27i12, l27i4⟩ h
  have h : f_lumref_least_L29 a0 kk3 k28 l27i12 l27i4 = some r := h
  obtain _ | k28 := k28
  · rw [f_lumref_least_L29] at h; cases h
  rw [f_lumref_least_L29] at h
  refine aw_show (m := (memOf w0 Z0 [] [(oBox g1 204 [(iq (0 : Int)), nS])] [(fDat (tyList tyS_lumref_bunch) [v0_0] a0)])) (S := (tab [(0, v0_0), (2, (pq g1)), (4, (iq l27i4)), (10, v0_0), (11, (iq (a0.length : Int))), (12, (iq l27i12))])) ?_
  refine aw_sr ?_
  refine al_in rfl rfl rfl rfl ?_
  refine al_nt ?_
  refine aw_seq ?_
  refine aw_cond rfl (fun hb30 => ?_) (fun hb30 => ?_)
  ·replace h := bif_t hb30 h
   refine aw_skip ?_
   refine aq_then ?_
   obtain ⟨kk32, hkk32, h⟩ := lt_some h
   refine aw_seq_join (ι := Int) (fun i => (memOf w0 Z0 [] [(oBox g1 204 [(iq (0 : Int)), nS])] [(fDat (tyList tyS_lumref_bunch) [v0_0] a0)])) (fun i => (tab [(0, v0_0), (2, (pq g1)), (4, (iq i)), (10, v0_0), (11, (iq (a0.length : Int))), (12, (iq l27i12))])) (fun i => kk32 i = some r) ?_ ?_
   ·rintro j31i4 h
    have h : kk32 j31i4 = some r := h
    rw [hkk32] at h
    dsimp only at h
    clear hkk32
    refine aw_show (m := (memOf w0 Z0 [] [(oBox g1 204 [(iq (0 : Int)), nS])] [(fDat (tyList tyS_lumref_bunch) [v0_0] a0)])) (S := (tab [(0, v0_0), (2, (pq g1)), (4, (iq j31i4)), (10, v0_0), (11, (iq (a0.length : Int))), (12, (iq l27i12))])) ?_
    refine aw_region ?_
    refine al_in rfl rfl rfl rfl ?_
    refine al_mv rfl rfl ?_
    refine al_nil ?_
    exact aq_again k28 ((wq (l27i12 + (1 : Int))), j31i4) (Nat.lt_succ_self _) h (fun w a hm hs => norm hm hs [0] [0] [(0, v0_0), (2, (pq g1)), (4, (iq j31i4)), (10, v0_0), (11, (iq (a0.length : Int))), (12, (iq (wq (l27i12 + (1 : Int)))))] (by decide) ⟨rfl, rfl, rfl, rfl, rfl, rfl, trivial⟩)
   ·clear hkk32
    refine aw_block ?_
    refine aw_sr ?_
    refine al_mv rfl rfl ?_
    obtain ⟨u33, hu34, h⟩ := opt_some h
    refine al_idxD 0 hu34 rfl rfl rfl Tryd.underlying202 sz204 rfl (fun p35 => ?_)
    refine al_loadPA 0 rfl rfl Tryd.underlying204 sz204 rfl rfl (fun cs37 => ?_)
    refine al_use (ι := Value) 0 rfl (fun j => cs37 = [(iq u33.weight), j]) (fun j => [(fDat (tyList tq) [j] u33.signs)]) encnS_lumref_bunch (fun s36 hq => ?_)
    subst hq
    refine al_alloc (zs := [(iq (0 : Int)), nS]) (zeroOf_to to204) rfl rfl (fun g38 => ?_)
    refine al_as rfl rfl ?_
    refine al_store (i := 0) (vs := [(iq u33.weight), s36]) (cs' := [(iq u33.weight), s36]) rfl rfl rfl sz204 (cv_rfl rfl) rfl (co_val rfl (co_fz 0 rfl co_nil)) (Nat.le_of_ble_eq_true rfl) rfl rfl ?_
    refine al_nt ?_
    obtain ⟨kk40, hkk40, h⟩ := lt_some h
    refine aw_seq_join (ι := Bool) (fun i => (memOf w0 Z0 [] [(oBox g1 204 [(iq (0 : Int)), nS])] [(fDat (tyList tyS_lumref_bunch) [v0_0] a0), (fDat (tyList tq) [s36] u33.signs), (fDat tyS_lumref_bunch [(iq u33.weight), s36] u33), (fPtr tyS_lumref_bunch p35 u33)])) (fun i => (tab [(0, v0_0), (2, (pq g1)), (4, (iq l27i4)), (5, (iq l27i12)), (10, v0_0), (11, (iq (a0.length : Int))), (12, (iq l27i12)), (48, (bool i))])) (fun i => kk40 i = some r) ?_ ?_
    ·rintro j39b48 h
     have h : kk40 j39b48 = some r := h
     rw [hkk40] at h
     dsimp only at h
     clear hkk40
     refine aw_show (m := (memOf w0 Z0 [] [(oBox g1 204 [(iq (0 : Int)), nS])] [(fDat (tyList tyS_lumref_bunch) [v0_0] a0), (fDat (tyList tq) [s36] u33.signs), (fDat tyS_lumref_bunch [(iq u33.weight), s36] u33), (fPtr tyS_lumref_bunch p35 u33)])) (S := (tab [(0, v0_0), (2, (pq g1)), (4, (iq l27i4)), (5, (iq l27i12)), (10, v0_0), (11, (iq (a0.length : Int))), (12, (iq l27i12)), (48, (bool j39b48))])) ?_
     refine aw_cond rfl (fun hb41 => ?_) (fun hb41 => ?_)
     ·replace h := bif_t hb41 h
      refine aw_region ?_
      refine al_mv rfl rfl ?_
      refine al_as rfl rfl ?_
      refine al_nil ?_
      refine aq_block ?_
      exact aq_join l27i12 h (fun w a hm hs => norm hm hs [0] [0] [(0, v0_0), (2, (pq g1)), (4, (iq l27i12)), (10, v0_0), (11, (iq (a0.length : Int))), (12, (iq l27i12))] (by decide) ⟨rfl, rfl, rfl, rfl, rfl, rfl, trivial⟩)
     ·replace h := bif_f hb41 h
      refine aw_skip ?_
      refine aq_block ?_
      exact aq_join l27i4 h (fun w a hm hs => norm hm hs [0] [0] [(0, v0_0), (2, (pq g1)), (4, (iq l27i4)), (10, v0_0), (11, (iq (a0.length : Int))), (12, (iq l27i12))] (by decide) ⟨rfl, rfl, rfl, rfl, rfl, rfl, trivial⟩)
    ·clear hkk40
     obtain ⟨u42, hu43, h⟩ := opt_some h
     rcases Bool.eq_false_or_eq_true (decide (u33.weight < u42.weight)) with hb46 | hb46
     ·replace h := bif_t hb46 h
      refine aw_region_draw 31 [(17, (fun u => fEq u (pq g38))), (18, (fun u => fEq u (iq u33.weight))), (19, (fun u => fEq u v0_0)), (20, (fun u => fEq u (iq l27i4))), (21, (fun p44 => (fPtr tyS_lumref_bunch p44 u42))), (22, (fun p45 => (fPtr tq p45 u42.weight))), (23, (fun u => fEq u (iq u42.weight))), (24, (fun u => fEq u (bool true))), (25, (fun u => fEq u (bool true))), (26, (fun u => fEq u undef)), (27, (fun u => fEq u undef)), (28, (fun u => fEq u undef)), (29, (fun u => fEq u undef)), (30, (fun u => fEq u undef)), (31, (fun u => fEq u undef)), (32, (fun u => fEq u undef)), (33, (fun u => fEq u undef)), (34, (fun u => fEq u undef)), (35, (fun u => fEq u undef)), (36, (fun u => fEq u undef)), (37, (fun u => fEq u undef)), (38, (fun u => fEq u undef)), (39, (fun u => fEq u undef)), (40, (fun u => fEq u undef)), (41, (fun u => fEq u undef)), (42, (fun u => fEq u undef)), (43, (fun u => fEq u undef)), (44, (fun u => fEq u undef)), (45, (fun u => fEq u undef)), (46, (fun u => fEq u undef)), (47, (fun u => fEq u undef))] (tab [(0, v0_0), (2, (pq g1)), (4, (iq l27i4)), (5, (iq l27i12)), (6, (pq g38)), (10, v0_0), (11, (iq (a0.length : Int))), (12, (iq l27i12))]) mixed (by kernel_rfl) rfl rfl rfl (fun a hs => hs.tab _ (allT_mem ⟨rfl, rfl, rfl, rfl, rfl, rfl, rfl, rfl, trivial⟩)) ⟨⟨rfl, ld_val (ov_fieldA (p := 0) rfl Tryd.underlying204 rfl sz3 rfl rfl rfl)⟩, ⟨rfl, ld_eq (j := 0) rfl rfl (ld_val (ov_load (i := 0) (v := (iq u33.weight)) rfl rfl Tryd.underlying3 sz3 rfl rfl rfl rfl))⟩, ⟨rfl, ld_val (ov_move rfl rfl)⟩, ⟨rfl, ld_val (ov_move rfl rfl)⟩, ⟨rfl, ld_eq (j := 2) rfl rfl (ld_eq (j := 3) rfl rfl (ld_of (of_idxD 3 hu43 rfl rfl rfl Tryd.underlying202 sz204 rfl)))⟩, ⟨rfl, ld_fact (j := 4) rfl rfl (fun p44 => ld_of (of_fieldD (pr := fun (y : S_lumref_bunch) => y.weight) 0 rfl subS_lumref_bunch_0 rfl Tryd.underlying204 rfl sz3 rfl rfl))⟩, ⟨rfl, ld_fact (j := 5) rfl rfl (fun p45 => ld_val (ov_loadP (ds := [(iq u42.weight)]) 0 rfl (fun h => h) rfl Tryd.underlying3 sz3 rfl rfl rfl))⟩, ⟨rfl, ld_eq (j := 1) rfl rfl (ld_eq (j := 6) rfl rfl (ld_val (ov_cast (by first | rw [hb46] | rfl) (ov_int rfl rfl rfl rfl))))⟩, ⟨rfl, ld_eq (j := 7) rfl rfl (ld_val (ov_cast (by first | rw [hb46] | rfl) (ov_move rfl rfl)))⟩, ⟨rfl, ld_eq (j := 8) rfl rfl (ld_skip)⟩, ⟨rfl, ld_eq (j := 8) rfl rfl (ld_skip)⟩, ⟨rfl, ld_eq (j := 8) rfl rfl (ld_skip)⟩, ⟨rfl, ld_eq (j := 8) rfl rfl (ld_skip)⟩, ⟨rfl, ld_eq (j := 8) rfl rfl (ld_skip)⟩, ⟨rfl, ld_eq (j := 8) rfl rfl (ld_skip)⟩, ⟨rfl, ld_eq (j := 8) rfl rfl (ld_skip)⟩, ⟨rfl, ld_eq (j := 8) rfl rfl (ld_skip)⟩, ⟨rfl, ld_eq (j := 8) rfl rfl (ld_skip)⟩, ⟨rfl, ld_eq (j := 17) rfl rfl (ld_skip)⟩, ⟨rfl, ld_eq (j := 17) rfl rfl (ld_skip)⟩, ⟨rfl, ld_eq (j := 17) rfl rfl (ld_skip)⟩, ⟨rfl, ld_eq (j := 17) rfl rfl (ld_skip)⟩, ⟨rfl, ld_eq (j := 17) rfl rfl (ld_skip)⟩, ⟨rfl, ld_eq (j := 17) rfl rfl (ld_skip)⟩, ⟨rfl, ld_eq (j := 17) rfl rfl (ld_skip)⟩, ⟨rfl, ld_eq (j := 17) rfl rfl (ld_skip)⟩, ⟨rfl, ld_eq (j := 17) rfl rfl (ld_skip)⟩, ⟨rfl, ld_eq (j := 17) rfl rfl (ld_skip)⟩, ⟨rfl, ld_eq (j := 17) rfl rfl (ld_skip)⟩, ⟨rfl, ld_eq (j := 17) rfl rfl (ld_skip)⟩, ⟨rfl, ld_eq (j := 8) rfl rfl (ld_skip)⟩, trivial⟩ ?_
      refine tl_eq 8 rfl ?_
      refine tl_eq 30 rfl ?_
      refine tl_done ?_
      refine al_val (ov_pick_t rfl rfl rfl) ?_
      refine al_nil ?_
      exact aq_join true h (fun w a hm hs => norm hm hs [1] [3, 0, 1, 2] [(0, v0_0), (2, (pq g1)), (4, (iq l27i4)), (5, (iq l27i12)), (10, v0_0), (11, (iq (a0.length : Int))), (12, (iq l27i12)), (48, (bool true))] (by decide) ⟨rfl, rfl, rfl, rfl, rfl, rfl, rfl, rfl, trivial⟩)
     ·replace h := bif_f hb46 h
      obtain ⟨u47, hu48, h⟩ := opt_some h
      rcases Bool.eq_false_or_eq_true (u33.weight == u47.weight) with hb51 | hb51
      ·replace h := bif_t hb51 h
       obtain ⟨u52, hu53, h⟩ := opt_some h
       obtain ⟨u55, hu56, h⟩ := opt_some h
       obtain ⟨u60, hu61, h⟩ := opt_some h
       refine aw_region_draw 31 [(17, (fun u => fEq u (pq g38))), (18, (fun u => fEq u (iq u33.weight))), (19, (fun u => fEq u v0_0)), (20, (fun u => fEq u (iq l27i4))), (21, (fun p44 => (fPtr tyS_lumref_bunch p44 u42))), (22, (fun p45 => (fPtr tq p45 u42.weight))), (23, (fun u => fEq u (iq u42.weight))), (24, (fun u => fEq u (bool false))), (25, (fun u => fEq u (bool false))), (26, (fun u => fEq u (pq g38))), (27, (fun u => fEq u (iq u33.weight))), (28, (fun u => fEq u v0_0)), (29, (fun u => fEq u (iq l27i4))), (30, (fun p49 => (fPtr tyS_lumref_bunch p49 u47))), (31, (fun p50 => (fPtr tq p50 u47.weight))), (32, (fun u => fEq u (iq u47.weight))), (33, (fun u => fEq u (bool true))), (34, (fun u => fEq u (bool true))), (35, (fun u => fEq u (ptr g38 1))), (36, (fun u => fEq u s36)), (37, (fun p54 => (fPtr tq p54 u52))), (38, (fun u => fEq u (iq u52))), (39, (fun u => fEq u v0_0)), (40, (fun u => fEq u (iq l27i4))), (41, (fun p57 => (fPtr tyS_lumref_bunch p57 u55))), (42, (fun p58 => (fPtr (tyList tq) p58 u55.signs))), (43, (fun s59 => (fDat (tyList tq) [s59] u55.signs))), (44, (fun p62 => (fPtr tq p62 u60))), (45, (fun u => fEq u (iq u60))), (46, (fun u => fEq u (bool (decide (u52 < u60))))), (47, (fun u => fEq u (bool (decide (u52 < u60)))))] (tab [(0, v0_0), (2, (pq g1)), (4, (iq l27i4)), (5, (iq l27i12)), (6, (pq g38)), (10, v0_0), (11, (iq (a0.length : Int))), (12, (iq l27i12))]) mixed (by kernel_rfl) rfl rfl rfl (fun a hs => hs.tab _ (allT_mem ⟨rfl, rfl, rfl, rfl, rfl, rfl, rfl, rfl, trivial⟩)) ⟨⟨rfl, ld_val (ov_fieldA (p := 0) rfl Tryd.underlying204 rfl sz3 rfl rfl rfl)⟩, ⟨rfl, ld_eq (j := 0) rfl rfl (ld_val (ov_load (i := 0) (v := (iq u33.weight)) rfl rfl Tryd.underlying3 sz3 rfl rfl rfl rfl))⟩, ⟨rfl, ld_val (ov_move rfl rfl)⟩, ⟨rfl, ld_val (ov_move rfl rfl)⟩, ⟨rfl, ld_eq (j := 2) rfl rfl (ld_eq (j := 3) rfl rfl (ld_of (of_idxD 3 hu43 rfl rfl rfl Tryd.underlying202 sz204 rfl)))⟩, ⟨rfl, ld_fact (j := 4) rfl rfl (fun p44 => ld_of (of_fieldD (pr := fun (y : S_lumref_bunch) => y.weight) 0 rfl subS_lumref_bunch_0 rfl Tryd.underlying204 rfl sz3 rfl rfl))⟩, ⟨rfl, ld_fact (j := 5) rfl rfl (fun p45 => ld_val (ov_loadP (ds := [(iq u42.weight)]) 0 rfl (fun h => h) rfl Tryd.underlying3 sz3 rfl rfl rfl))⟩, ⟨rfl, ld_eq (j := 1) rfl rfl (ld_eq (j := 6) rfl rfl (ld_val (ov_cast (by first | rw [hb46] | rfl) (ov_int rfl rfl rfl rfl))))⟩, ⟨rfl, ld_eq (j := 7) rfl rfl (ld_val (ov_cast (by first | rw [hb46] | rfl) (ov_move rfl rfl)))⟩, ⟨rfl, ld_eq (j := 8) rfl rfl (ld_val (ov_fieldA (p := 0) rfl Tryd.underlying204 rfl sz3 rfl rfl rfl))⟩, ⟨rfl, ld_eq (j := 8) rfl rfl (ld_eq (j := 9) rfl rfl (ld_val (ov_load (i := 0) (v := (iq u33.weight)) rfl rfl Tryd.underlying3 sz3 rfl rfl rfl rfl)))⟩, ⟨rfl, ld_eq (j := 8) rfl rfl (ld_val (ov_move rfl rfl))⟩, ⟨rfl, ld_eq (j := 8) rfl rfl (ld_val (ov_move rfl rfl))⟩, ⟨rfl, ld_eq (j := 8) rfl rfl (ld_eq (j := 11) rfl rfl (ld_eq (j := 12) rfl rfl (ld_of (of_idxD 3 hu48 rfl rfl rfl Tryd.underlying202 sz204 rfl))))⟩, ⟨rfl, ld_eq (j := 8) rfl rfl (ld_fact (j := 13) rfl rfl (fun p49 => ld_of (of_fieldD (pr := fun (y : S_lumref_bunch) => y.weight) 0 rfl subS_lumref_bunch_0 rfl Tryd.underlying204 rfl sz3 rfl rfl)))⟩, ⟨rfl, ld_eq (j := 8) rfl rfl (ld_fact (j := 14) rfl rfl (fun p50 => ld_val (ov_loadP (ds := [(iq u47.weight)]) 0 rfl (fun h => h) rfl Tryd.underlying3 sz3 rfl rfl rfl)))⟩, ⟨rfl, ld_eq (j := 8) rfl rfl (ld_eq (j := 10) rfl rfl (ld_eq (j := 15) rfl rfl (ld_val (ov_cast (by first | rw [hb51] | rfl) (ov_int rfl rfl rfl rfl)))))⟩, ⟨rfl, ld_eq (j := 8) rfl rfl (ld_eq (j := 16) rfl rfl (ld_val (ov_cast (by first | rw [hb51] | rfl) (ov_move rfl rfl))))⟩, ⟨rfl, ld_eq (j := 17) rfl rfl (ld_val (ov_fieldA (p := 1) rfl Tryd.underlying204 rfl sz71 rfl rfl rfl))⟩, ⟨rfl, ld_eq (j := 17) rfl rfl (ld_eq (j := 18) rfl rfl (ld_val (ov_load (i := 0) (v := s36) rfl rfl Tryd.underlying71 sz71 rfl rfl rfl rfl)))⟩, ⟨rfl, ld_eq (j := 17) rfl rfl (ld_eq (j := 19) rfl rfl (ld_of (of_idxD 0 hu53 rfl rfl rfl Tryd.underlying71 sz3 rfl)))⟩, ⟨rfl, ld_eq (j := 17) rfl rfl (ld_fact (j := 20) rfl rfl (fun p54 => ld_val (ov_loadP (ds := [(iq u52)]) 0 rfl (fun h => h) rfl Tryd.underlying3 sz3 rfl rfl rfl)))⟩, ⟨rfl, ld_eq (j := 17) rfl rfl (ld_val (ov_move rfl rfl))⟩, ⟨rfl, ld_eq (j := 17) rfl rfl (ld_val (ov_move rfl rfl))⟩, ⟨rfl, ld_eq (j := 17) rfl rfl (ld_eq (j := 22) rfl rfl (ld_eq (j := 23) rfl rfl (ld_of (of_idxD 3 hu56 rfl rfl rfl Tryd.underlying202 sz204 rfl))))⟩, ⟨rfl, ld_eq (j := 17) rfl rfl (ld_fact (j := 24) rfl rfl (fun p57 => ld_of (of_fieldD (pr := fun (y : S_lumref_bunch) => y.signs) 0 rfl subS_lumref_bunch_1 rfl Tryd.underlying204 rfl sz71 rfl rfl)))⟩, ⟨rfl, ld_eq (j := 17) rfl rfl (ld_fact (j := 25) rfl rfl (fun p58 => ld_of (of_loadP1 0 rfl rfl Tryd.underlying71 sz71 rfl rfl rfl)))⟩, ⟨rfl, ld_eq (j := 17) rfl rfl (ld_fact (j := 26) rfl rfl (fun s59 => ld_of (of_idxD 0 hu61 rfl rfl rfl Tryd.underlying71 sz3 rfl)))⟩, ⟨rfl, ld_eq (j := 17) rfl rfl (ld_fact (j := 27) rfl rfl (fun p62 => ld_val (ov_loadP (ds := [(iq u60)]) 0 rfl (fun h => h) rfl Tryd.underlying3 sz3 rfl rfl rfl)))⟩, ⟨rfl, ld_eq (j := 17) rfl rfl (ld_eq (j := 21) rfl rfl (ld_eq (j := 28) rfl rfl (ld_val (ov_int rfl rfl rfl rfl))))⟩, ⟨rfl, ld_eq (j := 8) rfl rfl (ld_eq (j := 17) rfl rfl (ld_eq (j := 29) rfl rfl (ld_val (ov_pick_t rfl rfl rfl))))⟩, trivial⟩ ?_
       refine tl_eq 8 rfl ?_
       refine tl_eq 30 rfl ?_
       refine tl_done ?_
       refine al_val (ov_pick_f rfl rfl rfl) ?_
       refine al_nil ?_
       exact aq_join (decide (u52 < u60)) h (fun w a hm hs => norm hm hs [1] [3, 0, 1, 2] [(0, v0_0), (2, (pq g1)), (4, (iq l27i4)), (5, (iq l27i12)), (10, v0_0), (11, (iq (a0.length : Int))), (12, (iq l27i12)), (48, (bool (decide (u52 < u60))))] (by decide) ⟨rfl, rfl, rfl, rfl, rfl, rfl, rfl, rfl, trivial⟩)
      ·replace h := bif_f hb51 h
       refine aw_region_draw 31 [(17, (fun u => fEq u (pq g38))), (18, (fun u => fEq u (iq u33.weight))), (19, (fun u => fEq u v0_0)), (20, (fun u => fEq u (iq l27i4))), (21, (fun p44 => (fPtr tyS_lumref_bunch p44 u42))), (22, (fun p45 => (fPtr tq p45 u42.weight))), (23, (fun u => fEq u (iq u42.weight))), (24, (fun u => fEq u (bool false))), (25, (fun u => fEq u (bool false))), (26, (fun u => fEq u (pq g38))), (27, (fun u => fEq u (iq u33.weight))), (28, (fun u => fEq u v0_0)), (29, (fun u => fEq u (iq l27i4))), (30, (fun p49 => (fPtr tyS_lumref_bunch p49 u47))), (31, (fun p50 => (fPtr tq p50 u47.weight))), (32, (fun u => fEq u (iq u47.weight))), (33, (fun u => fEq u (bool false))), (34, (fun u => fEq u (bool false))), (35, (fun u => fEq u undef)), (36, (fun u => fEq u undef)), (37, (fun u => fEq u undef)), (38, (fun u => fEq u undef)), (39, (fun u => fEq u undef)), (40, (fun u => fEq u undef)), (41, (fun u => fEq u undef)), (42, (fun u => fEq u undef)), (43, (fun u => fEq u undef)), (44, (fun u => fEq u undef)), (45, (fun u => fEq u undef)), (46, (fun u => fEq u undef)), (47, (fun u => fEq u (bool false)))] (tab [(0, v0_0), (2, (pq g1)), (4, (iq l27i4)), (5, (iq l27i12)), (6, (pq g38)), (10, v0_0), (11, (iq (a0.length : Int))), (12, (iq l27i12))]) mixed (by kernel_rfl) rfl rfl rfl (fun a hs => hs.tab _ (allT_mem ⟨rfl, rfl, rfl, rfl, rfl, rfl, rfl, rfl, trivial⟩)) ⟨⟨rfl, ld_val (ov_fieldA (p := 0) rfl Tryd.underlying204 rfl sz3 rfl rfl rfl)⟩, ⟨rfl, ld_eq (j := 0) rfl rfl (ld_val (ov_load (i := 0) (v := (iq u33.weight)) rfl rfl Tryd.underlying3 sz3 rfl rfl rfl rfl))⟩, ⟨rfl, ld_val (ov_move rfl rfl)⟩, ⟨rfl, ld_val (ov_move rfl rfl)⟩, ⟨rfl, ld_eq (j := 2) rfl rfl (ld_eq (j := 3) rfl rfl (ld_of (of_idxD 3 hu43 rfl rfl rfl Tryd.underlying202 sz204 rfl)))⟩, ⟨rfl, ld_fact (j := 4) rfl rfl (fun p44 => ld_of (of_fieldD (pr := fun (y : S_lumref_bunch) => y.weight) 0 rfl subS_lumref_bunch_0 rfl Tryd.underlying204 rfl sz3 rfl rfl))⟩, ⟨rfl, ld_fact (j := 5) rfl rfl (fun p45 => ld_val (ov_loadP (ds := [(iq u42.weight)]) 0 rfl (fun h => h) rfl Tryd.underlying3 sz3 rfl rfl rfl))⟩, ⟨rfl, ld_eq (j := 1) rfl rfl (ld_eq (j := 6) rfl rfl (ld_val (ov_cast (by first | rw [hb46] | rfl) (ov_int rfl rfl rfl rfl))))⟩, ⟨rfl, ld_eq (j := 7) rfl rfl (ld_val (ov_cast (by first | rw [hb46] | rfl) (ov_move rfl rfl)))⟩, ⟨rfl, ld_eq (j := 8) rfl rfl (ld_val (ov_fieldA (p := 0) rfl Tryd.underlying204 rfl sz3 rfl rfl rfl))⟩, ⟨rfl, ld_eq (j := 8) rfl rfl (ld_eq (j := 9) rfl rfl (ld_val (ov_load (i := 0) (v := (iq u33.weight)) rfl rfl Tryd.underlying3 sz3 rfl rfl rfl rfl)))⟩, ⟨rfl, ld_eq (j := 8) rfl rfl (ld_val (ov_move rfl rfl))⟩, ⟨rfl, ld_eq (j := 8) rfl rfl (ld_val (ov_move rfl rfl))⟩, ⟨rfl, ld_eq (j := 8) rfl rfl (ld_eq (j := 11) rfl rfl (ld_eq (j := 12) rfl rfl (ld_of (of_idxD 3 hu48 rfl rfl rfl Tryd.underlying202 sz204 rfl))))⟩, ⟨rfl, ld_eq (j := 8) rfl rfl (ld_fact (j := 13) rfl rfl (fun p49 => ld_of (of_fieldD (pr := fun (y : S_lumref_bunch) => y.weight) 0 rfl subS_lumref_bunch_0 rfl Tryd.underlying204 rfl sz3 rfl rfl)))⟩, ⟨rfl, ld_eq (j := 8) rfl rfl (ld_fact (j := 14) rfl rfl (fun p50 => ld_val (ov_loadP (ds := [(iq u47.weight)]) 0 rfl (fun h => h) rfl Tryd.underlying3 sz3 rfl rfl rfl)))⟩, ⟨rfl, ld_eq (j := 8) rfl rfl (ld_eq (j := 10) rfl rfl (ld_eq (j := 15) rfl rfl (ld_val (ov_cast (by first | rw [hb51] | rfl) (ov_int rfl rfl rfl rfl)))))⟩, ⟨rfl, ld_eq (j := 8) rfl rfl (ld_eq (j := 16) rfl rfl (ld_val (ov_cast (by first | rw [hb51] | rfl) (ov_move rfl rfl))))⟩, ⟨rfl, ld_eq (j := 17) rfl rfl (ld_skip)⟩, ⟨rfl, ld_eq (j := 17) rfl rfl (ld_skip)⟩, ⟨rfl, ld_eq (j := 17) rfl rfl (ld_skip)⟩, ⟨rfl, ld_eq (j := 17) rfl rfl (ld_skip)⟩, ⟨rfl, ld_eq (j := 17) rfl rfl (ld_skip)⟩, ⟨rfl, ld_eq (j := 17) rfl rfl (ld_skip)⟩, ⟨rfl, ld_eq (j := 17) rfl rfl (ld_skip)⟩, ⟨rfl, ld_eq (j := 17) rfl rfl (ld_skip)⟩, ⟨rfl, ld_eq (j := 17) rfl rfl (ld_skip)⟩, ⟨rfl, ld_eq (j := 17) rfl rfl (ld_skip)⟩, ⟨rfl, ld_eq (j := 17) rfl rfl (ld_skip)⟩, ⟨rfl, ld_eq (j := 17) rfl rfl (ld_skip)⟩, ⟨rfl, ld_eq (j := 8) rfl rfl (ld_eq (j := 17) rfl rfl (ld_eq (j := 29) rfl rfl (ld_val (ov_pick_f rfl rfl rfl))))⟩, trivial⟩ ?_
       refine tl_eq 8 rfl ?_
       refine tl_eq 30 rfl ?_
       refine tl_done ?_
       refine al_val (ov_pick_f rfl rfl rfl) ?_
       refine al_nil ?_
       exact aq_join false h (fun w a hm hs => norm hm hs [1] [3, 0, 1, 2] [(0, v0_0), (2, (pq g1)), (4, (iq l27i4)), (5, (iq l27i12)), (10, v0_0), (11, (iq (a0.length : Int))), (12, (iq l27i12)), (48, (bool false))] (by decide) ⟨rfl, rfl, rfl, rfl, rfl, rfl, rfl, rfl, trivial⟩)
  ·replace h := bif_f hb30 h
   refine aw_exit ?_
   refine aq_then_exit ?_
   refine aq_then_exit ?_
   refine aq_block_exit ?_
   exact aq_join l27i4 h (fun w a hm hs => norm hm hs [0] [0] [(0, v0_0), (2, (pq g1)), (4, (iq l27i4))] (by decide) ⟨rfl, rfl, rfl, trivial⟩)
def f_lumref_has_L5 (a0 : (List Int)) (a1 : Int) (kk2 : (Unit → Option Bool)) : Nat → Int → Option Bool
  | 0, _ => none
  | k4 + 1, l3i9 => (bif (decide (l3i9 < (a0.length : Int))) then (opt (at? a0 l3i9) fun (u7 : Int) => (bif (u7 == a1) then (some true) else (f_lumref_has_L5 a0 a1 kk2 k4 (IntKind.i64.wrap (l3i9 + (1 : Int)))))) else (kk2 ()))
def f_lumref_has (fu : Nat) (a0 : (List Int)) (a1 : Int) : Option Bool := (lt (fun (_ : Unit) => (some false)) fun (kk2 : Unit → Option Bool) => (f_lumref_has_L5 a0 a1 kk2 fu (0 : Int)))
set_option maxHeartbeats 2000000 in
set_option maxRecDepth 100000 in
theorem f_lumref_has_ok (fu : Nat) (v0_0 : Value) (a0 : (List Int)) (a1 : Int) {r : Bool} (h : f_lumref_has fu a0 a1 = some r) : FnOk Tryd.prog 149 [v0_0, (int .i64 a1)] [(fDat (tyList (tyInt .i64)) [v0_0] a0)] [] (fun (i : Unit) => { val := (bool r) }) := by
 unfold f_lumref_has at h
 refine fn_enter Tryd.func149 rfl Tryd.ntmps149 rfl (fun w0 Z0 => ?_)
 refine aw_sr ?_
 refine al_as rfl rfl ?_
 refine al_nt ?_
 obtain ⟨kk2, hkk2, h⟩ := lt_some h
 refine aw_seq_join (ι := Unit) (fun i => (memOf w0 Z0 [] [] [(fDat (tyList tq) [v0_0] a0)])) (fun i => (tab [])) (fun i => kk2 () = some r) ?_ ?_
 ·rintro _ h
  have h : kk2 () = some r := h
  rw [hkk2] at h
  dsimp only at h
  clear hkk2
  refine aw_show (m := (memOf w0 Z0 [] [] [(fDat (tyList tq) [v0_0] a0)])) (S := (tab [])) ?_
  refine aw_sr ?_
  refine al_as rfl rfl ?_
  refine al_nt ?_
  refine aw_ret ?_
  obtain rfl := Option.some.inj h
  exact fn_ret () [] [] rfl rfl rfl rfl (res1 rfl rfl) rfl rfl rfl (by decide)
 ·clear hkk2
  refine aw_sr ?_
  refine al_mv rfl rfl ?_
  refine al_val (ov_lenD 0 rfl rfl Tryd.underlying71 rfl) ?_
  refine al_mv rfl rfl ?_
  refine al_nt ?_
  refine aw_block ?_
  refine aw_state (aw_loop (ι := Int) (fun i => (memOf w0 Z0 [] [] [(fDat (tyList tq) [v0_0] a0)])) (fun i => (tab [(1, (iq a1)), (7, v0_0), (8, (iq (a0.length : Int))), (9, (iq i))])) (fun q i => f_lumref_has_L5 a0 a1 kk2 q i = some r) ?_ fu (0 : Int) h) (fun w a hm hs => norm hm hs [] [0] [(1, (iq a1)), (7, v0_0), (8, (iq (a0.length : Int))), (9, (iq (0 : Int)))] (by decide) ⟨rfl, rfl, rfl, rfl, trivial⟩)
  clear h
  rintro k4 l3i9 h
  have h : f_lumref_has_L5 a0 a1 kk2 k4 l3i9 = some r := h
  obtain _ | k4 := k4
  · rw [f_lumref_has_L5] at h; cases h
  rw [f_lumref_has_L5] at h
  refine aw_show (m := (memOf w0 Z0 [] [] [(fDat (tyList tq) [v0_0] a0)])) (S := (tab [(1, (iq a1)), (7, v0_0), (8, (iq (a0.length : Int))), (9, (iq l3i9))])) ?_
  refine aw_sr ?_
  refine al_in rfl rfl rfl rfl ?_
  refine al_nt ?_
  refine aw_seq ?_
  refine aw_cond rfl (fun hb6 => ?_) (fun hb6 => ?_)
  ·replace h := bif_t hb6 h
   refine aw_skip ?_
   refine aq_then ?_
   refine aw_seq ?_
   refine aw_block ?_
   refine aw_sr ?_
   obtain ⟨u7, hu8, h⟩ := opt_some h
   refine al_idxD 0 hu8 rfl rfl rfl Tryd.underlying71 sz3 rfl (fun p9 => ?_)
   refine al_val (ov_loadP (ds := [(iq u7)]) 0 rfl (fun h => h) rfl Tryd.underlying3 sz3 rfl rfl rfl) ?_
   refine al_as rfl rfl ?_
   refine al_nt ?_
   refine aw_sr ?_
   refine al_mv rfl rfl ?_
   refine al_mv rfl rfl ?_
   refine al_in rfl rfl rfl rfl ?_
   refine al_nt ?_
   refine aw_cond rfl (fun hb10 => ?_) (fun hb10 => ?_)
   ·replace h := bif_t hb10 h
    refine aw_sr ?_
    refine al_as rfl rfl ?_
    refine al_nt ?_
    refine aw_ret ?_
    refine aq_block_ret ?_
    refine aq_then_ret ?_
    refine aq_then_ret ?_
    refine aq_block_ret ?_
    refine aq_then_ret ?_
    obtain rfl := Option.some.inj h
    exact fn_ret () [] [] rfl rfl rfl rfl (res1 rfl rfl) rfl rfl rfl (by decide)
   ·replace h := bif_f hb10 h
    refine aw_skip ?_
    refine aq_block ?_
    refine aq_then ?_
    refine aw_region ?_
    refine al_in rfl rfl rfl rfl ?_
    refine al_mv rfl rfl ?_
    refine al_nil ?_
    exact aq_again k4 (wq (l3i9 + (1 : Int))) (Nat.lt_succ_self _) h (fun w a hm hs => norm hm hs [] [1] [(1, (iq a1)), (7, v0_0), (8, (iq (a0.length : Int))), (9, (iq (wq (l3i9 + (1 : Int)))))] (by decide) ⟨rfl, rfl, rfl, rfl, trivial⟩)
  ·replace h := bif_f hb6 h
   refine aw_exit ?_
   refine aq_then_exit ?_
   refine aq_then_exit ?_
   refine aq_block_exit ?_
   exact aq_join () h (fun w a hm hs => norm hm hs [] [0] [] (by decide) trivial)
def f_lumref_Lengths_L35 (a0 : (List Int)) (r20 : (S_lumref_bunch × (List S_lumref_bunch))) (r24 : (S_lumref_bunch × (List S_lumref_bunch))) (kk29 : ((List Int) → (List Int) → Option ((List Int) × Int))) (fu : Nat) : Nat → (List Int) → (List Int) → Int → Option ((List Int) × Int)
  | 0, _, _, _ => none
  | k34 + 1, l33x7, l33x10_1, l33i78 => (bif (decide (l33i78 < (a0.length : Int))) then (lt (fun (j37x7 : (List Int)) (j37x10_1 : (List Int)) => (f_lumref_Lengths_L35 a0 r20 r24 kk29 fu k34 j37x7 j37x10_1 (IntKind.i64.wrap (l33i78 + (1 : Int))))) fun (kk38 : (List Int) → (List Int) → Option ((List Int) × Int)) => (lt (fun (j39b90 : Bool) => (bif j39b90 then (req (((l33x10_1.length + ([l33i78]).length) * 8 : Nat) ≤ 140737488355328 ∧ l33x10_1.length + ([l33i78]).length ≤ 9223372036854775807) (opt (at? l33x7 l33i78) fun (u45 : Int) => (opt (at? l33x7 l33i78) fun (u49 : Int) => (kk38 (l33x7.set (l33i78).toNat (IntKind.i64.wrap (u45 + (1 : Int)))) (l33x10_1 ++ ([l33i78])))))) else (kk38 l33x7 l33x10_1))) fun (kk40 : Bool → Option ((List Int) × Int)) => (opt (f_lumref_has fu r20.1.signs l33i78) fun (r54 : Bool) => (bif r54 then (kk40 true) else (opt (f_lumref_has fu r24.1.signs l33i78) fun (r57 : Bool) => (kk40 r57)))))) else (kk29 l33x7 l33x10_1))
def f_lumref_Lengths_L14 (a0 : (List Int)) (kk11 : ((List Int) → Option ((List Int) × Int))) (fu : Nat) : Nat → (List S_lumref_bunch) → (List Int) → Option ((List Int) × Int)
  | 0, _, _ => none
  | k13 + 1, l12x4, l12x7 => (lt (fun (l12x4 : (List S_lumref_bunch)) (l12x7 : (List Int)) => (f_lumref_Lengths_L14 a0 kk11 fu k13 l12x4 l12x7)) fun (kk15 : (List S_lumref_bunch) → (List Int) → Option ((List Int) × Int)) => (bif (decide ((l12x4.length : Int) > (1 : Int))) then (opt (f_lumref_least fu l12x4) fun (r20 : (S_lumref_bunch × (List S_lumref_bunch))) => (opt (f_lumref_least fu r20.2) fun (r24 : (S_lumref_bunch × (List S_lumref_bunch))) => (lt (fun (j28x7 : (List Int)) (j28x10_1 : (List Int)) => (req (((r24.2.length + ([(S_lumref_bunch.mk (IntKind.i64.wrap (r20.1.weight + r24.1.weight)) j28x10_1)]).length) * 32 : Nat) ≤ 140737488355328 ∧ r24.2.length + ([(S_lumref_bunch.mk (IntKind.i64.wrap (r20.1.weight + r24.1.weight)) j28x10_1)]).length ≤ 9223372036854775807) (kk15 (r24.2 ++ ([(S_lumref_bunch.mk (IntKind.i64.wrap (r20.1.weight + r24.1.weight)) j28x10_1)])) j28x7))) fun (kk29 : (List Int) → (List Int) → Option ((List Int) × Int)) => (f_lumref_Lengths_L35 a0 r20 r24 kk29 fu fu l12x7 ([] : List Int) (0 : Int))))) else (kk11 l12x7)))
def f_lumref_Lengths_L75 (a0 : (List Int)) (kk5 : ((List S_lumref_bunch) → Option ((List Int) × Int))) : Nat → (List S_lumref_bunch) → Int → Option ((List Int) × Int)
  | 0, _, _ => none
  | k74 + 1, l73x4, l73i22 => (bif (decide (l73i22 < (a0.length : Int))) then (lt (fun (j77x4 : (List S_lumref_bunch)) => (f_lumref_Lengths_L75 a0 kk5 k74 j77x4 (IntKind.i64.wrap (l73i22 + (1 : Int))))) fun (kk78 : (List S_lumref_bunch) → Option ((List Int) × Int)) => (opt (at? a0 l73i22) fun (u79 : Int) => (lt (fun (j82b32 : Bool) => (bif j82b32 then (some (([] : List Int), (1 : Int))) else (bif (decide (u79 > (0 : Int))) then (req (((l73x4.length + ([(S_lumref_bunch.mk u79 ([l73i22]))]).length) * 32 : Nat) ≤ 140737488355328 ∧ l73x4.length + ([(S_lumref_bunch.mk u79 ([l73i22]))]).length ≤ 9223372036854775807) (kk78 (l73x4 ++ ([(S_lumref_bunch.mk u79 ([l73i22]))])))) else (kk78 l73x4)))) fun (kk83 : Bool → Option ((List Int) × Int)) => (bif (decide (u79 < (0 : Int))) then (kk83 true) else (kk83 (decide (u79 > (1048576 : Int)))))))) else (kk5 l73x4))
def f_lumref_Lengths (fu : Nat) (a0 : (List Int)) : Option ((List Int) × Int) := (lt (fun (j1b19 : Bool) => (bif j1b19 then (some (([] : List Int), (1 : Int))) else (lt (fun (j4x4 : (List S_lumref_bunch)) => (req (0 ≤ (a0.length : Int) ∧ 8 * (a0.length : Int) ≤ 281474976710656 ∧ (a0.length : Int) ≤ 9223372036854775807) (lt (fun (j8x7 : (List Int)) => (lt (fun (j10x7 : (List Int)) => (some (j10x7, (0 : Int)))) fun (kk11 : (List Int) → Option ((List Int) × Int)) => (f_lumref_Lengths_L14 a0 kk11 fu fu j4x4 j8x7))) fun (kk9 : (List Int) → Option ((List Int) × Int)) => (bif ((j4x4.length : Int) == (1 : Int)) then (opt (at? j4x4 (0 : Int)) fun (u59 : S_lumref_bunch) => (opt (at? u59.signs (0 : Int)) fun (u66 : Int) => (opt (at? (List.replicate ((a0.length : Int)).toNat 0) u66) fun (u69 : Int) => (kk9 ((List.replicate ((a0.length : Int)).toNat 0).set (u66).toNat (1 : Int)))))) else (kk9 (List.replicate ((a0.length : Int)).toNat 0)))))) fun (kk5 : (List S_lumref_bunch) → Option ((List Int) × Int)) => (f_lumref_Lengths_L75 a0 kk5 fu ([] : List S_lumref_bunch) (0 : Int))))) fun (kk2 : Bool → Option ((List Int) × Int)) => (bif ((a0.length : Int) == (0 : Int)) then (kk2 true) else (kk2 (decide ((a0.length : Int) > (256 : Int))))))
set_option maxRecDepth 100000 in
set_option maxHeartbeats 2000000 in
set_option maxHeartbeats 2000000 in
theorem f_lumref_Lengths_ok (fu : Nat) (v0_0 : Value) (a0 : (List Int)) {r : ((List Int) × Int)} (h : f_lumref_Lengths fu a0 = some r) : FnOk Tryd.prog 97 [v0_0] [(fDat (tyList (tyInt .i64)) [v0_0] a0)] [] (fun (i : Value) => { val := (Value.tuple #[i, (int .i64 r.2)]), own := [(oRow i 3 (tyInt .i64) r.1)] }) := by
 unfold f_lumref_Lengths at h
 refine fn_enter Tryd.func97 rfl Tryd.ntmps97 rfl (fun w0 Z0 => ?_)
 refine aw_sr ?_
 refine al_as rfl rfl ?_
 refine al_as rfl rfl ?_
 refine al_nt ?_
 refine aw_seq ?_
 obtain ⟨kk2, hkk2, h⟩ := lt_some h
 refine aw_seq_join (ι := Bool) (fun i => (memOf w0 Z0 [] [] [(fDat (tyList tq) [v0_0] a0)])) (fun i => (tab [(0, v0_0), (19, (bool i))])) (fun i => kk2 i = some r) ?_ ?_
 ·rintro j1b19 h
  have h : kk2 j1b19 = some r := h
  rw [hkk2] at h
  dsimp only at h
  clear hkk2
  refine aw_show (m := (memOf w0 Z0 [] [] [(fDat (tyList tq) [v0_0] a0)])) (S := (tab [(0, v0_0), (19, (bool j1b19))])) ?_
  refine aw_cond rfl (fun hb3 => ?_) (fun hb3 => ?_)
  ·replace h := bif_t hb3 h
   refine aw_sr ?_
   refine al_as rfl rfl ?_
   refine al_as rfl rfl ?_
   refine al_nt ?_
   refine aw_ret ?_
   refine aq_then_ret ?_
   refine aq_nilR 3 tq ?_
   obtain rfl := Option.some.inj h
   exact fn_ret nS [0] [] rfl rfl rfl rfl (res2 rfl rfl rfl) rfl rfl rfl (by decide)
  ·replace h := bif_f hb3 h
   refine aw_skip ?_
   refine aq_tr ?_
   refine al_as rfl rfl ?_
   refine al_nt ?_
   obtain ⟨kk5, hkk5, h⟩ := lt_some h
   refine aw_seq_join (ι := Value × (List S_lumref_bunch)) (fun i => (memOf w0 Z0 [] [(oRow i.1 204 tyS_lumref_bunch i.2)] [(fDat (tyList tq) [v0_0] a0)])) (fun i => (tab [(0, v0_0), (4, i.1)])) (fun i => kk5 i.2 = some r) ?_ ?_
   ·rintro ⟨j4v4, j4x4⟩ h
    have h : kk5 j4x4 = some r := h
    rw [hkk5] at h
    dsimp only at h
    clear hkk5
    refine aw_show (m := (memOf w0 Z0 [] [(oRow j4v4 204 tyS_lumref_bunch j4x4)] [(fDat (tyList tq) [v0_0] a0)])) (S := (tab [(0, v0_0), (4, j4v4)])) ?_
    refine aw_sr ?_
    refine al_mv rfl rfl ?_
    refine al_val (ov_lenD 0 rfl rfl Tryd.underlying71 rfl) ?_
    obtain ⟨hc6, h⟩ := req_some h
    refine al_make (τ := tq) (x0 := 0) hc6.1 hc6.2.1 hc6.2.2 rfl rfl Tryd.underlying71 to3 (fun _ _ => rfl) rfl rfl (fun v7 => ?_)
    refine al_as rfl rfl ?_
    refine al_nt ?_
    obtain ⟨kk9, hkk9, h⟩ := lt_some h
    refine aw_seq_join (ι := (List Int)) (fun i => (memOf w0 Z0 [] [(oRow j4v4 204 tyS_lumref_bunch j4x4), (oRow v7 3 tq i)] [(fDat (tyList tq) [v0_0] a0)])) (fun i => (tab [(0, v0_0), (4, j4v4), (7, v7)])) (fun i => kk9 i = some r) ?_ ?_
    ·rintro j8x7 h
     have h : kk9 j8x7 = some r := h
     rw [hkk9] at h
     dsimp only at h
     clear hkk9
     refine aw_show (m := (memOf w0 Z0 [] [(oRow j4v4 204 tyS_lumref_bunch j4x4), (oRow v7 3 tq j8x7)] [(fDat (tyList tq) [v0_0] a0)])) (S := (tab [(0, v0_0), (4, j4v4), (7, v7)])) ?_
     obtain ⟨kk11, hkk11, h⟩ := lt_some h
     refine aw_seq_join (ι := (List Int)) (fun i => (memOf w0 Z0 [] [(oRow v7 3 tq i)] [(fDat (tyList tq) [v0_0] a0)])) (fun i => (tab [(7, v7)])) (fun i => kk11 i = some r) ?_ ?_
     ·rintro j10x7 h
      have h : kk11 j10x7 = some r := h
      rw [hkk11] at h
      dsimp only at h
      clear hkk11
      refine aw_show (m := (memOf w0 Z0 [] [(oRow v7 3 tq j10x7)] [(fDat (tyList tq) [v0_0] a0)])) (S := (tab [(7, v7)])) ?_
      refine aw_sr ?_
      refine al_mv rfl rfl ?_
      refine al_as rfl rfl ?_
      refine al_as rfl rfl ?_
      refine al_nt ?_
      refine aw_ret ?_
      obtain rfl := Option.some.inj h
      exact fn_ret v7 [0] [] rfl rfl rfl rfl (res2 rfl rfl rfl) rfl rfl rfl (by decide)
     ·clear hkk11
      refine aw_block ?_
      refine aw_state (aw_loop (ι := Value × (List S_lumref_bunch) × (List Int)) (fun i => (memOf w0 Z0 [] [(oRow i.1 204 tyS_lumref_bunch i.2.1), (oRow v7 3 tq i.2.2)] [(fDat (tyList tq) [v0_0] a0)])) (fun i => (tab [(0, v0_0), (4, i.1), (7, v7)])) (fun q i => f_lumref_Lengths_L14 a0 kk11 fu q i.2.1 i.2.2 = some r) ?_ fu (j4v4, j4x4, j8x7) h) (fun w a hm hs => norm hm hs [0, 1] [0] [(0, v0_0), (4, j4v4), (7, v7)] (by decide) ⟨rfl, rfl, rfl, trivial⟩)
      clear h
      rintro k13 ⟨l12v4, l12x4, l12x7⟩ h
      have h : f_lumref_Lengths_L14 a0 kk11 fu k13 l12x4 l12x7 = some r := h
      obtain _ | k13 := k13
      · rw [f_lumref_Lengths_L14] at h; cases h
      rw [f_lumref_Lengths_L14] at h
      refine aw_show (m := (memOf w0 Z0 [] [(oRow l12v4 204 tyS_lumref_bunch l12x4), (oRow v7 3 tq l12x7)] [(fDat (tyList tq) [v0_0] a0)])) (S := (tab [(0, v0_0), (4, l12v4), (7, v7)])) ?_
      obtain ⟨kk15, hkk15, h⟩ := lt_some h
      refine aw_body_join (ι := Value × (List S_lumref_bunch) × (List Int)) (fun i => (memOf w0 Z0 [] [(oRow i.1 204 tyS_lumref_bunch i.2.1), (oRow v7 3 tq i.2.2)] [(fDat (tyList tq) [v0_0] a0)])) (fun i => (tab [(0, v0_0), (4, i.1), (7, v7)])) (fun i => kk15 i.2.1 i.2.2 = some r) (fun i h => aq_again k13 i (Nat.lt_succ_self _) (by rw [hkk15] at h; exact h) (fun w a hm hs => ⟨hm, hs⟩)) ?_
      clear hkk15
      refine aw_seq ?_
      refine aw_sr ?_
      refine al_mv rfl rfl ?_
      refine al_val (ov_lenR 0 rfl rfl Tryd.underlying202 rfl) ?_
      refine al_in rfl rfl rfl rfl ?_
      refine al_nt ?_
      refine aw_cond rfl (fun hb16 => ?_) (fun hb16 => ?_)
      ·replace h := bif_t hb16 h
       refine aw_skip ?_
       refine aq_then ?_
       refine aw_block ?_
       refine aw_sr ?_
       refine al_alloc (zs := [(iq (0 : Int)), nS]) (zeroOf_to to204) rfl rfl (fun g17 => ?_)
       refine al_alloc (zs := [(iq (0 : Int)), nS]) (zeroOf_to to204) rfl rfl (fun g18 => ?_)
       refine al_nt ?_
       refine aw_sr ?_
       refine al_mv rfl rfl ?_
       refine al_freeze 2 rfl rfl ?_
       obtain ⟨r20, hc19, h⟩ := opt_some h
       refine al_call (vs := [l12v4]) (f_lumref_least_ok fu l12v4 l12x4 hc19) [] [] [0, 1, 2] (pre_fz 0 rfl pre_nil) rfl (by simp) (by decide) (.inl rfl) rfl Tryd.func148 rfl rfl rfl (fun ⟨v21, v22⟩ => ?_)
       refine al_mv rfl rfl ?_
       refine al_ex rfl rfl rfl ?_
       refine al_ex rfl rfl rfl ?_
       refine al_store (i := 2) (vs := [(iq r20.1.weight), v21]) (cs' := [(iq r20.1.weight), v21]) rfl rfl rfl sz204 (cv_rfl rfl) rfl (co_val rfl (co_fz 0 rfl co_nil)) (Nat.le_of_ble_eq_true rfl) rfl rfl ?_
       refine al_as rfl rfl ?_
       refine al_nt ?_
       refine aw_sr ?_
       refine al_mv rfl rfl ?_
       refine al_freeze 0 rfl rfl ?_
       obtain ⟨r24, hc23, h⟩ := opt_some h
       refine al_call (vs := [v22]) (f_lumref_least_ok fu v22 r20.2 hc23) [] [] [0, 1, 2] (pre_fz 0 rfl pre_nil) rfl (by simp) (by decide) (.inl rfl) rfl Tryd.func148 rfl rfl rfl (fun ⟨v25, v26⟩ => ?_)
       refine al_mv rfl rfl ?_
       refine al_ex rfl rfl rfl ?_
       refine al_ex rfl rfl rfl ?_
       refine al_store (i := 1) (vs := [(iq r24.1.weight), v25]) (cs' := [(iq r24.1.weight), v25]) rfl rfl rfl sz204 (cv_rfl rfl) rfl (co_val rfl (co_fz 0 rfl co_nil)) (Nat.le_of_ble_eq_true rfl) rfl rfl ?_
       refine al_as rfl rfl ?_
       refine al_nt ?_
       refine aw_sr ?_
       refine al_val (ov_fieldA (p := 0) rfl Tryd.underlying204 rfl sz3 rfl rfl rfl) ?_
       refine al_val (ov_load (i := 2) (v := (iq r20.1.weight)) rfl rfl Tryd.underlying3 sz3 rfl rfl rfl rfl) ?_
       refine al_val (ov_fieldA (p := 0) rfl Tryd.underlying204 rfl sz3 rfl rfl rfl) ?_
       refine al_val (ov_load (i := 1) (v := (iq r24.1.weight)) rfl rfl Tryd.underlying3 sz3 rfl rfl rfl rfl) ?_
       refine al_in rfl rfl rfl rfl ?_
       refine al_val (ov_build (cells := ([(iq (wq (r20.1.weight + r24.1.weight))), nS]).toArray) (cs := [(iq (wq (r20.1.weight + r24.1.weight))), nS]) rfl (fun w a hm hs => by simp only [List.map_toArray, List.map_cons, List.map_nil, List.toList_toArray, hs.ev (x := .tmp 74) rfl]; kernel_rfl)) ?_
       refine al_alloc (zs := [(iq (0 : Int)), nS]) (zeroOf_to to204) rfl rfl (fun g27 => ?_)
       refine al_store (i := 0) (vs := [(iq (wq (r20.1.weight + r24.1.weight))), nS]) (cs' := [(iq (wq (r20.1.weight + r24.1.weight))), nS]) rfl rfl rfl sz204 (cv_rfl rfl) rfl (co_val rfl (co_val rfl co_nil)) (Nat.le_of_ble_eq_true rfl) rfl rfl ?_
       refine al_nt ?_
       obtain ⟨kk29, hkk29, h⟩ := lt_some h
       refine aw_seq_join (ι := (List Int) × Value × (List Int)) (fun i => (memOf w0 Z0 [] [(oRow v26 204 tyS_lumref_bunch r24.2), (oRow v7 3 tq i.1), (oRow i.2.1 3 tq i.2.2), (oBox g27 204 [(iq (wq (r20.1.weight + r24.1.weight))), i.2.1])] [(fDat (tyList tq) [v0_0] a0), (fDat (tyList tq) [v25] r24.1.signs), (fDat (tyList tyS_lumref_bunch) [v22] r20.2), (fDat (tyList tq) [v21] r20.1.signs), (fDat (tyList tyS_lumref_bunch) [l12v4] l12x4)])) (fun i => (tab [(0, v0_0), (4, v26), (7, v7), (10, (pq g27))])) (fun i => kk29 i.1 i.2.2 = some r) ?_ ?_
       ·rintro ⟨j28x7, j28v10_1, j28x10_1⟩ h
        have h : kk29 j28x7 j28x10_1 = some r := h
        rw [hkk29] at h
        dsimp only at h
        clear hkk29
        refine aw_show (m := (memOf w0 Z0 [] [(oRow v26 204 tyS_lumref_bunch r24.2), (oRow v7 3 tq j28x7), (oRow j28v10_1 3 tq j28x10_1), (oBox g27 204 [(iq (wq (r20.1.weight + r24.1.weight))), j28v10_1])] [(fDat (tyList tq) [v0_0] a0), (fDat (tyList tq) [v25] r24.1.signs), (fDat (tyList tyS_lumref_bunch) [v22] r20.2), (fDat (tyList tq) [v21] r20.1.signs), (fDat (tyList tyS_lumref_bunch) [l12v4] l12x4)])) (S := (tab [(0, v0_0), (4, v26), (7, v7), (10, (pq g27))])) ?_
        refine aw_region ?_
        refine al_mv rfl rfl ?_
        refine al_val (ov_load (i := 3) (v := (ag [(iq (wq (r20.1.weight + r24.1.weight))), j28v10_1])) rfl rfl Tryd.underlying204 sz204 rfl rfl rfl rfl) ?_
        refine al_freeze 2 rfl rfl ?_
        refine al_buildSlice (τ := tyS_lumref_bunch) (e := 204) (k := 1) (sz := 0) (by_ := 0) (z := undef) (cs := [(iq (wq (r20.1.weight + r24.1.weight))), j28v10_1]) (xs := [(S_lumref_bunch.mk (wq (r20.1.weight + r24.1.weight)) j28x10_1)]) rfl (by decide) (fun w a hm hs => ⟨([(iq (wq (r20.1.weight + r24.1.weight))), j28v10_1]).toArray, rfl, by simp only [List.map_toArray, List.map_cons, List.map_nil, hs.ev (x := .tmp 105) rfl]; exact run_bs [(ag [(iq (wq (r20.1.weight + r24.1.weight))), j28v10_1])] [(iq (wq (r20.1.weight + r24.1.weight))), j28v10_1] Tryd.underlying202 to204 rfl rfl (bs_cons (l := [(iq (wq (r20.1.weight + r24.1.weight))), j28v10_1]) (cs := []) (cv_rfl rfl) rfl bs_nil) hm⟩) (fun hm => ⟨_, _, rfl, (fun hm => mknS_lumref_bunch rfl (fz_at (i := 0) hm rfl)) hm, rfl⟩) rfl (fun v30 => ?_)
        obtain ⟨hc31, h⟩ := req_some h
        refine al_append 1 hc31.1 hc31.2 rfl (src_own (i := 1) 0 rfl) rfl rfl Tryd.underlying202 to204 rfl rfl rfl (fun v32 => ?_)
        refine al_as rfl rfl ?_
        refine al_nil ?_
        refine aq_block ?_
        exact aq_join (v32, (r24.2 ++ ([(S_lumref_bunch.mk (wq (r20.1.weight + r24.1.weight)) j28x10_1)])), j28x7) h (fun w a hm hs => norm hm hs [1, 2] [1] [(0, v0_0), (4, v32), (7, v7)] (by decide) ⟨rfl, rfl, rfl, trivial⟩)
       ·clear hkk29
        refine aw_sr ?_
        refine al_mv rfl rfl ?_
        refine al_val (ov_lenD 4 rfl rfl Tryd.underlying71 rfl) ?_
        refine al_mv rfl rfl ?_
        refine al_nt ?_
        refine aw_block ?_
        refine aw_nilR 3 tq ?_
        refine aw_state (aw_loop (ι := (List Int) × Value × (List Int) × Int) (fun i => (memOf w0 Z0 [] [(oRow v26 204 tyS_lumref_bunch r24.2), (oRow v7 3 tq i.1), (oBox g17 204 [(iq r20.1.weight), v21]), (oBox g18 204 [(iq r24.1.weight), v25]), (oRow i.2.1 3 tq i.2.2.1), (oBox g27 204 [(iq (wq (r20.1.weight + r24.1.weight))), i.2.1])] [(fDat (tyList tq) [v0_0] a0), (fDat (tyList tq) [v21] r20.1.signs), (fDat (tyList tq) [v25] r24.1.signs), (fDat (tyList tyS_lumref_bunch) [v22] r20.2), (fDat (tyList tyS_lumref_bunch) [l12v4] l12x4)])) (fun i => (tab [(0, v0_0), (4, v26), (7, v7), (8, (pq g17)), (9, (pq g18)), (10, (pq g27)), (77, (iq (a0.length : Int))), (78, (iq i.2.2.2))])) (fun q i => f_lumref_Lengths_L35 a0 r20 r24 kk29 fu q i.1 i.2.2.1 i.2.2.2 = some r) ?_ fu (l12x7, nS, ([] : List Int), (0 : Int)) h) (fun w a hm hs => norm hm hs [2, 5, 4, 3, 0, 1] [4, 2, 0, 1, 3] [(0, v0_0), (4, v26), (7, v7), (8, (pq g17)), (9, (pq g18)), (10, (pq g27)), (77, (iq (a0.length : Int))), (78, (iq (0 : Int)))] (by decide) ⟨rfl, rfl, rfl, rfl, rfl, rfl, rfl, rfl, trivial⟩)
        clear h
        rintro k34 ⟨l33x7, l33v10_1, l33x10_1, l33i78⟩ h
        have h : f_lumref_Lengths_L35 a0 r20 r24 kk29 fu k34 l33x7 l33x10_1 l33i78 = some r := h
        obtain _ | k34 := k34
        · rw [f_lumref_Lengths_L35] at h; cases h
        rw [f_lumref_Lengths_L35] at h
        refine aw_show (m := (memOf w0 Z0 [] [(oRow v26 204 tyS_lumref_bunch r24.2), (oRow v7 3 tq l33x7), (oBox g17 204 [(iq r20.1.weight), v21]), (oBox g18 204 [(iq r24.1.weight), v25]), (oRow l33v10_1 3 tq l33x10_1), (oBox g27 204 [(iq (wq (r20.1.weight + r24.1.weight))), l33v10_1])] [(fDat (tyList tq) [v0_0] a0), (fDat (tyList tq) [v21] r20.1.signs), (fDat (tyList tq) [v25] r24.1.signs), (fDat (tyList tyS_lumref_bunch) [v22] r20.2), (fDat (tyList tyS_lumref_bunch) [l12v4] l12x4)])) (S := (tab [(0, v0_0), (4, v26), (7, v7), (8, (pq g17)), (9, (pq g18)), (10, (pq g27)), (77, (iq (a0.length : Int))), (78, (iq l33i78))])) ?_
        refine aw_sr ?_
        refine al_in rfl rfl rfl rfl ?_
        refine al_nt ?_
        refine aw_seq ?_
        refine aw_cond rfl (fun hb36 => ?_) (fun hb36 => ?_)
        ·replace h := bif_t hb36 h
         refine aw_skip ?_
         refine aq_then ?_
         obtain ⟨kk38, hkk38, h⟩ := lt_some h
         refine aw_seq_join (ι := (List Int) × Value × (List Int)) (fun i => (memOf w0 Z0 [] [(oRow v26 204 tyS_lumref_bunch r24.2), (oRow v7 3 tq i.1), (oBox g17 204 [(iq r20.1.weight), v21]), (oBox g18 204 [(iq r24.1.weight), v25]), (oRow i.2.1 3 tq i.2.2), (oBox g27 204 [(iq (wq (r20.1.weight + r24.1.weight))), i.2.1])] [(fDat (tyList tq) [v0_0] a0), (fDat (tyList tq) [v21] r20.1.signs), (fDat (tyList tq) [v25] r24.1.signs), (fDat (tyList tyS_lumref_bunch) [v22] r20.2), (fDat (tyList tyS_lumref_bunch) [l12v4] l12x4)])) (fun i => (tab [(0, v0_0), (4, v26), (7, v7), (8, (pq g17)), (9, (pq g18)), (10, (pq g27)), (77, (iq (a0.length : Int))), (78, (iq l33i78))])) (fun i => kk38 i.1 i.2.2 = some r) ?_ ?_
         ·rintro ⟨j37x7, j37v10_1, j37x10_1⟩ h
          have h : kk38 j37x7 j37x10_1 = some r := h
          rw [hkk38] at h
          dsimp only at h
          clear hkk38
          refine aw_show (m := (memOf w0 Z0 [] [(oRow v26 204 tyS_lumref_bunch r24.2), (oRow v7 3 tq j37x7), (oBox g17 204 [(iq r20.1.weight), v21]), (oBox g18 204 [(iq r24.1.weight), v25]), (oRow j37v10_1 3 tq j37x10_1), (oBox g27 204 [(iq (wq (r20.1.weight + r24.1.weight))), j37v10_1])] [(fDat (tyList tq) [v0_0] a0), (fDat (tyList tq) [v21] r20.1.signs), (fDat (tyList tq) [v25] r24.1.signs), (fDat (tyList tyS_lumref_bunch) [v22] r20.2), (fDat (tyList tyS_lumref_bunch) [l12v4] l12x4)])) (S := (tab [(0, v0_0), (4, v26), (7, v7), (8, (pq g17)), (9, (pq g18)), (10, (pq g27)), (77, (iq (a0.length : Int))), (78, (iq l33i78))])) ?_
          refine aw_region ?_
          refine al_in rfl rfl rfl rfl ?_
          refine al_mv rfl rfl ?_
          refine al_nil ?_
          exact aq_again k34 (j37x7, j37v10_1, j37x10_1, (wq (l33i78 + (1 : Int)))) (Nat.lt_succ_self _) h (fun w a hm hs => norm hm hs [0, 1, 2, 3, 4, 5] [0, 1, 2, 3, 4] [(0, v0_0), (4, v26), (7, v7), (8, (pq g17)), (9, (pq g18)), (10, (pq g27)), (77, (iq (a0.length : Int))), (78, (iq (wq (l33i78 + (1 : Int)))))] (by decide) ⟨rfl, rfl, rfl, rfl, rfl, rfl, rfl, rfl, trivial⟩)
         ·clear hkk38
          refine aw_block ?_
          refine aw_sr ?_
          refine al_mv rfl rfl ?_
          refine al_as rfl rfl ?_
          refine al_nt ?_
          obtain ⟨kk40, hkk40, h⟩ := lt_some h
          refine aw_seq_join (ι := Bool) (fun i => (memOf w0 Z0 [] [(oRow v26 204 tyS_lumref_bunch r24.2), (oRow v7 3 tq l33x7), (oBox g17 204 [(iq r20.1.weight), v21]), (oBox g18 204 [(iq r24.1.weight), v25]), (oRow l33v10_1 3 tq l33x10_1), (oBox g27 204 [(iq (wq (r20.1.weight + r24.1.weight))), l33v10_1])] [(fDat (tyList tq) [v0_0] a0), (fDat (tyList tq) [v21] r20.1.signs), (fDat (tyList tq) [v25] r24.1.signs), (fDat (tyList tyS_lumref_bunch) [v22] r20.2), (fDat (tyList tyS_lumref_bunch) [l12v4] l12x4)])) (fun i => (tab [(0, v0_0), (4, v26), (7, v7), (8, (pq g17)), (9, (pq g18)), (10, (pq g27)), (11, (iq l33i78)), (77, (iq (a0.length : Int))), (78, (iq l33i78)), (90, (bool i))])) (fun i => kk40 i = some r) ?_ ?_
          ·rintro j39b90 h
           have h : kk40 j39b90 = some r := h
           rw [hkk40] at h
           dsimp only at h
           clear hkk40
           refine aw_show (m := (memOf w0 Z0 [] [(oRow v26 204 tyS_lumref_bunch r24.2), (oRow v7 3 tq l33x7), (oBox g17 204 [(iq r20.1.weight), v21]), (oBox g18 204 [(iq r24.1.weight), v25]), (oRow l33v10_1 3 tq l33x10_1), (oBox g27 204 [(iq (wq (r20.1.weight + r24.1.weight))), l33v10_1])] [(fDat (tyList tq) [v0_0] a0), (fDat (tyList tq) [v21] r20.1.signs), (fDat (tyList tq) [v25] r24.1.signs), (fDat (tyList tyS_lumref_bunch) [v22] r20.2), (fDat (tyList tyS_lumref_bunch) [l12v4] l12x4)])) (S := (tab [(0, v0_0), (4, v26), (7, v7), (8, (pq g17)), (9, (pq g18)), (10, (pq g27)), (11, (iq l33i78)), (77, (iq (a0.length : Int))), (78, (iq l33i78)), (90, (bool j39b90))])) ?_
           refine aw_cond rfl (fun hb41 => ?_) (fun hb41 => ?_)
           ·replace h := bif_t hb41 h
            refine aw_sr ?_
            refine al_val (ov_fieldA (p := 1) rfl Tryd.underlying204 rfl sz71 rfl rfl rfl) ?_
            refine al_val (ov_load (i := 5) (v := l33v10_1) rfl rfl Tryd.underlying71 sz71 rfl rfl rfl rfl) ?_
            refine al_mv rfl rfl ?_
            refine al_buildSlice (τ := tq) (e := 3) (k := 1) (sz := 0) (by_ := 0) (z := undef) (cs := [(iq l33i78)]) (xs := [l33i78]) rfl (by decide) (fun w a hm hs => ⟨([(iq l33i78)]).toArray, rfl, by simp only [List.map_toArray, List.map_cons, List.map_nil, hs.ev (x := .tmp 93) rfl]; exact run_bs [(iq l33i78)] [(iq l33i78)] Tryd.underlying71 to3 rfl rfl (bs_cons (l := [(iq l33i78)]) (cs := []) (cv_rfl rfl) rfl bs_nil) hm⟩) (fun hm => ⟨_, _, rfl, (fun _ => rfl) hm, rfl⟩) rfl (fun v42 => ?_)
            obtain ⟨hc43, h⟩ := req_some h
            refine al_append 5 hc43.1 hc43.2 rfl (src_own (i := 5) 0 rfl) rfl rfl Tryd.underlying71 to3 rfl rfl rfl (fun v44 => ?_)
            refine al_val (ov_fieldA (p := 1) rfl Tryd.underlying204 rfl sz71 rfl rfl rfl) ?_
            refine al_store (i := 6) (vs := [v44]) (cs' := [(iq (wq (r20.1.weight + r24.1.weight))), v44]) rfl rfl rfl sz71 (cv_own 5 rfl) rfl (co_own 5 rfl co_nil) (Nat.le_of_ble_eq_true rfl) rfl rfl ?_
            refine al_nt ?_
            refine aw_region ?_
            refine al_mv rfl rfl ?_
            refine al_mv rfl rfl ?_
            obtain ⟨u45, hu46, h⟩ := opt_some h
            refine al_idxR 2 (at_some hu46).1 (at_some hu46).2.1 rfl rfl rfl Tryd.underlying71 sz3 rfl (fun p47 hp48 => ?_)
            refine al_val (ov_loadR (ds := [(iq u45)]) 2 rfl hp48 (at_some hu46).2.2 (fun h => h) rfl Tryd.underlying3 sz3 rfl rfl rfl) ?_
            refine al_in rfl rfl rfl rfl ?_
            obtain ⟨u49, hu50, h⟩ := opt_some h
            refine al_idxR 2 (at_some hu50).1 (at_some hu50).2.1 rfl rfl rfl Tryd.underlying71 sz3 rfl (fun p51 hp52 => ?_)
            refine al_storeR (k := (l33i78).toNat) (x := (wq (u45 + (1 : Int)))) (vs := [(iq (wq (u45 + (1 : Int))))]) 2 rfl hp52 (idx_lt hu50) rfl rfl (cv_rfl rfl) (fun _ => rfl) sz3 rfl ?_
            refine al_nil ?_
            refine aq_block ?_
            exact aq_join ((l33x7.set (l33i78).toNat (wq (u45 + (1 : Int)))), v44, (l33x10_1 ++ ([l33i78]))) h (fun w a hm hs => norm hm hs [1, 2, 3, 4, 5, 6] [0, 1, 2, 3, 4] [(0, v0_0), (4, v26), (7, v7), (8, (pq g17)), (9, (pq g18)), (10, (pq g27)), (77, (iq (a0.length : Int))), (78, (iq l33i78))] (by decide) ⟨rfl, rfl, rfl, rfl, rfl, rfl, rfl, rfl, trivial⟩)
           ·replace h := bif_f hb41 h
            refine aw_skip ?_
            refine aq_block ?_
            exact aq_join (l33x7, l33v10_1, l33x10_1) h (fun w a hm hs => norm hm hs [0, 1, 2, 3, 4, 5] [0, 1, 2, 3, 4] [(0, v0_0), (4, v26), (7, v7), (8, (pq g17)), (9, (pq g18)), (10, (pq g27)), (77, (iq (a0.length : Int))), (78, (iq l33i78))] (by decide) ⟨rfl, rfl, rfl, rfl, rfl, rfl, rfl, rfl, trivial⟩)
          ·clear hkk40
           refine aw_region ?_
           refine al_val (ov_fieldA (p := 1) rfl Tryd.underlying204 rfl sz71 rfl rfl rfl) ?_
           refine al_val (ov_load (i := 2) (v := v21) rfl rfl Tryd.underlying71 sz71 rfl rfl rfl rfl) ?_
           refine al_mv rfl rfl ?_
           obtain ⟨r54, hc53, h⟩ := opt_some h
           refine al_call (vs := [v21, (iq l33i78)]) (f_lumref_has_ok fu v21 r20.1.signs l33i78 hc53) [] [] [0, 1, 2, 3, 4, 5] (pre_fz 1 rfl pre_nil) rfl (by simp) (by decide) (.inl rfl) rfl Tryd.func149 rfl rfl rfl (fun _ => ?_)
           refine al_mv rfl rfl ?_
           refine al_caseB 85 rfl (fun hb55 => ?_) (fun hb55 => ?_)
           ·replace h := bif_t hb55 h
            refine al_skip ?_
            refine al_skip ?_
            refine al_skip ?_
            refine al_skip ?_
            refine al_val (ov_pick_t rfl rfl rfl) ?_
            refine al_nil ?_
            exact aq_join true h (fun w a hm hs => norm hm hs [0, 1, 2, 3, 4, 5] [0, 1, 2, 3, 4] [(0, v0_0), (4, v26), (7, v7), (8, (pq g17)), (9, (pq g18)), (10, (pq g27)), (11, (iq l33i78)), (77, (iq (a0.length : Int))), (78, (iq l33i78)), (90, (bool true))] (by decide) ⟨rfl, rfl, rfl, rfl, rfl, rfl, rfl, rfl, rfl, rfl, trivial⟩)
           ·replace h := bif_f hb55 h
            refine al_val (ov_fieldA (p := 1) rfl Tryd.underlying204 rfl sz71 rfl rfl rfl) ?_
            refine al_val (ov_load (i := 3) (v := v25) rfl rfl Tryd.underlying71 sz71 rfl rfl rfl rfl) ?_
            refine al_mv rfl rfl ?_
            obtain ⟨r57, hc56, h⟩ := opt_some h
            refine al_call (vs := [v25, (iq l33i78)]) (f_lumref_has_ok fu v25 r24.1.signs l33i78 hc56) [] [] [0, 1, 2, 3, 4, 5] (pre_fz 2 rfl pre_nil) rfl (by simp) (by decide) (.inl rfl) rfl Tryd.func149 rfl rfl rfl (fun _ => ?_)
            refine al_val (ov_pick_f rfl rfl rfl) ?_
            refine al_nil ?_
            exact aq_join r57 h (fun w a hm hs => norm hm hs [0, 1, 2, 3, 4, 5] [0, 1, 2, 3, 4] [(0, v0_0), (4, v26), (7, v7), (8, (pq g17)), (9, (pq g18)), (10, (pq g27)), (11, (iq l33i78)), (77, (iq (a0.length : Int))), (78, (iq l33i78)), (90, (bool r57))] (by decide) ⟨rfl, rfl, rfl, rfl, rfl, rfl, rfl, rfl, rfl, rfl, trivial⟩)
        ·replace h := bif_f hb36 h
         refine aw_exit ?_
         refine aq_then_exit ?_
         refine aq_then_exit ?_
         refine aq_block_exit ?_
         exact aq_join (l33x7, l33v10_1, l33x10_1) h (fun w a hm hs => norm hm hs [0, 1, 4, 5] [0, 2, 3, 1, 4] [(0, v0_0), (4, v26), (7, v7), (10, (pq g27))] (by decide) ⟨rfl, rfl, rfl, rfl, trivial⟩)
      ·replace h := bif_f hb16 h
       refine aw_exit ?_
       refine aq_then_exit ?_
       refine aq_then_exit ?_
       refine aq_block_exit ?_
       exact aq_join l12x7 h (fun w a hm hs => norm hm hs [1] [0] [(7, v7)] (by decide) ⟨rfl, trivial⟩)
    ·clear hkk9
     refine aw_sr ?_
     refine al_mv rfl rfl ?_
     refine al_val (ov_lenR 1 rfl rfl Tryd.underlying202 rfl) ?_
     refine al_in rfl rfl rfl rfl ?_
     refine al_nt ?_
     refine aw_cond rfl (fun hb58 => ?_) (fun hb58 => ?_)
     ·replace h := bif_t hb58 h
      refine aw_region ?_
      refine al_mv rfl rfl ?_
      refine al_mv rfl rfl ?_
      obtain ⟨u59, hu60, h⟩ := opt_some h
      refine al_idxR 1 (at_some hu60).1 (at_some hu60).2.1 rfl rfl rfl Tryd.underlying202 sz204 rfl (fun p61 hp62 => ?_)
      refine al_fieldR hp62 rfl Tryd.underlying204 rfl sz71 rfl rfl (fun p63 hp64 => ?_)
      refine al_loadF1 1 rfl hp64 (at_some hu60).2.2 subS_lumref_bunch_1 rfl Tryd.underlying71 sz71 rfl rfl rfl (fun s65 => ?_)
      obtain ⟨u66, hu67, h⟩ := opt_some h
      refine al_idxD 0 hu67 rfl rfl rfl Tryd.underlying71 sz3 rfl (fun p68 => ?_)
      refine al_val (ov_loadP (ds := [(iq u66)]) 0 rfl (fun h => h) rfl Tryd.underlying3 sz3 rfl rfl rfl) ?_
      obtain ⟨u69, hu70, h⟩ := opt_some h
      refine al_idxR 0 (at_some hu70).1 (at_some hu70).2.1 rfl rfl rfl Tryd.underlying71 sz3 rfl (fun p71 hp72 => ?_)
      refine al_storeR (k := (u66).toNat) (x := (1 : Int)) (vs := [(iq (1 : Int))]) 0 rfl hp72 (idx_lt hu70) rfl rfl (cv_rfl rfl) (fun _ => rfl) sz3 rfl ?_
      refine al_nil ?_
      exact aq_join ((List.replicate ((a0.length : Int)).toNat 0).set (u66).toNat (1 : Int)) h (fun w a hm hs => norm hm hs [1, 0] [2] [(0, v0_0), (4, j4v4), (7, v7)] (by decide) ⟨rfl, rfl, rfl, trivial⟩)
     ·replace h := bif_f hb58 h
      refine aw_skip ?_
      exact aq_join (List.replicate ((a0.length : Int)).toNat 0) h (fun w a hm hs => norm hm hs [1, 0] [0] [(0, v0_0), (4, j4v4), (7, v7)] (by decide) ⟨rfl, rfl, rfl, trivial⟩)
   ·clear hkk5
    refine aw_sr ?_
    refine al_mv rfl rfl ?_
    refine al_val (ov_lenD 0 rfl rfl Tryd.underlying71 rfl) ?_
    refine al_mv rfl rfl ?_
    refine al_nt ?_
    refine aw_block ?_
    refine aw_nilR 204 tyS_lumref_bunch ?_
    refine aw_state (aw_loop (ι := Value × (List S_lumref_bunch) × Int) (fun i => (memOf w0 Z0 [] [(oRow i.1 204 tyS_lumref_bunch i.2.1)] [(fDat (tyList tq) [v0_0] a0)])) (fun i => (tab [(0, v0_0), (4, i.1), (20, v0_0), (21, (iq (a0.length : Int))), (22, (iq i.2.2))])) (fun q i => f_lumref_Lengths_L75 a0 kk5 q i.2.1 i.2.2 = some r) ?_ fu (nS, ([] : List S_lumref_bunch), (0 : Int)) h) (fun w a hm hs => norm hm hs [0] [0] [(0, v0_0), (4, nS), (20, v0_0), (21, (iq (a0.length : Int))), (22, (iq (0 : Int)))] (by decide) ⟨rfl, rfl, rfl, rfl, rfl, trivial⟩)
    clear h
    rintro k74 ⟨l73v4, l73x4, l73i22⟩ h
    have h : f_lumref_Lengths_L75 a0 kk5 k74 l73x4 l73i22 = some r := h
    obtain _ | k74 := k74
    · rw [f_lumref_Lengths_L75] at h; cases h
    rw [f_lumref_Lengths_L75] at h
    refine aw_show (m := (memOf w0 Z0 [] [(oRow l73v4 204 tyS_lumref_bunch l73x4)] [(fDat (tyList tq) [v0_0] a0)])) (S := (tab [(0, v0_0), (4, l73v4), (20, v0_0), (21, (iq (a0.length : Int))), (22, (iq l73i22))])) ?_
    refine aw_sr ?_
    refine al_in rfl rfl rfl rfl ?_
    refine al_nt ?_
    refine aw_seq ?_
    refine aw_cond rfl (fun hb76 => ?_) (fun hb76 => ?_)
    ·replace h := bif_t hb76 h
     refine aw_skip ?_
     refine aq_then ?_
     obtain ⟨kk78, hkk78, h⟩ := lt_some h
     refine aw_seq_join (ι := Value × (List S_lumref_bunch)) (fun i => (memOf w0 Z0 [] [(oRow i.1 204 tyS_lumref_bunch i.2)] [(fDat (tyList tq) [v0_0] a0)])) (fun i => (tab [(0, v0_0), (4, i.1), (20, v0_0), (21, (iq (a0.length : Int))), (22, (iq l73i22))])) (fun i => kk78 i.2 = some r) ?_ ?_
     ·rintro ⟨j77v4, j77x4⟩ h
      have h : kk78 j77x4 = some r := h
      rw [hkk78] at h
      dsimp only at h
      clear hkk78
      refine aw_show (m := (memOf w0 Z0 [] [(oRow j77v4 204 tyS_lumref_bunch j77x4)] [(fDat (tyList tq) [v0_0] a0)])) (S := (tab [(0, v0_0), (4, j77v4), (20, v0_0), (21, (iq (a0.length : Int))), (22, (iq l73i22))])) ?_
      refine aw_region ?_
      refine al_in rfl rfl rfl rfl ?_
      refine al_mv rfl rfl ?_
      refine al_nil ?_
      exact aq_again k74 (j77v4, j77x4, (wq (l73i22 + (1 : Int)))) (Nat.lt_succ_self _) h (fun w a hm hs => norm hm hs [0] [0] [(0, v0_0), (4, j77v4), (20, v0_0), (21, (iq (a0.length : Int))), (22, (iq (wq (l73i22 + (1 : Int)))))] (by decide) ⟨rfl, rfl, rfl, rfl, rfl, trivial⟩)
     ·clear hkk78
      refine aw_block ?_
      refine aw_sr ?_
      refine al_mv rfl rfl ?_
      obtain ⟨u79, hu80, h⟩ := opt_some h
      refine al_idxD 0 hu80 rfl rfl rfl Tryd.underlying71 sz3 rfl (fun p81 => ?_)
      refine al_val (ov_loadP (ds := [(iq u79)]) 0 rfl (fun h => h) rfl Tryd.underlying3 sz3 rfl rfl rfl) ?_
      refine al_as rfl rfl ?_
      refine al_as rfl rfl ?_
      refine al_nt ?_
      refine aw_seq ?_
      obtain ⟨kk83, hkk83, h⟩ := lt_some h
      refine aw_seq_join (ι := Bool) (fun i => (memOf w0 Z0 [] [(oRow l73v4 204 tyS_lumref_bunch l73x4)] [(fDat (tyList tq) [v0_0] a0), (fPtr tq p81 u79)])) (fun i => (tab [(0, v0_0), (4, l73v4), (5, (iq l73i22)), (6, (iq u79)), (20, v0_0), (21, (iq (a0.length : Int))), (22, (iq l73i22)), (32, (bool i))])) (fun i => kk83 i = some r) ?_ ?_
      ·rintro j82b32 h
       have h : kk83 j82b32 = some r := h
       rw [hkk83] at h
       dsimp only at h
       clear hkk83
       refine aw_show (m := (memOf w0 Z0 [] [(oRow l73v4 204 tyS_lumref_bunch l73x4)] [(fDat (tyList tq) [v0_0] a0), (fPtr tq p81 u79)])) (S := (tab [(0, v0_0), (4, l73v4), (5, (iq l73i22)), (6, (iq u79)), (20, v0_0), (21, (iq (a0.length : Int))), (22, (iq l73i22)), (32, (bool j82b32))])) ?_
       refine aw_cond rfl (fun hb84 => ?_) (fun hb84 => ?_)
       ·replace h := bif_t hb84 h
        refine aw_sr ?_
        refine al_as rfl rfl ?_
        refine al_as rfl rfl ?_
        refine al_nt ?_
        refine aw_ret ?_
        refine aq_then_ret ?_
        refine aq_block_ret ?_
        refine aq_then_ret ?_
        refine aq_then_ret ?_
        refine aq_block_ret ?_
        refine aq_then_ret ?_
        refine aq_nilR 3 tq ?_
        obtain rfl := Option.some.inj h
        exact fn_ret nS [0] [] rfl rfl rfl rfl (res2 rfl rfl rfl) rfl rfl rfl (by decide)
       ·replace h := bif_f hb84 h
        refine aw_skip ?_
        refine aq_tr ?_
        refine al_mv rfl rfl ?_
        refine al_in rfl rfl rfl rfl ?_
        refine al_nt ?_
        refine aw_cond rfl (fun hb85 => ?_) (fun hb85 => ?_)
        ·replace h := bif_t hb85 h
         refine aw_region ?_
         refine al_mv rfl rfl ?_
         refine al_mv rfl rfl ?_
         refine al_mv rfl rfl ?_
         refine al_buildSlice (τ := tq) (e := 3) (k := 1) (sz := 0) (by_ := 0) (z := undef) (cs := [(iq l73i22)]) (xs := [l73i22]) rfl (by decide) (fun w a hm hs => ⟨([(iq l73i22)]).toArray, rfl, by simp only [List.map_toArray, List.map_cons, List.map_nil, hs.ev (x := .tmp 37) rfl]; exact run_bs [(iq l73i22)] [(iq l73i22)] Tryd.underlying71 to3 rfl rfl (bs_cons (l := [(iq l73i22)]) (cs := []) (cv_rfl rfl) rfl bs_nil) hm⟩) (fun hm => ⟨_, _, rfl, (fun _ => rfl) hm, rfl⟩) rfl (fun v86 => ?_)
         refine al_val (ov_build (cells := ([(iq u79), v86]).toArray) (cs := [(iq u79), v86]) rfl (fun w a hm hs => by simp only [List.map_toArray, List.map_cons, List.map_nil, List.toList_toArray, hs.ev (x := .tmp 36) rfl, hs.ev (x := .tmp 38) rfl]; obtain ⟨A0, l0, c0, e0⟩ := sl_own 0 rfl hm; rw [e0]; kernel_rfl)) ?_
         refine al_freeze 0 rfl rfl ?_
         refine al_buildSlice (τ := tyS_lumref_bunch) (e := 204) (k := 1) (sz := 0) (by_ := 0) (z := undef) (cs := [(iq u79), v86]) (xs := [(S_lumref_bunch.mk u79 ([l73i22]))]) rfl (by decide) (fun w a hm hs => ⟨([(iq u79), v86]).toArray, rfl, by simp only [List.map_toArray, List.map_cons, List.map_nil, hs.ev (x := .tmp 39) rfl]; exact run_bs [(ag [(iq u79), v86])] [(iq u79), v86] Tryd.underlying202 to204 rfl rfl (bs_cons (l := [(iq u79), v86]) (cs := []) (cv_rfl rfl) rfl bs_nil) hm⟩) (fun hm => ⟨_, _, rfl, (fun hm => mknS_lumref_bunch rfl (fz_at (i := 0) hm rfl)) hm, rfl⟩) rfl (fun v87 => ?_)
         obtain ⟨hc88, h⟩ := req_some h
         refine al_append 1 hc88.1 hc88.2 rfl (src_own (i := 1) 0 rfl) rfl rfl Tryd.underlying202 to204 rfl rfl rfl (fun v89 => ?_)
         refine al_as rfl rfl ?_
         refine al_nil ?_
         refine aq_block ?_
         exact aq_join (v89, (l73x4 ++ ([(S_lumref_bunch.mk u79 ([l73i22]))]))) h (fun w a hm hs => norm hm hs [1] [1] [(0, v0_0), (4, v89), (20, v0_0), (21, (iq (a0.length : Int))), (22, (iq l73i22))] (by decide) ⟨rfl, rfl, rfl, rfl, rfl, trivial⟩)
        ·replace h := bif_f hb85 h
         refine aw_skip ?_
         refine aq_block ?_
         exact aq_join (l73v4, l73x4) h (fun w a hm hs => norm hm hs [0] [0] [(0, v0_0), (4, l73v4), (20, v0_0), (21, (iq (a0.length : Int))), (22, (iq l73i22))] (by decide) ⟨rfl, rfl, rfl, rfl, rfl, trivial⟩)
      ·clear hkk83
       refine aw_region ?_
       refine al_mv rfl rfl ?_
       refine al_in rfl rfl rfl rfl ?_
       refine al_mv rfl rfl ?_
       refine al_caseB 29 rfl (fun hb90 => ?_) (fun hb90 => ?_)
       ·replace h := bif_t hb90 h
        refine al_skip ?_
        refine al_skip ?_
        refine al_val (ov_pick_t rfl rfl rfl) ?_
        refine al_nil ?_
        exact aq_join true h (fun w a hm hs => norm hm hs [0] [1, 0] [(0, v0_0), (4, l73v4), (5, (iq l73i22)), (6, (iq u79)), (20, v0_0), (21, (iq (a0.length : Int))), (22, (iq l73i22)), (32, (bool true))] (by decide) ⟨rfl, rfl, rfl, rfl, rfl, rfl, rfl, rfl, trivial⟩)
       ·replace h := bif_f hb90 h
        refine al_mv rfl rfl ?_
        refine al_in rfl rfl rfl rfl ?_
        refine al_val (ov_pick_f rfl rfl rfl) ?_
        refine al_nil ?_
        exact aq_join (decide (u79 > (1048576 : Int))) h (fun w a hm hs => norm hm hs [0] [1, 0] [(0, v0_0), (4, l73v4), (5, (iq l73i22)), (6, (iq u79)), (20, v0_0), (21, (iq (a0.length : Int))), (22, (iq l73i22)), (32, (bool (decide (u79 > (1048576 : Int)))))] (by decide) ⟨rfl, rfl, rfl, rfl, rfl, rfl, rfl, rfl, trivial⟩)
    ·replace h := bif_f hb76 h
     refine aw_exit ?_
     refine aq_then_exit ?_
     refine aq_then_exit ?_
     refine aq_block_exit ?_
     exact aq_join (l73v4, l73x4) h (fun w a hm hs => norm hm hs [0] [0] [(0, v0_0), (4, l73v4)] (by decide) ⟨rfl, rfl, trivial⟩)
 ·clear hkk2
  refine aw_region ?_
  refine al_mv rfl rfl ?_
  refine al_val (ov_lenD 0 rfl rfl Tryd.underlying71 rfl) ?_
  refine al_in rfl rfl rfl rfl ?_
  refine al_mv rfl rfl ?_
  refine al_caseB 15 rfl (fun hb91 => ?_) (fun hb91 => ?_)
  ·replace h := bif_t hb91 h
   refine al_skip ?_
   refine al_skip ?_
   refine al_skip ?_
   refine al_val (ov_pick_t rfl rfl rfl) ?_
   refine al_nil ?_
   exact aq_join true h (fun w a hm hs => norm hm hs [] [0] [(0, v0_0), (19, (bool true))] (by decide) ⟨rfl, rfl, trivial⟩)
  ·replace h := bif_f hb91 h
   refine al_mv rfl rfl ?_
   refine al_val (ov_lenD 0 rfl rfl Tryd.underlying71 rfl) ?_
   refine al_in rfl rfl rfl rfl ?_
   refine al_val (ov_pick_f rfl rfl rfl) ?_
   refine al_nil ?_
   exact aq_join (decide ((a0.length : Int) > (256 : Int))) h (fun w a hm hs => norm hm hs [] [0] [(0, v0_0), (19, (bool (decide ((a0.length : Int) > (256 : Int)))))] (by decide) ⟨rfl, rfl, trivial⟩)
def f_lumref_Kraft_L24 (u13 : Int) (kk20 : (Int → Option (Int × Int))) : Nat → Int → Int → Option (Int × Int)
  | 0, _, _ => none
  | k23 + 1, l22i7, l22i30 => (bif (decide (l22i30 < (IntKind.i64.wrap ((48 : Int) - u13)))) then (f_lumref_Kraft_L24 u13 kk20 k23 (IntKind.i64.wrap (l22i7 * (2 : Int))) (IntKind.i64.wrap (l22i30 + (1 : Int)))) else (kk20 l22i7))
def f_lumref_Kraft_L8 (a0 : (List Int)) (kk5 : (Int → Option (Int × Int))) (fu : Nat) : Nat → Int → Int → Option (Int × Int)
  | 0, _, _ => none
  | k7 + 1, l6i4, l6i18 => (lt (fun (l6i4 : Int) (l6i18 : Int) => (f_lumref_Kraft_L8 a0 kk5 fu k7 l6i4 l6i18)) fun (kk9 : Int → Int → Option (Int × Int)) => (bif (decide (l6i18 < (a0.length : Int))) then (lt (fun (j11i4 : Int) => (kk9 j11i4 (IntKind.i64.wrap (l6i18 + (1 : Int))))) fun (kk12 : Int → Option (Int × Int)) => (opt (at? a0 l6i18) fun (u13 : Int) => (lt (fun (j16b27 : Bool) => (bif j16b27 then (some ((0 : Int), (1 : Int))) else (lt (fun (j19i7 : Int) => (bif (decide (u13 > (0 : Int))) then (kk12 (IntKind.i64.wrap (l6i4 + j19i7))) else (kk12 l6i4))) fun (kk20 : Int → Option (Int × Int)) => (f_lumref_Kraft_L24 u13 kk20 fu (1 : Int) (0 : Int))))) fun (kk17 : Bool → Option (Int × Int)) => (bif (decide (u13 < (0 : Int))) then (kk17 true) else (kk17 (decide (u13 > (48 : Int)))))))) else (kk5 l6i4)))
def f_lumref_Kraft (fu : Nat) (a0 : (List Int)) : Option (Int × Int) := (lt (fun (j1b15 : Bool) => (bif j1b15 then (some ((0 : Int), (1 : Int))) else (lt (fun (j4i4 : Int) => (some (j4i4, (0 : Int)))) fun (kk5 : Int → Option (Int × Int)) => (f_lumref_Kraft_L8 a0 kk5 fu fu (0 : Int) (0 : Int))))) fun (kk2 : Bool → Option (Int × Int)) => (bif ((a0.length : Int) == (0 : Int)) then (kk2 true) else (kk2 (decide ((a0.length : Int) > (256 : Int))))))
set_option maxRecDepth 100000 in
set_option maxHeartbeats 2000000 in
set_option maxHeartbeats 2000000 in
theorem f_lumref_Kraft_ok (fu : Nat) (v0_0 : Value) (a0 : (List Int)) {r : (Int × Int)} (h : f_lumref_Kraft fu a0 = some r) : FnOk Tryd.prog 150 [v0_0] [(fDat (tyList (tyInt .i64)) [v0_0] a0)] [] (fun (i : Unit) => { val := (Value.tuple #[(int .i64 r.1), (int .i64 r.2)]) }) := by
 unfold f_lumref_Kraft at h
 refine fn_enter Tryd.func150 rfl Tryd.ntmps150 rfl (fun w0 Z0 => ?_)
 refine aw_sr ?_
 refine al_as rfl rfl ?_
 refine al_as rfl rfl ?_
 refine al_nt ?_
 refine aw_seq ?_
 obtain ⟨kk2, hkk2, h⟩ := lt_some h
 refine aw_seq_join (ι := Bool) (fun i => (memOf w0 Z0 [] [] [(fDat (tyList tq) [v0_0] a0)])) (fun i => (tab [(0, v0_0), (15, (bool i))])) (fun i => kk2 i = some r) ?_ ?_
 ·rintro j1b15 h
  have h : kk2 j1b15 = some r := h
  rw [hkk2] at h
  dsimp only at h
  clear hkk2
  refine aw_show (m := (memOf w0 Z0 [] [] [(fDat (tyList tq) [v0_0] a0)])) (S := (tab [(0, v0_0), (15, (bool j1b15))])) ?_
  refine aw_cond rfl (fun hb3 => ?_) (fun hb3 => ?_)
  ·replace h := bif_t hb3 h
   refine aw_sr ?_
   refine al_as rfl rfl ?_
   refine al_as rfl rfl ?_
   refine al_nt ?_
   refine aw_ret ?_
   refine aq_then_ret ?_
   obtain rfl := Option.some.inj h
   exact fn_ret () [] [] rfl rfl rfl rfl (res2 rfl rfl rfl) rfl rfl rfl (by decide)
  ·replace h := bif_f hb3 h
   refine aw_skip ?_
   refine aq_tr ?_
   refine al_as rfl rfl ?_
   refine al_nt ?_
   obtain ⟨kk5, hkk5, h⟩ := lt_some h
   refine aw_seq_join (ι := Int) (fun i => (memOf w0 Z0 [] [] [(fDat (tyList tq) [v0_0] a0)])) (fun i => (tab [(4, (iq i))])) (fun i => kk5 i = some r) ?_ ?_
   ·rintro j4i4 h
    have h : kk5 j4i4 = some r := h
    rw [hkk5] at h
    dsimp only at h
    clear hkk5
    refine aw_show (m := (memOf w0 Z0 [] [] [(fDat (tyList tq) [v0_0] a0)])) (S := (tab [(4, (iq j4i4))])) ?_
    refine aw_sr ?_
    refine al_mv rfl rfl ?_
    refine al_as rfl rfl ?_
    refine al_as rfl rfl ?_
    refine al_nt ?_
    refine aw_ret ?_
    obtain rfl := Option.some.inj h
    exact fn_ret () [] [] rfl rfl rfl rfl (res2 rfl rfl rfl) rfl rfl rfl (by decide)
   ·clear hkk5
    refine aw_sr ?_
    refine al_mv rfl rfl ?_
    refine al_val (ov_lenD 0 rfl rfl Tryd.underlying71 rfl) ?_
    refine al_mv rfl rfl ?_
    refine al_nt ?_
    refine aw_block ?_
    refine aw_state (aw_loop (ι := Int × Int) (fun i => (memOf w0 Z0 [] [] [(fDat (tyList tq) [v0_0] a0)])) (fun i => (tab [(4, (iq i.1)), (16, v0_0), (17, (iq (a0.length : Int))), (18, (iq i.2))])) (fun q i => f_lumref_Kraft_L8 a0 kk5 fu q i.1 i.2 = some r) ?_ fu ((0 : Int), (0 : Int)) h) (fun w a hm hs => norm hm hs [] [0] [(4, (iq (0 : Int))), (16, v0_0), (17, (iq (a0.length : Int))), (18, (iq (0 : Int)))] (by decide) ⟨rfl, rfl, rfl, rfl, trivial⟩)
    clear h
    rintro k7 ⟨l6i4, l6i18⟩ h
    have h : f_lumref_Kraft_L8 a0 kk5 fu k7 l6i4 l6i18 = some r := h
    obtain _ | k7 := k7
    · rw [f_lumref_Kraft_L8] at h; cases h
    rw [f_lumref_Kraft_L8] at h
    refine aw_show (m := (memOf w0 Z0 [] [] [(fDat (tyList tq) [v0_0] a0)])) (S := (tab [(4, (iq l6i4)), (16, v0_0), (17, (iq (a0.length : Int))), (18, (iq l6i18))])) ?_
    obtain ⟨kk9, hkk9, h⟩ := lt_some h
    refine aw_body_join (ι := Int × Int) (fun i => (memOf w0 Z0 [] [] [(fDat (tyList tq) [v0_0] a0)])) (fun i => (tab [(4, (iq i.1)), (16, v0_0), (17, (iq (a0.length : Int))), (18, (iq i.2))])) (fun i => kk9 i.1 i.2 = some r) (fun i h => aq_again k7 i (Nat.lt_succ_self _) (by rw [hkk9] at h; exact h) (fun w a hm hs => ⟨hm, hs⟩)) ?_
    clear hkk9
    refine aw_sr ?_
    refine al_in rfl rfl rfl rfl ?_
    refine al_nt ?_
    refine aw_seq ?_
    refine aw_cond rfl (fun hb10 => ?_) (fun hb10 => ?_)
    ·replace h := bif_t hb10 h
     refine aw_skip ?_
     refine aq_then ?_
     obtain ⟨kk12, hkk12, h⟩ := lt_some h
     refine aw_seq_join (ι := Int) (fun i => (memOf w0 Z0 [] [] [(fDat (tyList tq) [v0_0] a0)])) (fun i => (tab [(4, (iq i)), (16, v0_0), (17, (iq (a0.length : Int))), (18, (iq l6i18))])) (fun i => kk12 i = some r) ?_ ?_
     ·rintro j11i4 h
      have h : kk12 j11i4 = some r := h
      rw [hkk12] at h
      dsimp only at h
      clear hkk12
      refine aw_show (m := (memOf w0 Z0 [] [] [(fDat (tyList tq) [v0_0] a0)])) (S := (tab [(4, (iq j11i4)), (16, v0_0), (17, (iq (a0.length : Int))), (18, (iq l6i18))])) ?_
      refine aw_region ?_
      refine al_in rfl rfl rfl rfl ?_
      refine al_mv rfl rfl ?_
      refine al_nil ?_
      exact aq_join (j11i4, (wq (l6i18 + (1 : Int)))) h (fun w a hm hs => norm hm hs [] [0] [(4, (iq j11i4)), (16, v0_0), (17, (iq (a0.length : Int))), (18, (iq (wq (l6i18 + (1 : Int)))))] (by decide) ⟨rfl, rfl, rfl, rfl, trivial⟩)
     ·clear hkk12
      refine aw_block ?_
      refine aw_sr ?_
      obtain ⟨u13, hu14, h⟩ := opt_some h
      refine al_idxD 0 hu14 rfl rfl rfl Tryd.underlying71 sz3 rfl (fun p15 => ?_)
      refine al_val (ov_loadP (ds := [(iq u13)]) 0 rfl (fun h => h) rfl Tryd.underlying3 sz3 rfl rfl rfl) ?_
      refine al_as rfl rfl ?_
      refine al_nt ?_
      refine aw_seq ?_
      obtain ⟨kk17, hkk17, h⟩ := lt_some h
      refine aw_seq_join (ι := Bool) (fun i => (memOf w0 Z0 [] [] [(fDat (tyList tq) [v0_0] a0), (fPtr tq p15 u13)])) (fun i => (tab [(4, (iq l6i4)), (6, (iq u13)), (16, v0_0), (17, (iq (a0.length : Int))), (18, (iq l6i18)), (27, (bool i))])) (fun i => kk17 i = some r) ?_ ?_
      ·rintro j16b27 h
       have h : kk17 j16b27 = some r := h
       rw [hkk17] at h
       dsimp only at h
       clear hkk17
       refine aw_show (m := (memOf w0 Z0 [] [] [(fDat (tyList tq) [v0_0] a0), (fPtr tq p15 u13)])) (S := (tab [(4, (iq l6i4)), (6, (iq u13)), (16, v0_0), (17, (iq (a0.length : Int))), (18, (iq l6i18)), (27, (bool j16b27))])) ?_
       refine aw_cond rfl (fun hb18 => ?_) (fun hb18 => ?_)
       ·replace h := bif_t hb18 h
        refine aw_sr ?_
        refine al_as rfl rfl ?_
        refine al_as rfl rfl ?_
        refine al_nt ?_
        refine aw_ret ?_
        refine aq_then_ret ?_
        refine aq_block_ret ?_
        refine aq_then_ret ?_
        refine aq_then_ret ?_
        refine aq_block_ret ?_
        refine aq_then_ret ?_
        obtain rfl := Option.some.inj h
        exact fn_ret () [] [] rfl rfl rfl rfl (res2 rfl rfl rfl) rfl rfl rfl (by decide)
       ·replace h := bif_f hb18 h
        refine aw_skip ?_
        refine aq_tr ?_
        refine al_as rfl rfl ?_
        refine al_nt ?_
        obtain ⟨kk20, hkk20, h⟩ := lt_some h
        refine aw_seq_join (ι := Int) (fun i => (memOf w0 Z0 [] [] [(fDat (tyList tq) [v0_0] a0), (fPtr tq p15 u13)])) (fun i => (tab [(4, (iq l6i4)), (6, (iq u13)), (7, (iq i)), (16, v0_0), (17, (iq (a0.length : Int))), (18, (iq l6i18))])) (fun i => kk20 i = some r) ?_ ?_
        ·rintro j19i7 h
         have h : kk20 j19i7 = some r := h
         rw [hkk20] at h
         dsimp only at h
         clear hkk20
         refine aw_show (m := (memOf w0 Z0 [] [] [(fDat (tyList tq) [v0_0] a0), (fPtr tq p15 u13)])) (S := (tab [(4, (iq l6i4)), (6, (iq u13)), (7, (iq j19i7)), (16, v0_0), (17, (iq (a0.length : Int))), (18, (iq l6i18))])) ?_
         refine aw_sr ?_
         refine al_mv rfl rfl ?_
         refine al_in rfl rfl rfl rfl ?_
         refine al_nt ?_
         refine aw_cond rfl (fun hb21 => ?_) (fun hb21 => ?_)
         ·replace h := bif_t hb21 h
          refine aw_region ?_
          refine al_mv rfl rfl ?_
          refine al_mv rfl rfl ?_
          refine al_in rfl rfl rfl rfl ?_
          refine al_as rfl rfl ?_
          refine al_nil ?_
          refine aq_block ?_
          exact aq_join (wq (l6i4 + j19i7)) h (fun w a hm hs => norm hm hs [] [0] [(4, (iq (wq (l6i4 + j19i7)))), (16, v0_0), (17, (iq (a0.length : Int))), (18, (iq l6i18))] (by decide) ⟨rfl, rfl, rfl, rfl, trivial⟩)
         ·replace h := bif_f hb21 h
          refine aw_skip ?_
          refine aq_block ?_
          exact aq_join l6i4 h (fun w a hm hs => norm hm hs [] [0] [(4, (iq l6i4)), (16, v0_0), (17, (iq (a0.length : Int))), (18, (iq l6i18))] (by decide) ⟨rfl, rfl, rfl, rfl, trivial⟩)
        ·clear hkk20
         refine aw_sr ?_
         refine al_mv rfl rfl ?_
         refine al_in rfl rfl rfl rfl ?_
         refine al_mv rfl rfl ?_
         refine al_nt ?_
         refine aw_block ?_
         refine aw_state (aw_loop (ι := Int × Int) (fun i => (memOf w0 Z0 [] [] [(fDat (tyList tq) [v0_0] a0), (fPtr tq p15 u13)])) (fun i => (tab [(4, (iq l6i4)), (6, (iq u13)), (7, (iq i.1)), (16, v0_0), (17, (iq (a0.length : Int))), (18, (iq l6i18)), (29, (iq (wq ((48 : Int) - u13)))), (30, (iq i.2))])) (fun q i => f_lumref_Kraft_L24 u13 kk20 q i.1 i.2 = some r) ?_ fu ((1 : Int), (0 : Int)) h) (fun w a hm hs => norm hm hs [] [0, 1] [(4, (iq l6i4)), (6, (iq u13)), (7, (iq (1 : Int))), (16, v0_0), (17, (iq (a0.length : Int))), (18, (iq l6i18)), (29, (iq (wq ((48 : Int) - u13)))), (30, (iq (0 : Int)))] (by decide) ⟨rfl, rfl, rfl, rfl, rfl, rfl, rfl, rfl, trivial⟩)
         clear h
         rintro k23 ⟨l22i7, l22i30⟩ h
         have h : f_lumref_Kraft_L24 u13 kk20 k23 l22i7 l22i30 = some r := h
         obtain _ | k23 := k23
         · rw [f_lumref_Kraft_L24] at h; cases h
         rw [f_lumref_Kraft_L24] at h
         refine aw_show (m := (memOf w0 Z0 [] [] [(fDat (tyList tq) [v0_0] a0), (fPtr tq p15 u13)])) (S := (tab [(4, (iq l6i4)), (6, (iq u13)), (7, (iq l22i7)), (16, v0_0), (17, (iq (a0.length : Int))), (18, (iq l6i18)), (29, (iq (wq ((48 : Int) - u13)))), (30, (iq l22i30))])) ?_
         refine aw_sr ?_
         refine al_in rfl rfl rfl rfl ?_
         refine al_nt ?_
         refine aw_seq ?_
         refine aw_cond rfl (fun hb25 => ?_) (fun hb25 => ?_)
         ·replace h := bif_t hb25 h
          refine aw_skip ?_
          refine aq_then ?_
          refine aw_seq ?_
          refine aw_block ?_
          refine aw_region ?_
          refine al_mv rfl rfl ?_
          refine al_in rfl rfl rfl rfl ?_
          refine al_as rfl rfl ?_
          refine al_nil ?_
          refine aq_block ?_
          refine aq_then ?_
          refine aw_region ?_
          refine al_in rfl rfl rfl rfl ?_
          refine al_mv rfl rfl ?_
          refine al_nil ?_
          exact aq_again k23 ((wq (l22i7 * (2 : Int))), (wq (l22i30 + (1 : Int)))) (Nat.lt_succ_self _) h (fun w a hm hs => norm hm hs [] [0, 1] [(4, (iq l6i4)), (6, (iq u13)), (7, (iq (wq (l22i7 * (2 : Int))))), (16, v0_0), (17, (iq (a0.length : Int))), (18, (iq l6i18)), (29, (iq (wq ((48 : Int) - u13)))), (30, (iq (wq (l22i30 + (1 : Int)))))] (by decide) ⟨rfl, rfl, rfl, rfl, rfl, rfl, rfl, rfl, trivial⟩)
         ·replace h := bif_f hb25 h
          refine aw_exit ?_
          refine aq_then_exit ?_
          refine aq_then_exit ?_
          refine aq_block_exit ?_
          exact aq_join l22i7 h (fun w a hm hs => norm hm hs [] [0, 1] [(4, (iq l6i4)), (6, (iq u13)), (7, (iq l22i7)), (16, v0_0), (17, (iq (a0.length : Int))), (18, (iq l6i18))] (by decide) ⟨rfl, rfl, rfl, rfl, rfl, rfl, trivial⟩)
      ·clear hkk17
       refine aw_region ?_
       refine al_mv rfl rfl ?_
       refine al_in rfl rfl rfl rfl ?_
       refine al_mv rfl rfl ?_
       refine al_caseB 24 rfl (fun hb26 => ?_) (fun hb26 => ?_)
       ·replace h := bif_t hb26 h
        refine al_skip ?_
        refine al_skip ?_
        refine al_val (ov_pick_t rfl rfl rfl) ?_
        refine al_nil ?_
        exact aq_join true h (fun w a hm hs => norm hm hs [] [1, 0] [(4, (iq l6i4)), (6, (iq u13)), (16, v0_0), (17, (iq (a0.length : Int))), (18, (iq l6i18)), (27, (bool true))] (by decide) ⟨rfl, rfl, rfl, rfl, rfl, rfl, trivial⟩)
       ·replace h := bif_f hb26 h
        refine al_mv rfl rfl ?_
        refine al_in rfl rfl rfl rfl ?_
        refine al_val (ov_pick_f rfl rfl rfl) ?_
        refine al_nil ?_
        exact aq_join (decide (u13 > (48 : Int))) h (fun w a hm hs => norm hm hs [] [1, 0] [(4, (iq l6i4)), (6, (iq u13)), (16, v0_0), (17, (iq (a0.length : Int))), (18, (iq l6i18)), (27, (bool (decide (u13 > (48 : Int)))))] (by decide) ⟨rfl, rfl, rfl, rfl, rfl, rfl, trivial⟩)
    ·replace h := bif_f hb10 h
     refine aw_exit ?_
     refine aq_then_exit ?_
     refine aq_then_exit ?_
     refine aq_block_exit ?_
     exact aq_join l6i4 h (fun w a hm hs => norm hm hs [] [0] [(4, (iq l6i4))] (by decide) ⟨rfl, trivial⟩)
 ·clear hkk2
  refine aw_region ?_
  refine al_mv rfl rfl ?_
  refine al_val (ov_lenD 0 rfl rfl Tryd.underlying71 rfl) ?_
  refine al_in rfl rfl rfl rfl ?_
  refine al_mv rfl rfl ?_
  refine al_caseB 11 rfl (fun hb27 => ?_) (fun hb27 => ?_)
  ·replace h := bif_t hb27 h
   refine al_skip ?_
   refine al_skip ?_
   refine al_skip ?_
   refine al_val (ov_pick_t rfl rfl rfl) ?_
   refine al_nil ?_
   exact aq_join true h (fun w a hm hs => norm hm hs [] [0] [(0, v0_0), (15, (bool true))] (by decide) ⟨rfl, rfl, trivial⟩)
  ·replace h := bif_f hb27 h
   refine al_mv rfl rfl ?_
   refine al_val (ov_lenD 0 rfl rfl Tryd.underlying71 rfl) ?_
   refine al_in rfl rfl rfl rfl ?_
   refine al_val (ov_pick_f rfl rfl rfl) ?_
   refine al_nil ?_
   exact aq_join (decide ((a0.length : Int) > (256 : Int))) h (fun w a hm hs => norm hm hs [] [0] [(0, v0_0), (15, (bool (decide ((a0.length : Int) > (256 : Int)))))] (by decide) ⟨rfl, rfl, trivial⟩)
def f_lumref_Codes_L21 (a0 : (List Int)) (l9i26 : Int) (kk15 : ((List Int) → Option ((List Int) × Int))) (u16 : Int) : Nat → (List Int) → Int → Option ((List Int) × Int)
  | 0, _, _ => none
  | k20 + 1, l19x6, l19i33 => (bif (decide (l19i33 < (a0.length : Int))) then (lt (fun (j23x6 : (List Int)) => (f_lumref_Codes_L21 a0 l9i26 kk15 u16 k20 j23x6 (IntKind.i64.wrap (l19i33 + (1 : Int))))) fun (kk24 : (List Int) → Option ((List Int) × Int)) => (opt (at? a0 l19i33) fun (u25 : Int) => (lt (fun (j28b58 : Bool) => (bif j28b58 then (opt (at? l19x6 l9i26) fun (u31 : Int) => (req (0 ≤ (IntKind.i64.wrap (u16 - u25))) (opt (at? l19x6 l9i26) fun (u36 : Int) => (kk24 (l19x6.set (l9i26).toNat (IntKind.i64.wrap (u31 + (IntKind.i64.wrap ((1 : Int) * 2 ^ min ((IntKind.i64.wrap (u16 - u25))).toNat (IntKind.bits .i64)))))))))) else (kk24 l19x6))) fun (kk29 : Bool → Option ((List Int) × Int)) => (bif (decide (u16 > (0 : Int))) then (bif (decide (u25 > (0 : Int))) then (bif (decide (u25 < u16)) then (kk29 true) else (bif (u25 == u16) then (kk29 (decide (l19i33 < l9i26))) else (kk29 false))) else (kk29 false)) else (kk29 false))))) else (kk15 l19x6))
def f_lumref_Codes_L11 (a0 : (List Int)) (kk8 : ((List Int) → Option ((List Int) × Int))) (fu : Nat) : Nat → (List Int) → Int → Option ((List Int) × Int)
  | 0, _, _ => none
  | k10 + 1, l9x6, l9i26 => (lt (fun (l9x6 : (List Int)) (l9i26 : Int) => (f_lumref_Codes_L11 a0 kk8 fu k10 l9x6 l9i26)) fun (kk12 : (List Int) → Int → Option ((List Int) × Int)) => (bif (decide (l9i26 < (a0.length : Int))) then (lt (fun (j14x6 : (List Int)) => (kk12 j14x6 (IntKind.i64.wrap (l9i26 + (1 : Int))))) fun (kk15 : (List Int) → Option ((List Int) × Int)) => (opt (at? a0 l9i26) fun (u16 : Int) => (f_lumref_Codes_L21 a0 l9i26 kk15 u16 fu l9x6 (0 : Int)))) else (kk8 l9x6)))
def f_lumref_Codes (fu : Nat) (a0 : (List Int)) : Option ((List Int) × Int) := (opt (f_lumref_Kraft fu a0) fun (r2 : (Int × Int)) => (bif (r2.2 != (0 : Int)) then (some (([] : List Int), r2.2)) else (bif (decide (r2.1 > (281474976710656 : Int))) then (some (([] : List Int), (4 : Int))) else (req (0 ≤ (a0.length : Int) ∧ 8 * (a0.length : Int) ≤ 281474976710656 ∧ (a0.length : Int) ≤ 9223372036854775807) (lt (fun (j7x6 : (List Int)) => (some (j7x6, (0 : Int)))) fun (kk8 : (List Int) → Option ((List Int) × Int)) => (f_lumref_Codes_L11 a0 kk8 fu fu (List.replicate ((a0.length : Int)).toNat 0) (0 : Int)))))))
set_option maxRecDepth 100000 in
set_option maxHeartbeats 2000000 in
set_option maxHeartbeats 2000000 in
theorem f_lumref_Codes_ok (fu : Nat) (v0_0 : Value) (a0 : (List Int)) {r : ((List Int) × Int)} (h : f_lumref_Codes fu a0 = some r) : FnOk Tryd.prog 98 [v0_0] [(fDat (tyList (tyInt .i64)) [v0_0] a0)] [] (fun (i : Value) => { val := (Value.tuple #[i, (int .i64 r.2)]), own := [(oRow i 3 (tyInt .i64) r.1)] }) := by
 unfold f_lumref_Codes at h
 refine fn_enter Tryd.func98 rfl Tryd.ntmps98 rfl (fun w0 Z0 => ?_)
 refine aw_sr ?_
 refine al_as rfl rfl ?_
 refine al_as rfl rfl ?_
 refine al_nt ?_
 refine aw_sr ?_
 refine al_mv rfl rfl ?_
 obtain ⟨r2, hc1, h⟩ := opt_some h
 refine al_call (vs := [v0_0]) (f_lumref_Kraft_ok fu v0_0 a0 hc1) [] [] [] (pre_fz 0 rfl pre_nil) rfl (by simp) (by decide) (.inl rfl) rfl Tryd.func150 rfl rfl rfl (fun _ => ?_)
 refine al_mv rfl rfl ?_
 refine al_ex rfl rfl rfl ?_
 refine al_ex rfl rfl rfl ?_
 refine al_as rfl rfl ?_
 refine al_as rfl rfl ?_
 refine al_nt ?_
 refine aw_seq ?_
 refine aw_sr ?_
 refine al_mv rfl rfl ?_
 refine al_in rfl rfl rfl rfl ?_
 refine al_nt ?_
 refine aw_cond rfl (fun hb3 => ?_) (fun hb3 => ?_)
 ·replace h := bif_t hb3 h
  refine aw_sr ?_
  refine al_mv rfl rfl ?_
  refine al_as rfl rfl ?_
  refine al_as rfl rfl ?_
  refine al_nt ?_
  refine aw_ret ?_
  refine aq_then_ret ?_
  refine aq_nilR 3 tq ?_
  obtain rfl := Option.some.inj h
  exact fn_ret nS [0] [] rfl rfl rfl rfl (res2 rfl rfl rfl) rfl rfl rfl (by decide)
 ·replace h := bif_f hb3 h
  refine aw_skip ?_
  refine aq_then ?_
  refine aw_seq ?_
  refine aw_sr ?_
  refine al_mv rfl rfl ?_
  refine al_in rfl rfl rfl rfl ?_
  refine al_nt ?_
  refine aw_cond rfl (fun hb4 => ?_) (fun hb4 => ?_)
  ·replace h := bif_t hb4 h
   refine aw_sr ?_
   refine al_as rfl rfl ?_
   refine al_as rfl rfl ?_
   refine al_nt ?_
   refine aw_ret ?_
   refine aq_then_ret ?_
   refine aq_nilR 3 tq ?_
   obtain rfl := Option.some.inj h
   exact fn_ret nS [0] [] rfl rfl rfl rfl (res2 rfl rfl rfl) rfl rfl rfl (by decide)
  ·replace h := bif_f hb4 h
   refine aw_skip ?_
   refine aq_tr ?_
   refine al_mv rfl rfl ?_
   refine al_val (ov_lenD 0 rfl rfl Tryd.underlying71 rfl) ?_
   obtain ⟨hc5, h⟩ := req_some h
   refine al_make (τ := tq) (x0 := 0) hc5.1 hc5.2.1 hc5.2.2 rfl rfl Tryd.underlying71 to3 (fun _ _ => rfl) rfl rfl (fun v6 => ?_)
   refine al_as rfl rfl ?_
   refine al_nt ?_
   obtain ⟨kk8, hkk8, h⟩ := lt_some h
   refine aw_seq_join (ι := (List Int)) (fun i => (memOf w0 Z0 [] [(oRow v6 3 tq i)] [(fDat (tyList tq) [v0_0] a0)])) (fun i => (tab [(6, v6)])) (fun i => kk8 i = some r) ?_ ?_
   ·rintro j7x6 h
    have h : kk8 j7x6 = some r := h
    rw [hkk8] at h
    dsimp only at h
    clear hkk8
    refine aw_show (m := (memOf w0 Z0 [] [(oRow v6 3 tq j7x6)] [(fDat (tyList tq) [v0_0] a0)])) (S := (tab [(6, v6)])) ?_
    refine aw_sr ?_
    refine al_mv rfl rfl ?_
    refine al_as rfl rfl ?_
    refine al_as rfl rfl ?_
    refine al_nt ?_
    refine aw_ret ?_
    obtain rfl := Option.some.inj h
    exact fn_ret v6 [0] [] rfl rfl rfl rfl (res2 rfl rfl rfl) rfl rfl rfl (by decide)
   ·clear hkk8
    refine aw_sr ?_
    refine al_mv rfl rfl ?_
    refine al_val (ov_lenD 0 rfl rfl Tryd.underlying71 rfl) ?_
    refine al_mv rfl rfl ?_
    refine al_nt ?_
    refine aw_block ?_
    refine aw_state (aw_loop (ι := (List Int) × Int) (fun i => (memOf w0 Z0 [] [(oRow v6 3 tq i.1)] [(fDat (tyList tq) [v0_0] a0)])) (fun i => (tab [(0, v0_0), (6, v6), (24, v0_0), (25, (iq (a0.length : Int))), (26, (iq i.2))])) (fun q i => f_lumref_Codes_L11 a0 kk8 fu q i.1 i.2 = some r) ?_ fu ((List.replicate ((a0.length : Int)).toNat 0), (0 : Int)) h) (fun w a hm hs => norm hm hs [0] [0] [(0, v0_0), (6, v6), (24, v0_0), (25, (iq (a0.length : Int))), (26, (iq (0 : Int)))] (by decide) ⟨rfl, rfl, rfl, rfl, rfl, trivial⟩)
    clear h
    rintro k10 ⟨l9x6, l9i26⟩ h
    have h : f_lumref_Codes_L11 a0 kk8 fu k10 l9x6 l9i26 = some r := h
    obtain _ | k10 := k10
    · rw [f_lumref_Codes_L11] at h; cases h
    rw [f_lumref_Codes_L11] at h
    refine aw_show (m := (memOf w0 Z0 [] [(oRow v6 3 tq l9x6)] [(fDat (tyList tq) [v0_0] a0)])) (S := (tab [(0, v0_0), (6, v6), (24, v0_0), (25, (iq (a0.length : Int))), (26, (iq l9i26))])) ?_
    obtain ⟨kk12, hkk12, h⟩ := lt_some h
    refine aw_body_join (ι := (List Int) × Int) (fun i => (memOf w0 Z0 [] [(oRow v6 3 tq i.1)] [(fDat (tyList tq) [v0_0] a0)])) (fun i => (tab [(0, v0_0), (6, v6), (24, v0_0), (25, (iq (a0.length : Int))), (26, (iq i.2))])) (fun i => kk12 i.1 i.2 = some r) (fun i h => aq_again k10 i (Nat.lt_succ_self _) (by rw [hkk12] at h; exact h) (fun w a hm hs => ⟨hm, hs⟩)) ?_
    clear hkk12
    refine aw_sr ?_
    refine al_in rfl rfl rfl rfl ?_
    refine al_nt ?_
    refine aw_seq ?_
    refine aw_cond rfl (fun hb13 => ?_) (fun hb13 => ?_)
    ·replace h := bif_t hb13 h
     refine aw_skip ?_
     refine aq_then ?_
     obtain ⟨kk15, hkk15, h⟩ := lt_some h
     refine aw_seq_join (ι := (List Int)) (fun i => (memOf w0 Z0 [] [(oRow v6 3 tq i)] [(fDat (tyList tq) [v0_0] a0)])) (fun i => (tab [(0, v0_0), (6, v6), (24, v0_0), (25, (iq (a0.length : Int))), (26, (iq l9i26))])) (fun i => kk15 i = some r) ?_ ?_
     ·rintro j14x6 h
      have h : kk15 j14x6 = some r := h
      rw [hkk15] at h
      dsimp only at h
      clear hkk15
      refine aw_show (m := (memOf w0 Z0 [] [(oRow v6 3 tq j14x6)] [(fDat (tyList tq) [v0_0] a0)])) (S := (tab [(0, v0_0), (6, v6), (24, v0_0), (25, (iq (a0.length : Int))), (26, (iq l9i26))])) ?_
      refine aw_region ?_
      refine al_in rfl rfl rfl rfl ?_
      refine al_mv rfl rfl ?_
      refine al_nil ?_
      exact aq_join (j14x6, (wq (l9i26 + (1 : Int)))) h (fun w a hm hs => norm hm hs [0] [0] [(0, v0_0), (6, v6), (24, v0_0), (25, (iq (a0.length : Int))), (26, (iq (wq (l9i26 + (1 : Int)))))] (by decide) ⟨rfl, rfl, rfl, rfl, rfl, trivial⟩)
     ·clear hkk15
      refine aw_block ?_
      refine aw_sr ?_
      refine al_mv rfl rfl ?_
      obtain ⟨u16, hu17, h⟩ := opt_some h
      refine al_idxD 0 hu17 rfl rfl rfl Tryd.underlying71 sz3 rfl (fun p18 => ?_)
      refine al_val (ov_loadP (ds := [(iq u16)]) 0 rfl (fun h => h) rfl Tryd.underlying3 sz3 rfl rfl rfl) ?_
      refine al_as rfl rfl ?_
      refine al_as rfl rfl ?_
      refine al_nt ?_
      refine aw_sr ?_
      refine al_mv rfl rfl ?_
      refine al_val (ov_lenD 1 rfl rfl Tryd.underlying71 rfl) ?_
      refine al_mv rfl rfl ?_
      refine al_nt ?_
      refine aw_block ?_
      refine aw_state (aw_loop (ι := (List Int) × Int) (fun i => (memOf w0 Z0 [] [(oRow v6 3 tq i.1)] [(fDat (tyList tq) [v0_0] a0), (fPtr tq p18 u16)])) (fun i => (tab [(0, v0_0), (6, v6), (7, (iq l9i26)), (8, (iq u16)), (24, v0_0), (25, (iq (a0.length : Int))), (26, (iq l9i26)), (31, v0_0), (32, (iq (a0.length : Int))), (33, (iq i.2))])) (fun q i => f_lumref_Codes_L21 a0 l9i26 kk15 u16 q i.1 i.2 = some r) ?_ fu (l9x6, (0 : Int)) h) (fun w a hm hs => norm hm hs [0] [1, 0] [(0, v0_0), (6, v6), (7, (iq l9i26)), (8, (iq u16)), (24, v0_0), (25, (iq (a0.length : Int))), (26, (iq l9i26)), (31, v0_0), (32, (iq (a0.length : Int))), (33, (iq (0 : Int)))] (by decide) ⟨rfl, rfl, rfl, rfl, rfl, rfl, rfl, rfl, rfl, rfl, trivial⟩)
      clear h
      rintro k20 ⟨l19x6, l19i33⟩ h
      have h : f_lumref_Codes_L21 a0 l9i26 kk15 u16 k20 l19x6 l19i33 = some r := h
      obtain _ | k20 := k20
      · rw [f_lumref_Codes_L21] at h; cases h
      rw [f_lumref_Codes_L21] at h
      refine aw_show (m := (memOf w0 Z0 [] [(oRow v6 3 tq l19x6)] [(fDat (tyList tq) [v0_0] a0), (fPtr tq p18 u16)])) (S := (tab [(0, v0_0), (6, v6), (7, (iq l9i26)), (8, (iq u16)), (24, v0_0), (25, (iq (a0.length : Int))), (26, (iq l9i26)), (31, v0_0), (32, (iq (a0.length : Int))), (33, (iq l19i33))])) ?_
      refine aw_sr ?_
      refine al_in rfl rfl rfl rfl ?_
      refine al_nt ?_
      refine aw_seq ?_
      refine aw_cond rfl (fun hb22 => ?_) (fun hb22 => ?_)
      ·replace h := bif_t hb22 h
       refine aw_skip ?_
       refine aq_then ?_
       obtain ⟨kk24, hkk24, h⟩ := lt_some h
       refine aw_seq_join (ι := (List Int)) (fun i => (memOf w0 Z0 [] [(oRow v6 3 tq i)] [(fDat (tyList tq) [v0_0] a0), (fPtr tq p18 u16)])) (fun i => (tab [(0, v0_0), (6, v6), (7, (iq l9i26)), (8, (iq u16)), (24, v0_0), (25, (iq (a0.length : Int))), (26, (iq l9i26)), (31, v0_0), (32, (iq (a0.length : Int))), (33, (iq l19i33))])) (fun i => kk24 i = some r) ?_ ?_
       ·rintro j23x6 h
        have h : kk24 j23x6 = some r := h
        rw [hkk24] at h
        dsimp only at h
        clear hkk24
        refine aw_show (m := (memOf w0 Z0 [] [(oRow v6 3 tq j23x6)] [(fDat (tyList tq) [v0_0] a0), (fPtr tq p18 u16)])) (S := (tab [(0, v0_0), (6, v6), (7, (iq l9i26)), (8, (iq u16)), (24, v0_0), (25, (iq (a0.length : Int))), (26, (iq l9i26)), (31, v0_0), (32, (iq (a0.length : Int))), (33, (iq l19i33))])) ?_
        refine aw_region ?_
        refine al_in rfl rfl rfl rfl ?_
        refine al_mv rfl rfl ?_
        refine al_nil ?_
        exact aq_again k20 (j23x6, (wq (l19i33 + (1 : Int)))) (Nat.lt_succ_self _) h (fun w a hm hs => norm hm hs [0] [0, 1] [(0, v0_0), (6, v6), (7, (iq l9i26)), (8, (iq u16)), (24, v0_0), (25, (iq (a0.length : Int))), (26, (iq l9i26)), (31, v0_0), (32, (iq (a0.length : Int))), (33, (iq (wq (l19i33 + (1 : Int)))))] (by decide) ⟨rfl, rfl, rfl, rfl, rfl, rfl, rfl, rfl, rfl, rfl, trivial⟩)
       ·clear hkk24
        refine aw_block ?_
        refine aw_sr ?_
        refine al_mv rfl rfl ?_
        obtain ⟨u25, hu26, h⟩ := opt_some h
        refine al_idxD 0 hu26 rfl rfl rfl Tryd.underlying71 sz3 rfl (fun p27 => ?_)
        refine al_val (ov_loadP (ds := [(iq u25)]) 0 rfl (fun h => h) rfl Tryd.underlying3 sz3 rfl rfl rfl) ?_
        refine al_as rfl rfl ?_
        refine al_as rfl rfl ?_
        refine al_nt ?_
        obtain ⟨kk29, hkk29, h⟩ := lt_some h
        refine aw_seq_join (ι := Bool) (fun i => (memOf w0 Z0 [] [(oRow v6 3 tq l19x6)] [(fDat (tyList tq) [v0_0] a0), (fPtr tq p27 u25), (fPtr tq p18 u16)])) (fun i => (tab [(0, v0_0), (6, v6), (7, (iq l9i26)), (8, (iq u16)), (10, (iq u25)), (24, v0_0), (25, (iq (a0.length : Int))), (26, (iq l9i26)), (31, v0_0), (32, (iq (a0.length : Int))), (33, (iq l19i33)), (58, (bool i))])) (fun i => kk29 i = some r) ?_ ?_
        ·rintro j28b58 h
         have h : kk29 j28b58 = some r := h
         rw [hkk29] at h
         dsimp only at h
         clear hkk29
         refine aw_show (m := (memOf w0 Z0 [] [(oRow v6 3 tq l19x6)] [(fDat (tyList tq) [v0_0] a0), (fPtr tq p27 u25), (fPtr tq p18 u16)])) (S := (tab [(0, v0_0), (6, v6), (7, (iq l9i26)), (8, (iq u16)), (10, (iq u25)), (24, v0_0), (25, (iq (a0.length : Int))), (26, (iq l9i26)), (31, v0_0), (32, (iq (a0.length : Int))), (33, (iq l19i33)), (58, (bool j28b58))])) ?_
         refine aw_cond rfl (fun hb30 => ?_) (fun hb30 => ?_)
         ·replace h := bif_t hb30 h
          obtain ⟨u31, hu32, h⟩ := opt_some h
          obtain ⟨hc35, h⟩ := req_some h
          obtain ⟨u36, hu37, h⟩ := opt_some h
          refine aw_region_draw 10 [(59, (fun u => fEq u v6)), (60, (fun u => fEq u (iq l9i26))), (61, (fun p => fElt v6 p ((l9i26).toNat * Ty.size tq))), (62, (fun u => fEq u (iq u31))), (63, (fun u => fEq u (iq u16))), (64, (fun u => fEq u (iq u25))), (65, (fun u => fEq u (iq (wq (u16 - u25))))), (66, (fun u => fEq u (iq (wq ((1 : Int) * 2 ^ min ((wq (u16 - u25))).toNat (IntKind.bits .i64)))))), (67, (fun u => fEq u (iq (wq (u31 + (wq ((1 : Int) * 2 ^ min ((wq (u16 - u25))).toNat (IntKind.bits .i64)))))))), (68, (fun p => fElt v6 p ((l9i26).toNat * Ty.size tq)))] (tab [(0, v0_0), (6, v6), (7, (iq l9i26)), (8, (iq u16)), (10, (iq u25)), (24, v0_0), (25, (iq (a0.length : Int))), (26, (iq l9i26)), (31, v0_0), (32, (iq (a0.length : Int))), (33, (iq l19i33))]) mixed (by kernel_rfl) rfl rfl rfl (fun a hs => hs.tab _ (allT_mem ⟨rfl, rfl, rfl, rfl, rfl, rfl, rfl, rfl, rfl, rfl, rfl, trivial⟩)) ⟨⟨rfl, ld_val (ov_move rfl rfl)⟩, ⟨rfl, ld_val (ov_move rfl rfl)⟩, ⟨rfl, ld_eq (j := 0) rfl rfl (ld_eq (j := 1) rfl rfl (ld_of (of_idxR 0 (at_some hu32).1 (at_some hu32).2.1 rfl rfl rfl Tryd.underlying71 sz3 rfl)))⟩, ⟨rfl, ld_elt (j := 2) rfl rfl (fun p33 hp34 => ld_val (ov_loadR (ds := [(iq u31)]) 0 rfl hp34 (at_some hu32).2.2 (fun h => h) rfl Tryd.underlying3 sz3 rfl rfl rfl))⟩, ⟨rfl, ld_val (ov_move rfl rfl)⟩, ⟨rfl, ld_val (ov_move rfl rfl)⟩, ⟨rfl, ld_eq (j := 4) rfl rfl (ld_eq (j := 5) rfl rfl (ld_val (ov_int rfl rfl rfl rfl)))⟩, ⟨rfl, ld_eq (j := 6) rfl rfl (ld_val (ov_shl hc35 rfl rfl rfl))⟩, ⟨rfl, ld_eq (j := 3) rfl rfl (ld_eq (j := 7) rfl rfl (ld_val (ov_int rfl rfl rfl rfl)))⟩, ⟨rfl, ld_eq (j := 0) rfl rfl (ld_eq (j := 1) rfl rfl (ld_of (of_idxR 0 (at_some hu37).1 (at_some hu37).2.1 rfl rfl rfl Tryd.underlying71 sz3 rfl)))⟩, trivial⟩ ?_
          refine tl_eq 8 rfl ?_
          refine tl_elt 9 rfl (fun p38 hp39 => ?_)
          refine tl_done ?_
          refine al_storeR (k := (l9i26).toNat) (x := (wq (u31 + (wq ((1 : Int) * 2 ^ min ((wq (u16 - u25))).toNat (IntKind.bits .i64)))))) (vs := [(iq (wq (u31 + (wq ((1 : Int) * 2 ^ min ((wq (u16 - u25))).toNat (IntKind.bits .i64))))))]) 0 rfl hp39 (idx_lt hu37) rfl rfl (cv_rfl rfl) (fun _ => rfl) sz3 rfl ?_
          refine al_nil ?_
          refine aq_block ?_
          exact aq_join (l19x6.set (l9i26).toNat (wq (u31 + (wq ((1 : Int) * 2 ^ min ((wq (u16 - u25))).toNat (IntKind.bits .i64)))))) h (fun w a hm hs => norm hm hs [0] [0, 2] [(0, v0_0), (6, v6), (7, (iq l9i26)), (8, (iq u16)), (24, v0_0), (25, (iq (a0.length : Int))), (26, (iq l9i26)), (31, v0_0), (32, (iq (a0.length : Int))), (33, (iq l19i33))] (by decide) ⟨rfl, rfl, rfl, rfl, rfl, rfl, rfl, rfl, rfl, rfl, trivial⟩)
         ·replace h := bif_f hb30 h
          refine aw_skip ?_
          refine aq_block ?_
          exact aq_join l19x6 h (fun w a hm hs => norm hm hs [0] [0, 2] [(0, v0_0), (6, v6), (7, (iq l9i26)), (8, (iq u16)), (24, v0_0), (25, (iq (a0.length : Int))), (26, (iq l9i26)), (31, v0_0), (32, (iq (a0.length : Int))), (33, (iq l19i33))] (by decide) ⟨rfl, rfl, rfl, rfl, rfl, rfl, rfl, rfl, rfl, rfl, trivial⟩)
        ·clear hkk29
         refine aw_region ?_
         refine al_mv rfl rfl ?_
         refine al_in rfl rfl rfl rfl ?_
         refine al_mv rfl rfl ?_
         refine al_caseB 40 rfl (fun hb40 => ?_) (fun hb40 => ?_)
         ·replace h := bif_t hb40 h
          refine al_mv rfl rfl ?_
          refine al_in rfl rfl rfl rfl ?_
          refine al_val (ov_pick_t rfl rfl rfl) ?_
          refine al_mv rfl rfl ?_
          refine al_caseB 44 rfl (fun hb41 => ?_) (fun hb41 => ?_)
          ·replace h := bif_t hb41 h
           refine al_mv rfl rfl ?_
           refine al_mv rfl rfl ?_
           refine al_in rfl rfl rfl rfl ?_
           refine al_mv rfl rfl ?_
           refine al_caseB 48 rfl (fun hb42 => ?_) (fun hb42 => ?_)
           ·replace h := bif_t hb42 h
            refine al_skip ?_
            refine al_skip ?_
            refine al_skip ?_
            refine al_skip ?_
            refine al_skip ?_
            refine al_skip ?_
            refine al_skip ?_
            refine al_skip ?_
            refine al_val (ov_pick_t rfl rfl rfl) ?_
            refine al_val (ov_pick_t rfl rfl rfl) ?_
            refine al_nil ?_
            exact aq_join true h (fun w a hm hs => norm hm hs [0] [1, 0, 2] [(0, v0_0), (6, v6), (7, (iq l9i26)), (8, (iq u16)), (10, (iq u25)), (24, v0_0), (25, (iq (a0.length : Int))), (26, (iq l9i26)), (31, v0_0), (32, (iq (a0.length : Int))), (33, (iq l19i33)), (58, (bool true))] (by decide) ⟨rfl, rfl, rfl, rfl, rfl, rfl, rfl, rfl, rfl, rfl, rfl, rfl, trivial⟩)
           ·replace h := bif_f hb42 h
            refine al_mv rfl rfl ?_
            refine al_mv rfl rfl ?_
            refine al_in rfl rfl rfl rfl ?_
            refine al_mv rfl rfl ?_
            refine al_caseB 52 rfl (fun hb43 => ?_) (fun hb43 => ?_)
            ·replace h := bif_t hb43 h
             refine al_mv rfl rfl ?_
             refine al_mv rfl rfl ?_
             refine al_in rfl rfl rfl rfl ?_
             refine al_val (ov_pick_t rfl rfl rfl) ?_
             refine al_val (ov_pick_f rfl rfl rfl) ?_
             refine al_val (ov_pick_t rfl rfl rfl) ?_
             refine al_nil ?_
             exact aq_join (decide (l19i33 < l9i26)) h (fun w a hm hs => norm hm hs [0] [1, 0, 2] [(0, v0_0), (6, v6), (7, (iq l9i26)), (8, (iq u16)), (10, (iq u25)), (24, v0_0), (25, (iq (a0.length : Int))), (26, (iq l9i26)), (31, v0_0), (32, (iq (a0.length : Int))), (33, (iq l19i33)), (58, (bool (decide (l19i33 < l9i26))))] (by decide) ⟨rfl, rfl, rfl, rfl, rfl, rfl, rfl, rfl, rfl, rfl, rfl, rfl, trivial⟩)
            ·replace h := bif_f hb43 h
             refine al_skip ?_
             refine al_skip ?_
             refine al_skip ?_
             refine al_val (ov_pick_f rfl rfl rfl) ?_
             refine al_val (ov_pick_f rfl rfl rfl) ?_
             refine al_val (ov_pick_t rfl rfl rfl) ?_
             refine al_nil ?_
             exact aq_join false h (fun w a hm hs => norm hm hs [0] [1, 0, 2] [(0, v0_0), (6, v6), (7, (iq l9i26)), (8, (iq u16)), (10, (iq u25)), (24, v0_0), (25, (iq (a0.length : Int))), (26, (iq l9i26)), (31, v0_0), (32, (iq (a0.length : Int))), (33, (iq l19i33)), (58, (bool false))] (by decide) ⟨rfl, rfl, rfl, rfl, rfl, rfl, rfl, rfl, rfl, rfl, rfl, rfl, trivial⟩)
          ·replace h := bif_f hb41 h
           refine al_skip ?_
           refine al_skip ?_
           refine al_skip ?_
           refine al_skip ?_
           refine al_skip ?_
           refine al_skip ?_
           refine al_skip ?_
           refine al_skip ?_
           refine al_skip ?_
           refine al_skip ?_
           refine al_skip ?_
           refine al_skip ?_
           refine al_skip ?_
           refine al_val (ov_pick_f rfl rfl rfl) ?_
           refine al_nil ?_
           exact aq_join false h (fun w a hm hs => norm hm hs [0] [1, 0, 2] [(0, v0_0), (6, v6), (7, (iq l9i26)), (8, (iq u16)), (10, (iq u25)), (24, v0_0), (25, (iq (a0.length : Int))), (26, (iq l9i26)), (31, v0_0), (32, (iq (a0.length : Int))), (33, (iq l19i33)), (58, (bool false))] (by decide) ⟨rfl, rfl, rfl, rfl, rfl, rfl, rfl, rfl, rfl, rfl, rfl, rfl, trivial⟩)
         ·replace h := bif_f hb40 h
          refine al_skip ?_
          refine al_skip ?_
          refine al_val (ov_pick_f rfl rfl rfl) ?_
          refine al_mv rfl rfl ?_
          refine al_skip ?_
          refine al_skip ?_
          refine al_skip ?_
          refine al_skip ?_
          refine al_skip ?_
          refine al_skip ?_
          refine al_skip ?_
          refine al_skip ?_
          refine al_skip ?_
          refine al_skip ?_
          refine al_skip ?_
          refine al_skip ?_
          refine al_skip ?_
          refine al_val (ov_pick_f rfl rfl rfl) ?_
          refine al_nil ?_
          exact aq_join false h (fun w a hm hs => norm hm hs [0] [1, 0, 2] [(0, v0_0), (6, v6), (7, (iq l9i26)), (8, (iq u16)), (10, (iq u25)), (24, v0_0), (25, (iq (a0.length : Int))), (26, (iq l9i26)), (31, v0_0), (32, (iq (a0.length : Int))), (33, (iq l19i33)), (58, (bool false))] (by decide) ⟨rfl, rfl, rfl, rfl, rfl, rfl, rfl, rfl, rfl, rfl, rfl, rfl, trivial⟩)
      ·replace h := bif_f hb22 h
       refine aw_exit ?_
       refine aq_then_exit ?_
       refine aq_then_exit ?_
       refine aq_block_exit ?_
       refine aq_block ?_
       exact aq_join l19x6 h (fun w a hm hs => norm hm hs [0] [0] [(0, v0_0), (6, v6), (24, v0_0), (25, (iq (a0.length : Int))), (26, (iq l9i26))] (by decide) ⟨rfl, rfl, rfl, rfl, rfl, trivial⟩)
    ·replace h := bif_f hb13 h
     refine aw_exit ?_
     refine aq_then_exit ?_
     refine aq_then_exit ?_
     refine aq_block_exit ?_
     exact aq_join l9x6 h (fun w a hm hs => norm hm hs [0] [0] [(6, v6)] (by decide) ⟨rfl, trivial⟩)
def f_lumref_bitsOf : Nat → Int → Int → Option (List UInt8)
  | 0, _, _ => none
  | fu + 1, a0, a1 => (bif (a1 == (0 : Int)) then (some ([] : List UInt8)) else (opt (f_lumref_bitsOf fu (IntKind.i64.wrap ((a0).tdiv (2 : Int))) (IntKind.i64.wrap (a1 - (1 : Int)))) fun (r3 : (List UInt8)) => (req (0 ≤ (IntKind.u8.wrap ((48 : Int) + (IntKind.u8.wrap ((a0).tmod (2 : Int))))) ∧ (IntKind.u8.wrap ((48 : Int) + (IntKind.u8.wrap ((a0).tmod (2 : Int))))) ≤ 255) (req (r3.length + ([(UInt8.ofNat ((IntKind.u8.wrap ((48 : Int) + (IntKind.u8.wrap ((a0).tmod (2 : Int)))))).toNat)]).length ≤ 9223372036854775807) (some (r3 ++ ([(UInt8.ofNat ((IntKind.u8.wrap ((48 : Int) + (IntKind.u8.wrap ((a0).tmod (2 : Int)))))).toNat)])))))))
set_option maxHeartbeats 2000000 in
set_option maxRecDepth 100000 in
theorem f_lumref_bitsOf_ok (fu : Nat) (a0 : Int) (a1 : Int) {r : (List UInt8)} (h : f_lumref_bitsOf fu a0 a1 = some r) : FnOk Tryd.prog 99 [(int .i64 a0), (int .i64 a1)] [] [] (fun (i : Unit) => { val := (str r) }) := by
 cases fu with
 | zero => rw [f_lumref_bitsOf] at h; cases h
 | succ fu =>
  rw [f_lumref_bitsOf] at h
  refine fn_enter Tryd.func99 rfl Tryd.ntmps99 rfl (fun w0 Z0 => ?_)
  refine aw_sr ?_
  refine al_as rfl rfl ?_
  refine al_nt ?_
  refine aw_seq ?_
  refine aw_sr ?_
  refine al_mv rfl rfl ?_
  refine al_in rfl rfl rfl rfl ?_
  refine al_nt ?_
  refine aw_cond rfl (fun hb1 => ?_) (fun hb1 => ?_)
  ·replace h := bif_t hb1 h
   refine aw_sr ?_
   refine al_as rfl rfl ?_
   refine al_nt ?_
   refine aw_ret ?_
   refine aq_then_ret ?_
   obtain rfl := Option.some.inj h
   exact fn_ret () [] [] rfl rfl rfl rfl (res1 rfl rfl) rfl rfl rfl (by decide)
  ·replace h := bif_f hb1 h
   refine aw_skip ?_
   refine aq_then ?_
   refine aw_seq ?_
   obtain ⟨r3, hc2, h⟩ := opt_some h
   obtain ⟨hc5, h⟩ := req_some h
   obtain ⟨hc6, h⟩ := req_some h
   refine aw_region_draw 12 [(7, (fun u => fEq u (iq a0))), (8, (fun u => fEq u (iq (wq ((a0).tdiv (2 : Int)))))), (9, (fun u => fEq u (iq a1))), (10, (fun u => fEq u (iq (wq (a1 - (1 : Int)))))), (11, (fun u => fEq u (str r3))), (12, (fun u => fEq u (iq a0))), (13, (fun u => fEq u (iq ((a0).tmod (2 : Int))))), (14, (fun u => fEq u (i8 (w8 ((a0).tmod (2 : Int)))))), (15, (fun u => fEq u (i8 (w8 ((48 : Int) + (w8 ((a0).tmod (2 : Int)))))))), (16, (fun v4 => (fDat (tyList tyU8) [v4] [(UInt8.ofNat ((w8 ((48 : Int) + (w8 ((a0).tmod (2 : Int)))))).toNat)]))), (17, (fun u => fEq u (str [(UInt8.ofNat ((w8 ((48 : Int) + (w8 ((a0).tmod (2 : Int)))))).toNat)]))), (18, (fun u => fEq u (str (r3 ++ ([(UInt8.ofNat ((w8 ((48 : Int) + (w8 ((a0).tmod (2 : Int)))))).toNat)])))))] (tab [(0, (iq a0)), (1, (iq a1)), (4, (str ([] : List UInt8)))]) mixed (by kernel_rfl) rfl rfl rfl (fun a hs => hs.tab _ (allT_mem ⟨rfl, rfl, rfl, trivial⟩)) ⟨⟨rfl, ld_val (ov_move rfl rfl)⟩, ⟨rfl, ld_eq (j := 0) rfl rfl (ld_val (ov_quo (by decide) rfl rfl rfl))⟩, ⟨rfl, ld_val (ov_move rfl rfl)⟩, ⟨rfl, ld_eq (j := 2) rfl rfl (ld_val (ov_int rfl rfl rfl rfl))⟩, ⟨rfl, ld_eq (j := 1) rfl rfl (ld_eq (j := 3) rfl rfl (ld_callV (vs := [(iq (wq ((a0).tdiv (2 : Int)))), (iq (wq (a1 - (1 : Int))))]) (f_lumref_bitsOf_ok fu (wq ((a0).tdiv (2 : Int))) (wq (a1 - (1 : Int))) hc2) [] pre_nil rfl Tryd.func99 rfl rfl rfl))⟩, ⟨rfl, ld_val (ov_move rfl rfl)⟩, ⟨rfl, ld_eq (j := 5) rfl rfl (ld_val (ov_rem (by decide) rfl rfl rfl))⟩, ⟨rfl, ld_eq (j := 6) rfl rfl (ld_val (ov_convInt (by rw [Tryd.underlying3]; rfl) Tryd.underlying5 rfl rfl))⟩, ⟨rfl, ld_eq (j := 7) rfl rfl (ld_val (ov_int rfl rfl rfl rfl))⟩, ⟨rfl, ld_eq (j := 8) rfl rfl (ld_buildSlice (τ := tyU8) (e := 5) (k := 1) (cs := [(i8 (w8 ((48 : Int) + (w8 ((a0).tmod (2 : Int))))))]) (xs := [(UInt8.ofNat ((w8 ((48 : Int) + (w8 ((a0).tmod (2 : Int)))))).toNat)]) rfl (by decide) rfl (fun w a hm hs => ⟨([(i8 (w8 ((48 : Int) + (w8 ((a0).tmod (2 : Int))))))]).toArray, rfl, by simp only [List.map_toArray, List.map_cons, List.map_nil, hs.ev (x := .tmp 15) rfl]; exact run_bs [(i8 (w8 ((48 : Int) + (w8 ((a0).tmod (2 : Int))))))] [(i8 (w8 ((48 : Int) + (w8 ((a0).tmod (2 : Int))))))] Tryd.underlying74 to5 rfl rfl (bs_cons (l := [(i8 (w8 ((48 : Int) + (w8 ((a0).tmod (2 : Int))))))]) (cs := []) (cv_rfl rfl) rfl bs_nil) hm⟩) (fun hm => ⟨_, _, rfl, (fun _ => u8_rep hc5) hm, rfl⟩) rfl)⟩, ⟨rfl, ld_fact (j := 9) rfl rfl (fun v4 => ld_val (ov_toStr 0 rfl rfl Tryd.underlying74 Tryd.underlying5 Tryd.underlying9 rfl))⟩, ⟨rfl, ld_eq (j := 4) rfl rfl (ld_eq (j := 10) rfl rfl (ld_val (ov_strAdd hc6 rfl rfl rfl)))⟩, trivial⟩ ?_
   refine tl_eq 11 rfl ?_
   refine tl_done ?_
   refine al_as rfl rfl ?_
   refine al_nt ?_
   refine aw_ret ?_
   obtain rfl := Option.some.inj h
   exact fn_ret () [] [] rfl rfl rfl rfl (res1 rfl rfl) rfl rfl rfl (by decide)
-- STUCK (*strings.Builder).copyCheck: lty ['pointer', 154]
-- STUCK (*strings.Builder).WriteString: lty ['pointer', 154]
-- STUCK (*strings.Builder).String: lty ['pointer', 154]
def f___strings_Builder__WriteString_sb (fu : Nat) (a0 : (List UInt8)) (a1 : (List UInt8)) : Option (Int × Unit × (List UInt8)) := (req (a0.length + a1.length ≤ 140737488355328) (some ((a1.length : Int), (), (a0 ++ a1))))
set_option maxHeartbeats 2000000 in
set_option maxRecDepth 100000 in
theorem f___strings_Builder__WriteString_sb_ok (fu : Nat) (bx0 : Nat) (v0_0 : Value) (a0 : (List UInt8)) (a1 : (List UInt8)) {r : (Int × Unit × (List UInt8))} (h : f___strings_Builder__WriteString_sb fu a0 a1 = some r) : FnOk Tryd.prog 100 [(ptr bx0 0), (str a1)] [] [(oSB bx0 154 v0_0), (oRow v0_0 5 tyU8 a0)] (fun (i : Value) => { val := (Value.tuple #[(int .i64 r.1), Value.nilIface]), own := [(oSB bx0 154 i), (oRow i 5 tyU8 r.2.2)] }) := by
 unfold f___strings_Builder__WriteString_sb at h
 refine fn_enter Tryd.func100 rfl Tryd.ntmps100 rfl (fun w0 Z0 => ?_)
 refine aw_sr ?_
 refine al_as rfl rfl ?_
 refine al_as rfl rfl ?_
 refine al_nt ?_
 refine aw_sr ?_
 refine al_mv rfl rfl ?_
 refine al_call (vs := [(pq bx0)]) (fn_copyCheck bx0 v0_0) [] [0] [1] pre_nil rfl (by simp) (by decide) (.inl rfl) rfl Tryd.func151 rfl rfl rfl (fun _ => ?_)
 refine al_nt ?_
 refine aw_sr ?_
 refine al_mv rfl rfl ?_
 refine al_mv rfl rfl ?_
 refine al_val (ov_nilCheck rfl rfl) ?_
 refine al_val (ov_fieldA (p := 1) rfl Tryd.underlying154 rfl sz74 rfl rfl rfl) ?_
 refine al_val (ov_load (i := 0) (v := v0_0) rfl rfl Tryd.underlying74 sz74 rfl rfl rfl rfl) ?_
 refine al_mv rfl rfl ?_
 obtain ⟨hc1, h⟩ := req_some h
 refine al_appendS 1 hc1 rfl rfl rfl Tryd.underlying74 Tryd.underlying9 to5 rfl (fun v2 => ?_)
 refine al_val (ov_nilCheck rfl rfl) ?_
 refine al_val (ov_fieldA (p := 1) rfl Tryd.underlying154 rfl sz74 rfl rfl rfl) ?_
 refine al_store (i := 0) (vs := [v2]) (cs' := [(pq bx0), v2]) rfl rfl rfl sz74 (cv_own 1 rfl) rfl (co_own 1 rfl co_nil) (Nat.le_of_ble_eq_true rfl) rfl rfl ?_
 refine al_nt ?_
 refine aw_sr ?_
 refine al_mv rfl rfl ?_
 refine al_val (ov_strLen Tryd.underlying9 rfl rfl) ?_
 refine al_as rfl rfl ?_
 refine al_as rfl rfl ?_
 refine al_nt ?_
 refine aw_ret ?_
 refine aq_sb 0 rfl (.inr rfl) ?_
 obtain rfl := Option.some.inj h
 exact fn_ret v2 [0, 1] [] rfl rfl rfl rfl (res2 rfl rfl rfl) rfl rfl rfl (by decide)
def f_lumref_Coded_L58 (l39s19 : (List UInt8)) (kk48 : (Int → Option (List UInt8))) : Nat → Int → Int → Option (List UInt8)
  | 0, _, _ => none
  | k57 + 1, l56i21, l56i112 => (bif (decide (l56i112 < ((l39s19.take ((8 : Int)).toNat).length : Int))) then (opt (at? (l39s19.take ((8 : Int)).toNat) l56i112) fun (u60 : UInt8) => (f_lumref_Coded_L58 l39s19 kk48 k57 (IntKind.i64.wrap ((IntKind.i64.wrap ((2 : Int) * l56i21)) + (IntKind.i64.wrap (IntKind.u8.wrap ((u60.toNat : Int) - (48 : Int)))))) (IntKind.i64.wrap (l56i112 + (1 : Int))))) else (kk48 l56i21))
def f_lumref_Coded_L41 (kk27 : ((List UInt8) → Option (List UInt8))) (fu : Nat) : Nat → (List UInt8) → (List UInt8) → Option (List UInt8)
  | 0, _, _ => none
  | k40 + 1, l39s19, l39x20 => (lt (fun (l39s19 : (List UInt8)) (l39x20 : (List UInt8)) => (f_lumref_Coded_L41 kk27 fu k40 l39s19 l39x20)) fun (kk42 : (List UInt8) → (List UInt8) → Option (List UInt8)) => (bif (!(l39s19 == ([] : List UInt8))) then (lt (fun (j44x20 : (List UInt8)) => (req (0 ≤ (8 : Int) ∧ (8 : Int) ≤ (l39s19.length : Int)) (kk42 (l39s19.drop ((8 : Int)).toNat) j44x20))) fun (kk45 : (List UInt8) → Option (List UInt8)) => (lt (fun (j47i21 : Int) => (req (0 ≤ (IntKind.u8.wrap j47i21) ∧ (IntKind.u8.wrap j47i21) ≤ 255) (req (((l39x20.length + ([(UInt8.ofNat ((IntKind.u8.wrap j47i21)).toNat)]).length) * 1 : Nat) ≤ 140737488355328 ∧ l39x20.length + ([(UInt8.ofNat ((IntKind.u8.wrap j47i21)).toNat)]).length ≤ 9223372036854775807) (kk45 (l39x20 ++ ([(UInt8.ofNat ((IntKind.u8.wrap j47i21)).toNat)])))))) fun (kk48 : Int → Option (List UInt8)) => (req (0 ≤ (8 : Int) ∧ (8 : Int) ≤ (l39s19.length : Int)) (req ((l39s19.take ((8 : Int)).toNat).length ≤ 9223372036854775807) (f_lumref_Coded_L58 l39s19 kk48 fu (0 : Int) (0 : Int)))))) else (kk27 l39x20)))
def f_lumref_Coded_L67 (r5 : (List UInt8)) (j18x11 : (List (List UInt8))) (kk22 : ((List UInt8) → Option (List UInt8))) (fu : Nat) : Nat → (List UInt8) → Int → Option (List UInt8)
  | 0, _, _ => none
  | k66 + 1, l65x16_0, l65i85 => (bif (decide (l65i85 < (r5.length : Int))) then (opt (at? r5 l65i85) fun (u69 : UInt8) => (opt (at? j18x11 (u69.toNat : Int)) fun (u72 : (List UInt8)) => (opt (f___strings_Builder__WriteString_sb fu l65x16_0 u72) fun (r77 : (Int × Unit × (List UInt8))) => (f_lumref_Coded_L67 r5 j18x11 kk22 fu k66 r77.2.2 (IntKind.i64.wrap (l65i85 + (1 : Int))))))) else (kk22 l65x16_0))
def f_lumref_Coded_L81 (r11 : ((List Int) × Int)) (r14 : ((List Int) × Int)) (kk19 : ((List (List UInt8)) → (List UInt8) → Int → Option (List UInt8))) (fu : Nat) : Nat → (List (List UInt8)) → (List UInt8) → Int → Int → Option (List UInt8)
  | 0, _, _, _, _ => none
  | k80 + 1, l79x11, l79s12, l79i13, l79i55 => (bif (decide (l79i55 < (r11.1.length : Int))) then (lt (fun (j83x11 : (List (List UInt8))) (j83s12 : (List UInt8)) (j83i13 : Int) => (f_lumref_Coded_L81 r11 r14 kk19 fu k80 j83x11 j83s12 j83i13 (IntKind.i64.wrap (l79i55 + (1 : Int))))) fun (kk84 : (List (List UInt8)) → (List UInt8) → Int → Option (List UInt8)) => (opt (at? r11.1 l79i55) fun (u85 : Int) => (bif (decide (u85 > (0 : Int))) then (opt (at? r14.1 l79i55) fun (u90 : Int) => (opt (f_lumref_bitsOf fu u90 u85) fun (r95 : (List UInt8)) => (opt (at? l79x11 l79i55) fun (u96 : (List UInt8)) => (req (0 ≤ (IntKind.u8.wrap l79i55) ∧ (IntKind.u8.wrap l79i55) ≤ 255) (req (0 ≤ (IntKind.u8.wrap u85) ∧ (IntKind.u8.wrap u85) ≤ 255) (req (l79s12.length + ([(UInt8.ofNat ((IntKind.u8.wrap l79i55)).toNat), (UInt8.ofNat ((IntKind.u8.wrap u85)).toNat)]).length ≤ 9223372036854775807) (kk84 (l79x11.set (l79i55).toNat r95) (l79s12 ++ ([(UInt8.ofNat ((IntKind.u8.wrap l79i55)).toNat), (UInt8.ofNat ((IntKind.u8.wrap u85)).toNat)])) (IntKind.i64.wrap (l79i13 + (1 : Int)))))))))) else (kk84 l79x11 l79s12 l79i13)))) else (kk19 l79x11 l79s12 l79i13))
def f_lumref_Coded_L108 (r5 : (List UInt8)) (kk9 : ((List Int) → Option (List UInt8))) : Nat → (List Int) → Int → Option (List UInt8)
  | 0, _, _ => none
  | k107 + 1, l106x4, l106i31 => (bif (decide (l106i31 < (r5.length : Int))) then (opt (at? r5 l106i31) fun (u110 : UInt8) => (opt (at? l106x4 (u110.toNat : Int)) fun (u113 : Int) => (opt (at? l106x4 (u110.toNat : Int)) fun (u117 : Int) => (f_lumref_Coded_L108 r5 kk9 k107 (l106x4.set ((u110.toNat : Int)).toNat (IntKind.i64.wrap (u113 + (1 : Int)))) (IntKind.i64.wrap (l106i31 + (1 : Int))))))) else (kk9 l106x4))
def f_lumref_Coded (fu : Nat) (a0 : (List UInt8)) : Option (List UInt8) := (opt (f_lumref_Greedy fu a0) fun (r2 : (List S_api_Token)) => (opt (f_lumref_TokensText fu r2) fun (r5 : (List UInt8)) => (req (0 ≤ (256 : Int) ∧ 8 * (256 : Int) ≤ 281474976710656 ∧ (256 : Int) ≤ 9223372036854775807) (lt (fun (j8x4 : (List Int)) => (opt (f_lumref_Lengths fu j8x4) fun (r11 : ((List Int) × Int)) => (opt (f_lumref_Codes fu r11.1) fun (r14 : ((List Int) × Int)) => (req (0 ≤ (256 : Int) ∧ 16 * (256 : Int) ≤ 281474976710656 ∧ (256 : Int) ≤ 9223372036854775807) (lt (fun (j18x11 : (List (List UInt8))) (j18s12 : (List UInt8)) (j18i13 : Int) => (lt (fun (j21x16_0 : (List UInt8)) => (opt (f_strings_Repeat fu ([48] : List UInt8) (((IntKind.i64.wrap ((8 : Int) - (((j21x16_0.length : Int)).tmod (8 : Int))))).tmod (8 : Int))) fun (r24 : (List UInt8)) => (req (j21x16_0.length + r24.length ≤ 9223372036854775807) (lt (fun (j26x20 : (List UInt8)) => (opt (f_lumref_Put fu (IntKind.u64.wrap (a0.length : Int))) fun (r29 : (List UInt8)) => (req (([1] : List UInt8).length + r29.length ≤ 9223372036854775807) (opt (f_lumref_Put fu (IntKind.u64.wrap (r5.length : Int))) fun (r32 : (List UInt8)) => (req ((([1] : List UInt8) ++ r29).length + r32.length ≤ 9223372036854775807) (opt (f_lumref_Put fu (IntKind.u64.wrap j18i13)) fun (r35 : (List UInt8)) => (req (((([1] : List UInt8) ++ r29) ++ r32).length + r35.length ≤ 9223372036854775807) (req ((((([1] : List UInt8) ++ r29) ++ r32) ++ r35).length + j18s12.length ≤ 9223372036854775807) (req (((((([1] : List UInt8) ++ r29) ++ r32) ++ r35) ++ j18s12).length + j26x20.length ≤ 9223372036854775807) (some (((((([1] : List UInt8) ++ r29) ++ r32) ++ r35) ++ j18s12) ++ j26x20))))))))))) fun (kk27 : (List UInt8) → Option (List UInt8)) => (f_lumref_Coded_L41 kk27 fu fu (j21x16_0 ++ r24) ([] : List UInt8)))))) fun (kk22 : (List UInt8) → Option (List UInt8)) => (req (r5.length ≤ 9223372036854775807) (f_lumref_Coded_L67 r5 j18x11 kk22 fu fu ([] : List UInt8) (0 : Int))))) fun (kk19 : (List (List UInt8)) → (List UInt8) → Int → Option (List UInt8)) => (f_lumref_Coded_L81 r11 r14 kk19 fu fu (List.replicate ((256 : Int)).toNat ([] : (List UInt8))) ([] : List UInt8) (0 : Int) (0 : Int))))))) fun (kk9 : (List Int) → Option (List UInt8)) => (req (r5.length ≤ 9223372036854775807) (f_lumref_Coded_L108 r5 kk9 fu (List.replicate ((256 : Int)).toNat 0) (0 : Int)))))))
set_option maxRecDepth 100000 in
set_option maxHeartbeats 2000000 in
set_option maxHeartbeats 2000000 in
theorem f_lumref_Coded_ok (fu : Nat) (a0 : (List UInt8)) {r : (List UInt8)} (h : f_lumref_Coded fu a0 = some r) : FnOk Tryd.prog 44 [(str a0)] [] [] (fun (i : Unit) => { val := (str r) }) := by
 unfold f_lumref_Coded at h
 refine fn_enter Tryd.func44 rfl Tryd.ntmps44 rfl (fun w0 Z0 => ?_)
 refine aw_sr ?_
 refine al_as rfl rfl ?_
 refine al_nt ?_
 refine aw_sr ?_
 refine al_mv rfl rfl ?_
 obtain ⟨r2, hc1, h⟩ := opt_some h
 refine al_call (vs := [(str a0)]) (f_lumref_Greedy_ok fu a0 hc1) [] [] [] pre_nil rfl (by simp) (by decide) (.inl rfl) rfl Tryd.func96 rfl rfl rfl (fun v3 => ?_)
 obtain ⟨r5, hc4, h⟩ := opt_some h
 refine al_call (vs := [v3]) (f_lumref_TokensText_ok fu v3 r2 hc4) [0] [] [0] (pre_own 0 rfl rfl pre_nil) rfl (by simp) (by decide) (.inr flat_res0) rfl Tryd.func95 rfl rfl rfl (fun _ => ?_)
 refine al_as rfl rfl ?_
 refine al_nt ?_
 refine aw_sr ?_
 obtain ⟨hc6, h⟩ := req_some h
 refine al_make (τ := tq) (x0 := 0) hc6.1 hc6.2.1 hc6.2.2 rfl rfl Tryd.underlying71 to3 (fun _ _ => rfl) rfl rfl (fun v7 => ?_)
 refine al_as rfl rfl ?_
 refine al_nt ?_
 obtain ⟨kk9, hkk9, h⟩ := lt_some h
 refine aw_seq_join (ι := (List Int)) (fun i => (memOf w0 Z0 [] [(oRow v7 3 tq i)] [])) (fun i => (tab [(0, (str a0)), (3, (str r5)), (4, v7)])) (fun i => kk9 i = some r) ?_ ?_
 ·rintro j8x4 h
  have h : kk9 j8x4 = some r := h
  rw [hkk9] at h
  dsimp only at h
  clear hkk9
  refine aw_show (m := (memOf w0 Z0 [] [(oRow v7 3 tq j8x4)] [])) (S := (tab [(0, (str a0)), (3, (str r5)), (4, v7)])) ?_
  refine aw_sr ?_
  refine al_mv rfl rfl ?_
  obtain ⟨r11, hc10, h⟩ := opt_some h
  refine al_call (vs := [v7]) (f_lumref_Lengths_ok fu v7 j8x4 hc10) [0] [] [0] (pre_own 0 rfl rfl pre_nil) rfl (by simp) (by decide) (.inr (flat_res1 (fun _ => flat_row flat_enc))) rfl Tryd.func97 rfl rfl rfl (fun v12 => ?_)
  refine al_mv rfl rfl ?_
  refine al_ex rfl rfl rfl ?_
  refine al_ex rfl rfl rfl ?_
  refine al_as rfl rfl ?_
  refine al_as rfl rfl ?_
  refine al_nt ?_
  refine aw_sr ?_
  refine al_mv rfl rfl ?_
  obtain ⟨r14, hc13, h⟩ := opt_some h
  refine al_call (vs := [v12]) (f_lumref_Codes_ok fu v12 r11.1 hc13) [0] [] [0, 1] (pre_own 0 rfl rfl pre_nil) rfl (by simp) (by decide) (.inr (flat_res1 (fun _ => flat_row flat_enc))) rfl Tryd.func98 rfl rfl rfl (fun v15 => ?_)
  refine al_mv rfl rfl ?_
  refine al_ex rfl rfl rfl ?_
  refine al_ex rfl rfl rfl ?_
  refine al_as rfl rfl ?_
  refine al_as rfl rfl ?_
  refine al_nt ?_
  refine aw_sr ?_
  obtain ⟨hc16, h⟩ := req_some h
  refine al_make (τ := tyStr) (x0 := []) hc16.1 hc16.2.1 hc16.2.2 rfl rfl Tryd.underlying50 to9 (fun _ _ => rfl) rfl rfl (fun v17 => ?_)
  refine al_as rfl rfl ?_
  refine al_nt ?_
  refine aw_sr ?_
  refine al_as rfl rfl ?_
  refine al_as rfl rfl ?_
  refine al_nt ?_
  obtain ⟨kk19, hkk19, h⟩ := lt_some h
  refine aw_seq_join (ι := (List (List UInt8)) × (List UInt8) × Int) (fun i => (memOf w0 Z0 [] [(oRow v17 9 tyStr i.1)] [])) (fun i => (tab [(0, (str a0)), (3, (str r5)), (11, v17), (12, (str i.2.1)), (13, (iq i.2.2))])) (fun i => kk19 i.1 i.2.1 i.2.2 = some r) ?_ ?_
  ·rintro ⟨j18x11, j18s12, j18i13⟩ h
   have h : kk19 j18x11 j18s12 j18i13 = some r := h
   rw [hkk19] at h
   dsimp only at h
   clear hkk19
   refine aw_show (m := (memOf w0 Z0 [] [(oRow v17 9 tyStr j18x11)] [])) (S := (tab [(0, (str a0)), (3, (str r5)), (11, v17), (12, (str j18s12)), (13, (iq j18i13))])) ?_
   refine aw_sr ?_
   refine al_alloc (zs := [(Value.pointer none), nS]) (zeroOf_to to154) rfl rfl (fun g20 => ?_)
   refine al_nilR 5 tyU8 ?_
   refine al_sb 1 rfl (.inl rfl) ?_
   refine al_nt ?_
   obtain ⟨kk22, hkk22, h⟩ := lt_some h
   refine aw_seq_join (ι := Value × (List UInt8)) (fun i => (memOf w0 Z0 [] [(oRow i.1 5 tyU8 i.2), (oSB g20 154 i.1)] [])) (fun i => (tab [(0, (str a0)), (3, (str r5)), (12, (str j18s12)), (13, (iq j18i13)), (16, (pq g20))])) (fun i => kk22 i.2 = some r) ?_ ?_
   ·rintro ⟨j21v16_0, j21x16_0⟩ h
    have h : kk22 j21x16_0 = some r := h
    rw [hkk22] at h
    dsimp only at h
    clear hkk22
    refine aw_show (m := (memOf w0 Z0 [] [(oRow j21v16_0 5 tyU8 j21x16_0), (oSB g20 154 j21v16_0)] [])) (S := (tab [(0, (str a0)), (3, (str r5)), (12, (str j18s12)), (13, (iq j18i13)), (16, (pq g20))])) ?_
    refine aw_sr ?_
    refine al_call (vs := [(pq g20)]) (fn_String g20 j21v16_0 j21x16_0) [] [1, 0] [] pre_nil rfl (by simp) (by decide) (.inl rfl) rfl Tryd.func101 rfl rfl rfl (fun _ => ?_)
    refine al_as rfl rfl ?_
    refine al_nt ?_
    refine aw_sr ?_
    refine al_mv rfl rfl ?_
    refine al_mv rfl rfl ?_
    refine al_val (ov_strLen Tryd.underlying9 rfl rfl) ?_
    refine al_val (ov_rem (by decide) rfl rfl rfl) ?_
    refine al_in rfl rfl rfl rfl ?_
    refine al_val (ov_rem (by decide) rfl rfl rfl) ?_
    obtain ⟨r24, hc23, h⟩ := opt_some h
    refine al_call (vs := [(str ([48] : List UInt8)), (iq (((wq ((8 : Int) - (((j21x16_0.length : Int)).tmod (8 : Int))))).tmod (8 : Int)))]) (f_strings_Repeat_ok fu ([48] : List UInt8) (((wq ((8 : Int) - (((j21x16_0.length : Int)).tmod (8 : Int))))).tmod (8 : Int)) hc23) [] [] [] pre_nil rfl (by simp) (by decide) (.inl rfl) rfl Tryd.func102 rfl rfl rfl (fun _ => ?_)
    obtain ⟨hc25, h⟩ := req_some h
    refine al_val (ov_strAdd hc25 rfl rfl rfl) ?_
    refine al_as rfl rfl ?_
    refine al_nt ?_
    refine aw_sr ?_
    refine al_as rfl rfl ?_
    refine al_nt ?_
    obtain ⟨kk27, hkk27, h⟩ := lt_some h
    refine aw_seq_join (ι := Value × (List UInt8)) (fun i => (memOf w0 Z0 [] [(oRow i.1 5 tyU8 i.2)] [])) (fun i => (tab [(0, (str a0)), (3, (str r5)), (12, (str j18s12)), (13, (iq j18i13)), (20, i.1)])) (fun i => kk27 i.2 = some r) ?_ ?_
    ·rintro ⟨j26v20, j26x20⟩ h
     have h : kk27 j26x20 = some r := h
     rw [hkk27] at h
     dsimp only at h
     clear hkk27
     refine aw_show (m := (memOf w0 Z0 [] [(oRow j26v20 5 tyU8 j26x20)] [])) (S := (tab [(0, (str a0)), (3, (str r5)), (12, (str j18s12)), (13, (iq j18i13)), (20, j26v20)])) ?_
     refine aw_seq ?_
     obtain ⟨r29, hc28, h⟩ := opt_some h
     obtain ⟨hc30, h⟩ := req_some h
     obtain ⟨r32, hc31, h⟩ := opt_some h
     obtain ⟨hc33, h⟩ := req_some h
     obtain ⟨r35, hc34, h⟩ := opt_some h
     obtain ⟨hc36, h⟩ := req_some h
     obtain ⟨hc37, h⟩ := req_some h
     obtain ⟨hc38, h⟩ := req_some h
     refine aw_region_draw 19 [(128, (fun u => fEq u (str a0))), (129, (fun u => fEq u (iq (a0.length : Int)))), (130, (fun u => fEq u (uq (wu (a0.length : Int))))), (131, (fun u => fEq u (str r29))), (132, (fun u => fEq u (str (([1] : List UInt8) ++ r29)))), (133, (fun u => fEq u (str r5))), (134, (fun u => fEq u (iq (r5.length : Int)))), (135, (fun u => fEq u (uq (wu (r5.length : Int))))), (136, (fun u => fEq u (str r32))), (137, (fun u => fEq u (str ((([1] : List UInt8) ++ r29) ++ r32)))), (138, (fun u => fEq u (iq j18i13))), (139, (fun u => fEq u (uq (wu j18i13)))), (140, (fun u => fEq u (str r35))), (141, (fun u => fEq u (str (((([1] : List UInt8) ++ r29) ++ r32) ++ r35)))), (142, (fun u => fEq u (str j18s12))), (143, (fun u => fEq u (str ((((([1] : List UInt8) ++ r29) ++ r32) ++ r35) ++ j18s12)))), (144, (fun u => fEq u j26v20)), (145, (fun u => fEq u (str j26x20))), (146, (fun u => fEq u (str (((((([1] : List UInt8) ++ r29) ++ r32) ++ r35) ++ j18s12) ++ j26x20))))] (tab [(0, (str a0)), (3, (str r5)), (12, (str j18s12)), (13, (iq j18i13)), (20, j26v20)]) mixed (by kernel_rfl) rfl rfl rfl (fun a hs => hs.tab _ (allT_mem ⟨rfl, rfl, rfl, rfl, rfl, trivial⟩)) ⟨⟨rfl, ld_val (ov_move rfl rfl)⟩, ⟨rfl, ld_eq (j := 0) rfl rfl (ld_val (ov_strLen Tryd.underlying9 rfl rfl))⟩, ⟨rfl, ld_eq (j := 1) rfl rfl (ld_val (ov_convInt (by rw [Tryd.underlying3]; rfl) Tryd.underlying76 rfl rfl))⟩, ⟨rfl, ld_eq (j := 2) rfl rfl (ld_callV (vs := [(uq (wu (a0.length : Int)))]) (f_lumref_Put_ok fu (wu (a0.length : Int)) hc28) [] pre_nil rfl Tryd.func49 rfl rfl rfl)⟩, ⟨rfl, ld_eq (j := 3) rfl rfl (ld_val (ov_strAdd hc30 rfl rfl rfl))⟩, ⟨rfl, ld_val (ov_move rfl rfl)⟩, ⟨rfl, ld_eq (j := 5) rfl rfl (ld_val (ov_strLen Tryd.underlying9 rfl rfl))⟩, ⟨rfl, ld_eq (j := 6) rfl rfl (ld_val (ov_convInt (by rw [Tryd.underlying3]; rfl) Tryd.underlying76 rfl rfl))⟩, ⟨rfl, ld_eq (j := 7) rfl rfl (ld_callV (vs := [(uq (wu (r5.length : Int)))]) (f_lumref_Put_ok fu (wu (r5.length : Int)) hc31) [] pre_nil rfl Tryd.func49 rfl rfl rfl)⟩, ⟨rfl, ld_eq (j := 4) rfl rfl (ld_eq (j := 8) rfl rfl (ld_val (ov_strAdd hc33 rfl rfl rfl)))⟩, ⟨rfl, ld_val (ov_move rfl rfl)⟩, ⟨rfl, ld_eq (j := 10) rfl rfl (ld_val (ov_convInt (by rw [Tryd.underlying3]; rfl) Tryd.underlying76 rfl rfl))⟩, ⟨rfl, ld_eq (j := 11) rfl rfl (ld_callV (vs := [(uq (wu j18i13))]) (f_lumref_Put_ok fu (wu j18i13) hc34) [] pre_nil rfl Tryd.func49 rfl rfl rfl)⟩, ⟨rfl, ld_eq (j := 9) rfl rfl (ld_eq (j := 12) rfl rfl (ld_val (ov_strAdd hc36 rfl rfl rfl)))⟩, ⟨rfl, ld_val (ov_move rfl rfl)⟩, ⟨rfl, ld_eq (j := 13) rfl rfl (ld_eq (j := 14) rfl rfl (ld_val (ov_strAdd hc37 rfl rfl rfl)))⟩, ⟨rfl, ld_val (ov_move rfl rfl)⟩, ⟨rfl, ld_eq (j := 16) rfl rfl (ld_val (ov_toStrR 0 rfl rfl Tryd.underlying74 Tryd.underlying5 Tryd.underlying9 rfl))⟩, ⟨rfl, ld_eq (j := 15) rfl rfl (ld_eq (j := 17) rfl rfl (ld_val (ov_strAdd hc38 rfl rfl rfl)))⟩, trivial⟩ ?_
     refine tl_eq 18 rfl ?_
     refine tl_done ?_
     refine al_as rfl rfl ?_
     refine al_nt ?_
     refine aw_ret ?_
     obtain rfl := Option.some.inj h
     exact fn_ret () [] [] rfl rfl rfl rfl (res1 rfl rfl) rfl rfl rfl (by decide)
    ·clear hkk27
     refine aw_block ?_
     refine aw_nilR 5 tyU8 ?_
     refine aw_state (aw_loop (ι := (List UInt8) × Value × (List UInt8)) (fun i => (memOf w0 Z0 [] [(oRow i.2.1 5 tyU8 i.2.2)] [])) (fun i => (tab [(0, (str a0)), (3, (str r5)), (12, (str j18s12)), (13, (iq j18i13)), (19, (str i.1)), (20, i.2.1)])) (fun q i => f_lumref_Coded_L41 kk27 fu q i.1 i.2.2 = some r) ?_ fu ((j21x16_0 ++ r24), nS, ([] : List UInt8)) h) (fun w a hm hs => norm hm hs [0] [] [(0, (str a0)), (3, (str r5)), (12, (str j18s12)), (13, (iq j18i13)), (19, (str (j21x16_0 ++ r24))), (20, nS)] (by decide) ⟨rfl, rfl, rfl, rfl, rfl, rfl, trivial⟩)
     clear h
     rintro k40 ⟨l39s19, l39v20, l39x20⟩ h
     have h : f_lumref_Coded_L41 kk27 fu k40 l39s19 l39x20 = some r := h
     obtain _ | k40 := k40
     · rw [f_lumref_Coded_L41] at h; cases h
     rw [f_lumref_Coded_L41] at h
     refine aw_show (m := (memOf w0 Z0 [] [(oRow l39v20 5 tyU8 l39x20)] [])) (S := (tab [(0, (str a0)), (3, (str r5)), (12, (str j18s12)), (13, (iq j18i13)), (19, (str l39s19)), (20, l39v20)])) ?_
     obtain ⟨kk42, hkk42, h⟩ := lt_some h
     refine aw_body_join (ι := (List UInt8) × Value × (List UInt8)) (fun i => (memOf w0 Z0 [] [(oRow i.2.1 5 tyU8 i.2.2)] [])) (fun i => (tab [(0, (str a0)), (3, (str r5)), (12, (str j18s12)), (13, (iq j18i13)), (19, (str i.1)), (20, i.2.1)])) (fun i => kk42 i.1 i.2.2 = some r) (fun i h => aq_again k40 i (Nat.lt_succ_self _) (by rw [hkk42] at h; exact h) (fun w a hm hs => ⟨hm, hs⟩)) ?_
     clear hkk42
     refine aw_seq ?_
     refine aw_sr ?_
     refine al_mv rfl rfl ?_
     refine al_val (ov_strCmp rfl rfl rfl rfl) ?_
     refine al_nt ?_
     refine aw_cond rfl (fun hb43 => ?_) (fun hb43 => ?_)
     ·replace h := bif_t hb43 h
      refine aw_skip ?_
      refine aq_then ?_
      obtain ⟨kk45, hkk45, h⟩ := lt_some h
      refine aw_seq_join (ι := Value × (List UInt8)) (fun i => (memOf w0 Z0 [] [(oRow i.1 5 tyU8 i.2)] [])) (fun i => (tab [(0, (str a0)), (3, (str r5)), (12, (str j18s12)), (13, (iq j18i13)), (19, (str l39s19)), (20, i.1)])) (fun i => kk45 i.2 = some r) ?_ ?_
      ·rintro ⟨j44v20, j44x20⟩ h
       have h : kk45 j44x20 = some r := h
       rw [hkk45] at h
       dsimp only at h
       clear hkk45
       refine aw_show (m := (memOf w0 Z0 [] [(oRow j44v20 5 tyU8 j44x20)] [])) (S := (tab [(0, (str a0)), (3, (str r5)), (12, (str j18s12)), (13, (iq j18i13)), (19, (str l39s19)), (20, j44v20)])) ?_
       refine aw_region ?_
       refine al_mv rfl rfl ?_
       obtain ⟨hc46, h⟩ := req_some h
       refine al_val (ov_strFrom hc46.1 hc46.2 Tryd.underlying9 rfl rfl rfl) ?_
       refine al_as rfl rfl ?_
       refine al_nil ?_
       exact aq_join ((l39s19.drop ((8 : Int)).toNat), j44v20, j44x20) h (fun w a hm hs => norm hm hs [0] [] [(0, (str a0)), (3, (str r5)), (12, (str j18s12)), (13, (iq j18i13)), (19, (str (l39s19.drop ((8 : Int)).toNat))), (20, j44v20)] (by decide) ⟨rfl, rfl, rfl, rfl, rfl, rfl, trivial⟩)
      ·clear hkk45
       refine aw_block ?_
       refine aw_sr ?_
       refine al_as rfl rfl ?_
       refine al_nt ?_
       obtain ⟨kk48, hkk48, h⟩ := lt_some h
       refine aw_seq_join (ι := Int) (fun i => (memOf w0 Z0 [] [(oRow l39v20 5 tyU8 l39x20)] [])) (fun i => (tab [(0, (str a0)), (3, (str r5)), (12, (str j18s12)), (13, (iq j18i13)), (19, (str l39s19)), (20, l39v20), (21, (iq i))])) (fun i => kk48 i = some r) ?_ ?_
       ·rintro j47i21 h
        have h : kk48 j47i21 = some r := h
        rw [hkk48] at h
        dsimp only at h
        clear hkk48
        refine aw_show (m := (memOf w0 Z0 [] [(oRow l39v20 5 tyU8 l39x20)] [])) (S := (tab [(0, (str a0)), (3, (str r5)), (12, (str j18s12)), (13, (iq j18i13)), (19, (str l39s19)), (20, l39v20), (21, (iq j47i21))])) ?_
        refine aw_region ?_
        refine al_mv rfl rfl ?_
        refine al_mv rfl rfl ?_
        refine al_val (ov_convInt (by rw [Tryd.underlying3]; rfl) Tryd.underlying5 rfl rfl) ?_
        obtain ⟨hc50, h⟩ := req_some h
        refine al_buildSlice (τ := tyU8) (e := 5) (k := 1) (sz := 0) (by_ := 0) (z := undef) (cs := [(i8 (w8 j47i21))]) (xs := [(UInt8.ofNat ((w8 j47i21)).toNat)]) rfl (by decide) (fun w a hm hs => ⟨([(i8 (w8 j47i21))]).toArray, rfl, by simp only [List.map_toArray, List.map_cons, List.map_nil, hs.ev (x := .tmp 125) rfl]; exact run_bs [(i8 (w8 j47i21))] [(i8 (w8 j47i21))] Tryd.underlying74 to5 rfl rfl (bs_cons (l := [(i8 (w8 j47i21))]) (cs := []) (cv_rfl rfl) rfl bs_nil) hm⟩) (fun hm => ⟨_, _, rfl, (fun _ => u8_rep hc50) hm, rfl⟩) rfl (fun v49 => ?_)
        obtain ⟨hc51, h⟩ := req_some h
        refine al_append 1 hc51.1 hc51.2 rfl (src_own (i := 1) 0 rfl) rfl rfl Tryd.underlying74 to5 rfl rfl rfl (fun v52 => ?_)
        refine al_as rfl rfl ?_
        refine al_nil ?_
        refine aq_block ?_
        exact aq_join (v52, (l39x20 ++ ([(UInt8.ofNat ((w8 j47i21)).toNat)]))) h (fun w a hm hs => norm hm hs [1] [] [(0, (str a0)), (3, (str r5)), (12, (str j18s12)), (13, (iq j18i13)), (19, (str l39s19)), (20, v52)] (by decide) ⟨rfl, rfl, rfl, rfl, rfl, rfl, trivial⟩)
       ·clear hkk48
        refine aw_sr ?_
        refine al_mv rfl rfl ?_
        obtain ⟨hc53, h⟩ := req_some h
        refine al_val (ov_strTo hc53.1 hc53.2 Tryd.underlying9 rfl rfl rfl) ?_
        obtain ⟨hc54, h⟩ := req_some h
        refine al_bytes hc54 rfl Tryd.underlying9 Tryd.underlying74 Tryd.underlying5 rfl (fun s55 => ?_)
        refine al_val (ov_lenD 0 rfl rfl Tryd.underlying74 rfl) ?_
        refine al_mv rfl rfl ?_
        refine al_nt ?_
        refine aw_block ?_
        refine aw_state (aw_loop (ι := Int × Int) (fun i => (memOf w0 Z0 [] [(oRow l39v20 5 tyU8 l39x20)] [(fDat (tyList tyU8) [s55] (l39s19.take ((8 : Int)).toNat))])) (fun i => (tab [(0, (str a0)), (3, (str r5)), (12, (str j18s12)), (13, (iq j18i13)), (19, (str l39s19)), (20, l39v20), (21, (iq i.1)), (110, s55), (111, (iq ((l39s19.take ((8 : Int)).toNat).length : Int))), (112, (iq i.2))])) (fun q i => f_lumref_Coded_L58 l39s19 kk48 q i.1 i.2 = some r) ?_ fu ((0 : Int), (0 : Int)) h) (fun w a hm hs => norm hm hs [0] [0] [(0, (str a0)), (3, (str r5)), (12, (str j18s12)), (13, (iq j18i13)), (19, (str l39s19)), (20, l39v20), (21, (iq (0 : Int))), (110, s55), (111, (iq ((l39s19.take ((8 : Int)).toNat).length : Int))), (112, (iq (0 : Int)))] (by decide) ⟨rfl, rfl, rfl, rfl, rfl, rfl, rfl, rfl, rfl, rfl, trivial⟩)
        clear h
        rintro k57 ⟨l56i21, l56i112⟩ h
        have h : f_lumref_Coded_L58 l39s19 kk48 k57 l56i21 l56i112 = some r := h
        obtain _ | k57 := k57
        · rw [f_lumref_Coded_L58] at h; cases h
        rw [f_lumref_Coded_L58] at h
        refine aw_show (m := (memOf w0 Z0 [] [(oRow l39v20 5 tyU8 l39x20)] [(fDat (tyList tyU8) [s55] (l39s19.take ((8 : Int)).toNat))])) (S := (tab [(0, (str a0)), (3, (str r5)), (12, (str j18s12)), (13, (iq j18i13)), (19, (str l39s19)), (20, l39v20), (21, (iq l56i21)), (110, s55), (111, (iq ((l39s19.take ((8 : Int)).toNat).length : Int))), (112, (iq l56i112))])) ?_
        refine aw_sr ?_
        refine al_in rfl rfl rfl rfl ?_
        refine al_nt ?_
        refine aw_seq ?_
        refine aw_cond rfl (fun hb59 => ?_) (fun hb59 => ?_)
        ·replace h := bif_t hb59 h
         refine aw_skip ?_
         refine aq_then ?_
         refine aw_seq ?_
         refine aw_block ?_
         refine aw_sr ?_
         obtain ⟨u60, hu61, h⟩ := opt_some h
         refine al_idxD 0 hu61 rfl rfl rfl Tryd.underlying74 sz5 rfl (fun p62 => ?_)
         refine al_val (ov_loadP (ds := [(i8 (u60.toNat : Int))]) 0 rfl (fun h => h) rfl Tryd.underlying5 sz5 rfl rfl rfl) ?_
         refine al_as rfl rfl ?_
         refine al_nt ?_
         refine aw_region ?_
         refine al_mv rfl rfl ?_
         refine al_in rfl rfl rfl rfl ?_
         refine al_mv rfl rfl ?_
         refine al_in rfl rfl rfl rfl ?_
         refine al_val (ov_convInt (by rw [Tryd.underlying5]; rfl) Tryd.underlying3 rfl rfl) ?_
         refine al_in rfl rfl rfl rfl ?_
         refine al_as rfl rfl ?_
         refine al_nil ?_
         refine aq_block ?_
         refine aq_then ?_
         refine aw_region ?_
         refine al_in rfl rfl rfl rfl ?_
         refine al_mv rfl rfl ?_
         refine al_nil ?_
         exact aq_again k57 ((wq ((wq ((2 : Int) * l56i21)) + (wq (w8 ((u60.toNat : Int) - (48 : Int)))))), (wq (l56i112 + (1 : Int)))) (Nat.lt_succ_self _) h (fun w a hm hs => norm hm hs [0] [1] [(0, (str a0)), (3, (str r5)), (12, (str j18s12)), (13, (iq j18i13)), (19, (str l39s19)), (20, l39v20), (21, (iq (wq ((wq ((2 : Int) * l56i21)) + (wq (w8 ((u60.toNat : Int) - (48 : Int)))))))), (110, s55), (111, (iq ((l39s19.take ((8 : Int)).toNat).length : Int))), (112, (iq (wq (l56i112 + (1 : Int)))))] (by decide) ⟨rfl, rfl, rfl, rfl, rfl, rfl, rfl, rfl, rfl, rfl, trivial⟩)
        ·replace h := bif_f hb59 h
         refine aw_exit ?_
         refine aq_then_exit ?_
         refine aq_then_exit ?_
         refine aq_block_exit ?_
         exact aq_join l56i21 h (fun w a hm hs => norm hm hs [0] [] [(0, (str a0)), (3, (str r5)), (12, (str j18s12)), (13, (iq j18i13)), (19, (str l39s19)), (20, l39v20), (21, (iq l56i21))] (by decide) ⟨rfl, rfl, rfl, rfl, rfl, rfl, rfl, trivial⟩)
     ·replace h := bif_f hb43 h
      refine aw_exit ?_
      refine aq_then_exit ?_
      refine aq_then_exit ?_
      refine aq_block_exit ?_
      exact aq_join (l39v20, l39x20) h (fun w a hm hs => norm hm hs [0] [] [(0, (str a0)), (3, (str r5)), (12, (str j18s12)), (13, (iq j18i13)), (20, l39v20)] (by decide) ⟨rfl, rfl, rfl, rfl, rfl, trivial⟩)
   ·clear hkk22
    refine aw_sr ?_
    refine al_mv rfl rfl ?_
    obtain ⟨hc63, h⟩ := req_some h
    refine al_bytes hc63 rfl Tryd.underlying9 Tryd.underlying74 Tryd.underlying5 rfl (fun s64 => ?_)
    refine al_val (ov_lenD 0 rfl rfl Tryd.underlying74 rfl) ?_
    refine al_mv rfl rfl ?_
    refine al_nt ?_
    refine aw_block ?_
    refine aw_state (aw_loop (ι := Value × (List UInt8) × Int) (fun i => (memOf w0 Z0 [] [(oRow v17 9 tyStr j18x11), (oRow i.1 5 tyU8 i.2.1), (oSB g20 154 i.1)] [(fDat (tyList tyU8) [s64] r5)])) (fun i => (tab [(0, (str a0)), (3, (str r5)), (11, v17), (12, (str j18s12)), (13, (iq j18i13)), (16, (pq g20)), (83, s64), (84, (iq (r5.length : Int))), (85, (iq i.2.2))])) (fun q i => f_lumref_Coded_L67 r5 j18x11 kk22 fu q i.2.1 i.2.2 = some r) ?_ fu (nS, ([] : List UInt8), (0 : Int)) h) (fun w a hm hs => norm hm hs [2, 0, 1] [0] [(0, (str a0)), (3, (str r5)), (11, v17), (12, (str j18s12)), (13, (iq j18i13)), (16, (pq g20)), (83, s64), (84, (iq (r5.length : Int))), (85, (iq (0 : Int)))] (by decide) ⟨rfl, rfl, rfl, rfl, rfl, rfl, rfl, rfl, rfl, trivial⟩)
    clear h
    rintro k66 ⟨l65v16_0, l65x16_0, l65i85⟩ h
    have h : f_lumref_Coded_L67 r5 j18x11 kk22 fu k66 l65x16_0 l65i85 = some r := h
    obtain _ | k66 := k66
    · rw [f_lumref_Coded_L67] at h; cases h
    rw [f_lumref_Coded_L67] at h
    refine aw_show (m := (memOf w0 Z0 [] [(oRow v17 9 tyStr j18x11), (oRow l65v16_0 5 tyU8 l65x16_0), (oSB g20 154 l65v16_0)] [(fDat (tyList tyU8) [s64] r5)])) (S := (tab [(0, (str a0)), (3, (str r5)), (11, v17), (12, (str j18s12)), (13, (iq j18i13)), (16, (pq g20)), (83, s64), (84, (iq (r5.length : Int))), (85, (iq l65i85))])) ?_
    refine aw_sr ?_
    refine al_in rfl rfl rfl rfl ?_
    refine al_nt ?_
    refine aw_seq ?_
    refine aw_cond rfl (fun hb68 => ?_) (fun hb68 => ?_)
    ·replace h := bif_t hb68 h
     refine aw_skip ?_
     refine aq_then ?_
     refine aw_seq ?_
     refine aw_block ?_
     refine aw_sr ?_
     obtain ⟨u69, hu70, h⟩ := opt_some h
     refine al_idxD 0 hu70 rfl rfl rfl Tryd.underlying74 sz5 rfl (fun p71 => ?_)
     refine al_val (ov_loadP (ds := [(i8 (u69.toNat : Int))]) 0 rfl (fun h => h) rfl Tryd.underlying5 sz5 rfl rfl rfl) ?_
     refine al_as rfl rfl ?_
     refine al_nt ?_
     refine aw_region ?_
     refine al_mv rfl rfl ?_
     refine al_mv rfl rfl ?_
     obtain ⟨u72, hu73, h⟩ := opt_some h
     refine al_idxR 0 (at_some hu73).1 (at_some hu73).2.1 rfl rfl rfl Tryd.underlying50 sz9 rfl (fun p74 hp75 => ?_)
     refine al_val (ov_loadR (ds := [(str u72)]) 0 rfl hp75 (at_some hu73).2.2 (fun h => h) rfl Tryd.underlying9 sz9 rfl rfl rfl) ?_
     obtain ⟨r77, hc76, h⟩ := opt_some h
     refine al_call (vs := [(pq g20), (str u72)]) (f___strings_Builder__WriteString_sb_ok fu g20 l65v16_0 l65x16_0 u72 hc76) [] [2, 1] [0] pre_nil rfl (by simp) (by decide) (.inl rfl) rfl Tryd.func100 rfl rfl rfl (fun v78 => ?_)
     refine al_nil ?_
     refine aq_block ?_
     refine aq_then ?_
     refine aw_region ?_
     refine al_in rfl rfl rfl rfl ?_
     refine al_mv rfl rfl ?_
     refine al_nil ?_
     exact aq_again k66 (v78, r77.2.2, (wq (l65i85 + (1 : Int)))) (Nat.lt_succ_self _) h (fun w a hm hs => norm hm hs [2, 1, 0] [1] [(0, (str a0)), (3, (str r5)), (11, v17), (12, (str j18s12)), (13, (iq j18i13)), (16, (pq g20)), (83, s64), (84, (iq (r5.length : Int))), (85, (iq (wq (l65i85 + (1 : Int)))))] (by decide) ⟨rfl, rfl, rfl, rfl, rfl, rfl, rfl, rfl, rfl, trivial⟩)
    ·replace h := bif_f hb68 h
     refine aw_exit ?_
     refine aq_then_exit ?_
     refine aq_then_exit ?_
     refine aq_block_exit ?_
     exact aq_join (l65v16_0, l65x16_0) h (fun w a hm hs => norm hm hs [1, 2] [] [(0, (str a0)), (3, (str r5)), (12, (str j18s12)), (13, (iq j18i13)), (16, (pq g20))] (by decide) ⟨rfl, rfl, rfl, rfl, rfl, trivial⟩)
  ·clear hkk19
   refine aw_sr ?_
   refine al_mv rfl rfl ?_
   refine al_val (ov_lenR 2 rfl rfl Tryd.underlying71 rfl) ?_
   refine al_mv rfl rfl ?_
   refine al_nt ?_
   refine aw_block ?_
   refine aw_state (aw_loop (ι := (List (List UInt8)) × (List UInt8) × Int × Int) (fun i => (memOf w0 Z0 [] [(oRow v15 3 tq r14.1), (oRow v17 9 tyStr i.1), (oRow v12 3 tq r11.1)] [])) (fun i => (tab [(0, (str a0)), (3, (str r5)), (9, v15), (11, v17), (12, (str i.2.1)), (13, (iq i.2.2.1)), (53, v12), (54, (iq (r11.1.length : Int))), (55, (iq i.2.2.2))])) (fun q i => f_lumref_Coded_L81 r11 r14 kk19 fu q i.1 i.2.1 i.2.2.1 i.2.2.2 = some r) ?_ fu ((List.replicate ((256 : Int)).toNat ([] : (List UInt8))), ([] : List UInt8), (0 : Int), (0 : Int)) h) (fun w a hm hs => norm hm hs [1, 0, 2] [] [(0, (str a0)), (3, (str r5)), (9, v15), (11, v17), (12, (str ([] : List UInt8))), (13, (iq (0 : Int))), (53, v12), (54, (iq (r11.1.length : Int))), (55, (iq (0 : Int)))] (by decide) ⟨rfl, rfl, rfl, rfl, rfl, rfl, rfl, rfl, rfl, trivial⟩)
   clear h
   rintro k80 ⟨l79x11, l79s12, l79i13, l79i55⟩ h
   have h : f_lumref_Coded_L81 r11 r14 kk19 fu k80 l79x11 l79s12 l79i13 l79i55 = some r := h
   obtain _ | k80 := k80
   · rw [f_lumref_Coded_L81] at h; cases h
   rw [f_lumref_Coded_L81] at h
   refine aw_show (m := (memOf w0 Z0 [] [(oRow v15 3 tq r14.1), (oRow v17 9 tyStr l79x11), (oRow v12 3 tq r11.1)] [])) (S := (tab [(0, (str a0)), (3, (str r5)), (9, v15), (11, v17), (12, (str l79s12)), (13, (iq l79i13)), (53, v12), (54, (iq (r11.1.length : Int))), (55, (iq l79i55))])) ?_
   refine aw_sr ?_
   refine al_in rfl rfl rfl rfl ?_
   refine al_nt ?_
   refine aw_seq ?_
   refine aw_cond rfl (fun hb82 => ?_) (fun hb82 => ?_)
   ·replace h := bif_t hb82 h
    refine aw_skip ?_
    refine aq_then ?_
    obtain ⟨kk84, hkk84, h⟩ := lt_some h
    refine aw_seq_join (ι := (List (List UInt8)) × (List UInt8) × Int) (fun i => (memOf w0 Z0 [] [(oRow v15 3 tq r14.1), (oRow v17 9 tyStr i.1), (oRow v12 3 tq r11.1)] [])) (fun i => (tab [(0, (str a0)), (3, (str r5)), (9, v15), (11, v17), (12, (str i.2.1)), (13, (iq i.2.2)), (53, v12), (54, (iq (r11.1.length : Int))), (55, (iq l79i55))])) (fun i => kk84 i.1 i.2.1 i.2.2 = some r) ?_ ?_
    ·rintro ⟨j83x11, j83s12, j83i13⟩ h
     have h : kk84 j83x11 j83s12 j83i13 = some r := h
     rw [hkk84] at h
     dsimp only at h
     clear hkk84
     refine aw_show (m := (memOf w0 Z0 [] [(oRow v15 3 tq r14.1), (oRow v17 9 tyStr j83x11), (oRow v12 3 tq r11.1)] [])) (S := (tab [(0, (str a0)), (3, (str r5)), (9, v15), (11, v17), (12, (str j83s12)), (13, (iq j83i13)), (53, v12), (54, (iq (r11.1.length : Int))), (55, (iq l79i55))])) ?_
     refine aw_region ?_
     refine al_in rfl rfl rfl rfl ?_
     refine al_mv rfl rfl ?_
     refine al_nil ?_
     exact aq_again k80 (j83x11, j83s12, j83i13, (wq (l79i55 + (1 : Int)))) (Nat.lt_succ_self _) h (fun w a hm hs => norm hm hs [0, 1, 2] [] [(0, (str a0)), (3, (str r5)), (9, v15), (11, v17), (12, (str j83s12)), (13, (iq j83i13)), (53, v12), (54, (iq (r11.1.length : Int))), (55, (iq (wq (l79i55 + (1 : Int)))))] (by decide) ⟨rfl, rfl, rfl, rfl, rfl, rfl, rfl, rfl, rfl, trivial⟩)
    ·clear hkk84
     refine aw_block ?_
     refine aw_sr ?_
     refine al_mv rfl rfl ?_
     obtain ⟨u85, hu86, h⟩ := opt_some h
     refine al_idxR 2 (at_some hu86).1 (at_some hu86).2.1 rfl rfl rfl Tryd.underlying71 sz3 rfl (fun p87 hp88 => ?_)
     refine al_val (ov_loadR (ds := [(iq u85)]) 2 rfl hp88 (at_some hu86).2.2 (fun h => h) rfl Tryd.underlying3 sz3 rfl rfl rfl) ?_
     refine al_as rfl rfl ?_
     refine al_as rfl rfl ?_
     refine al_nt ?_
     refine aw_sr ?_
     refine al_mv rfl rfl ?_
     refine al_in rfl rfl rfl rfl ?_
     refine al_nt ?_
     refine aw_cond rfl (fun hb89 => ?_) (fun hb89 => ?_)
     ·replace h := bif_t hb89 h
      refine aw_sr ?_
      refine al_mv rfl rfl ?_
      refine al_mv rfl rfl ?_
      refine al_mv rfl rfl ?_
      refine al_mv rfl rfl ?_
      obtain ⟨u90, hu91, h⟩ := opt_some h
      refine al_idxR 0 (at_some hu91).1 (at_some hu91).2.1 rfl rfl rfl Tryd.underlying71 sz3 rfl (fun p92 hp93 => ?_)
      refine al_val (ov_loadR (ds := [(iq u90)]) 0 rfl hp93 (at_some hu91).2.2 (fun h => h) rfl Tryd.underlying3 sz3 rfl rfl rfl) ?_
      refine al_mv rfl rfl ?_
      obtain ⟨r95, hc94, h⟩ := opt_some h
      refine al_call (vs := [(iq u90), (iq u85)]) (f_lumref_bitsOf_ok fu u90 u85 hc94) [] [] [0, 1, 2] pre_nil rfl (by simp) (by decide) (.inl rfl) rfl Tryd.func99 rfl rfl rfl (fun _ => ?_)
      obtain ⟨u96, hu97, h⟩ := opt_some h
      refine al_idxR 1 (at_some hu97).1 (at_some hu97).2.1 rfl rfl rfl Tryd.underlying50 sz9 rfl (fun p98 hp99 => ?_)
      refine al_storeR (k := (l79i55).toNat) (x := r95) (vs := [(str r95)]) 1 rfl hp99 (idx_lt hu97) rfl rfl (cv_rfl rfl) (fun _ => rfl) sz9 rfl ?_
      refine al_nt ?_
      refine aw_sr ?_
      refine al_mv rfl rfl ?_
      refine al_mv rfl rfl ?_
      refine al_val (ov_convInt (by rw [Tryd.underlying3]; rfl) Tryd.underlying5 rfl rfl) ?_
      refine al_mv rfl rfl ?_
      refine al_val (ov_convInt (by rw [Tryd.underlying3]; rfl) Tryd.underlying5 rfl rfl) ?_
      obtain ⟨hc101, h⟩ := req_some h
      obtain ⟨hc102, h⟩ := req_some h
      refine al_buildSlice (τ := tyU8) (e := 5) (k := 2) (sz := 0) (by_ := 0) (z := undef) (cs := [(i8 (w8 l79i55)), (i8 (w8 u85))]) (xs := [(UInt8.ofNat ((w8 l79i55)).toNat), (UInt8.ofNat ((w8 u85)).toNat)]) rfl (by decide) (fun w a hm hs => ⟨([(i8 (w8 l79i55)), (i8 (w8 u85))]).toArray, rfl, by simp only [List.map_toArray, List.map_cons, List.map_nil, hs.ev (x := .tmp 73) rfl, hs.ev (x := .tmp 75) rfl]; exact run_bs [(i8 (w8 l79i55)), (i8 (w8 u85))] [(i8 (w8 l79i55)), (i8 (w8 u85))] Tryd.underlying74 to5 rfl rfl (bs_cons (l := [(i8 (w8 l79i55))]) (cs := [(i8 (w8 u85))]) (cv_rfl rfl) rfl (bs_cons (l := [(i8 (w8 u85))]) (cs := []) (cv_rfl rfl) rfl bs_nil)) hm⟩) (fun hm => ⟨_, _, rfl, (fun _ => u8_rep hc101) hm, ⟨_, _, rfl, (fun _ => u8_rep hc102) hm, rfl⟩⟩) rfl (fun v100 => ?_)
      refine al_val (ov_toStrR 0 rfl rfl Tryd.underlying74 Tryd.underlying5 Tryd.underlying9 rfl) ?_
      obtain ⟨hc103, h⟩ := req_some h
      refine al_val (ov_strAdd hc103 rfl rfl rfl) ?_
      refine al_as rfl rfl ?_
      refine al_nt ?_
      refine aw_region ?_
      refine al_mv rfl rfl ?_
      refine al_in rfl rfl rfl rfl ?_
      refine al_as rfl rfl ?_
      refine al_nil ?_
      refine aq_block ?_
      exact aq_join ((l79x11.set (l79i55).toNat r95), (l79s12 ++ ([(UInt8.ofNat ((w8 l79i55)).toNat), (UInt8.ofNat ((w8 u85)).toNat)])), (wq (l79i13 + (1 : Int)))) h (fun w a hm hs => norm hm hs [1, 2, 3] [] [(0, (str a0)), (3, (str r5)), (9, v15), (11, v17), (12, (str (l79s12 ++ ([(UInt8.ofNat ((w8 l79i55)).toNat), (UInt8.ofNat ((w8 u85)).toNat)])))), (13, (iq (wq (l79i13 + (1 : Int))))), (53, v12), (54, (iq (r11.1.length : Int))), (55, (iq l79i55))] (by decide) ⟨rfl, rfl, rfl, rfl, rfl, rfl, rfl, rfl, rfl, trivial⟩)
     ·replace h := bif_f hb89 h
      refine aw_skip ?_
      refine aq_block ?_
      exact aq_join (l79x11, l79s12, l79i13) h (fun w a hm hs => norm hm hs [0, 1, 2] [] [(0, (str a0)), (3, (str r5)), (9, v15), (11, v17), (12, (str l79s12)), (13, (iq l79i13)), (53, v12), (54, (iq (r11.1.length : Int))), (55, (iq l79i55))] (by decide) ⟨rfl, rfl, rfl, rfl, rfl, rfl, rfl, rfl, rfl, trivial⟩)
   ·replace h := bif_f hb82 h
    refine aw_exit ?_
    refine aq_then_exit ?_
    refine aq_then_exit ?_
    refine aq_block_exit ?_
    exact aq_join (l79x11, l79s12, l79i13) h (fun w a hm hs => norm hm hs [1] [] [(0, (str a0)), (3, (str r5)), (11, v17), (12, (str l79s12)), (13, (iq l79i13))] (by decide) ⟨rfl, rfl, rfl, rfl, rfl, trivial⟩)
 ·clear hkk9
  refine aw_sr ?_
  refine al_mv rfl rfl ?_
  obtain ⟨hc104, h⟩ := req_some h
  refine al_bytes hc104 rfl Tryd.underlying9 Tryd.underlying74 Tryd.underlying5 rfl (fun s105 => ?_)
  refine al_val (ov_lenD 0 rfl rfl Tryd.underlying74 rfl) ?_
  refine al_mv rfl rfl ?_
  refine al_nt ?_
  refine aw_block ?_
  refine aw_state (aw_loop (ι := (List Int) × Int) (fun i => (memOf w0 Z0 [] [(oRow v7 3 tq i.1)] [(fDat (tyList tyU8) [s105] r5)])) (fun i => (tab [(0, (str a0)), (3, (str r5)), (4, v7), (29, s105), (30, (iq (r5.length : Int))), (31, (iq i.2))])) (fun q i => f_lumref_Coded_L108 r5 kk9 q i.1 i.2 = some r) ?_ fu ((List.replicate ((256 : Int)).toNat 0), (0 : Int)) h) (fun w a hm hs => norm hm hs [0] [0] [(0, (str a0)), (3, (str r5)), (4, v7), (29, s105), (30, (iq (r5.length : Int))), (31, (iq (0 : Int)))] (by decide) ⟨rfl, rfl, rfl, rfl, rfl, rfl, trivial⟩)
  clear h
  rintro k107 ⟨l106x4, l106i31⟩ h
  have h : f_lumref_Coded_L108 r5 kk9 k107 l106x4 l106i31 = some r := h
  obtain _ | k107 := k107
  · rw [f_lumref_Coded_L108] at h; cases h
  rw [f_lumref_Coded_L108] at h
  refine aw_show (m := (memOf w0 Z0 [] [(oRow v7 3 tq l106x4)] [(fDat (tyList tyU8) [s105] r5)])) (S := (tab [(0, (str a0)), (3, (str r5)), (4, v7), (29, s105), (30, (iq (r5.length : Int))), (31, (iq l106i31))])) ?_
  refine aw_sr ?_
  refine al_in rfl rfl rfl rfl ?_
  refine al_nt ?_
  refine aw_seq ?_
  refine aw_cond rfl (fun hb109 => ?_) (fun hb109 => ?_)
  ·replace h := bif_t hb109 h
   refine aw_skip ?_
   refine aq_then ?_
   refine aw_seq ?_
   refine aw_block ?_
   refine aw_sr ?_
   obtain ⟨u110, hu111, h⟩ := opt_some h
   refine al_idxD 0 hu111 rfl rfl rfl Tryd.underlying74 sz5 rfl (fun p112 => ?_)
   refine al_val (ov_loadP (ds := [(i8 (u110.toNat : Int))]) 0 rfl (fun h => h) rfl Tryd.underlying5 sz5 rfl rfl rfl) ?_
   refine al_as rfl rfl ?_
   refine al_nt ?_
   refine aw_region ?_
   refine al_mv rfl rfl ?_
   refine al_mv rfl rfl ?_
   obtain ⟨u113, hu114, h⟩ := opt_some h
   refine al_idxR 0 (at_some hu114).1 (at_some hu114).2.1 rfl rfl rfl Tryd.underlying71 sz3 rfl (fun p115 hp116 => ?_)
   refine al_val (ov_loadR (ds := [(iq u113)]) 0 rfl hp116 (at_some hu114).2.2 (fun h => h) rfl Tryd.underlying3 sz3 rfl rfl rfl) ?_
   refine al_in rfl rfl rfl rfl ?_
   obtain ⟨u117, hu118, h⟩ := opt_some h
   refine al_idxR 0 (at_some hu118).1 (at_some hu118).2.1 rfl rfl rfl Tryd.underlying71 sz3 rfl (fun p119 hp120 => ?_)
   refine al_storeR (k := ((u110.toNat : Int)).toNat) (x := (wq (u113 + (1 : Int)))) (vs := [(iq (wq (u113 + (1 : Int))))]) 0 rfl hp120 (idx_lt hu118) rfl rfl (cv_rfl rfl) (fun _ => rfl) sz3 rfl ?_
   refine al_nil ?_
   refine aq_block ?_
   refine aq_then ?_
   refine aw_region ?_
   refine al_in rfl rfl rfl rfl ?_
   refine al_mv rfl rfl ?_
   refine al_nil ?_
   exact aq_again k107 ((l106x4.set ((u110.toNat : Int)).toNat (wq (u113 + (1 : Int)))), (wq (l106i31 + (1 : Int)))) (Nat.lt_succ_self _) h (fun w a hm hs => norm hm hs [0] [1] [(0, (str a0)), (3, (str r5)), (4, v7), (29, s105), (30, (iq (r5.length : Int))), (31, (iq (wq (l106i31 + (1 : Int)))))] (by decide) ⟨rfl, rfl, rfl, rfl, rfl, rfl, trivial⟩)
  ·replace h := bif_f hb109 h
   refine aw_exit ?_
   refine aq_then_exit ?_
   refine aq_then_exit ?_
   refine aq_block_exit ?_
   exact aq_join l106x4 h (fun w a hm hs => norm hm hs [0] [] [(0, (str a0)), (3, (str r5)), (4, v7)] (by decide) ⟨rfl, rfl, rfl, trivial⟩)
def f_lumref_Press (fu : Nat) (a0 : (List UInt8)) : Option ((List UInt8) × Int) := (bif (decide ((a0.length : Int) > (4096 : Int))) then (some (([] : List UInt8), (2 : Int))) else (opt (f_lumref_Coded fu a0) fun (r3 : (List UInt8)) => (bif (decide ((r3.length : Int) ≤ (a0.length : Int))) then (some (r3, (0 : Int))) else (req (([0] : List UInt8).length + a0.length ≤ 9223372036854775807) (some ((([0] : List UInt8) ++ a0), (0 : Int)))))))
set_option maxHeartbeats 2000000 in
set_option maxRecDepth 100000 in
theorem f_lumref_Press_ok (fu : Nat) (a0 : (List UInt8)) {r : ((List UInt8) × Int)} (h : f_lumref_Press fu a0 = some r) : FnOk Tryd.prog 11 [(str a0)] [] [] (fun (i : Unit) => { val := (Value.tuple #[(str r.1), (int .i64 r.2)]) }) := by
 unfold f_lumref_Press at h
 refine fn_enter Tryd.func11 rfl Tryd.ntmps11 rfl (fun w0 Z0 => ?_)
 refine aw_sr ?_
 refine al_as rfl rfl ?_
 refine al_as rfl rfl ?_
 refine al_nt ?_
 refine aw_seq ?_
 refine aw_sr ?_
 refine al_mv rfl rfl ?_
 refine al_val (ov_strLen Tryd.underlying9 rfl rfl) ?_
 refine al_in rfl rfl rfl rfl ?_
 refine al_nt ?_
 refine aw_cond rfl (fun hb1 => ?_) (fun hb1 => ?_)
 ·replace h := bif_t hb1 h
  refine aw_sr ?_
  refine al_as rfl rfl ?_
  refine al_as rfl rfl ?_
  refine al_nt ?_
  refine aw_ret ?_
  refine aq_then_ret ?_
  obtain rfl := Option.some.inj h
  exact fn_ret () [] [] rfl rfl rfl rfl (res2 rfl rfl rfl) rfl rfl rfl (by decide)
 ·replace h := bif_f hb1 h
  refine aw_skip ?_
  refine aq_tr ?_
  refine al_mv rfl rfl ?_
  obtain ⟨r3, hc2, h⟩ := opt_some h
  refine al_call (vs := [(str a0)]) (f_lumref_Coded_ok fu a0 hc2) [] [] [] pre_nil rfl (by simp) (by decide) (.inl rfl) rfl Tryd.func44 rfl rfl rfl (fun _ => ?_)
  refine al_as rfl rfl ?_
  refine al_nt ?_
  refine aw_seq ?_
  refine aw_sr ?_
  refine al_mv rfl rfl ?_
  refine al_val (ov_strLen Tryd.underlying9 rfl rfl) ?_
  refine al_mv rfl rfl ?_
  refine al_val (ov_strLen Tryd.underlying9 rfl rfl) ?_
  refine al_in rfl rfl rfl rfl ?_
  refine al_nt ?_
  refine aw_cond rfl (fun hb4 => ?_) (fun hb4 => ?_)
  ·replace h := bif_t hb4 h
   refine aw_sr ?_
   refine al_mv rfl rfl ?_
   refine al_as rfl rfl ?_
   refine al_as rfl rfl ?_
   refine al_nt ?_
   refine aw_ret ?_
   refine aq_then_ret ?_
   obtain rfl := Option.some.inj h
   exact fn_ret () [] [] rfl rfl rfl rfl (res2 rfl rfl rfl) rfl rfl rfl (by decide)
  ·replace h := bif_f hb4 h
   refine aw_skip ?_
   refine aq_tr ?_
   refine al_mv rfl rfl ?_
   obtain ⟨hc5, h⟩ := req_some h
   refine al_val (ov_strAdd hc5 rfl rfl rfl) ?_
   refine al_as rfl rfl ?_
   refine al_as rfl rfl ?_
   refine al_nt ?_
   refine aw_ret ?_
   obtain rfl := Option.some.inj h
   exact fn_ret () [] [] rfl rfl rfl rfl (res2 rfl rfl rfl) rfl rfl rfl (by decide)
def f_lumref_PackMake_L49 (a0 : (List S_api_Blob)) (l16x4 : (List A8u8)) (l16i25 : Int) (r28 : (A8u8 × Int)) (kk32 : (Unit → Option ((List UInt8) × Int))) : Nat → Int → Option ((List UInt8) × Int)
  | 0, _ => none
  | k48 + 1, l47i40 => (bif (decide (l47i40 < (l16x4.length : Int))) then (lt (fun (j51b59 : Bool) => (bif j51b59 then (some (([] : List UInt8), (10 : Int))) else (opt (at? l16x4 l47i40) fun (u54 : A8u8) => (bif (u54 == r28.1) then (some (([] : List UInt8), (11 : Int))) else (f_lumref_PackMake_L49 a0 l16x4 l16i25 r28 kk32 k48 (IntKind.i64.wrap (l47i40 + (1 : Int)))))))) fun (kk52 : Bool → Option ((List UInt8) × Int)) => (opt (at? l16x4 l47i40) fun (u59 : A8u8) => (bif (u59 == r28.1) then (opt (at? a0 l47i40) fun (u64 : S_api_Blob) => (opt (at? a0 l16i25) fun (u67 : S_api_Blob) => (req ((Lit.int .i64 u64.Kind).wf = true) (req (u64.Bytes.length ≤ 9223372036854775807) (req ((Lit.int .i64 u67.Kind).wf = true) (req (u67.Bytes.length ≤ 9223372036854775807) (kk52 (u64 == u67)))))))) else (kk52 false)))) else (kk32 ()))
end Go.Proofs.YtfhifdmbdkkgaaaDoor
