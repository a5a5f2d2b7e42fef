/- Walks by program. No condition. -/
import Derived.Test.YtfhifdmbdkkgaaaDoorEn25
import Derived.Test.YtfhifdmbdkkgaaaDoorChecked
import Derived.Test.YtfhifdmbdkkgaaaDoorEn24
import Derived.Test.YtfhifdmbdkkgaaaDoorEn26
import Derived.Test.YtfhifdmbdkkgaaaDoorShTrim
import Derived.Test.YtfhifdmbdkkgaaaDoorShBEApp
import Derived.Test.YtfhifdmbdkkgaaaDoorEn25
import Derived.Test.YtfhifdmbdkkgaaaDoorShRepeat
import Derived.Test.YtfhifdmbdkkgaaaDoorEnS
import Derived.Test.YtfhifdmbdkkgaaaDoorWPressSays_c
namespace Go.Proofs.YtfhifdmbdkkgaaaDoor
open Go.RowKit YtfhifdmbdkkgaaaDoor.En
set_option linter.unusedVariables false
set_option linter.unusedSimpArgs false
open Go.Value (int bool)
set_option maxRecDepth 100000 in
set_option maxHeartbeats 2000000 in
theorem f_lumref_Coded_ok (fu : Nat) (a0 : (List UInt8)) {r : (List UInt8)} (h : f_lumref_Coded fu a0 = some r) : FnOk Tryd.prog 44 [(str a0)] [] [] (fun (i : Unit) => { val := (str r) }) := by
 unfold f_lumref_Coded at h
 refine fn_enter Tryd.func44 rfl Tryd.ntmps44 rfl (fun w0 Z0 => ?_)
 refine aw_sr ?_
 refine al_as rfl rfl ?_
 refine al_nt ?_
 refine aw_sr ?_
 refine al_mv rfl rfl ?_
 obtain ⟨r2, hc1, h⟩ := opt_some h
 refine al_call (vs := [(str a0)]) (f_lumref_Greedy_ok fu a0 hc1) [] [] [] pre_nil rfl (by simp) (by decide) (.inl rfl) rfl Tryd.func96 rfl rfl rfl (fun v3 => ?_)
 obtain ⟨r5, hc4, h⟩ := opt_some h
 refine al_call (vs := [v3]) (f_lumref_TokensText_ok fu v3 r2 hc4) [0] [] [0] (pre_own 0 rfl rfl pre_nil) rfl (by simp) (by decide) (.inr flat_res0) rfl Tryd.func95 rfl rfl rfl (fun _ => ?_)
 refine al_as rfl rfl ?_
 refine al_nt ?_
 refine aw_sr ?_
 obtain ⟨hc6, h⟩ := req_some h
 refine al_make (τ := (tyInt .i64)) (x0 := 0) hc6.1 hc6.2.1 hc6.2.2 rfl rfl Tryd.underlying71 to3 (fun _ _ => rfl) rfl rfl (fun v7 => ?_)
 refine al_as rfl rfl ?_
 refine al_nt ?_
 obtain ⟨kk9, hkk9, h⟩ := lt_some h
 refine aw_seq_join (ι := (List Int)) (fun i => (memOf w0 Z0 [] [(oRow v7 3 (tyInt .i64) i)] [])) (fun i => (tab [(0, (str a0)), (3, (str r5)), (4, v7)])) (fun i => kk9 i = some r) ?_ ?_
 ·rintro j8x4 h
  have h : kk9 j8x4 = some r := h
  rw [hkk9] at h
  dsimp only at h
  clear hkk9
  refine aw_show (m := (memOf w0 Z0 [] [(oRow v7 3 (tyInt .i64) j8x4)] [])) (S := (tab [(0, (str a0)), (3, (str r5)), (4, v7)])) ?_
  refine aw_sr ?_
  refine al_mv rfl rfl ?_
  obtain ⟨r11, hc10, h⟩ := opt_some h
  refine al_call (vs := [v7]) (f_lumref_Lengths_ok fu v7 j8x4 hc10) [0] [] [0] (pre_own 0 rfl rfl pre_nil) rfl (by simp) (by decide) (.inr (flat_res1 (fun _ => flat_row flat_enc))) rfl Tryd.func97 rfl rfl rfl (fun v12 => ?_)
  refine al_mv rfl rfl ?_
  refine al_ex rfl rfl rfl ?_
  refine al_ex rfl rfl rfl ?_
  refine al_as rfl rfl ?_
  refine al_as rfl rfl ?_
  refine al_nt ?_
  refine aw_sr ?_
  refine al_mv rfl rfl ?_
  obtain ⟨r14, hc13, h⟩ := opt_some h
  refine al_call (vs := [v12]) (f_lumref_Codes_ok fu v12 r11.1 hc13) [0] [] [0, 1] (pre_own 0 rfl rfl pre_nil) rfl (by simp) (by decide) (.inr (flat_res1 (fun _ => flat_row flat_enc))) rfl Tryd.func98 rfl rfl rfl (fun v15 => ?_)
  refine al_mv rfl rfl ?_
  refine al_ex rfl rfl rfl ?_
  refine al_ex rfl rfl rfl ?_
  refine al_as rfl rfl ?_
  refine al_as rfl rfl ?_
  refine al_nt ?_
  refine aw_sr ?_
  obtain ⟨hc16, h⟩ := req_some h
  refine al_make (τ := tyStr) (x0 := []) hc16.1 hc16.2.1 hc16.2.2 rfl rfl Tryd.underlying50 to9 (fun _ _ => rfl) rfl rfl (fun v17 => ?_)
  refine al_as rfl rfl ?_
  refine al_nt ?_
  refine aw_sr ?_
  refine al_as rfl rfl ?_
  refine al_as rfl rfl ?_
  refine al_nt ?_
  obtain ⟨kk19, hkk19, h⟩ := lt_some h
  refine aw_seq_join (ι := (List (List UInt8)) × (List UInt8) × Int) (fun i => (memOf w0 Z0 [] [(oRow v17 9 tyStr i.1)] [])) (fun i => (tab [(0, (str a0)), (3, (str r5)), (11, v17), (12, (str i.2.1)), (13, (int .i64 i.2.2))])) (fun i => kk19 i.1 i.2.1 i.2.2 = some r) ?_ ?_
  ·rintro ⟨j18x11, j18s12, j18i13⟩ h
   have h : kk19 j18x11 j18s12 j18i13 = some r := h
   rw [hkk19] at h
   dsimp only at h
   clear hkk19
   refine aw_show (m := (memOf w0 Z0 [] [(oRow v17 9 tyStr j18x11)] [])) (S := (tab [(0, (str a0)), (3, (str r5)), (11, v17), (12, (str j18s12)), (13, (int .i64 j18i13))])) ?_
   refine aw_sr ?_
   refine al_alloc (zs := [(Value.pointer none), (Value.slice none 0 0)]) (zeroOf_to to154) rfl rfl (fun g20 => ?_)
   refine al_nilR 5 tyU8 ?_
   refine al_sb 1 rfl (.inl rfl) ?_
   refine al_nt ?_
   obtain ⟨kk22, hkk22, h⟩ := lt_some h
   refine aw_seq_join (ι := Value × (List UInt8)) (fun i => (memOf w0 Z0 [] [(oRow i.1 5 tyU8 i.2), (oSB g20 154 i.1)] [])) (fun i => (tab [(0, (str a0)), (3, (str r5)), (12, (str j18s12)), (13, (int .i64 j18i13)), (16, (ptr g20 0))])) (fun i => kk22 i.2 = some r) ?_ ?_
   ·rintro ⟨j21v16_0, j21x16_0⟩ h
    have h : kk22 j21x16_0 = some r := h
    rw [hkk22] at h
    dsimp only at h
    clear hkk22
    refine aw_show (m := (memOf w0 Z0 [] [(oRow j21v16_0 5 tyU8 j21x16_0), (oSB g20 154 j21v16_0)] [])) (S := (tab [(0, (str a0)), (3, (str r5)), (12, (str j18s12)), (13, (int .i64 j18i13)), (16, (ptr g20 0))])) ?_
    refine aw_sr ?_
    refine al_call (vs := [(ptr g20 0)]) (fn_String g20 j21v16_0 j21x16_0) [] [1, 0] [] pre_nil rfl (by simp) (by decide) (.inl rfl) rfl Tryd.func101 rfl rfl rfl (fun _ => ?_)
    refine al_as rfl rfl ?_
    refine al_nt ?_
    refine aw_sr ?_
    refine al_mv rfl rfl ?_
    refine al_mv rfl rfl ?_
    refine al_val (ov_strLen Tryd.underlying9 rfl rfl) ?_
    refine al_val (ov_rem (by decide) rfl rfl rfl) ?_
    refine al_in rfl rfl rfl rfl ?_
    refine al_val (ov_rem (by decide) rfl rfl rfl) ?_
    obtain ⟨r24, hc23, h⟩ := opt_some h
    refine al_call (vs := [(str ([48] : List UInt8)), (int .i64 (((IntKind.i64.wrap ((8 : Int) - (((j21x16_0.length : Int)).tmod (8 : Int))))).tmod (8 : Int)))]) (f_strings_Repeat_ok fu ([48] : List UInt8) (((IntKind.i64.wrap ((8 : Int) - (((j21x16_0.length : Int)).tmod (8 : Int))))).tmod (8 : Int)) hc23) [] [] [] pre_nil rfl (by simp) (by decide) (.inl rfl) rfl Tryd.func102 rfl rfl rfl (fun _ => ?_)
    obtain ⟨hc25, h⟩ := req_some h
    refine al_val (ov_strAdd hc25 rfl rfl rfl) ?_
    refine al_as rfl rfl ?_
    refine al_nt ?_
    refine aw_sr ?_
    refine al_as rfl rfl ?_
    refine al_nt ?_
    obtain ⟨kk27, hkk27, h⟩ := lt_some h
    refine aw_seq_join (ι := Value × (List UInt8)) (fun i => (memOf w0 Z0 [] [(oRow i.1 5 tyU8 i.2)] [])) (fun i => (tab [(0, (str a0)), (3, (str r5)), (12, (str j18s12)), (13, (int .i64 j18i13)), (20, i.1)])) (fun i => kk27 i.2 = some r) ?_ ?_
    ·rintro ⟨j26v20, j26x20⟩ h
     have h : kk27 j26x20 = some r := h
     rw [hkk27] at h
     dsimp only at h
     clear hkk27
     refine aw_show (m := (memOf w0 Z0 [] [(oRow j26v20 5 tyU8 j26x20)] [])) (S := (tab [(0, (str a0)), (3, (str r5)), (12, (str j18s12)), (13, (int .i64 j18i13)), (20, j26v20)])) ?_
     refine aw_seq ?_
     obtain ⟨r29, hc28, h⟩ := opt_some h
     obtain ⟨hc30, h⟩ := req_some h
     obtain ⟨r32, hc31, h⟩ := opt_some h
     obtain ⟨hc33, h⟩ := req_some h
     obtain ⟨r35, hc34, h⟩ := opt_some h
     obtain ⟨hc36, h⟩ := req_some h
     obtain ⟨hc37, h⟩ := req_some h
     obtain ⟨hc38, h⟩ := req_some h
     refine aw_region_draw 19 [(128, (fun u => fEq u (str a0))), (129, (fun u => fEq u (int .i64 (a0.length : Int)))), (130, (fun u => fEq u (int .u64 (IntKind.u64.wrap (a0.length : Int))))), (131, (fun u => fEq u (str r29))), (132, (fun u => fEq u (str (([1] : List UInt8) ++ r29)))), (133, (fun u => fEq u (str r5))), (134, (fun u => fEq u (int .i64 (r5.length : Int)))), (135, (fun u => fEq u (int .u64 (IntKind.u64.wrap (r5.length : Int))))), (136, (fun u => fEq u (str r32))), (137, (fun u => fEq u (str ((([1] : List UInt8) ++ r29) ++ r32)))), (138, (fun u => fEq u (int .i64 j18i13))), (139, (fun u => fEq u (int .u64 (IntKind.u64.wrap j18i13)))), (140, (fun u => fEq u (str r35))), (141, (fun u => fEq u (str (((([1] : List UInt8) ++ r29) ++ r32) ++ r35)))), (142, (fun u => fEq u (str j18s12))), (143, (fun u => fEq u (str ((((([1] : List UInt8) ++ r29) ++ r32) ++ r35) ++ j18s12)))), (144, (fun u => fEq u j26v20)), (145, (fun u => fEq u (str j26x20))), (146, (fun u => fEq u (str (((((([1] : List UInt8) ++ r29) ++ r32) ++ r35) ++ j18s12) ++ j26x20))))] (tab [(0, (str a0)), (3, (str r5)), (12, (str j18s12)), (13, (int .i64 j18i13)), (20, j26v20)]) mixed (by kernel_rfl) rfl rfl rfl (fun a hs => hs.tab _ (allT_mem ⟨rfl, rfl, rfl, rfl, rfl, trivial⟩)) ⟨⟨rfl, ld_val (ov_move rfl rfl)⟩, ⟨rfl, ld_eq (j := 0) rfl rfl (ld_val (ov_strLen Tryd.underlying9 rfl rfl))⟩, ⟨rfl, ld_eq (j := 1) rfl rfl (ld_val (ov_convInt (by rw [Tryd.underlying3]; rfl) Tryd.underlying76 rfl rfl))⟩, ⟨rfl, ld_eq (j := 2) rfl rfl (ld_callV (vs := [(int .u64 (IntKind.u64.wrap (a0.length : Int)))]) (f_lumref_Put_ok fu (IntKind.u64.wrap (a0.length : Int)) hc28) [] pre_nil rfl Tryd.func49 rfl rfl rfl)⟩, ⟨rfl, ld_eq (j := 3) rfl rfl (ld_val (ov_strAdd hc30 rfl rfl rfl))⟩, ⟨rfl, ld_val (ov_move rfl rfl)⟩, ⟨rfl, ld_eq (j := 5) rfl rfl (ld_val (ov_strLen Tryd.underlying9 rfl rfl))⟩, ⟨rfl, ld_eq (j := 6) rfl rfl (ld_val (ov_convInt (by rw [Tryd.underlying3]; rfl) Tryd.underlying76 rfl rfl))⟩, ⟨rfl, ld_eq (j := 7) rfl rfl (ld_callV (vs := [(int .u64 (IntKind.u64.wrap (r5.length : Int)))]) (f_lumref_Put_ok fu (IntKind.u64.wrap (r5.length : Int)) hc31) [] pre_nil rfl Tryd.func49 rfl rfl rfl)⟩, ⟨rfl, ld_eq (j := 4) rfl rfl (ld_eq (j := 8) rfl rfl (ld_val (ov_strAdd hc33 rfl rfl rfl)))⟩, ⟨rfl, ld_val (ov_move rfl rfl)⟩, ⟨rfl, ld_eq (j := 10) rfl rfl (ld_val (ov_convInt (by rw [Tryd.underlying3]; rfl) Tryd.underlying76 rfl rfl))⟩, ⟨rfl, ld_eq (j := 11) rfl rfl (ld_callV (vs := [(int .u64 (IntKind.u64.wrap j18i13))]) (f_lumref_Put_ok fu (IntKind.u64.wrap j18i13) hc34) [] pre_nil rfl Tryd.func49 rfl rfl rfl)⟩, ⟨rfl, ld_eq (j := 9) rfl rfl (ld_eq (j := 12) rfl rfl (ld_val (ov_strAdd hc36 rfl rfl rfl)))⟩, ⟨rfl, ld_val (ov_move rfl rfl)⟩, ⟨rfl, ld_eq (j := 13) rfl rfl (ld_eq (j := 14) rfl rfl (ld_val (ov_strAdd hc37 rfl rfl rfl)))⟩, ⟨rfl, ld_val (ov_move rfl rfl)⟩, ⟨rfl, ld_eq (j := 16) rfl rfl (ld_val (ov_toStrR 0 rfl rfl Tryd.underlying74 Tryd.underlying5 Tryd.underlying9 rfl))⟩, ⟨rfl, ld_eq (j := 15) rfl rfl (ld_eq (j := 17) rfl rfl (ld_val (ov_strAdd hc38 rfl rfl rfl)))⟩, trivial⟩ ?_
     refine tl_eq 18 rfl ?_
     refine tl_done ?_
     refine al_as rfl rfl ?_
     refine al_nt ?_
     refine aw_ret ?_
     obtain rfl := Option.some.inj h
     exact fn_ret () [] [] rfl rfl rfl rfl (res1 rfl rfl) rfl rfl rfl (by decide)
    ·clear hkk27
     refine aw_block ?_
     refine aw_nilR 5 tyU8 ?_
     refine aw_state (aw_loop (ι := (List UInt8) × Value × (List UInt8)) (fun i => (memOf w0 Z0 [] [(oRow i.2.1 5 tyU8 i.2.2)] [])) (fun i => (tab [(0, (str a0)), (3, (str r5)), (12, (str j18s12)), (13, (int .i64 j18i13)), (19, (str i.1)), (20, i.2.1)])) (fun q i => f_lumref_Coded_L41 kk27 fu q i.1 i.2.2 = some r) ?_ fu ((j21x16_0 ++ r24), (Value.slice none 0 0), ([] : List UInt8)) h) (fun w a hm hs => norm hm hs [0] [] [(0, (str a0)), (3, (str r5)), (12, (str j18s12)), (13, (int .i64 j18i13)), (19, (str (j21x16_0 ++ r24))), (20, (Value.slice none 0 0))] (by decide) ⟨rfl, rfl, rfl, rfl, rfl, rfl, trivial⟩)
     clear h
     rintro k40 ⟨l39s19, l39v20, l39x20⟩ h
     have h : f_lumref_Coded_L41 kk27 fu k40 l39s19 l39x20 = some r := h
     obtain _ | k40 := k40
     · rw [f_lumref_Coded_L41] at h; cases h
     rw [f_lumref_Coded_L41] at h
     refine aw_show (m := (memOf w0 Z0 [] [(oRow l39v20 5 tyU8 l39x20)] [])) (S := (tab [(0, (str a0)), (3, (str r5)), (12, (str j18s12)), (13, (int .i64 j18i13)), (19, (str l39s19)), (20, l39v20)])) ?_
     obtain ⟨kk42, hkk42, h⟩ := lt_some h
     refine aw_body_join (ι := (List UInt8) × Value × (List UInt8)) (fun i => (memOf w0 Z0 [] [(oRow i.2.1 5 tyU8 i.2.2)] [])) (fun i => (tab [(0, (str a0)), (3, (str r5)), (12, (str j18s12)), (13, (int .i64 j18i13)), (19, (str i.1)), (20, i.2.1)])) (fun i => kk42 i.1 i.2.2 = some r) (fun i h => aq_again k40 i (Nat.lt_succ_self _) (by rw [hkk42] at h; exact h) (fun w a hm hs => ⟨hm, hs⟩)) ?_
     clear hkk42
     refine aw_seq ?_
     refine aw_sr ?_
     refine al_mv rfl rfl ?_
     refine al_val (ov_strCmp rfl rfl rfl rfl) ?_
     refine al_nt ?_
     refine aw_cond rfl (fun hb43 => ?_) (fun hb43 => ?_)
     ·replace h := bif_t hb43 h
      refine aw_skip ?_
      refine aq_then ?_
      obtain ⟨kk45, hkk45, h⟩ := lt_some h
      refine aw_seq_join (ι := Value × (List UInt8)) (fun i => (memOf w0 Z0 [] [(oRow i.1 5 tyU8 i.2)] [])) (fun i => (tab [(0, (str a0)), (3, (str r5)), (12, (str j18s12)), (13, (int .i64 j18i13)), (19, (str l39s19)), (20, i.1)])) (fun i => kk45 i.2 = some r) ?_ ?_
      ·rintro ⟨j44v20, j44x20⟩ h
       have h : kk45 j44x20 = some r := h
       rw [hkk45] at h
       dsimp only at h
       clear hkk45
       refine aw_show (m := (memOf w0 Z0 [] [(oRow j44v20 5 tyU8 j44x20)] [])) (S := (tab [(0, (str a0)), (3, (str r5)), (12, (str j18s12)), (13, (int .i64 j18i13)), (19, (str l39s19)), (20, j44v20)])) ?_
       refine aw_region ?_
       refine al_mv rfl rfl ?_
       obtain ⟨hc46, h⟩ := req_some h
       refine al_val (ov_strFrom hc46.1 hc46.2 Tryd.underlying9 rfl rfl rfl) ?_
       refine al_as rfl rfl ?_
       refine al_nil ?_
       exact aq_join ((l39s19.drop ((8 : Int)).toNat), j44v20, j44x20) h (fun w a hm hs => norm hm hs [0] [] [(0, (str a0)), (3, (str r5)), (12, (str j18s12)), (13, (int .i64 j18i13)), (19, (str (l39s19.drop ((8 : Int)).toNat))), (20, j44v20)] (by decide) ⟨rfl, rfl, rfl, rfl, rfl, rfl, trivial⟩)
      ·clear hkk45
       refine aw_block ?_
       refine aw_sr ?_
       refine al_as rfl rfl ?_
       refine al_nt ?_
       obtain ⟨kk48, hkk48, h⟩ := lt_some h
       refine aw_seq_join (ι := Int) (fun i => (memOf w0 Z0 [] [(oRow l39v20 5 tyU8 l39x20)] [])) (fun i => (tab [(0, (str a0)), (3, (str r5)), (12, (str j18s12)), (13, (int .i64 j18i13)), (19, (str l39s19)), (20, l39v20), (21, (int .i64 i))])) (fun i => kk48 i = some r) ?_ ?_
       ·rintro j47i21 h
        have h : kk48 j47i21 = some r := h
        rw [hkk48] at h
        dsimp only at h
        clear hkk48
        refine aw_show (m := (memOf w0 Z0 [] [(oRow l39v20 5 tyU8 l39x20)] [])) (S := (tab [(0, (str a0)), (3, (str r5)), (12, (str j18s12)), (13, (int .i64 j18i13)), (19, (str l39s19)), (20, l39v20), (21, (int .i64 j47i21))])) ?_
        refine aw_region ?_
        refine al_mv rfl rfl ?_
        refine al_mv rfl rfl ?_
        refine al_val (ov_convInt (by rw [Tryd.underlying3]; rfl) Tryd.underlying5 rfl rfl) ?_
        obtain ⟨hc50, h⟩ := req_some h
        refine al_buildSlice (τ := tyU8) (e := 5) (k := 1) (sz := 0) (by_ := 0) (z := undef) (cs := [(int .u8 (IntKind.u8.wrap j47i21))]) (xs := [(UInt8.ofNat ((IntKind.u8.wrap j47i21)).toNat)]) rfl (by decide) (fun w a hm hs => ⟨([(int .u8 (IntKind.u8.wrap j47i21))]).toArray, rfl, by simp only [List.map_toArray, List.map_cons, List.map_nil, hs.ev (x := .tmp 125) rfl]; exact run_bs [(int .u8 (IntKind.u8.wrap j47i21))] [(int .u8 (IntKind.u8.wrap j47i21))] Tryd.underlying74 to5 rfl rfl (bs_cons (l := [(int .u8 (IntKind.u8.wrap j47i21))]) (cs := []) (cv_rfl rfl) rfl bs_nil) hm⟩) (fun hm => ⟨_, _, rfl, (fun _ => u8_rep hc50) hm, rfl⟩) rfl (fun v49 => ?_)
        obtain ⟨hc51, h⟩ := req_some h
        refine al_append 1 hc51.1 hc51.2 rfl (src_own (i := 1) 0 rfl) rfl rfl Tryd.underlying74 to5 rfl rfl rfl (fun v52 => ?_)
        refine al_as rfl rfl ?_
        refine al_nil ?_
        refine aq_block ?_
        exact aq_join (v52, (l39x20 ++ ([(UInt8.ofNat ((IntKind.u8.wrap j47i21)).toNat)]))) h (fun w a hm hs => norm hm hs [1] [] [(0, (str a0)), (3, (str r5)), (12, (str j18s12)), (13, (int .i64 j18i13)), (19, (str l39s19)), (20, v52)] (by decide) ⟨rfl, rfl, rfl, rfl, rfl, rfl, trivial⟩)
       ·clear hkk48
        refine aw_sr ?_
        refine al_mv rfl rfl ?_
        obtain ⟨hc53, h⟩ := req_some h
        refine al_val (ov_strTo hc53.1 hc53.2 Tryd.underlying9 rfl rfl rfl) ?_
        obtain ⟨hc54, h⟩ := req_some h
        refine al_bytes hc54 rfl Tryd.underlying9 Tryd.underlying74 Tryd.underlying5 rfl (fun s55 => ?_)
        refine al_val (ov_lenD 0 rfl rfl Tryd.underlying74 rfl) ?_
        refine al_mv rfl rfl ?_
        refine al_nt ?_
        refine aw_block ?_
        refine aw_state (aw_loop (ι := Int × Int) (fun i => (memOf w0 Z0 [] [(oRow l39v20 5 tyU8 l39x20)] [(fDat (tyList tyU8) [s55] (l39s19.take ((8 : Int)).toNat))])) (fun i => (tab [(0, (str a0)), (3, (str r5)), (12, (str j18s12)), (13, (int .i64 j18i13)), (19, (str l39s19)), (20, l39v20), (21, (int .i64 i.1)), (110, s55), (111, (int .i64 ((l39s19.take ((8 : Int)).toNat).length : Int))), (112, (int .i64 i.2))])) (fun q i => f_lumref_Coded_L58 l39s19 kk48 q i.1 i.2 = some r) ?_ fu ((0 : Int), (0 : Int)) h) (fun w a hm hs => norm hm hs [0] [0] [(0, (str a0)), (3, (str r5)), (12, (str j18s12)), (13, (int .i64 j18i13)), (19, (str l39s19)), (20, l39v20), (21, (int .i64 (0 : Int))), (110, s55), (111, (int .i64 ((l39s19.take ((8 : Int)).toNat).length : Int))), (112, (int .i64 (0 : Int)))] (by decide) ⟨rfl, rfl, rfl, rfl, rfl, rfl, rfl, rfl, rfl, rfl, trivial⟩)
        clear h
        rintro k57 ⟨l56i21, l56i112⟩ h
        have h : f_lumref_Coded_L58 l39s19 kk48 k57 l56i21 l56i112 = some r := h
        obtain _ | k57 := k57
        · rw [f_lumref_Coded_L58] at h; cases h
        rw [f_lumref_Coded_L58] at h
        refine aw_show (m := (memOf w0 Z0 [] [(oRow l39v20 5 tyU8 l39x20)] [(fDat (tyList tyU8) [s55] (l39s19.take ((8 : Int)).toNat))])) (S := (tab [(0, (str a0)), (3, (str r5)), (12, (str j18s12)), (13, (int .i64 j18i13)), (19, (str l39s19)), (20, l39v20), (21, (int .i64 l56i21)), (110, s55), (111, (int .i64 ((l39s19.take ((8 : Int)).toNat).length : Int))), (112, (int .i64 l56i112))])) ?_
        refine aw_sr ?_
        refine al_in rfl rfl rfl rfl ?_
        refine al_nt ?_
        refine aw_seq ?_
        refine aw_cond rfl (fun hb59 => ?_) (fun hb59 => ?_)
        ·replace h := bif_t hb59 h
         refine aw_skip ?_
         refine aq_then ?_
         refine aw_seq ?_
         refine aw_block ?_
         refine aw_sr ?_
         obtain ⟨u60, hu61, h⟩ := opt_some h
         refine al_idxD 0 hu61 rfl rfl rfl Tryd.underlying74 sz5 rfl (fun p62 => ?_)
         refine al_val (ov_loadP (ds := [(int .u8 (u60.toNat : Int))]) 0 rfl (fun h => h) rfl Tryd.underlying5 sz5 rfl rfl rfl) ?_
         refine al_as rfl rfl ?_
         refine al_nt ?_
         refine aw_region ?_
         refine al_mv rfl rfl ?_
         refine al_in rfl rfl rfl rfl ?_
         refine al_mv rfl rfl ?_
         refine al_in rfl rfl rfl rfl ?_
         refine al_val (ov_convInt (by rw [Tryd.underlying5]; rfl) Tryd.underlying3 rfl rfl) ?_
         refine al_in rfl rfl rfl rfl ?_
         refine al_as rfl rfl ?_
         refine al_nil ?_
         refine aq_block ?_
         refine aq_then ?_
         refine aw_region ?_
         refine al_in rfl rfl rfl rfl ?_
         refine al_mv rfl rfl ?_
         refine al_nil ?_
         exact aq_again k57 ((IntKind.i64.wrap ((IntKind.i64.wrap ((2 : Int) * l56i21)) + (IntKind.i64.wrap (IntKind.u8.wrap ((u60.toNat : Int) - (48 : Int)))))), (IntKind.i64.wrap (l56i112 + (1 : Int)))) (Nat.lt_succ_self _) h (fun w a hm hs => norm hm hs [0] [1] [(0, (str a0)), (3, (str r5)), (12, (str j18s12)), (13, (int .i64 j18i13)), (19, (str l39s19)), (20, l39v20), (21, (int .i64 (IntKind.i64.wrap ((IntKind.i64.wrap ((2 : Int) * l56i21)) + (IntKind.i64.wrap (IntKind.u8.wrap ((u60.toNat : Int) - (48 : Int)))))))), (110, s55), (111, (int .i64 ((l39s19.take ((8 : Int)).toNat).length : Int))), (112, (int .i64 (IntKind.i64.wrap (l56i112 + (1 : Int)))))] (by decide) ⟨rfl, rfl, rfl, rfl, rfl, rfl, rfl, rfl, rfl, rfl, trivial⟩)
        ·replace h := bif_f hb59 h
         refine aw_exit ?_
         refine aq_then_exit ?_
         refine aq_then_exit ?_
         refine aq_block_exit ?_
         exact aq_join l56i21 h (fun w a hm hs => norm hm hs [0] [] [(0, (str a0)), (3, (str r5)), (12, (str j18s12)), (13, (int .i64 j18i13)), (19, (str l39s19)), (20, l39v20), (21, (int .i64 l56i21))] (by decide) ⟨rfl, rfl, rfl, rfl, rfl, rfl, rfl, trivial⟩)
     ·replace h := bif_f hb43 h
      refine aw_exit ?_
      refine aq_then_exit ?_
      refine aq_then_exit ?_
      refine aq_block_exit ?_
      exact aq_join (l39v20, l39x20) h (fun w a hm hs => norm hm hs [0] [] [(0, (str a0)), (3, (str r5)), (12, (str j18s12)), (13, (int .i64 j18i13)), (20, l39v20)] (by decide) ⟨rfl, rfl, rfl, rfl, rfl, trivial⟩)
   ·clear hkk22
    refine aw_sr ?_
    refine al_mv rfl rfl ?_
    obtain ⟨hc63, h⟩ := req_some h
    refine al_bytes hc63 rfl Tryd.underlying9 Tryd.underlying74 Tryd.underlying5 rfl (fun s64 => ?_)
    refine al_val (ov_lenD 0 rfl rfl Tryd.underlying74 rfl) ?_
    refine al_mv rfl rfl ?_
    refine al_nt ?_
    refine aw_block ?_
    refine aw_state (aw_loop (ι := Value × (List UInt8) × Int) (fun i => (memOf w0 Z0 [] [(oRow v17 9 tyStr j18x11), (oRow i.1 5 tyU8 i.2.1), (oSB g20 154 i.1)] [(fDat (tyList tyU8) [s64] r5)])) (fun i => (tab [(0, (str a0)), (3, (str r5)), (11, v17), (12, (str j18s12)), (13, (int .i64 j18i13)), (16, (ptr g20 0)), (83, s64), (84, (int .i64 (r5.length : Int))), (85, (int .i64 i.2.2))])) (fun q i => f_lumref_Coded_L67 r5 j18x11 kk22 fu q i.2.1 i.2.2 = some r) ?_ fu ((Value.slice none 0 0), ([] : List UInt8), (0 : Int)) h) (fun w a hm hs => norm hm hs [2, 0, 1] [0] [(0, (str a0)), (3, (str r5)), (11, v17), (12, (str j18s12)), (13, (int .i64 j18i13)), (16, (ptr g20 0)), (83, s64), (84, (int .i64 (r5.length : Int))), (85, (int .i64 (0 : Int)))] (by decide) ⟨rfl, rfl, rfl, rfl, rfl, rfl, rfl, rfl, rfl, trivial⟩)
    clear h
    rintro k66 ⟨l65v16_0, l65x16_0, l65i85⟩ h
    have h : f_lumref_Coded_L67 r5 j18x11 kk22 fu k66 l65x16_0 l65i85 = some r := h
    obtain _ | k66 := k66
    · rw [f_lumref_Coded_L67] at h; cases h
    rw [f_lumref_Coded_L67] at h
    refine aw_show (m := (memOf w0 Z0 [] [(oRow v17 9 tyStr j18x11), (oRow l65v16_0 5 tyU8 l65x16_0), (oSB g20 154 l65v16_0)] [(fDat (tyList tyU8) [s64] r5)])) (S := (tab [(0, (str a0)), (3, (str r5)), (11, v17), (12, (str j18s12)), (13, (int .i64 j18i13)), (16, (ptr g20 0)), (83, s64), (84, (int .i64 (r5.length : Int))), (85, (int .i64 l65i85))])) ?_
    refine aw_sr ?_
    refine al_in rfl rfl rfl rfl ?_
    refine al_nt ?_
    refine aw_seq ?_
    refine aw_cond rfl (fun hb68 => ?_) (fun hb68 => ?_)
    ·replace h := bif_t hb68 h
     refine aw_skip ?_
     refine aq_then ?_
     refine aw_seq ?_
     refine aw_block ?_
     refine aw_sr ?_
     obtain ⟨u69, hu70, h⟩ := opt_some h
     refine al_idxD 0 hu70 rfl rfl rfl Tryd.underlying74 sz5 rfl (fun p71 => ?_)
     refine al_val (ov_loadP (ds := [(int .u8 (u69.toNat : Int))]) 0 rfl (fun h => h) rfl Tryd.underlying5 sz5 rfl rfl rfl) ?_
     refine al_as rfl rfl ?_
     refine al_nt ?_
     refine aw_region ?_
     refine al_mv rfl rfl ?_
     refine al_mv rfl rfl ?_
     obtain ⟨u72, hu73, h⟩ := opt_some h
     refine al_idxR 0 (at_some hu73).1 (at_some hu73).2.1 rfl rfl rfl Tryd.underlying50 sz9 rfl (fun p74 hp75 => ?_)
     refine al_val (ov_loadR (ds := [(str u72)]) 0 rfl hp75 (at_some hu73).2.2 (fun h => h) rfl Tryd.underlying9 sz9 rfl rfl rfl) ?_
     obtain ⟨r77, hc76, h⟩ := opt_some h
     refine al_call (vs := [(ptr g20 0), (str u72)]) (f___strings_Builder__WriteString_sb_ok fu g20 l65v16_0 l65x16_0 u72 hc76) [] [2, 1] [0] pre_nil rfl (by simp) (by decide) (.inl rfl) rfl Tryd.func100 rfl rfl rfl (fun v78 => ?_)
     refine al_nil ?_
     refine aq_block ?_
     refine aq_then ?_
     refine aw_region ?_
     refine al_in rfl rfl rfl rfl ?_
     refine al_mv rfl rfl ?_
     refine al_nil ?_
     exact aq_again k66 (v78, r77.2.2, (IntKind.i64.wrap (l65i85 + (1 : Int)))) (Nat.lt_succ_self _) h (fun w a hm hs => norm hm hs [2, 1, 0] [1] [(0, (str a0)), (3, (str r5)), (11, v17), (12, (str j18s12)), (13, (int .i64 j18i13)), (16, (ptr g20 0)), (83, s64), (84, (int .i64 (r5.length : Int))), (85, (int .i64 (IntKind.i64.wrap (l65i85 + (1 : Int)))))] (by decide) ⟨rfl, rfl, rfl, rfl, rfl, rfl, rfl, rfl, rfl, trivial⟩)
    ·replace h := bif_f hb68 h
     refine aw_exit ?_
     refine aq_then_exit ?_
     refine aq_then_exit ?_
     refine aq_block_exit ?_
     exact aq_join (l65v16_0, l65x16_0) h (fun w a hm hs => norm hm hs [1, 2] [] [(0, (str a0)), (3, (str r5)), (12, (str j18s12)), (13, (int .i64 j18i13)), (16, (ptr g20 0))] (by decide) ⟨rfl, rfl, rfl, rfl, rfl, trivial⟩)
  ·clear hkk19
   refine aw_sr ?_
   refine al_mv rfl rfl ?_
   refine al_val (ov_lenR 2 rfl rfl Tryd.underlying71 rfl) ?_
   refine al_mv rfl rfl ?_
   refine al_nt ?_
   refine aw_block ?_
   refine aw_state (aw_loop (ι := (List (List UInt8)) × (List UInt8) × Int × Int) (fun i => (memOf w0 Z0 [] [(oRow v15 3 (tyInt .i64) r14.1), (oRow v17 9 tyStr i.1), (oRow v12 3 (tyInt .i64) r11.1)] [])) (fun i => (tab [(0, (str a0)), (3, (str r5)), (9, v15), (11, v17), (12, (str i.2.1)), (13, (int .i64 i.2.2.1)), (53, v12), (54, (int .i64 (r11.1.length : Int))), (55, (int .i64 i.2.2.2))])) (fun q i => f_lumref_Coded_L81 r11 r14 kk19 fu q i.1 i.2.1 i.2.2.1 i.2.2.2 = some r) ?_ fu ((List.replicate ((256 : Int)).toNat ([] : (List UInt8))), ([] : List UInt8), (0 : Int), (0 : Int)) h) (fun w a hm hs => norm hm hs [1, 0, 2] [] [(0, (str a0)), (3, (str r5)), (9, v15), (11, v17), (12, (str ([] : List UInt8))), (13, (int .i64 (0 : Int))), (53, v12), (54, (int .i64 (r11.1.length : Int))), (55, (int .i64 (0 : Int)))] (by decide) ⟨rfl, rfl, rfl, rfl, rfl, rfl, rfl, rfl, rfl, trivial⟩)
   clear h
   rintro k80 ⟨l79x11, l79s12, l79i13, l79i55⟩ h
   have h : f_lumref_Coded_L81 r11 r14 kk19 fu k80 l79x11 l79s12 l79i13 l79i55 = some r := h
   obtain _ | k80 := k80
   · rw [f_lumref_Coded_L81] at h; cases h
   rw [f_lumref_Coded_L81] at h
   refine aw_show (m := (memOf w0 Z0 [] [(oRow v15 3 (tyInt .i64) r14.1), (oRow v17 9 tyStr l79x11), (oRow v12 3 (tyInt .i64) r11.1)] [])) (S := (tab [(0, (str a0)), (3, (str r5)), (9, v15), (11, v17), (12, (str l79s12)), (13, (int .i64 l79i13)), (53, v12), (54, (int .i64 (r11.1.length : Int))), (55, (int .i64 l79i55))])) ?_
   refine aw_sr ?_
   refine al_in rfl rfl rfl rfl ?_
   refine al_nt ?_
   refine aw_seq ?_
   refine aw_cond rfl (fun hb82 => ?_) (fun hb82 => ?_)
   ·replace h := bif_t hb82 h
    refine aw_skip ?_
    refine aq_then ?_
    obtain ⟨kk84, hkk84, h⟩ := lt_some h
    refine aw_seq_join (ι := (List (List UInt8)) × (List UInt8) × Int) (fun i => (memOf w0 Z0 [] [(oRow v15 3 (tyInt .i64) r14.1), (oRow v17 9 tyStr i.1), (oRow v12 3 (tyInt .i64) r11.1)] [])) (fun i => (tab [(0, (str a0)), (3, (str r5)), (9, v15), (11, v17), (12, (str i.2.1)), (13, (int .i64 i.2.2)), (53, v12), (54, (int .i64 (r11.1.length : Int))), (55, (int .i64 l79i55))])) (fun i => kk84 i.1 i.2.1 i.2.2 = some r) ?_ ?_
    ·rintro ⟨j83x11, j83s12, j83i13⟩ h
     have h : kk84 j83x11 j83s12 j83i13 = some r := h
     rw [hkk84] at h
     dsimp only at h
     clear hkk84
     refine aw_show (m := (memOf w0 Z0 [] [(oRow v15 3 (tyInt .i64) r14.1), (oRow v17 9 tyStr j83x11), (oRow v12 3 (tyInt .i64) r11.1)] [])) (S := (tab [(0, (str a0)), (3, (str r5)), (9, v15), (11, v17), (12, (str j83s12)), (13, (int .i64 j83i13)), (53, v12), (54, (int .i64 (r11.1.length : Int))), (55, (int .i64 l79i55))])) ?_
     refine aw_region ?_
     refine al_in rfl rfl rfl rfl ?_
     refine al_mv rfl rfl ?_
     refine al_nil ?_
     exact aq_again k80 (j83x11, j83s12, j83i13, (IntKind.i64.wrap (l79i55 + (1 : Int)))) (Nat.lt_succ_self _) h (fun w a hm hs => norm hm hs [0, 1, 2] [] [(0, (str a0)), (3, (str r5)), (9, v15), (11, v17), (12, (str j83s12)), (13, (int .i64 j83i13)), (53, v12), (54, (int .i64 (r11.1.length : Int))), (55, (int .i64 (IntKind.i64.wrap (l79i55 + (1 : Int)))))] (by decide) ⟨rfl, rfl, rfl, rfl, rfl, rfl, rfl, rfl, rfl, trivial⟩)
    ·clear hkk84
     refine aw_block ?_
     refine aw_sr ?_
     refine al_mv rfl rfl ?_
     obtain ⟨u85, hu86, h⟩ := opt_some h
     refine al_idxR 2 (at_some hu86).1 (at_some hu86).2.1 rfl rfl rfl Tryd.underlying71 sz3 rfl (fun p87 hp88 => ?_)
     refine al_val (ov_loadR (ds := [(int .i64 u85)]) 2 rfl hp88 (at_some hu86).2.2 (fun h => h) rfl Tryd.underlying3 sz3 rfl rfl rfl) ?_
     refine al_as rfl rfl ?_
     refine al_as rfl rfl ?_
     refine al_nt ?_
     refine aw_sr ?_
     refine al_mv rfl rfl ?_
     refine al_in rfl rfl rfl rfl ?_
     refine al_nt ?_
     refine aw_cond rfl (fun hb89 => ?_) (fun hb89 => ?_)
     ·replace h := bif_t hb89 h
      refine aw_sr ?_
      refine al_mv rfl rfl ?_
      refine al_mv rfl rfl ?_
      refine al_mv rfl rfl ?_
      refine al_mv rfl rfl ?_
      obtain ⟨u90, hu91, h⟩ := opt_some h
      refine al_idxR 0 (at_some hu91).1 (at_some hu91).2.1 rfl rfl rfl Tryd.underlying71 sz3 rfl (fun p92 hp93 => ?_)
      refine al_val (ov_loadR (ds := [(int .i64 u90)]) 0 rfl hp93 (at_some hu91).2.2 (fun h => h) rfl Tryd.underlying3 sz3 rfl rfl rfl) ?_
      refine al_mv rfl rfl ?_
      obtain ⟨r95, hc94, h⟩ := opt_some h
      refine al_call (vs := [(int .i64 u90), (int .i64 u85)]) (f_lumref_bitsOf_ok fu u90 u85 hc94) [] [] [0, 1, 2] pre_nil rfl (by simp) (by decide) (.inl rfl) rfl Tryd.func99 rfl rfl rfl (fun _ => ?_)
      obtain ⟨u96, hu97, h⟩ := opt_some h
      refine al_idxR 1 (at_some hu97).1 (at_some hu97).2.1 rfl rfl rfl Tryd.underlying50 sz9 rfl (fun p98 hp99 => ?_)
      refine al_storeR (k := (l79i55).toNat) (x := r95) (vs := [(str r95)]) 1 rfl hp99 (idx_lt hu97) rfl rfl (cv_rfl rfl) (fun _ => rfl) sz9 rfl ?_
      refine al_nt ?_
      refine aw_sr ?_
      refine al_mv rfl rfl ?_
      refine al_mv rfl rfl ?_
      refine al_val (ov_convInt (by rw [Tryd.underlying3]; rfl) Tryd.underlying5 rfl rfl) ?_
      refine al_mv rfl rfl ?_
      refine al_val (ov_convInt (by rw [Tryd.underlying3]; rfl) Tryd.underlying5 rfl rfl) ?_
      obtain ⟨hc101, h⟩ := req_some h
      obtain ⟨hc102, h⟩ := req_some h
      refine al_buildSlice (τ := tyU8) (e := 5) (k := 2) (sz := 0) (by_ := 0) (z := undef) (cs := [(int .u8 (IntKind.u8.wrap l79i55)), (int .u8 (IntKind.u8.wrap u85))]) (xs := [(UInt8.ofNat ((IntKind.u8.wrap l79i55)).toNat), (UInt8.ofNat ((IntKind.u8.wrap u85)).toNat)]) rfl (by decide) (fun w a hm hs => ⟨([(int .u8 (IntKind.u8.wrap l79i55)), (int .u8 (IntKind.u8.wrap u85))]).toArray, rfl, by simp only [List.map_toArray, List.map_cons, List.map_nil, hs.ev (x := .tmp 73) rfl, hs.ev (x := .tmp 75) rfl]; exact run_bs [(int .u8 (IntKind.u8.wrap l79i55)), (int .u8 (IntKind.u8.wrap u85))] [(int .u8 (IntKind.u8.wrap l79i55)), (int .u8 (IntKind.u8.wrap u85))] Tryd.underlying74 to5 rfl rfl (bs_cons (l := [(int .u8 (IntKind.u8.wrap l79i55))]) (cs := [(int .u8 (IntKind.u8.wrap u85))]) (cv_rfl rfl) rfl (bs_cons (l := [(int .u8 (IntKind.u8.wrap u85))]) (cs := []) (cv_rfl rfl) rfl bs_nil)) hm⟩) (fun hm => ⟨_, _, rfl, (fun _ => u8_rep hc101) hm, ⟨_, _, rfl, (fun _ => u8_rep hc102) hm, rfl⟩⟩) rfl (fun v100 => ?_)
      refine al_val (ov_toStrR 0 rfl rfl Tryd.underlying74 Tryd.underlying5 Tryd.underlying9 rfl) ?_
      obtain ⟨hc103, h⟩ := req_some h
      refine al_val (ov_strAdd hc103 rfl rfl rfl) ?_
      refine al_as rfl rfl ?_
      refine al_nt ?_
      refine aw_region ?_
      refine al_mv rfl rfl ?_
      refine al_in rfl rfl rfl rfl ?_
      refine al_as rfl rfl ?_
      refine al_nil ?_
      refine aq_block ?_
      exact aq_join ((l79x11.set (l79i55).toNat r95), (l79s12 ++ ([(UInt8.ofNat ((IntKind.u8.wrap l79i55)).toNat), (UInt8.ofNat ((IntKind.u8.wrap u85)).toNat)])), (IntKind.i64.wrap (l79i13 + (1 : Int)))) h (fun w a hm hs => norm hm hs [1, 2, 3] [] [(0, (str a0)), (3, (str r5)), (9, v15), (11, v17), (12, (str (l79s12 ++ ([(UInt8.ofNat ((IntKind.u8.wrap l79i55)).toNat), (UInt8.ofNat ((IntKind.u8.wrap u85)).toNat)])))), (13, (int .i64 (IntKind.i64.wrap (l79i13 + (1 : Int))))), (53, v12), (54, (int .i64 (r11.1.length : Int))), (55, (int .i64 l79i55))] (by decide) ⟨rfl, rfl, rfl, rfl, rfl, rfl, rfl, rfl, rfl, trivial⟩)
     ·replace h := bif_f hb89 h
      refine aw_skip ?_
      refine aq_block ?_
      exact aq_join (l79x11, l79s12, l79i13) h (fun w a hm hs => norm hm hs [0, 1, 2] [] [(0, (str a0)), (3, (str r5)), (9, v15), (11, v17), (12, (str l79s12)), (13, (int .i64 l79i13)), (53, v12), (54, (int .i64 (r11.1.length : Int))), (55, (int .i64 l79i55))] (by decide) ⟨rfl, rfl, rfl, rfl, rfl, rfl, rfl, rfl, rfl, trivial⟩)
   ·replace h := bif_f hb82 h
    refine aw_exit ?_
    refine aq_then_exit ?_
    refine aq_then_exit ?_
    refine aq_block_exit ?_
    exact aq_join (l79x11, l79s12, l79i13) h (fun w a hm hs => norm hm hs [1] [] [(0, (str a0)), (3, (str r5)), (11, v17), (12, (str l79s12)), (13, (int .i64 l79i13))] (by decide) ⟨rfl, rfl, rfl, rfl, rfl, trivial⟩)
 ·clear hkk9
  refine aw_sr ?_
  refine al_mv rfl rfl ?_
  obtain ⟨hc104, h⟩ := req_some h
  refine al_bytes hc104 rfl Tryd.underlying9 Tryd.underlying74 Tryd.underlying5 rfl (fun s105 => ?_)
  refine al_val (ov_lenD 0 rfl rfl Tryd.underlying74 rfl) ?_
  refine al_mv rfl rfl ?_
  refine al_nt ?_
  refine aw_block ?_
  refine aw_state (aw_loop (ι := (List Int) × Int) (fun i => (memOf w0 Z0 [] [(oRow v7 3 (tyInt .i64) i.1)] [(fDat (tyList tyU8) [s105] r5)])) (fun i => (tab [(0, (str a0)), (3, (str r5)), (4, v7), (29, s105), (30, (int .i64 (r5.length : Int))), (31, (int .i64 i.2))])) (fun q i => f_lumref_Coded_L108 r5 kk9 q i.1 i.2 = some r) ?_ fu ((List.replicate ((256 : Int)).toNat 0), (0 : Int)) h) (fun w a hm hs => norm hm hs [0] [0] [(0, (str a0)), (3, (str r5)), (4, v7), (29, s105), (30, (int .i64 (r5.length : Int))), (31, (int .i64 (0 : Int)))] (by decide) ⟨rfl, rfl, rfl, rfl, rfl, rfl, trivial⟩)
  clear h
  rintro k107 ⟨l106x4, l106i31⟩ h
  have h : f_lumref_Coded_L108 r5 kk9 k107 l106x4 l106i31 = some r := h
  obtain _ | k107 := k107
  · rw [f_lumref_Coded_L108] at h; cases h
  rw [f_lumref_Coded_L108] at h
  refine aw_show (m := (memOf w0 Z0 [] [(oRow v7 3 (tyInt .i64) l106x4)] [(fDat (tyList tyU8) [s105] r5)])) (S := (tab [(0, (str a0)), (3, (str r5)), (4, v7), (29, s105), (30, (int .i64 (r5.length : Int))), (31, (int .i64 l106i31))])) ?_
  refine aw_sr ?_
  refine al_in rfl rfl rfl rfl ?_
  refine al_nt ?_
  refine aw_seq ?_
  refine aw_cond rfl (fun hb109 => ?_) (fun hb109 => ?_)
  ·replace h := bif_t hb109 h
   refine aw_skip ?_
   refine aq_then ?_
   refine aw_seq ?_
   refine aw_block ?_
   refine aw_sr ?_
   obtain ⟨u110, hu111, h⟩ := opt_some h
   refine al_idxD 0 hu111 rfl rfl rfl Tryd.underlying74 sz5 rfl (fun p112 => ?_)
   refine al_val (ov_loadP (ds := [(int .u8 (u110.toNat : Int))]) 0 rfl (fun h => h) rfl Tryd.underlying5 sz5 rfl rfl rfl) ?_
   refine al_as rfl rfl ?_
   refine al_nt ?_
   refine aw_region ?_
   refine al_mv rfl rfl ?_
   refine al_mv rfl rfl ?_
   obtain ⟨u113, hu114, h⟩ := opt_some h
   refine al_idxR 0 (at_some hu114).1 (at_some hu114).2.1 rfl rfl rfl Tryd.underlying71 sz3 rfl (fun p115 hp116 => ?_)
   refine al_val (ov_loadR (ds := [(int .i64 u113)]) 0 rfl hp116 (at_some hu114).2.2 (fun h => h) rfl Tryd.underlying3 sz3 rfl rfl rfl) ?_
   refine al_in rfl rfl rfl rfl ?_
   obtain ⟨u117, hu118, h⟩ := opt_some h
   refine al_idxR 0 (at_some hu118).1 (at_some hu118).2.1 rfl rfl rfl Tryd.underlying71 sz3 rfl (fun p119 hp120 => ?_)
   refine al_storeR (k := ((u110.toNat : Int)).toNat) (x := (IntKind.i64.wrap (u113 + (1 : Int)))) (vs := [(int .i64 (IntKind.i64.wrap (u113 + (1 : Int))))]) 0 rfl hp120 (idx_lt hu118) rfl rfl (cv_rfl rfl) (fun _ => rfl) sz3 rfl ?_
   refine al_nil ?_
   refine aq_block ?_
   refine aq_then ?_
   refine aw_region ?_
   refine al_in rfl rfl rfl rfl ?_
   refine al_mv rfl rfl ?_
   refine al_nil ?_
   exact aq_again k107 ((l106x4.set ((u110.toNat : Int)).toNat (IntKind.i64.wrap (u113 + (1 : Int)))), (IntKind.i64.wrap (l106i31 + (1 : Int)))) (Nat.lt_succ_self _) h (fun w a hm hs => norm hm hs [0] [1] [(0, (str a0)), (3, (str r5)), (4, v7), (29, s105), (30, (int .i64 (r5.length : Int))), (31, (int .i64 (IntKind.i64.wrap (l106i31 + (1 : Int)))))] (by decide) ⟨rfl, rfl, rfl, rfl, rfl, rfl, trivial⟩)
  ·replace h := bif_f hb109 h
   refine aw_exit ?_
   refine aq_then_exit ?_
   refine aq_then_exit ?_
   refine aq_block_exit ?_
   exact aq_join l106x4 h (fun w a hm hs => norm hm hs [0] [] [(0, (str a0)), (3, (str r5)), (4, v7)] (by decide) ⟨rfl, rfl, rfl, trivial⟩)
def f_lumref_Press (fu : Nat) (a0 : (List UInt8)) : Option ((List UInt8) × Int) := (bif (decide ((a0.length : Int) > (4096 : Int))) then (some (([] : List UInt8), (2 : Int))) else (opt (f_lumref_Coded fu a0) fun (r3 : (List UInt8)) => (bif (decide ((r3.length : Int) ≤ (a0.length : Int))) then (some (r3, (0 : Int))) else (req (([0] : List UInt8).length + a0.length ≤ 9223372036854775807) (some ((([0] : List UInt8) ++ a0), (0 : Int)))))))
set_option maxRecDepth 100000 in
theorem f_lumref_Press_ok (fu : Nat) (a0 : (List UInt8)) {r : ((List UInt8) × Int)} (h : f_lumref_Press fu a0 = some r) : FnOk Tryd.prog 11 [(str a0)] [] [] (fun (i : Unit) => { val := (Value.tuple #[(str r.1), (int .i64 r.2)]) }) := by
 unfold f_lumref_Press at h
 refine fn_enter Tryd.func11 rfl Tryd.ntmps11 rfl (fun w0 Z0 => ?_)
 refine aw_sr ?_
 refine al_as rfl rfl ?_
 refine al_as rfl rfl ?_
 refine al_nt ?_
 refine aw_seq ?_
 refine aw_sr ?_
 refine al_mv rfl rfl ?_
 refine al_val (ov_strLen Tryd.underlying9 rfl rfl) ?_
 refine al_in rfl rfl rfl rfl ?_
 refine al_nt ?_
 refine aw_cond rfl (fun hb1 => ?_) (fun hb1 => ?_)
 ·replace h := bif_t hb1 h
  refine aw_sr ?_
  refine al_as rfl rfl ?_
  refine al_as rfl rfl ?_
  refine al_nt ?_
  refine aw_ret ?_
  refine aq_then_ret ?_
  obtain rfl := Option.some.inj h
  exact fn_ret () [] [] rfl rfl rfl rfl (res2 rfl rfl rfl) rfl rfl rfl (by decide)
 ·replace h := bif_f hb1 h
  refine aw_skip ?_
  refine aq_tr ?_
  refine al_mv rfl rfl ?_
  obtain ⟨r3, hc2, h⟩ := opt_some h
  refine al_call (vs := [(str a0)]) (f_lumref_Coded_ok fu a0 hc2) [] [] [] pre_nil rfl (by simp) (by decide) (.inl rfl) rfl Tryd.func44 rfl rfl rfl (fun _ => ?_)
  refine al_as rfl rfl ?_
  refine al_nt ?_
  refine aw_seq ?_
  refine aw_sr ?_
  refine al_mv rfl rfl ?_
  refine al_val (ov_strLen Tryd.underlying9 rfl rfl) ?_
  refine al_mv rfl rfl ?_
  refine al_val (ov_strLen Tryd.underlying9 rfl rfl) ?_
  refine al_in rfl rfl rfl rfl ?_
  refine al_nt ?_
  refine aw_cond rfl (fun hb4 => ?_) (fun hb4 => ?_)
  ·replace h := bif_t hb4 h
   refine aw_sr ?_
   refine al_mv rfl rfl ?_
   refine al_as rfl rfl ?_
   refine al_as rfl rfl ?_
   refine al_nt ?_
   refine aw_ret ?_
   refine aq_then_ret ?_
   obtain rfl := Option.some.inj h
   exact fn_ret () [] [] rfl rfl rfl rfl (res2 rfl rfl rfl) rfl rfl rfl (by decide)
  ·replace h := bif_f hb4 h
   refine aw_skip ?_
   refine aq_tr ?_
   refine al_mv rfl rfl ?_
   obtain ⟨hc5, h⟩ := req_some h
   refine al_val (ov_strAdd hc5 rfl rfl rfl) ?_
   refine al_as rfl rfl ?_
   refine al_as rfl rfl ?_
   refine al_nt ?_
   refine aw_ret ?_
   obtain rfl := Option.some.inj h
   exact fn_ret () [] [] rfl rfl rfl rfl (res2 rfl rfl rfl) rfl rfl rfl (by decide)
def f_lumlaw_PressSays (fu : Nat) (a0 : (List UInt8)) : Option Bool := (opt (f_press_Press fu a0) fun (r2 : ((List UInt8) × Int)) => (opt (f_lumref_Press fu a0) fun (r4 : ((List UInt8) × Int)) => (lt (fun (j5b2 : Bool) => (some j5b2)) fun (kk6 : Bool → Option Bool) => (bif (r2.1 == r4.1) then (kk6 (r2.2 == r4.2)) else (kk6 false)))))
set_option maxRecDepth 100000 in
theorem f_lumlaw_PressSays_ok (fu : Nat) (a0 : (List UInt8)) {r : Bool} (h : f_lumlaw_PressSays fu a0 = some r) : FnOk Tryd.prog 3 [(str a0)] [] [] (fun (i : Unit) => { val := (bool r) }) := by
 unfold f_lumlaw_PressSays at h
 refine fn_enter Tryd.func3 rfl Tryd.ntmps3 rfl (fun w0 Z0 => ?_)
 refine aw_sr ?_
 refine al_as rfl rfl ?_
 refine al_nt ?_
 refine aw_sr ?_
 refine al_mv rfl rfl ?_
 obtain ⟨r2, hc1, h⟩ := opt_some h
 refine al_call (vs := [(str a0)]) (f_press_Press_ok fu a0 hc1) [] [] [] pre_nil rfl (by simp) (by decide) (.inl rfl) rfl Tryd.func10 rfl rfl rfl (fun _ => ?_)
 refine al_mv rfl rfl ?_
 refine al_ex rfl rfl rfl ?_
 refine al_ex rfl rfl rfl ?_
 refine al_as rfl rfl ?_
 refine al_as rfl rfl ?_
 refine al_nt ?_
 refine aw_sr ?_
 refine al_mv rfl rfl ?_
 obtain ⟨r4, hc3, h⟩ := opt_some h
 refine al_call (vs := [(str a0)]) (f_lumref_Press_ok fu a0 hc3) [] [] [] pre_nil rfl (by simp) (by decide) (.inl rfl) rfl Tryd.func11 rfl rfl rfl (fun _ => ?_)
 refine al_mv rfl rfl ?_
 refine al_ex rfl rfl rfl ?_
 refine al_ex rfl rfl rfl ?_
 refine al_as rfl rfl ?_
 refine al_as rfl rfl ?_
 refine al_nt ?_
 obtain ⟨kk6, hkk6, h⟩ := lt_some h
 refine aw_seq_join (ι := Bool) (fun i => (memOf w0 Z0 [] [] [])) (fun i => (tab [(2, (bool i))])) (fun i => kk6 i = some r) ?_ ?_
 ·rintro j5b2 h
  have h : kk6 j5b2 = some r := h
  rw [hkk6] at h
  dsimp only at h
  clear hkk6
  refine aw_show (m := (memOf w0 Z0 [] [] [])) (S := (tab [(2, (bool j5b2))])) ?_
  refine aw_ret ?_
  obtain rfl := Option.some.inj h
  exact fn_ret () [] [] rfl rfl rfl rfl (res1 rfl rfl) rfl rfl rfl (by decide)
 ·clear hkk6
  refine aw_region ?_
  refine al_mv rfl rfl ?_
  refine al_mv rfl rfl ?_
  refine al_val (ov_strCmp rfl rfl rfl rfl) ?_
  refine al_mv rfl rfl ?_
  refine al_caseB 20 rfl (fun hb7 => ?_) (fun hb7 => ?_)
  ·replace h := bif_t hb7 h
   refine al_mv rfl rfl ?_
   refine al_mv rfl rfl ?_
   refine al_in rfl rfl rfl rfl ?_
   refine al_val (ov_pick_t rfl rfl rfl) ?_
   refine al_as rfl rfl ?_
   refine al_nil ?_
   exact aq_join (r2.2 == r4.2) h (fun w a hm hs => norm hm hs [] [] [(2, (bool (r2.2 == r4.2)))] (by decide) ⟨rfl, trivial⟩)
  ·replace h := bif_f hb7 h
   refine al_skip ?_
   refine al_skip ?_
   refine al_skip ?_
   refine al_val (ov_pick_f rfl rfl rfl) ?_
   refine al_as rfl rfl ?_
   refine al_nil ?_
   exact aq_join false h (fun w a hm hs => norm hm hs [] [] [(2, (bool false))] (by decide) ⟨rfl, trivial⟩)
end Go.Proofs.YtfhifdmbdkkgaaaDoor
