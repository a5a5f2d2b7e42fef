/- What FetchTexts leans on, part 4. No condition. -/
import Derived.Test.YtpakblkldklbmaaDoorQFetchTextsc
import Derived.Test.YtpakblkldklbmaaDoorChecked
import Derived.Lib.Endian
import Derived.Lib.TrimByte
import Derived.WalkKit
import Derived.Lib.Hide
import Derived.IntWalk
import Derived.Lib.Repeat
import Derived.Laws.BitsAllLaws
namespace Go.Proofs.YtpakblkldklbmaaDoor
open Go.RowKit YtpakblkldklbmaaDoor.En
set_option linter.unusedVariables false
set_option linter.unusedSimpArgs false
open Go.Value (int bool)
set_option maxHeartbeats 2000000 in
set_option maxRecDepth 100000 in
theorem f_lumref_Blobs_ok (fu : Nat) (v0_0 : Value) (a0 : (List (List UInt8))) {r : ((List S_api_Blob) × Bool)} (h : f_lumref_Blobs fu a0 = some r) : FnOk Tryd.prog 15 [v0_0] [(fDat (tyList tyStr) [v0_0] a0)] [] (fun (i : Value) => { val := (Value.tuple #[i, (bool r.2)]), own := [(oRow i 41 tyS_api_Blob r.1)] }) := by
 unfold f_lumref_Blobs at h
 refine fn_enter Tryd.func15 rfl Tryd.ntmps15 rfl (fun w0 Z0 => ?_)
 refine aw_sr ?_
 refine al_as rfl rfl ?_
 refine al_as rfl rfl ?_
 refine al_nt ?_
 refine aw_sr ?_
 refine al_mv rfl rfl ?_
 obtain ⟨r2, hc1, h⟩ := opt_some h
 refine al_call (vs := [v0_0, (str ([] : List UInt8))]) (f_strings_Join_ok fu v0_0 a0 ([] : List UInt8) hc1) [] [] [] (pre_fz 0 rfl pre_nil) rfl (by simp) (by decide) (.inl rfl) rfl Tryd.func34 rfl rfl rfl (fun _ => ?_)
 refine al_as rfl rfl ?_
 refine al_nt ?_
 refine aw_sr ?_
 refine al_mv rfl rfl ?_
 obtain ⟨r4, hc3, h⟩ := opt_some h
 refine al_call (vs := [(str r2)]) (f_lumref_Scan_ok fu r2 hc3) [] [] [] pre_nil rfl (by simp) (by decide) (.inl rfl) rfl Tryd.func37 rfl rfl rfl (fun v5 => ?_)
 refine al_mv rfl rfl ?_
 refine al_ex rfl rfl rfl ?_
 refine al_ex rfl rfl rfl ?_
 refine al_as rfl rfl ?_
 refine al_as rfl rfl ?_
 refine al_nt ?_
 refine aw_sr ?_
 refine al_as rfl rfl ?_
 refine al_nt ?_
 obtain ⟨kk7, hkk7, h⟩ := lt_some h
 refine aw_seq_join (ι := Value × (List S_api_Blob)) (fun i => (memOf w0 Z0 [] [(oRow i.1 41 tyS_api_Blob i.2)] [(fDat (tyList tyStr) [v0_0] a0)])) (fun i => (tab [(4, (str r2)), (6, (iq r4.2)), (7, i.1)])) (fun i => kk7 i.2 = some r) ?_ ?_
 ·rintro ⟨j6v7, j6x7⟩ h
  have h : kk7 j6x7 = some r := h
  rw [hkk7] at h
  dsimp only at h
  clear hkk7
  refine aw_show (m := (memOf w0 Z0 [] [(oRow j6v7 41 tyS_api_Blob j6x7)] [(fDat (tyList tyStr) [v0_0] a0)])) (S := (tab [(4, (str r2)), (6, (iq r4.2)), (7, j6v7)])) ?_
  refine aw_sr ?_
  refine al_mv rfl rfl ?_
  refine al_mv rfl rfl ?_
  refine al_mv rfl rfl ?_
  refine al_val (ov_strLen Tryd.underlying9 rfl rfl) ?_
  refine al_in rfl rfl rfl rfl ?_
  refine al_as rfl rfl ?_
  refine al_as rfl rfl ?_
  refine al_nt ?_
  refine aw_ret ?_
  obtain rfl := Option.some.inj h
  exact fn_ret j6v7 [0] [] rfl rfl rfl rfl (res2 rfl rfl rfl) rfl rfl rfl (by decide)
 ·clear hkk7
  refine aw_sr ?_
  refine al_mv rfl rfl ?_
  refine al_val (ov_lenR 0 rfl rfl Tryd.underlying22 rfl) ?_
  refine al_mv rfl rfl ?_
  refine al_nt ?_
  refine aw_block ?_
  refine aw_nilR 41 tyS_api_Blob ?_
  refine aw_state (aw_loop (ι := Value × (List S_api_Blob) × Int) (fun i => (memOf w0 Z0 [] [(oRow i.1 41 tyS_api_Blob i.2.1), (oRow v5 9 tyStr r4.1)] [(fDat (tyList tyStr) [v0_0] a0)])) (fun i => (tab [(4, (str r2)), (6, (iq r4.2)), (7, i.1), (17, v5), (18, (iq (r4.1.length : Int))), (19, (iq i.2.2))])) (fun q i => f_lumref_Blobs_L10 r4 kk7 fu q i.2.1 i.2.2 = some r) ?_ fu (nS, ([] : List S_api_Blob), (0 : Int)) h) (fun w a hm hs => norm hm hs [0, 1] [0] [(4, (str r2)), (6, (iq r4.2)), (7, nS), (17, v5), (18, (iq (r4.1.length : Int))), (19, (iq (0 : Int)))] (by decide) ⟨rfl, rfl, rfl, rfl, rfl, rfl, trivial⟩)
  clear h
  rintro k9 ⟨l8v7, l8x7, l8i19⟩ h
  have h : f_lumref_Blobs_L10 r4 kk7 fu k9 l8x7 l8i19 = some r := h
  obtain _ | k9 := k9
  · rw [f_lumref_Blobs_L10] at h; cases h
  rw [f_lumref_Blobs_L10] at h
  refine aw_show (m := (memOf w0 Z0 [] [(oRow l8v7 41 tyS_api_Blob l8x7), (oRow v5 9 tyStr r4.1)] [(fDat (tyList tyStr) [v0_0] a0)])) (S := (tab [(4, (str r2)), (6, (iq r4.2)), (7, l8v7), (17, v5), (18, (iq (r4.1.length : Int))), (19, (iq l8i19))])) ?_
  refine aw_sr ?_
  refine al_in rfl rfl rfl rfl ?_
  refine al_nt ?_
  refine aw_seq ?_
  refine aw_cond rfl (fun hb11 => ?_) (fun hb11 => ?_)
  ·replace h := bif_t hb11 h
   refine aw_skip ?_
   refine aq_then ?_
   refine aw_seq ?_
   refine aw_block ?_
   refine aw_sr ?_
   obtain ⟨u12, hu13, h⟩ := opt_some h
   refine al_idxR 1 (at_some hu13).1 (at_some hu13).2.1 rfl rfl rfl Tryd.underlying22 sz9 rfl (fun p14 hp15 => ?_)
   refine al_val (ov_loadR (ds := [(str u12)]) 1 rfl hp15 (at_some hu13).2.2 (fun h => h) rfl Tryd.underlying9 sz9 rfl rfl rfl) ?_
   refine al_as rfl rfl ?_
   refine al_nt ?_
   refine aw_seq ?_
   obtain ⟨kk17, hkk17, h⟩ := lt_some h
   refine aw_seq_join (ι := Bool) (fun i => (memOf w0 Z0 [] [(oRow l8v7 41 tyS_api_Blob l8x7), (oRow v5 9 tyStr r4.1)] [(fDat (tyList tyStr) [v0_0] a0)])) (fun i => (tab [(4, (str r2)), (6, (iq r4.2)), (7, l8v7), (9, (str u12)), (17, v5), (18, (iq (r4.1.length : Int))), (19, (iq l8i19)), (31, (bool i))])) (fun i => kk17 i = some r) ?_ ?_
   ·rintro j16b31 h
    have h : kk17 j16b31 = some r := h
    rw [hkk17] at h
    dsimp only at h
    clear hkk17
    refine aw_show (m := (memOf w0 Z0 [] [(oRow l8v7 41 tyS_api_Blob l8x7), (oRow v5 9 tyStr r4.1)] [(fDat (tyList tyStr) [v0_0] a0)])) (S := (tab [(4, (str r2)), (6, (iq r4.2)), (7, l8v7), (9, (str u12)), (17, v5), (18, (iq (r4.1.length : Int))), (19, (iq l8i19)), (31, (bool j16b31))])) ?_
    refine aw_cond rfl (fun hb18 => ?_) (fun hb18 => ?_)
    ·replace h := bif_t hb18 h
     refine aw_sr ?_
     refine al_mv rfl rfl ?_
     refine al_as rfl rfl ?_
     refine al_as rfl rfl ?_
     refine al_nt ?_
     refine aw_ret ?_
     refine aq_then_ret ?_
     refine aq_block_ret ?_
     refine aq_then_ret ?_
     refine aq_then_ret ?_
     refine aq_block_ret ?_
     refine aq_then_ret ?_
     obtain rfl := Option.some.inj h
     exact fn_ret l8v7 [0] [] rfl rfl rfl rfl (res2 rfl rfl rfl) rfl rfl rfl (by decide)
    ·replace h := bif_f hb18 h
     refine aw_skip ?_
     refine aq_then ?_
     obtain ⟨hc19, h⟩ := req_some h
     obtain ⟨hc20, h⟩ := req_some h
     refine aw_region_open [⟨0, 33, Unit, fun _ => { val := l8v7 }⟩, ⟨1, 34, Unit, fun _ => { val := (str u12) }⟩, ⟨2, 35, Unit, fun _ => { val := (i8 (En.bAt u12 (0 : Int))) }⟩, ⟨3, 36, Unit, fun _ => { val := (iq (wq (En.bAt u12 (0 : Int)))) }⟩, ⟨4, 37, Unit, fun _ => { val := (str u12) }⟩, ⟨5, 38, Unit, fun _ => { val := (str (u12.drop ((1 : Int)).toNat)) }⟩, ⟨6, 39, Unit, fun _ => { val := (ag [(iq (wq (En.bAt u12 (0 : Int)))), (str (u12.drop ((1 : Int)).toNat))]) }⟩, ⟨7, 40, Value, fun (i : Value) => { val := i, own := [(oRow i 41 tyS_api_Blob [(S_api_Blob.mk (wq (En.bAt u12 (0 : Int))) (u12.drop ((1 : Int)).toNat))])] }⟩] (tab [(4, (str r2)), (6, (iq r4.2)), (7, l8v7), (9, (str u12)), (17, v5), (18, (iq (r4.1.length : Int))), (19, (iq l8i19))]) mixed (fun a hs => hs.tab _ (allT_mem ⟨rfl, rfl, rfl, rfl, rfl, rfl, rfl, trivial⟩)) ?_
     refine ta_show (m := (memOf w0 Z0 [] [(oRow l8v7 41 tyS_api_Blob l8x7), (oRow v5 9 tyStr r4.1)] [(fDat (tyList tyStr) [v0_0] a0)])) (S := (tab [(4, (str r2)), (6, (iq r4.2)), (7, l8v7), (9, (str u12)), (17, v5), (18, (iq (r4.1.length : Int))), (19, (iq l8i19))])) ?_
     refine ta_step 8 _ [0, 1, 2, 3, 4, 5, 6, 7] [33, 34, 35, 36, 37, 38, 39, 40] [0, 1, 2, 3, 4, 5, 6, 7] [] [⟨0, 33, Unit, fun _ => { val := l8v7 }⟩, ⟨1, 34, Unit, fun _ => { val := (str u12) }⟩, ⟨2, 35, Unit, fun _ => { val := (i8 (En.bAt u12 (0 : Int))) }⟩, ⟨3, 36, Unit, fun _ => { val := (iq (wq (En.bAt u12 (0 : Int)))) }⟩, ⟨4, 37, Unit, fun _ => { val := (str u12) }⟩, ⟨5, 38, Unit, fun _ => { val := (str (u12.drop ((1 : Int)).toNat)) }⟩, ⟨6, 39, Unit, fun _ => { val := (ag [(iq (wq (En.bAt u12 (0 : Int)))), (str (u12.drop ((1 : Int)).toNat))]) }⟩, ⟨7, 40, Value, fun (i : Value) => { val := i, own := [(oRow i 41 tyS_api_Blob [(S_api_Blob.mk (wq (En.bAt u12 (0 : Int))) (u12.drop ((1 : Int)).toNat))])] }⟩] [] rfl rfl rfl (by kernel_rfl) rfl rfl rfl ⟨⟨_, rfl, [], rfl, by
 intro X_ Y_ F_ K_ hK_
 refine al_show (m := Mem.plus (memOf w0 Z0 [] [(oRow l8v7 41 tyS_api_Blob l8x7), (oRow v5 9 tyStr r4.1)] [(fDat (tyList tyStr) [v0_0] a0)]) X_ Y_) (S := over (tab [(4, (str r2)), (6, (iq r4.2)), (7, l8v7), (9, (str u12)), (17, v5), (18, (iq (r4.1.length : Int))), (19, (iq l8i19))]) F_) ?_
 refine al_mv rfl rfl ?_
 refine al_nil ?_
 exact fr_fin hK_ ()⟩, ⟨_, rfl, [], rfl, by
 intro X_ Y_ F_ K_ hK_
 refine al_show (m := Mem.plus (memOf w0 Z0 [] [(oRow l8v7 41 tyS_api_Blob l8x7), (oRow v5 9 tyStr r4.1)] [(fDat (tyList tyStr) [v0_0] a0)]) X_ Y_) (S := over (tab [(4, (str r2)), (6, (iq r4.2)), (7, l8v7), (9, (str u12)), (17, v5), (18, (iq (r4.1.length : Int))), (19, (iq l8i19))]) F_) ?_
 refine al_mv rfl rfl ?_
 refine al_nil ?_
 exact fr_fin hK_ ()⟩, ⟨_, rfl, [1], rfl, by
 intro _
 intro X_ Y_ F_ K_ hK_
 refine al_show (m := Mem.plus (memOf w0 Z0 [] [(oRow l8v7 41 tyS_api_Blob l8x7), (oRow v5 9 tyStr r4.1)] [(fDat (tyList tyStr) [v0_0] a0)]) X_ Y_) (S := over (put (tab [(4, (str r2)), (6, (iq r4.2)), (7, l8v7), (9, (str u12)), (17, v5), (18, (iq (r4.1.length : Int))), (19, (iq l8i19))]) 34 (str u12)) F_) ?_
 refine al_val (ov_strIdx hc19.1 hc19.2 Tryd.underlying9 rfl rfl rfl) ?_
 refine al_nil ?_
 exact fr_fin hK_ ()⟩, ⟨_, rfl, [2], rfl, by
 intro _
 intro X_ Y_ F_ K_ hK_
 refine al_show (m := Mem.plus (memOf w0 Z0 [] [(oRow l8v7 41 tyS_api_Blob l8x7), (oRow v5 9 tyStr r4.1)] [(fDat (tyList tyStr) [v0_0] a0)]) X_ Y_) (S := over (put (tab [(4, (str r2)), (6, (iq r4.2)), (7, l8v7), (9, (str u12)), (17, v5), (18, (iq (r4.1.length : Int))), (19, (iq l8i19))]) 35 (i8 (En.bAt u12 (0 : Int)))) F_) ?_
 refine al_val (ov_convInt (by rw [Tryd.underlying5]; rfl) Tryd.underlying3 rfl rfl) ?_
 refine al_nil ?_
 exact fr_fin hK_ ()⟩, ⟨_, rfl, [], rfl, by
 intro X_ Y_ F_ K_ hK_
 refine al_show (m := Mem.plus (memOf w0 Z0 [] [(oRow l8v7 41 tyS_api_Blob l8x7), (oRow v5 9 tyStr r4.1)] [(fDat (tyList tyStr) [v0_0] a0)]) X_ Y_) (S := over (tab [(4, (str r2)), (6, (iq r4.2)), (7, l8v7), (9, (str u12)), (17, v5), (18, (iq (r4.1.length : Int))), (19, (iq l8i19))]) F_) ?_
 refine al_mv rfl rfl ?_
 refine al_nil ?_
 exact fr_fin hK_ ()⟩, ⟨_, rfl, [4], rfl, by
 intro _
 intro X_ Y_ F_ K_ hK_
 refine al_show (m := Mem.plus (memOf w0 Z0 [] [(oRow l8v7 41 tyS_api_Blob l8x7), (oRow v5 9 tyStr r4.1)] [(fDat (tyList tyStr) [v0_0] a0)]) X_ Y_) (S := over (put (tab [(4, (str r2)), (6, (iq r4.2)), (7, l8v7), (9, (str u12)), (17, v5), (18, (iq (r4.1.length : Int))), (19, (iq l8i19))]) 37 (str u12)) F_) ?_
 refine al_val (ov_strFrom hc20.1 hc20.2 Tryd.underlying9 rfl rfl rfl) ?_
 refine al_nil ?_
 exact fr_fin hK_ ()⟩, ⟨_, rfl, [3, 5], rfl, by
 intro _
 intro _
 intro X_ Y_ F_ K_ hK_
 refine al_show (m := Mem.plus (memOf w0 Z0 [] [(oRow l8v7 41 tyS_api_Blob l8x7), (oRow v5 9 tyStr r4.1)] [(fDat (tyList tyStr) [v0_0] a0)]) X_ Y_) (S := over (put (put (tab [(4, (str r2)), (6, (iq r4.2)), (7, l8v7), (9, (str u12)), (17, v5), (18, (iq (r4.1.length : Int))), (19, (iq l8i19))]) 36 (iq (wq (En.bAt u12 (0 : Int))))) 38 (str (u12.drop ((1 : Int)).toNat))) F_) ?_
 refine al_val (ov_build (cells := ([(iq (wq (En.bAt u12 (0 : Int)))), (str (u12.drop ((1 : Int)).toNat))]).toArray) (cs := [(iq (wq (En.bAt u12 (0 : Int)))), (str (u12.drop ((1 : Int)).toNat))]) rfl (fun w a hm hs => by simp only [List.map_toArray, List.map_cons, List.map_nil, List.toList_toArray, hs.ev (x := .tmp 36) rfl, hs.ev (x := .tmp 38) rfl]; kernel_rfl)) ?_
 refine al_nil ?_
 exact fr_fin hK_ ()⟩, ⟨_, rfl, [6], rfl, by
 intro _
 intro X_ Y_ F_ K_ hK_
 refine al_show (m := Mem.plus (memOf w0 Z0 [] [(oRow l8v7 41 tyS_api_Blob l8x7), (oRow v5 9 tyStr r4.1)] [(fDat (tyList tyStr) [v0_0] a0)]) X_ Y_) (S := over (put (tab [(4, (str r2)), (6, (iq r4.2)), (7, l8v7), (9, (str u12)), (17, v5), (18, (iq (r4.1.length : Int))), (19, (iq l8i19))]) 39 (ag [(iq (wq (En.bAt u12 (0 : Int)))), (str (u12.drop ((1 : Int)).toNat))])) F_) ?_
 refine al_buildSlice (τ := tyS_api_Blob) (e := 41) (k := 1) (sz := 0) (by_ := 0) (z := undef) (cs := [(iq (wq (En.bAt u12 (0 : Int)))), (str (u12.drop ((1 : Int)).toNat))]) (xs := [(S_api_Blob.mk (wq (En.bAt u12 (0 : Int))) (u12.drop ((1 : Int)).toNat))]) rfl (by decide) (fun w a hm hs => ⟨([(iq (wq (En.bAt u12 (0 : Int)))), (str (u12.drop ((1 : Int)).toNat))]).toArray, rfl, by simp only [List.map_toArray, List.map_cons, List.map_nil, hs.ev (x := .tmp 39) rfl]; exact run_bs [(ag [(iq (wq (En.bAt u12 (0 : Int)))), (str (u12.drop ((1 : Int)).toNat))])] [(iq (wq (En.bAt u12 (0 : Int)))), (str (u12.drop ((1 : Int)).toNat))] Tryd.underlying33 to41 rfl rfl (bs_cons (l := [(iq (wq (En.bAt u12 (0 : Int)))), (str (u12.drop ((1 : Int)).toNat))]) (cs := []) (cv_rfl rfl) rfl bs_nil) hm⟩) (fun hm => ⟨_, _, rfl, (fun _ => mkS_api_Blob rfl) hm, rfl⟩) rfl (fun v21 => ?_)
 refine al_nil ?_
 exact fr_fin hK_ v21⟩, trivial⟩ ?_
     intro _
     intro _
     intro _
     intro _
     intro _
     intro _
     intro _
     intro v21
     intro X_ Y_ F_ K_ hK_
     refine al_show (m := Mem.plus (memOf w0 Z0 [] [(oRow v21 41 tyS_api_Blob [(S_api_Blob.mk (wq (En.bAt u12 (0 : Int))) (u12.drop ((1 : Int)).toNat))]), (oRow l8v7 41 tyS_api_Blob l8x7), (oRow v5 9 tyStr r4.1)] [(fDat (tyList tyStr) [v0_0] a0)]) X_ Y_) (S := over (put (put (put (put (put (put (put (put (tab [(4, (str r2)), (6, (iq r4.2)), (7, l8v7), (9, (str u12)), (17, v5), (18, (iq (r4.1.length : Int))), (19, (iq l8i19))]) 33 l8v7) 34 (str u12)) 35 (i8 (En.bAt u12 (0 : Int)))) 36 (iq (wq (En.bAt u12 (0 : Int))))) 37 (str u12)) 38 (str (u12.drop ((1 : Int)).toNat))) 39 (ag [(iq (wq (En.bAt u12 (0 : Int)))), (str (u12.drop ((1 : Int)).toNat))])) 40 v21) F_) ?_
     obtain ⟨hc22, h⟩ := req_some h
     refine al_append 1 hc22.1 hc22.2 rfl (src_own (i := 1) 0 rfl) rfl rfl Tryd.underlying33 to41 rfl rfl rfl (fun v23 => ?_)
     refine al_nil ?_
     refine aq_show (m := Mem.plus (memOf w0 Z0 [] [(oRow v21 41 tyS_api_Blob [(S_api_Blob.mk (wq (En.bAt u12 (0 : Int))) (u12.drop ((1 : Int)).toNat))]), (oRow v23 41 tyS_api_Blob (l8x7 ++ ([(S_api_Blob.mk (wq (En.bAt u12 (0 : Int))) (u12.drop ((1 : Int)).toNat))]))), (oRow v5 9 tyStr r4.1)] [(fDat (tyList tyStr) [v0_0] a0)]) X_ Y_) ?_
     refine aq_next hK_ [0, 1, 2] [0] [(4, (str r2)), (6, (iq r4.2)), (7, l8v7), (17, v5), (18, (iq (r4.1.length : Int))), (19, (iq l8i19)), (41, v23)] [] [] rfl rfl (by decide) rfl ⟨rfl, rfl, rfl, rfl, rfl, rfl, rfl, trivial⟩ trivial ?_
     clear hK_ K_ F_ X_ Y_
     refine ta_show (m := (memOf w0 Z0 [] [(oRow v21 41 tyS_api_Blob [(S_api_Blob.mk (wq (En.bAt u12 (0 : Int))) (u12.drop ((1 : Int)).toNat))]), (oRow v23 41 tyS_api_Blob (l8x7 ++ ([(S_api_Blob.mk (wq (En.bAt u12 (0 : Int))) (u12.drop ((1 : Int)).toNat))]))), (oRow v5 9 tyStr r4.1)] [(fDat (tyList tyStr) [v0_0] a0)])) (S := (tab [(4, (str r2)), (6, (iq r4.2)), (7, l8v7), (17, v5), (18, (iq (r4.1.length : Int))), (19, (iq l8i19)), (41, v23)])) ?_
     refine ta_step 9 _ [] [] [] [] [] [] rfl rfl rfl (by kernel_rfl) rfl rfl rfl trivial ?_
     intro X_ Y_ F_ K_ hK_
     refine al_show (m := Mem.plus (memOf w0 Z0 [] [(oRow v21 41 tyS_api_Blob [(S_api_Blob.mk (wq (En.bAt u12 (0 : Int))) (u12.drop ((1 : Int)).toNat))]), (oRow v23 41 tyS_api_Blob (l8x7 ++ ([(S_api_Blob.mk (wq (En.bAt u12 (0 : Int))) (u12.drop ((1 : Int)).toNat))]))), (oRow v5 9 tyStr r4.1)] [(fDat (tyList tyStr) [v0_0] a0)]) X_ Y_) (S := over (tab [(4, (str r2)), (6, (iq r4.2)), (7, l8v7), (17, v5), (18, (iq (r4.1.length : Int))), (19, (iq l8i19)), (41, v23)]) F_) ?_
     refine al_as rfl rfl ?_
     refine al_nil ?_
     refine aq_show (m := Mem.plus (memOf w0 Z0 [] [(oRow v21 41 tyS_api_Blob [(S_api_Blob.mk (wq (En.bAt u12 (0 : Int))) (u12.drop ((1 : Int)).toNat))]), (oRow v23 41 tyS_api_Blob (l8x7 ++ ([(S_api_Blob.mk (wq (En.bAt u12 (0 : Int))) (u12.drop ((1 : Int)).toNat))]))), (oRow v5 9 tyStr r4.1)] [(fDat (tyList tyStr) [v0_0] a0)]) X_ Y_) ?_
     refine aq_next hK_ [0, 1, 2] [0] [(4, (str r2)), (6, (iq r4.2)), (7, v23), (17, v5), (18, (iq (r4.1.length : Int))), (19, (iq l8i19))] [] [] rfl rfl (by decide) rfl ⟨rfl, rfl, rfl, rfl, rfl, rfl, trivial⟩ trivial ?_
     clear hK_ K_ F_ X_ Y_
     refine ta_show (m := (memOf w0 Z0 [] [(oRow v21 41 tyS_api_Blob [(S_api_Blob.mk (wq (En.bAt u12 (0 : Int))) (u12.drop ((1 : Int)).toNat))]), (oRow v23 41 tyS_api_Blob (l8x7 ++ ([(S_api_Blob.mk (wq (En.bAt u12 (0 : Int))) (u12.drop ((1 : Int)).toNat))]))), (oRow v5 9 tyStr r4.1)] [(fDat (tyList tyStr) [v0_0] a0)])) (S := (tab [(4, (str r2)), (6, (iq r4.2)), (7, v23), (17, v5), (18, (iq (r4.1.length : Int))), (19, (iq l8i19))])) ?_
     refine ta_end [] [] rfl rfl (by kernel_rfl) rfl trivial ?_
     refine aq_show (m := (memOf w0 Z0 [] [(oRow v21 41 tyS_api_Blob [(S_api_Blob.mk (wq (En.bAt u12 (0 : Int))) (u12.drop ((1 : Int)).toNat))]), (oRow v23 41 tyS_api_Blob (l8x7 ++ ([(S_api_Blob.mk (wq (En.bAt u12 (0 : Int))) (u12.drop ((1 : Int)).toNat))]))), (oRow v5 9 tyStr r4.1)] [(fDat (tyList tyStr) [v0_0] a0)])) (S := (tab [(4, (str r2)), (6, (iq r4.2)), (7, v23), (17, v5), (18, (iq (r4.1.length : Int))), (19, (iq l8i19))])) ?_
     refine aq_block ?_
     refine aq_then ?_
     refine aw_region ?_
     refine al_in rfl rfl rfl rfl ?_
     refine al_mv rfl rfl ?_
     refine al_nil ?_
     exact aq_again k9 (v23, (l8x7 ++ ([(S_api_Blob.mk (wq (En.bAt u12 (0 : Int))) (u12.drop ((1 : Int)).toNat))])), (wq (l8i19 + (1 : Int)))) (Nat.lt_succ_self _) h (fun w a hm hs => norm hm hs [1, 2] [0] [(4, (str r2)), (6, (iq r4.2)), (7, v23), (17, v5), (18, (iq (r4.1.length : Int))), (19, (iq (wq (l8i19 + (1 : Int)))))] (by decide) ⟨rfl, rfl, rfl, rfl, rfl, rfl, trivial⟩)
   ·clear hkk17
    refine aw_region ?_
    refine al_mv rfl rfl ?_
    refine al_val (ov_strCmp rfl rfl rfl rfl) ?_
    refine al_mv rfl rfl ?_
    refine al_caseB 25 rfl (fun hb24 => ?_) (fun hb24 => ?_)
    ·replace h := bif_t hb24 h
     refine al_skip ?_
     refine al_skip ?_
     refine al_skip ?_
     refine al_skip ?_
     refine al_skip ?_
     refine al_val (ov_pick_t rfl rfl rfl) ?_
     refine al_nil ?_
     exact aq_join true h (fun w a hm hs => norm hm hs [0, 1] [0] [(4, (str r2)), (6, (iq r4.2)), (7, l8v7), (9, (str u12)), (17, v5), (18, (iq (r4.1.length : Int))), (19, (iq l8i19)), (31, (bool true))] (by decide) ⟨rfl, rfl, rfl, rfl, rfl, rfl, rfl, rfl, trivial⟩)
    ·replace h := bif_f hb24 h
     refine al_mv rfl rfl ?_
     obtain ⟨hc25, h⟩ := req_some h
     refine al_val (ov_strIdx hc25.1 hc25.2 Tryd.underlying9 rfl rfl rfl) ?_
     refine al_val (ov_convInt (by rw [Tryd.underlying5]; rfl) Tryd.underlying3 rfl rfl) ?_
     obtain ⟨r27, hc26, h⟩ := opt_some h
     refine al_call (vs := [(iq (wq (En.bAt u12 (0 : Int))))]) (f_lumref_kindOK_ok fu (wq (En.bAt u12 (0 : Int))) hc26) [] [] [0, 1] pre_nil rfl (by simp) (by decide) (.inl rfl) rfl Tryd.func38 rfl rfl rfl (fun _ => ?_)
     refine al_val (ov_not rfl rfl) ?_
     refine al_val (ov_pick_f rfl rfl rfl) ?_
     refine al_nil ?_
     exact aq_join (!r27) h (fun w a hm hs => norm hm hs [0, 1] [0] [(4, (str r2)), (6, (iq r4.2)), (7, l8v7), (9, (str u12)), (17, v5), (18, (iq (r4.1.length : Int))), (19, (iq l8i19)), (31, (bool (!r27)))] (by decide) ⟨rfl, rfl, rfl, rfl, rfl, rfl, rfl, rfl, trivial⟩)
  ·replace h := bif_f hb11 h
   refine aw_exit ?_
   refine aq_then_exit ?_
   refine aq_then_exit ?_
   refine aq_block_exit ?_
   exact aq_join (l8v7, l8x7) h (fun w a hm hs => norm hm hs [0] [0] [(4, (str r2)), (6, (iq r4.2)), (7, l8v7)] (by decide) ⟨rfl, rfl, rfl, trivial⟩)
def f_slices_Equal___string_string__L6 (a0 : (List (List UInt8))) (a1 : (List (List UInt8))) (kk3 : (Unit → Option Bool)) : Nat → Int → Option Bool
  | 0, _ => none
  | k5 + 1, l4i13 => (bif (decide (l4i13 < (a0.length : Int))) then (opt (at? a0 l4i13) fun (u8 : (List UInt8)) => (opt (at? a1 l4i13) fun (u11 : (List UInt8)) => (bif (!(u8 == u11)) then (some false) else (f_slices_Equal___string_string__L6 a0 a1 kk3 k5 (IntKind.i64.wrap (l4i13 + (1 : Int))))))) else (kk3 ()))
def f_slices_Equal___string_string_ (fu : Nat) (a0 : (List (List UInt8))) (a1 : (List (List UInt8))) : Option Bool := (bif ((a0.length : Int) != (a1.length : Int)) then (some false) else (lt (fun (_ : Unit) => (some true)) fun (kk3 : Unit → Option Bool) => (f_slices_Equal___string_string__L6 a0 a1 kk3 fu (0 : Int))))
set_option maxHeartbeats 2000000 in
set_option maxRecDepth 100000 in
theorem f_slices_Equal___string_string__ok (fu : Nat) (v0_0 : Value) (a0 : (List (List UInt8))) (v1_0 : Value) (a1 : (List (List UInt8))) {r : Bool} (h : f_slices_Equal___string_string_ fu a0 a1 = some r) : FnOk Tryd.prog 16 [v0_0, v1_0] [(fDat (tyList tyStr) [v0_0] a0), (fDat (tyList tyStr) [v1_0] a1)] [] (fun (i : Unit) => { val := (bool r) }) := by
 unfold f_slices_Equal___string_string_ at h
 refine fn_enter Tryd.func16 rfl Tryd.ntmps16 rfl (fun w0 Z0 => ?_)
 refine aw_sr ?_
 refine al_as rfl rfl ?_
 refine al_nt ?_
 refine aw_seq ?_
 refine aw_sr ?_
 refine al_mv rfl rfl ?_
 refine al_val (ov_lenD 0 rfl rfl Tryd.underlying22 rfl) ?_
 refine al_mv rfl rfl ?_
 refine al_val (ov_lenD 1 rfl rfl Tryd.underlying22 rfl) ?_
 refine al_in rfl rfl rfl rfl ?_
 refine al_nt ?_
 refine aw_cond rfl (fun hb1 => ?_) (fun hb1 => ?_)
 ·replace h := bif_t hb1 h
  refine aw_sr ?_
  refine al_as rfl rfl ?_
  refine al_nt ?_
  refine aw_ret ?_
  refine aq_then_ret ?_
  obtain rfl := Option.some.inj h
  exact fn_ret () [] [] rfl rfl rfl rfl (res1 rfl rfl) rfl rfl rfl (by decide)
 ·replace h := bif_f hb1 h
  refine aw_skip ?_
  refine aq_then ?_
  obtain ⟨kk3, hkk3, h⟩ := lt_some h
  refine aw_seq_join (ι := Unit) (fun i => (memOf w0 Z0 [] [] [(fDat (tyList tyStr) [v0_0] a0), (fDat (tyList tyStr) [v1_0] a1)])) (fun i => (tab [])) (fun i => kk3 () = some r) ?_ ?_
  ·rintro _ h
   have h : kk3 () = some r := h
   rw [hkk3] at h
   dsimp only at h
   clear hkk3
   refine aw_show (m := (memOf w0 Z0 [] [] [(fDat (tyList tyStr) [v0_0] a0), (fDat (tyList tyStr) [v1_0] a1)])) (S := (tab [])) ?_
   refine aw_sr ?_
   refine al_as rfl rfl ?_
   refine al_nt ?_
   refine aw_ret ?_
   obtain rfl := Option.some.inj h
   exact fn_ret () [] [] rfl rfl rfl rfl (res1 rfl rfl) rfl rfl rfl (by decide)
  ·clear hkk3
   refine aw_sr ?_
   refine al_mv rfl rfl ?_
   refine al_val (ov_lenD 0 rfl rfl Tryd.underlying22 rfl) ?_
   refine al_mv rfl rfl ?_
   refine al_nt ?_
   refine aw_block ?_
   refine aw_state (aw_loop (ι := Int) (fun i => (memOf w0 Z0 [] [] [(fDat (tyList tyStr) [v0_0] a0), (fDat (tyList tyStr) [v1_0] a1)])) (fun i => (tab [(0, v0_0), (1, v1_0), (12, (iq (a0.length : Int))), (13, (iq i))])) (fun q i => f_slices_Equal___string_string__L6 a0 a1 kk3 q i = some r) ?_ fu (0 : Int) h) (fun w a hm hs => norm hm hs [] [0, 1] [(0, v0_0), (1, v1_0), (12, (iq (a0.length : Int))), (13, (iq (0 : Int)))] (by decide) ⟨rfl, rfl, rfl, rfl, trivial⟩)
   clear h
   rintro k5 l4i13 h
   have h : f_slices_Equal___string_string__L6 a0 a1 kk3 k5 l4i13 = some r := h
   obtain _ | k5 := k5
   · rw [f_slices_Equal___string_string__L6] at h; cases h
   rw [f_slices_Equal___string_string__L6] at h
   refine aw_show (m := (memOf w0 Z0 [] [] [(fDat (tyList tyStr) [v0_0] a0), (fDat (tyList tyStr) [v1_0] a1)])) (S := (tab [(0, v0_0), (1, v1_0), (12, (iq (a0.length : Int))), (13, (iq l4i13))])) ?_
   refine aw_sr ?_
   refine al_in rfl rfl rfl rfl ?_
   refine al_nt ?_
   refine aw_seq ?_
   refine aw_cond rfl (fun hb7 => ?_) (fun hb7 => ?_)
   ·replace h := bif_t hb7 h
    refine aw_skip ?_
    refine aq_then ?_
    refine aw_seq ?_
    refine aw_block ?_
    refine aw_sr ?_
    refine al_mv rfl rfl ?_
    refine al_as rfl rfl ?_
    refine al_nt ?_
    refine aw_seq ?_
    obtain ⟨u8, hu9, h⟩ := opt_some h
    obtain ⟨u11, hu12, h⟩ := opt_some h
    refine aw_region_draw 8 [(16, (fun u => fEq u v0_0)), (17, (fun u => fEq u (iq l4i13))), (18, (fun p10 => (fPtr tyStr p10 u8))), (19, (fun u => fEq u (str u8))), (20, (fun u => fEq u v1_0)), (21, (fun u => fEq u (iq l4i13))), (22, (fun p13 => (fPtr tyStr p13 u11))), (23, (fun u => fEq u (str u11)))] (tab [(0, v0_0), (1, v1_0), (5, (iq l4i13)), (12, (iq (a0.length : Int))), (13, (iq l4i13))]) mixed (by kernel_rfl) rfl rfl rfl (fun a hs => hs.tab _ (allT_mem ⟨rfl, rfl, rfl, rfl, rfl, trivial⟩)) ⟨⟨rfl, ld_val (ov_move rfl rfl)⟩, ⟨rfl, ld_val (ov_move rfl rfl)⟩, ⟨rfl, ld_eq (j := 0) rfl rfl (ld_eq (j := 1) rfl rfl (ld_of (of_idxD 0 hu9 rfl rfl rfl Tryd.underlying22 sz9 rfl)))⟩, ⟨rfl, ld_fact (j := 2) rfl rfl (fun p10 => ld_val (ov_loadP (ds := [(str u8)]) 0 rfl (fun h => h) rfl Tryd.underlying9 sz9 rfl rfl rfl))⟩, ⟨rfl, ld_val (ov_move rfl rfl)⟩, ⟨rfl, ld_val (ov_move rfl rfl)⟩, ⟨rfl, ld_eq (j := 4) rfl rfl (ld_eq (j := 5) rfl rfl (ld_of (of_idxD 1 hu12 rfl rfl rfl Tryd.underlying22 sz9 rfl)))⟩, ⟨rfl, ld_fact (j := 6) rfl rfl (fun p13 => ld_val (ov_loadP (ds := [(str u11)]) 0 rfl (fun h => h) rfl Tryd.underlying9 sz9 rfl rfl rfl))⟩, trivial⟩ ?_
    refine tl_eq 3 rfl ?_
    refine tl_eq 7 rfl ?_
    refine tl_done ?_
    refine al_val (ov_strCmp rfl rfl rfl rfl) ?_
    refine al_nt ?_
    refine aw_cond rfl (fun hb14 => ?_) (fun hb14 => ?_)
    ·replace h := bif_t hb14 h
     refine aw_sr ?_
     refine al_as rfl rfl ?_
     refine al_nt ?_
     refine aw_ret ?_
     refine aq_block_ret ?_
     refine aq_then_ret ?_
     refine aq_then_ret ?_
     refine aq_block_ret ?_
     refine aq_then_ret ?_
     obtain rfl := Option.some.inj h
     exact fn_ret () [] [] rfl rfl rfl rfl (res1 rfl rfl) rfl rfl rfl (by decide)
    ·replace h := bif_f hb14 h
     refine aw_skip ?_
     refine aq_block ?_
     refine aq_then ?_
     refine aw_region ?_
     refine al_in rfl rfl rfl rfl ?_
     refine al_mv rfl rfl ?_
     refine al_nil ?_
     exact aq_again k5 (wq (l4i13 + (1 : Int))) (Nat.lt_succ_self _) h (fun w a hm hs => norm hm hs [] [0, 1] [(0, v0_0), (1, v1_0), (12, (iq (a0.length : Int))), (13, (iq (wq (l4i13 + (1 : Int)))))] (by decide) ⟨rfl, rfl, rfl, rfl, trivial⟩)
   ·replace h := bif_f hb7 h
    refine aw_exit ?_
    refine aq_then_exit ?_
    refine aq_then_exit ?_
    refine aq_block_exit ?_
    exact aq_join () h (fun w a hm hs => norm hm hs [] [0, 1] [] (by decide) trivial)
def f_slices_Equal___api_Blob_api_Blob__L6 (a0 : (List S_api_Blob)) (a1 : (List S_api_Blob)) (kk3 : (Unit → Option Bool)) : Nat → Int → Option Bool
  | 0, _ => none
  | k5 + 1, l4i13 => (bif (decide (l4i13 < (a0.length : Int))) then (opt (at? a0 l4i13) fun (u8 : S_api_Blob) => (opt (at? a1 l4i13) fun (u11 : S_api_Blob) => (req ((Lit.int .i64 u8.Kind).wf = true) (req (u8.Bytes.length ≤ 9223372036854775807) (req ((Lit.int .i64 u11.Kind).wf = true) (req (u11.Bytes.length ≤ 9223372036854775807) (bif (!(u8 == u11)) then (some false) else (f_slices_Equal___api_Blob_api_Blob__L6 a0 a1 kk3 k5 (IntKind.i64.wrap (l4i13 + (1 : Int))))))))))) else (kk3 ()))
def f_slices_Equal___api_Blob_api_Blob_ (fu : Nat) (a0 : (List S_api_Blob)) (a1 : (List S_api_Blob)) : Option Bool := (bif ((a0.length : Int) != (a1.length : Int)) then (some false) else (lt (fun (_ : Unit) => (some true)) fun (kk3 : Unit → Option Bool) => (f_slices_Equal___api_Blob_api_Blob__L6 a0 a1 kk3 fu (0 : Int))))
set_option maxHeartbeats 2000000 in
set_option maxRecDepth 100000 in
theorem f_slices_Equal___api_Blob_api_Blob__ok (fu : Nat) (v0_0 : Value) (a0 : (List S_api_Blob)) (v1_0 : Value) (a1 : (List S_api_Blob)) {r : Bool} (h : f_slices_Equal___api_Blob_api_Blob_ fu a0 a1 = some r) : FnOk Tryd.prog 17 [v0_0, v1_0] [(fDat (tyList tyS_api_Blob) [v0_0] a0), (fDat (tyList tyS_api_Blob) [v1_0] a1)] [] (fun (i : Unit) => { val := (bool r) }) := by
 unfold f_slices_Equal___api_Blob_api_Blob_ at h
 refine fn_enter Tryd.func17 rfl Tryd.ntmps17 rfl (fun w0 Z0 => ?_)
 refine aw_sr ?_
 refine al_as rfl rfl ?_
 refine al_nt ?_
 refine aw_seq ?_
 refine aw_sr ?_
 refine al_mv rfl rfl ?_
 refine al_val (ov_lenD 0 rfl rfl Tryd.underlying33 rfl) ?_
 refine al_mv rfl rfl ?_
 refine al_val (ov_lenD 1 rfl rfl Tryd.underlying33 rfl) ?_
 refine al_in rfl rfl rfl rfl ?_
 refine al_nt ?_
 refine aw_cond rfl (fun hb1 => ?_) (fun hb1 => ?_)
 ·replace h := bif_t hb1 h
  refine aw_sr ?_
  refine al_as rfl rfl ?_
  refine al_nt ?_
  refine aw_ret ?_
  refine aq_then_ret ?_
  obtain rfl := Option.some.inj h
  exact fn_ret () [] [] rfl rfl rfl rfl (res1 rfl rfl) rfl rfl rfl (by decide)
 ·replace h := bif_f hb1 h
  refine aw_skip ?_
  refine aq_then ?_
  obtain ⟨kk3, hkk3, h⟩ := lt_some h
  refine aw_seq_join (ι := Unit) (fun i => (memOf w0 Z0 [] [] [(fDat (tyList tyS_api_Blob) [v0_0] a0), (fDat (tyList tyS_api_Blob) [v1_0] a1)])) (fun i => (tab [])) (fun i => kk3 () = some r) ?_ ?_
  ·rintro _ h
   have h : kk3 () = some r := h
   rw [hkk3] at h
   dsimp only at h
   clear hkk3
   refine aw_show (m := (memOf w0 Z0 [] [] [(fDat (tyList tyS_api_Blob) [v0_0] a0), (fDat (tyList tyS_api_Blob) [v1_0] a1)])) (S := (tab [])) ?_
   refine aw_sr ?_
   refine al_as rfl rfl ?_
   refine al_nt ?_
   refine aw_ret ?_
   obtain rfl := Option.some.inj h
   exact fn_ret () [] [] rfl rfl rfl rfl (res1 rfl rfl) rfl rfl rfl (by decide)
  ·clear hkk3
   refine aw_sr ?_
   refine al_mv rfl rfl ?_
   refine al_val (ov_lenD 0 rfl rfl Tryd.underlying33 rfl) ?_
   refine al_mv rfl rfl ?_
   refine al_nt ?_
   refine aw_block ?_
   refine aw_state (aw_loop (ι := Int) (fun i => (memOf w0 Z0 [] [] [(fDat (tyList tyS_api_Blob) [v0_0] a0), (fDat (tyList tyS_api_Blob) [v1_0] a1)])) (fun i => (tab [(0, v0_0), (1, v1_0), (12, (iq (a0.length : Int))), (13, (iq i))])) (fun q i => f_slices_Equal___api_Blob_api_Blob__L6 a0 a1 kk3 q i = some r) ?_ fu (0 : Int) h) (fun w a hm hs => norm hm hs [] [0, 1] [(0, v0_0), (1, v1_0), (12, (iq (a0.length : Int))), (13, (iq (0 : Int)))] (by decide) ⟨rfl, rfl, rfl, rfl, trivial⟩)
   clear h
   rintro k5 l4i13 h
   have h : f_slices_Equal___api_Blob_api_Blob__L6 a0 a1 kk3 k5 l4i13 = some r := h
   obtain _ | k5 := k5
   · rw [f_slices_Equal___api_Blob_api_Blob__L6] at h; cases h
   rw [f_slices_Equal___api_Blob_api_Blob__L6] at h
   refine aw_show (m := (memOf w0 Z0 [] [] [(fDat (tyList tyS_api_Blob) [v0_0] a0), (fDat (tyList tyS_api_Blob) [v1_0] a1)])) (S := (tab [(0, v0_0), (1, v1_0), (12, (iq (a0.length : Int))), (13, (iq l4i13))])) ?_
   refine aw_sr ?_
   refine al_in rfl rfl rfl rfl ?_
   refine al_nt ?_
   refine aw_seq ?_
   refine aw_cond rfl (fun hb7 => ?_) (fun hb7 => ?_)
   ·replace h := bif_t hb7 h
    refine aw_skip ?_
    refine aq_then ?_
    refine aw_seq ?_
    refine aw_block ?_
    refine aw_sr ?_
    refine al_mv rfl rfl ?_
    refine al_as rfl rfl ?_
    refine al_nt ?_
    refine aw_seq ?_
    obtain ⟨u8, hu9, h⟩ := opt_some h
    obtain ⟨u11, hu12, h⟩ := opt_some h
    refine aw_region_draw 8 [(16, (fun u => fEq u v0_0)), (17, (fun u => fEq u (iq l4i13))), (18, (fun p10 => (fPtr tyS_api_Blob p10 u8))), (19, (fun u => fEq u (ag [(iq u8.Kind), (str u8.Bytes)]))), (20, (fun u => fEq u v1_0)), (21, (fun u => fEq u (iq l4i13))), (22, (fun p13 => (fPtr tyS_api_Blob p13 u11))), (23, (fun u => fEq u (ag [(iq u11.Kind), (str u11.Bytes)])))] (tab [(0, v0_0), (1, v1_0), (5, (iq l4i13)), (12, (iq (a0.length : Int))), (13, (iq l4i13))]) mixed (by kernel_rfl) rfl rfl rfl (fun a hs => hs.tab _ (allT_mem ⟨rfl, rfl, rfl, rfl, rfl, trivial⟩)) ⟨⟨rfl, ld_val (ov_move rfl rfl)⟩, ⟨rfl, ld_val (ov_move rfl rfl)⟩, ⟨rfl, ld_eq (j := 0) rfl rfl (ld_eq (j := 1) rfl rfl (ld_of (of_idxD 0 hu9 rfl rfl rfl Tryd.underlying33 sz41 rfl)))⟩, ⟨rfl, ld_fact (j := 2) rfl rfl (fun p10 => ld_val (ov_loadP (ds := [(iq u8.Kind), (str u8.Bytes)]) 0 rfl encS_api_Blob rfl Tryd.underlying41 sz41 rfl rfl rfl))⟩, ⟨rfl, ld_val (ov_move rfl rfl)⟩, ⟨rfl, ld_val (ov_move rfl rfl)⟩, ⟨rfl, ld_eq (j := 4) rfl rfl (ld_eq (j := 5) rfl rfl (ld_of (of_idxD 1 hu12 rfl rfl rfl Tryd.underlying33 sz41 rfl)))⟩, ⟨rfl, ld_fact (j := 6) rfl rfl (fun p13 => ld_val (ov_loadP (ds := [(iq u11.Kind), (str u11.Bytes)]) 0 rfl encS_api_Blob rfl Tryd.underlying41 sz41 rfl rfl rfl))⟩, trivial⟩ ?_
    refine tl_eq 3 rfl ?_
    refine tl_eq 7 rfl ?_
    refine tl_done ?_
    obtain ⟨hc14, h⟩ := req_some h
    obtain ⟨hc15, h⟩ := req_some h
    obtain ⟨hc16, h⟩ := req_some h
    obtain ⟨hc17, h⟩ := req_some h
    refine al_val (ov_neqA (cs := [(iq u8.Kind), (str u8.Bytes)]) (ds := [(iq u11.Kind), (str u11.Bytes)]) (ls := [3, 9]) (p := (u8 == u11)) eg41 kt41 lv41 rfl rfl (by kernel_rfl) (by kernel_rfl) (fit_cons (fit_int Tryd.underlying3 hc14) (fit_cons (fit_str Tryd.underlying9 hc15) fit_nil)) (fit_cons (fit_int Tryd.underlying3 hc16) (fit_cons (fit_str Tryd.underlying9 hc17) fit_nil)) (injS_api_Blob (x := u8) (y := u11)) rfl) ?_
    refine al_nt ?_
    refine aw_cond rfl (fun hb18 => ?_) (fun hb18 => ?_)
    ·replace h := bif_t hb18 h
     refine aw_sr ?_
     refine al_as rfl rfl ?_
     refine al_nt ?_
     refine aw_ret ?_
     refine aq_block_ret ?_
     refine aq_then_ret ?_
     refine aq_then_ret ?_
     refine aq_block_ret ?_
     refine aq_then_ret ?_
     obtain rfl := Option.some.inj h
     exact fn_ret () [] [] rfl rfl rfl rfl (res1 rfl rfl) rfl rfl rfl (by decide)
    ·replace h := bif_f hb18 h
     refine aw_skip ?_
     refine aq_block ?_
     refine aq_then ?_
     refine aw_region ?_
     refine al_in rfl rfl rfl rfl ?_
     refine al_mv rfl rfl ?_
     refine al_nil ?_
     exact aq_again k5 (wq (l4i13 + (1 : Int))) (Nat.lt_succ_self _) h (fun w a hm hs => norm hm hs [] [0, 1] [(0, v0_0), (1, v1_0), (12, (iq (a0.length : Int))), (13, (iq (wq (l4i13 + (1 : Int)))))] (by decide) ⟨rfl, rfl, rfl, rfl, trivial⟩)
   ·replace h := bif_f hb7 h
    refine aw_exit ?_
    refine aq_then_exit ?_
    refine aq_then_exit ?_
    refine aq_block_exit ?_
    exact aq_join () h (fun w a hm hs => norm hm hs [] [0, 1] [] (by decide) trivial)
def f_lumlaw_FetchTexts (fu : Nat) (a0 : (List S_api_Blob)) (a1 : (List (List UInt8))) : Option Bool := (opt (f_fetch_Texts fu a0) fun (r2 : ((List (List UInt8)) × Int)) => (opt (f_lumref_Texts fu a0) fun (r5 : ((List (List UInt8)) × Int)) => (opt (f_fetch_Blobs fu a1) fun (r8 : ((List S_api_Blob) × Bool)) => (opt (f_lumref_Blobs fu a1) fun (r11 : ((List S_api_Blob) × Bool)) => (lt (fun (j13b4 : Bool) => (some j13b4)) fun (kk14 : Bool → Option Bool) => (opt (f_slices_Equal___string_string_ fu r2.1 r5.1) fun (r16 : Bool) => (bif r16 then (bif (r2.2 == r5.2) then (opt (f_slices_Equal___api_Blob_api_Blob_ fu r8.1 r11.1) fun (r20 : Bool) => (bif r20 then (kk14 (r8.2 == r11.2)) else (kk14 false))) else (kk14 false)) else (kk14 false))))))))
set_option maxHeartbeats 2000000 in
set_option maxRecDepth 100000 in
theorem f_lumlaw_FetchTexts_ok (fu : Nat) (v0_0 : Value) (a0 : (List S_api_Blob)) (v1_0 : Value) (a1 : (List (List UInt8))) {r : Bool} (h : f_lumlaw_FetchTexts fu a0 a1 = some r) : FnOk Tryd.prog 5 [v0_0, v1_0] [(fDat (tyList tyS_api_Blob) [v0_0] a0), (fDat (tyList tyStr) [v1_0] a1)] [] (fun (i : Unit) => { val := (bool r) }) := by
 unfold f_lumlaw_FetchTexts at h
 refine fn_enter Tryd.func5 rfl Tryd.ntmps5 rfl (fun w0 Z0 => ?_)
 refine aw_sr ?_
 refine al_as rfl rfl ?_
 refine al_nt ?_
 refine aw_sr ?_
 refine al_mv rfl rfl ?_
 obtain ⟨r2, hc1, h⟩ := opt_some h
 refine al_call (vs := [v0_0]) (f_fetch_Texts_ok fu v0_0 a0 hc1) [] [] [] (pre_fz 0 rfl pre_nil) rfl (by simp) (by decide) (.inl rfl) rfl Tryd.func12 rfl rfl rfl (fun v3 => ?_)
 refine al_mv rfl rfl ?_
 refine al_ex rfl rfl rfl ?_
 refine al_ex rfl rfl rfl ?_
 refine al_as rfl rfl ?_
 refine al_as rfl rfl ?_
 refine al_nt ?_
 refine aw_sr ?_
 refine al_mv rfl rfl ?_
 obtain ⟨r5, hc4, h⟩ := opt_some h
 refine al_call (vs := [v0_0]) (f_lumref_Texts_ok fu v0_0 a0 hc4) [] [] [0] (pre_fz 0 rfl pre_nil) rfl (by simp) (by decide) (.inl rfl) rfl Tryd.func13 rfl rfl rfl (fun v6 => ?_)
 refine al_mv rfl rfl ?_
 refine al_ex rfl rfl rfl ?_
 refine al_ex rfl rfl rfl ?_
 refine al_as rfl rfl ?_
 refine al_as rfl rfl ?_
 refine al_nt ?_
 refine aw_sr ?_
 refine al_mv rfl rfl ?_
 obtain ⟨r8, hc7, h⟩ := opt_some h
 refine al_call (vs := [v1_0]) (f_fetch_Blobs_ok fu v1_0 a1 hc7) [] [] [0, 1] (pre_fz 1 rfl pre_nil) rfl (by simp) (by decide) (.inl rfl) rfl Tryd.func14 rfl rfl rfl (fun v9 => ?_)
 refine al_mv rfl rfl ?_
 refine al_ex rfl rfl rfl ?_
 refine al_ex rfl rfl rfl ?_
 refine al_as rfl rfl ?_
 refine al_as rfl rfl ?_
 refine al_nt ?_
 refine aw_sr ?_
 refine al_mv rfl rfl ?_
 obtain ⟨r11, hc10, h⟩ := opt_some h
 refine al_call (vs := [v1_0]) (f_lumref_Blobs_ok fu v1_0 a1 hc10) [] [] [0, 1, 2] (pre_fz 1 rfl pre_nil) rfl (by simp) (by decide) (.inl rfl) rfl Tryd.func15 rfl rfl rfl (fun v12 => ?_)
 refine al_mv rfl rfl ?_
 refine al_ex rfl rfl rfl ?_
 refine al_ex rfl rfl rfl ?_
 refine al_as rfl rfl ?_
 refine al_as rfl rfl ?_
 refine al_nt ?_
 obtain ⟨kk14, hkk14, h⟩ := lt_some h
 refine aw_seq_join (ι := Bool) (fun i => (memOf w0 Z0 [] [] [(fDat (tyList tyS_api_Blob) [v0_0] a0), (fDat (tyList tyStr) [v1_0] a1)])) (fun i => (tab [(4, (bool i))])) (fun i => kk14 i = some r) ?_ ?_
 ·rintro j13b4 h
  have h : kk14 j13b4 = some r := h
  rw [hkk14] at h
  dsimp only at h
  clear hkk14
  refine aw_show (m := (memOf w0 Z0 [] [] [(fDat (tyList tyS_api_Blob) [v0_0] a0), (fDat (tyList tyStr) [v1_0] a1)])) (S := (tab [(4, (bool j13b4))])) ?_
  refine aw_ret ?_
  obtain rfl := Option.some.inj h
  exact fn_ret () [] [] rfl rfl rfl rfl (res1 rfl rfl) rfl rfl rfl (by decide)
 ·clear hkk14
  refine aw_region ?_
  refine al_mv rfl rfl ?_
  refine al_mv rfl rfl ?_
  obtain ⟨r16, hc15, h⟩ := opt_some h
  refine al_call (vs := [v3, v6]) (f_slices_Equal___string_string__ok fu v3 r2.1 v6 r5.1 hc15) [2, 3] [] [0, 1, 2, 3] (pre_own 3 rfl rfl (pre_own 2 rfl rfl pre_nil)) rfl (by simp) (by decide) (.inr flat_res0) rfl Tryd.func16 rfl rfl rfl (fun _ => ?_)
  refine al_mv rfl rfl ?_
  refine al_caseB 36 rfl (fun hb17 => ?_) (fun hb17 => ?_)
  ·replace h := bif_t hb17 h
   refine al_mv rfl rfl ?_
   refine al_mv rfl rfl ?_
   refine al_in rfl rfl rfl rfl ?_
   refine al_val (ov_pick_t rfl rfl rfl) ?_
   refine al_mv rfl rfl ?_
   refine al_caseB 41 rfl (fun hb18 => ?_) (fun hb18 => ?_)
   ·replace h := bif_t hb18 h
    refine al_mv rfl rfl ?_
    refine al_mv rfl rfl ?_
    obtain ⟨r20, hc19, h⟩ := opt_some h
    refine al_call (vs := [v9, v12]) (f_slices_Equal___api_Blob_api_Blob__ok fu v9 r8.1 v12 r11.1 hc19) [0, 1] [] [0, 1, 2, 3] (pre_own 1 rfl rfl (pre_own 0 rfl rfl pre_nil)) rfl (by simp) (by decide) (.inr flat_res0) rfl Tryd.func17 rfl rfl rfl (fun _ => ?_)
    refine al_val (ov_pick_t rfl rfl rfl) ?_
    refine al_mv rfl rfl ?_
    refine al_caseB 46 rfl (fun hb21 => ?_) (fun hb21 => ?_)
    ·replace h := bif_t hb21 h
     refine al_mv rfl rfl ?_
     refine al_mv rfl rfl ?_
     refine al_val (ov_boolEq Tryd.underlying4 rfl rfl rfl) ?_
     refine al_val (ov_pick_t rfl rfl rfl) ?_
     refine al_as rfl rfl ?_
     refine al_nil ?_
     exact aq_join (r8.2 == r11.2) h (fun w a hm hs => norm hm hs [] [0, 1] [(4, (bool (r8.2 == r11.2)))] (by decide) ⟨rfl, trivial⟩)
    ·replace h := bif_f hb21 h
     refine al_skip ?_
     refine al_skip ?_
     refine al_skip ?_
     refine al_val (ov_pick_f rfl rfl rfl) ?_
     refine al_as rfl rfl ?_
     refine al_nil ?_
     exact aq_join false h (fun w a hm hs => norm hm hs [] [0, 1] [(4, (bool false))] (by decide) ⟨rfl, trivial⟩)
   ·replace h := bif_f hb18 h
    refine al_skip ?_
    refine al_skip ?_
    refine al_skip ?_
    refine al_val (ov_pick_f rfl rfl rfl) ?_
    refine al_mv rfl rfl ?_
    refine al_skip ?_
    refine al_skip ?_
    refine al_skip ?_
    refine al_val (ov_pick_f rfl rfl rfl) ?_
    refine al_as rfl rfl ?_
    refine al_nil ?_
    exact aq_join false h (fun w a hm hs => norm hm hs [] [0, 1] [(4, (bool false))] (by decide) ⟨rfl, trivial⟩)
  ·replace h := bif_f hb17 h
   refine al_skip ?_
   refine al_skip ?_
   refine al_skip ?_
   refine al_val (ov_pick_f rfl rfl rfl) ?_
   refine al_mv rfl rfl ?_
   refine al_skip ?_
   refine al_skip ?_
   refine al_skip ?_
   refine al_val (ov_pick_f rfl rfl rfl) ?_
   refine al_mv rfl rfl ?_
   refine al_skip ?_
   refine al_skip ?_
   refine al_skip ?_
   refine al_val (ov_pick_f rfl rfl rfl) ?_
   refine al_as rfl rfl ?_
   refine al_nil ?_
   exact aq_join false h (fun w a hm hs => norm hm hs [] [0, 1] [(4, (bool false))] (by decide) ⟨rfl, trivial⟩)
end Go.Proofs.YtpakblkldklbmaaDoor
namespace Go.Proofs.YtpakblkldklbmaaDoor.Mix
def M : Nat := 18446744073709551616
def cF : Nat := 11400714819323198485
def cS : Nat := 13787848793156543929
theorem M_pow : M = 2 ^ 64 := by decide
def stp (x b : Nat) : Nat :=
  let z := (x ^^^ b) * cF % M
  let y := (z ^^^ z / 2 ^ 29) * cS % M
  y ^^^ y / 2 ^ 32
theorem div_lt' {z : Nat} (h : z < M) (k : Nat) : z / 2 ^ k < M := Nat.lt_of_le_of_lt (Nat.div_le_self _ _) h
theorem xltM {a b : Nat} (ha : a < M) (hb : b < M) : a ^^^ b < M := by rw [M_pow] at *; exact Nat.xor_lt_two_pow ha hb
theorem M_pos : 0 < M := by decide
theorem stp_lt (x b : Nat) : stp x b < M := by
  unfold stp; simp only
  exact xltM (Nat.mod_lt _ M_pos) (div_lt' (Nat.mod_lt _ M_pos) 32)
theorem prod_one (a b i : Nat) (h : b / 2 ^ i % 2 = 1) : (a * (b % 2 ^ i) % M + a * 2 ^ i % M) % M = a * (b % 2 ^ (i + 1)) % M := by
  rw [Nat.mod_pow_succ, h, Nat.mul_one, Nat.mul_add, ← Nat.add_mod]
theorem prod_zero (a b i : Nat) (h : b / 2 ^ i % 2 = 0) : a * (b % 2 ^ i) % M = a * (b % 2 ^ (i + 1)) % M := by
  rw [Nat.mod_pow_succ, h, Nat.mul_zero, Nat.add_zero]
def leN : List UInt8 → Nat
  | [] => 0
  | b :: l => b.toNat + 256 * leN l
theorem leN_zeros (l : List UInt8) (k : Nat) : leN (l ++ List.replicate k 0) = leN l := by
  induction l with
  | nil =>
    induction k with
    | zero => rfl
    | succ k ih => rw [List.nil_append] at ih ⊢; rw [List.replicate_succ]; show (0 : UInt8).toNat + 256 * leN (List.replicate k 0) = 0; rw [ih]; rfl
  | cons b l ih => show b.toNat + 256 * leN (l ++ _) = b.toNat + 256 * leN l; rw [ih]
theorem leN_lt : ∀ l : List UInt8, leN l < 256 ^ l.length
  | [] => by decide
  | b :: l => by
    have := leN_lt l
    have h := b.toNat_lt
    show b.toNat + 256 * leN l < 256 ^ (l.length + 1)
    rw [Nat.pow_succ]; omega
theorem leN_lt8 (l : List UInt8) (h : l.length ≤ 8) : leN l < M := Nat.lt_of_lt_of_le (leN_lt l) (by rw [show M = 256 ^ 8 from by decide]; exact Nat.pow_le_pow_right (by omega) h)
def chain (cut : Nat → Nat) : Nat → List UInt8 → Nat → Nat
  | 0, _, x => x
  | k + 1, s, x => if s = [] then x else chain cut k (s.drop 8) (cut (stp x (leN (s.take 8))))
def hash (cut : Nat → Nat) (s : List UInt8) : Nat := cut (stp (chain cut s.length s 0) s.length)
theorem chain_nil (cut : Nat → Nat) (k x : Nat) : chain cut k [] x = x := by cases k <;> simp [chain]
theorem chain_more (cut : Nat → Nat) : ∀ (k j : Nat) (s : List UInt8) (x : Nat), s.length ≤ k → s.length ≤ j → chain cut k s x = chain cut j s x
  | 0, j, s, x, h, _ => by
    have : s = [] := List.eq_nil_of_length_eq_zero (by omega)
    subst this; rw [chain_nil, chain_nil]
  | k + 1, 0, s, x, _, h => by
    have : s = [] := List.eq_nil_of_length_eq_zero (by omega)
    subst this; rw [chain_nil, chain_nil]
  | k + 1, j + 1, s, x, h1, h2 => by
    unfold chain
    split
    · rfl
    · rename_i hs
      have hp : 0 < s.length := List.length_pos_iff.2 hs
      exact chain_more cut k j _ _ (by rw [List.length_drop]; omega) (by rw [List.length_drop]; omega)
theorem chain_step (cut : Nat → Nat) {s : List UInt8} (hs : s ≠ []) (x : Nat) : chain cut s.length s x = chain cut (s.drop 8).length (s.drop 8) (cut (stp x (leN (s.take 8)))) := by
  have hp : 0 < s.length := List.length_pos_iff.2 hs
  obtain ⟨k, hk⟩ : ∃ k, s.length = k + 1 := ⟨s.length - 1, by omega⟩
  rw [hk]
  show (if s = [] then x else _) = _
  rw [if_neg hs]
  exact chain_more cut _ _ _ _ (by rw [List.length_drop]; omega) (Nat.le_refl _)
def pad (s : List UInt8) : List UInt8 := s ++ List.replicate ((8 - s.length % 8) % 8) 0
theorem pad_nil (s : List UInt8) : pad s = [] ↔ s = [] := by
  constructor
  · intro h; exact (List.append_eq_nil_iff.1 h).1
  · rintro rfl; rfl
theorem pad_take (s : List UInt8) (hs : s ≠ []) : leN ((pad s).take 8) = leN (s.take 8) ∧ 8 ≤ (pad s).length ∧ (pad s).drop 8 = pad (s.drop 8) := by
  have hp : 0 < s.length := List.length_pos_iff.2 hs
  unfold pad
  by_cases h : 8 ≤ s.length
  · refine ⟨by rw [List.take_append_of_le_length h], by rw [List.length_append]; omega, ?_⟩
    rw [List.drop_append_of_le_length h, List.length_drop, show (s.length - 8) % 8 = s.length % 8 by omega]
  · have e : (8 - s.length % 8) % 8 = 8 - s.length := by omega
    rw [e]
    have hl : (s ++ List.replicate (8 - s.length) (0 : UInt8)).length = 8 := by simp; omega
    refine ⟨?_, by omega, ?_⟩
    · rw [List.take_of_length_le (by omega), leN_zeros, List.take_of_length_le (by omega)]
    · rw [List.drop_of_length_le (by omega), List.drop_of_length_le (show s.length ≤ 8 by omega)]; rfl
end Go.Proofs.YtpakblkldklbmaaDoor.Mix
namespace Go.Proofs.YtpakblkldklbmaaDoor.Num
open Go.Lib
theorem beFrom_snoc : ∀ (l : List UInt8) (acc : Nat) (b : UInt8), beFrom acc (l ++ [b]) = beFrom acc l * 256 + b.toNat
  | [], _, _ => rfl
  | c :: l, acc, b => by show beFrom (acc * 256 + c.toNat) (l ++ [b]) = _; rw [beFrom_snoc l]; rfl
theorem beNat_snoc (l : List UInt8) (b : UInt8) : beNat (l ++ [b]) = beNat l * 256 + b.toNat := beFrom_snoc l 0 b
theorem beFrom_lt : ∀ (l : List UInt8) (acc : Nat), beFrom acc l < (acc + 1) * 256 ^ l.length
  | [], acc => by simp [beFrom]
  | c :: l, acc => by
    have h := beFrom_lt l (acc * 256 + c.toNat)
    have hc := c.toNat_lt
    have h2 : (acc * 256 + c.toNat + 1) * 256 ^ l.length ≤ ((acc + 1) * 256) * 256 ^ l.length := Nat.mul_le_mul_right _ (by omega)
    have h3 : ((acc + 1) * 256) * 256 ^ l.length = (acc + 1) * 256 ^ (c :: l).length := by rw [List.length_cons, Nat.pow_succ, Nat.mul_assoc, Nat.mul_comm 256]
    show beFrom (acc * 256 + c.toNat) l < _
    omega
theorem beNat_lt (l : List UInt8) : beNat l < 256 ^ l.length := by have := beFrom_lt l 0; simpa [beNat] using this
theorem beNat_lt' {l : List UInt8} {k : Nat} (h : l.length ≤ k) : beNat l < 256 ^ k := Nat.lt_of_lt_of_le (beNat_lt l) (Nat.pow_le_pow_right (by omega) h)
theorem beNat_take {l : List UInt8} {j : Nat} (h : j < l.length) : beNat (l.take (j + 1)) = beNat (l.take j) * 256 + l[j].toNat := by
  rw [← List.take_append_getElem h, beNat_snoc]
def digF : Nat → Nat → List UInt8
  | 0, _ => []
  | k + 1, n => if n = 0 then [] else digF k (n / 256) ++ [(n % 256).toUInt8]
theorem digF_nil : ∀ {k n : Nat}, n < 256 ^ k → (digF k n = [] ↔ n = 0)
  | 0, n, h => by simp [digF]; simpa using h
  | k + 1, n, h => by unfold digF; split <;> simp_all
theorem digF_len : ∀ (k n : Nat), (digF k n).length ≤ k
  | 0, n => by simp [digF]
  | k + 1, n => by
    unfold digF
    split
    · simp
    · have := digF_len k (n / 256); simp; omega
theorem be_succ (k n : Nat) : beBytes (k + 1) n = beBytes k (n / 256) ++ [(n % 256).toUInt8] := by unfold beBytes; rw [Lib.leBytes, List.reverse_cons]
theorem div_lt {k n : Nat} (h : n < 256 ^ (k + 1)) : n / 256 < 256 ^ k := by rw [Nat.pow_succ] at h; omega
theorem trim_be : ∀ {k n : Nat}, n < 256 ^ k → trimLeftB (beBytes k n) 0 = digF k n
  | 0, n, h => rfl
  | k + 1, n, h => by
    have ih := trim_be (div_lt h)
    have hn := digF_nil (div_lt h)
    unfold trimLeftB at ih ⊢
    rw [be_succ, List.dropWhile_append, ih]
    show _ = if n = 0 then [] else digF k (n / 256) ++ [(n % 256).toUInt8]
    by_cases h0 : n / 256 = 0
    · rw [hn.2 h0]
      by_cases h1 : n = 0
      · subst h1; rfl
      · have h2 : ((n % 256).toUInt8 == 0) = false := by
          rw [beq_eq_false_iff_ne]
          intro e
          have := congrArg UInt8.toNat e
          rw [toUInt8_mod] at this
          simp at this; omega
        rw [if_neg h1]; simp [h2]
    · have h3 : (digF k (n / 256)).isEmpty = false := by rw [List.isEmpty_eq_false_iff]; exact fun e => h0 (hn.1 e)
      rw [h3, if_neg (by simp), if_neg (by omega)]
end Go.Proofs.YtpakblkldklbmaaDoor.Num
namespace Go.Proofs.YtpakblkldklbmaaDoor
open Go.RowKit YtpakblkldklbmaaDoor.En
theorem at_nat {α : Type} (xs : List α) (k : Nat) : at? xs (k : Int) = xs[k]? := by unfold at?; rw [if_pos (Int.natCast_nonneg k)]; simp
theorem at_lt {α : Type} {xs : List α} {k : Nat} (h : k < xs.length) : at? xs (k : Int) = some xs[k] := by rw [at_nat, List.getElem?_eq_getElem h]
theorem w64 {x : Int} (h0 : -9223372036854775808 ≤ x) (h1 : x ≤ 9223372036854775807) : IntKind.i64.wrap x = x := IntWalk.i64_in x (by omega)
theorem wsucc {k : Nat} (h : k < 9223372036854775807) : IntKind.i64.wrap ((k : Int) + 1) = ((k + 1 : Nat) : Int) := by rw [w64 (by omega) (by omega)]; omega
theorem dlt {a b : Int} (h : a < b) : decide (a < b) = true := decide_eq_true h
theorem dge {a b : Int} (h : b ≤ a) : decide (a < b) = false := decide_eq_false (by omega)
theorem cond_tt {α : Type} {b : Bool} {x y : α} (h : b = true) : (bif b then x else y) = x := by rw [h]; rfl
theorem cond_ff {α : Type} {b : Bool} {x y : α} (h : b = false) : (bif b then x else y) = y := by rw [h]; rfl
end Go.Proofs.YtpakblkldklbmaaDoor
namespace Go.Proofs.YtpakblkldklbmaaDoor
open Go.RowKit YtpakblkldklbmaaDoor.En
theorem shr_nat {x m : Nat} {j : Int} {k : IntKind} (hj : j = (m : Int)) (hm : m ≤ k.bits) : ((x : Int)).fdiv (2 ^ min j.toNat k.bits) = ((x / 2 ^ m : Nat) : Int) := by
  subst hj
  rw [Int.toNat_natCast, Nat.min_eq_left hm, Int.fdiv_eq_ediv_of_nonneg _ (by apply Int.le_of_lt; apply Int.pow_pos; decide)]
  simp
theorem shl_nat {x m : Nat} {j : Int} {k : IntKind} (hj : j = (m : Int)) (hm : m ≤ k.bits) : ((x : Int)) * 2 ^ min j.toNat k.bits = ((x * 2 ^ m : Nat) : Int) := by
  subst hj
  rw [Int.toNat_natCast, Nat.min_eq_left hm]
  simp
theorem u8w (x : Nat) : IntKind.u8.wrap (x : Int) = ((x % 256 : Nat) : Int) := by
  unfold IntKind.wrap
  simp [IntKind.signed, IntKind.bits]
theorem u8w_in {x : Nat} (h : x < 256) : IntKind.u8.wrap (x : Int) = (x : Int) := by rw [u8w, Nat.mod_eq_of_lt h]
end Go.Proofs.YtpakblkldklbmaaDoor
namespace Go.Proofs.YtpakblkldklbmaaDoor.PFetchTexts
open Go.RowKit YtpakblkldklbmaaDoor.En YtpakblkldklbmaaDoor Num Mix Go.Lib
set_option linter.unusedVariables false
set_option linter.unusedSimpArgs false
namespace MX
theorem wr (x : Nat) : IntKind.u64.wrap (x : Int) = ((x % M : Nat) : Int) := by
  unfold IntKind.wrap
  simp [IntKind.signed, IntKind.bits, M]
theorem wi {x : Nat} (h : x < M) : IntKind.u64.wrap (x : Int) = (x : Int) := by rw [wr, Nat.mod_eq_of_lt h]
theorem xo {a b : Nat} (ha : a < M) (hb : b < M) : bits .xor .u64 (a : Int) (b : Int) = ((a ^^^ b : Nat) : Int) := u64_xor_nat a b ha hb
theorem mF (n : Nat) : IntKind.u64.wrap ((n : Int) * (11400714819323198485 : Int)) = ((n * cF % M : Nat) : Int) := by
  rw [show (n : Int) * (11400714819323198485 : Int) = ((n * cF : Nat) : Int) from by rw [Int.natCast_mul]; rfl]
  exact wr _
theorem mS (n : Nat) : IntKind.u64.wrap ((n : Int) * (13787848793156543929 : Int)) = ((n * cS % M : Nat) : Int) := by
  rw [show (n : Int) * (13787848793156543929 : Int) = ((n * cS : Nat) : Int) from by rw [Int.natCast_mul]; rfl]
  exact wr _
theorem s29 (n : Nat) : ((n : Int)).fdiv (2 ^ min ((29 : Int)).toNat (IntKind.bits .u64)) = ((n / 2 ^ 29 : Nat) : Int) := shr_nat rfl (by decide)
theorem s32 (n : Nat) : ((n : Int)).fdiv (2 ^ min ((32 : Int)).toNat (IntKind.bits .u64)) = ((n / 2 ^ 32 : Nat) : Int) := shr_nat rfl (by decide)
theorem ml (n : Nat) : n % M < M := Nat.mod_lt _ M_pos
theorem mstep_ok (fu : Nat) {x b : Nat} (hx : x < M) (hb : b < M) : f_mix_Step fu (x : Int) (b : Int) = some ((stp x b : Nat) : Int) := by
  unfold f_mix_Step
  rw [xo hx hb, mF, s29, xo (ml _) (div_lt' (ml _) 29), mS, s32, xo (ml _) (div_lt' (ml _) 32)]
  rfl
theorem prod_go (a b : Nat) (ha : a < M) (hb : b < M) (kk : Int → Option Int) : ∀ (n i fu : Nat), i + n = 64 → n < fu →
    f_lumref_product_L5 (a : Int) (b : Int) kk fu ((a * (b % 2 ^ i) % M : Nat) : Int) (i : Int) = kk ((a * b % M : Nat) : Int)
  | 0, i, fu + 1, hi, _ => by
    obtain rfl : i = 64 := by omega
    rw [f_lumref_product_L5, cond_ff (dge (by omega)), Nat.mod_eq_of_lt (show b < 2 ^ 64 from hb)]
  | n + 1, i, fu + 1, hi, hf => by
    rw [f_lumref_product_L5, cond_tt (dlt (by omega)), lt_of, req_pos (by omega)]
    have hd : b / 2 ^ i < M := div_lt' hb i
    rw [shr_nat (m := i) (k := .u64) rfl (show i ≤ 64 by omega)]
    have hbit : bits .and .u64 ((b / 2 ^ i : Nat) : Int) 1 = ((b / 2 ^ i % 2 : Nat) : Int) := by
      have := u64_and_nat (b / 2 ^ i) 1 hd (by omega)
      rw [Nat.and_one_is_mod] at this
      exact this
    rw [hbit]
    have ih := prod_go a b ha hb kk n (i + 1) fu (by omega) (by omega)
    by_cases h1 : b / 2 ^ i % 2 = 1
    · rw [h1, cond_tt (by rfl), req_pos (by omega), shl_nat (m := i) (k := .u64) rfl (show i ≤ 64 by omega), wr, ← Int.natCast_add, wr, prod_one a b i h1, wsucc (by omega)]
      exact ih
    · have h0 : b / 2 ^ i % 2 = 0 := by omega
      rw [h0, cond_ff (by rfl), prod_zero a b i h0, wsucc (by omega)]
      exact ih
theorem prod_ok (fu : Nat) (hf : 65 ≤ fu) {a b : Nat} (ha : a < M) (hb : b < M) : f_lumref_product fu (a : Int) (b : Int) = some ((a * b % M : Nat) : Int) := by
  unfold f_lumref_product
  rw [lt_of]
  have h := prod_go a b ha hb (fun j => some j) 64 0 fu (by omega) (by omega)
  rw [show a * (b % 2 ^ 0) % M = 0 from by simp [Nat.mod_one]] at h
  exact h
theorem td29 (n : Nat) (h : n < M) : IntKind.u64.wrap (((n : Int)).tdiv (536870912 : Int)) = ((n / 2 ^ 29 : Nat) : Int) := by
  rw [show ((n : Int)).tdiv (536870912 : Int) = ((n / 2 ^ 29 : Nat) : Int) from rfl, wi (div_lt' h 29)]
theorem td32 (n : Nat) (h : n < M) : IntKind.u64.wrap (((n : Int)).tdiv (4294967296 : Int)) = ((n / 2 ^ 32 : Nat) : Int) := by
  rw [show ((n : Int)).tdiv (4294967296 : Int) = ((n / 2 ^ 32 : Nat) : Int) from rfl, wi (div_lt' h 32)]
theorem cF_lt : cF < M := by decide
theorem cS_lt : cS < M := by decide
theorem rstep_ok (fu : Nat) (hf : 65 ≤ fu) {x b : Nat} (hx : x < M) (hb : b < M) : f_lumref_Step fu (x : Int) (b : Int) = some ((stp x b : Nat) : Int) := by
  unfold f_lumref_Step
  rw [xo hx hb, show (11400714819323198485 : Int) = ((cF : Nat) : Int) from rfl, prod_ok fu hf (xltM hx hb) cF_lt, opt_of, td29 _ (ml _), xo (ml _) (div_lt' (ml _) 29)]
  rw [show (13787848793156543929 : Int) = ((cS : Nat) : Int) from rfl, prod_ok fu hf (xltM (ml _) (div_lt' (ml _) 29)) cS_lt, opt_of, td32 _ (ml _), xo (ml _) (div_lt' (ml _) 32)]
  rfl
theorem u64b (b : UInt8) : IntKind.u64.wrap (b.toNat : Int) = ((b.toNat : Nat) : Int) := wi (Nat.lt_trans b.toNat_lt (by decide))
theorem orb {a m : Nat} {b : UInt8} {j : Int} (hj : j = (m : Int)) (ha : a < 2 ^ m) (hm : m + 8 ≤ 64) : bits .or .u64 (a : Int) (IntKind.u64.wrap ((IntKind.u64.wrap (b.toNat : Int)) * 2 ^ min j.toNat (IntKind.bits .u64))) = ((a + b.toNat * 2 ^ m : Nat) : Int) := by
  have hb := b.toNat_lt
  have h1 : b.toNat * 2 ^ m < 2 ^ (8 + m) := by rw [Nat.pow_add]; exact Nat.mul_lt_mul_of_pos_right hb (Nat.pow_pos (by omega))
  have h2 : (2 : Nat) ^ (8 + m) ≤ 2 ^ 64 := Nat.pow_le_pow_right (by omega) (by omega)
  have h3 : (2 : Nat) ^ m ≤ 2 ^ 64 := Nat.pow_le_pow_right (by omega) (by omega)
  have hM : M = 2 ^ 64 := M_pow
  rw [u64b, shl_nat (m := m) (k := .u64) hj (show m ≤ 64 by omega), wi (by omega)]
  have := u64_or_nat a (b.toNat * 2 ^ m) (by show a < M; omega) (by show _ < M; omega)
  rw [this, Nat.mul_comm b.toNat, Nat.or_comm, ← Nat.two_pow_add_eq_or_of_lt ha, Nat.add_comm]
theorem le64_ok (fu : Nat) (l : List UInt8) (hl : l.length = 8) : f__binary_littleEndian__Uint64 fu () l = some ((leN l : Nat) : Int) := by
  match l, hl with
  | [b0, b1, b2, b3, b4, b5, b6, b7], _ =>
    have g0 := b0.toNat_lt
    have g1 := b1.toNat_lt
    have g2 := b2.toNat_lt
    have g3 := b3.toNat_lt
    have g4 := b4.toNat_lt
    have g5 := b5.toNat_lt
    have g6 := b6.toNat_lt
    have g7 := b7.toNat_lt
    unfold f__binary_littleEndian__Uint64
    rw [show at? [b0, b1, b2, b3, b4, b5, b6, b7] (7 : Int) = some b7 from rfl, opt_of, show at? [b0, b1, b2, b3, b4, b5, b6, b7] (0 : Int) = some b0 from rfl, opt_of, show at? [b0, b1, b2, b3, b4, b5, b6, b7] (1 : Int) = some b1 from rfl, opt_of,
      show at? [b0, b1, b2, b3, b4, b5, b6, b7] (2 : Int) = some b2 from rfl, opt_of, show at? [b0, b1, b2, b3, b4, b5, b6, b7] (3 : Int) = some b3 from rfl, opt_of, show at? [b0, b1, b2, b3, b4, b5, b6, b7] (4 : Int) = some b4 from rfl, opt_of,
      show at? [b0, b1, b2, b3, b4, b5, b6, b7] (5 : Int) = some b5 from rfl, opt_of, show at? [b0, b1, b2, b3, b4, b5, b6, b7] (6 : Int) = some b6 from rfl, opt_of, opt_of]
    rw [u64b b0, orb (j := 8) (m := 8) rfl (by omega) (by omega), orb (j := 16) (m := 16) rfl (by omega) (by omega), orb (j := 24) (m := 24) rfl (by omega) (by omega), orb (j := 32) (m := 32) rfl (by omega) (by omega), orb (j := 40) (m := 40) rfl (by omega) (by omega), orb (j := 48) (m := 48) rfl (by omega) (by omega), orb (j := 56) (m := 56) rfl (by omega) (by omega)]
    congr 2
    simp only [leN]
    omega
theorem lof {l : List UInt8} (h : l.length = 8) : lA8u8 (ofA8u8 l) = l := by
  match l, h with
  | [b0, b1, b2, b3, b4, b5, b6, b7], _ => rfl
def zer : A8u8 := (A8u8.mk (0 : UInt8) (0 : UInt8) (0 : UInt8) (0 : UInt8) (0 : UInt8) (0 : UInt8) (0 : UInt8) (0 : UInt8))
theorem lcp (s : List UInt8) : lA8u8 (cpA8u8 zer s) = s.take 8 ++ List.replicate (8 - (s.take 8).length) 0 := by
  unfold cpA8u8
  have h8 : (s.take 8).length ≤ 8 := by rw [List.length_take]; omega
  rw [show lA8u8 zer = List.replicate 8 0 from rfl, List.drop_replicate, lof (by rw [List.length_append, List.length_replicate]; omega)]
theorem lcp_len (s : List UInt8) : (lA8u8 (cpA8u8 zer s)).length = 8 := rfl
theorem dropmin (s : List UInt8) : s.drop (Nat.min s.length 8) = s.drop 8 := by
  rcases Nat.le_total s.length 8 with h | h
  · rw [show Nat.min s.length 8 = s.length from Nat.min_eq_left h, List.drop_length, List.drop_of_length_le h]
  · rw [show Nat.min s.length 8 = 8 from Nat.min_eq_right h]
theorem chain_lt {cut : Nat → Nat} (hc : ∀ y, y < M → cut y < M) : ∀ (k : Nat) (s : List UInt8) (x : Nat), x < M → chain cut k s x < M
  | 0, _, _, h => h
  | k + 1, s, x, h => by
    unfold chain
    split
    · exact h
    · exact chain_lt hc k _ _ (hc _ (stp_lt _ _))
theorem cut_lt (w : Nat) : ∀ y, y < M → y % 2 ^ w < M := fun y h => Nat.lt_of_le_of_lt (Nat.mod_le _ _) h
theorem hash_lt (w : Nat) (s : List UInt8) : hash (fun y => y % 2 ^ w) s < M := cut_lt w _ (stp_lt _ _)
theorem andm {r w : Nat} (hr : r < M) (hw : w ≤ 64) : bits .and .u64 (r : Int) ((2 ^ w - 1 : Nat) : Int) = ((r % 2 ^ w : Nat) : Int) := by
  have h3 : (2 : Nat) ^ w ≤ 2 ^ 64 := Nat.pow_le_pow_right (by omega) hw
  have h0 : (0 : Nat) < 2 ^ w := Nat.pow_pos (by omega)
  have hM : M = 2 ^ 64 := M_pow
  rw [u64_and_nat r (2 ^ w - 1) hr (by show _ < M; omega), Nat.and_two_pow_sub_one_eq_mod]
theorem msum_go (w : Nat) (hw : w ≤ 64) (kk : Int → Option Int) (fu : Nat) : ∀ (k : Nat) (s : List UInt8) (x : Nat), x < M → s.length < k →
    f_mix_sum_L7 ((2 ^ w - 1 : Nat) : Int) kk fu k s (x : Int) = kk ((chain (fun y => y % 2 ^ w) s.length s x : Nat) : Int)
  | k + 1, s, x, hx, hk => by
    rw [f_mix_sum_L7]
    by_cases hs : s = []
    · subst hs
      rw [cond_ff (by rfl), chain_nil]
    · have hmin : Nat.min s.length 8 ≤ s.length := Nat.min_le_left _ _
      have hp : 0 < s.length := List.length_pos_iff.2 hs
      have h8 : (s.take 8).length ≤ 8 := by rw [List.length_take]; omega
      rw [cond_tt (by simpa using hs), req_pos ⟨by omega, by omega⟩]
      have hb : f__binary_littleEndian__Uint64 fu () (lA8u8 (cpA8u8 zer s)) = some ((leN (s.take 8) : Nat) : Int) := by
        rw [le64_ok fu _ (lcp_len s), lcp, leN_zeros]
      unfold zer at hb
      rw [hb, opt_of, mstep_ok fu hx (leN_lt8 _ h8), opt_of, andm (stp_lt _ _) hw, Int.toNat_natCast, dropmin]
      rw [msum_go w hw kk fu k (s.drop 8) _ (cut_lt w _ (stp_lt _ _)) (by rw [List.length_drop]; omega), chain_step _ hs]
theorem msum_ok (w : Nat) (hw : w ≤ 64) (fu : Nat) (s : List UInt8) (hf : s.length < fu) (h63 : s.length ≤ 9223372036854775807) : f_mix_sum fu s ((2 ^ w - 1 : Nat) : Int) = some ((hash (fun y => y % 2 ^ w) s : Nat) : Int) := by
  unfold f_mix_sum
  rw [lt_of]
  rw [show (0 : Int) = ((0 : Nat) : Int) from rfl, msum_go w hw _ fu fu s 0 M_pos hf]
  rw [wi (by unfold M; omega), mstep_ok fu (chain_lt (cut_lt w) _ _ _ M_pos) (by unfold M; omega), opt_of, andm (stp_lt _ _) hw]
  rfl
theorem mSum_ok (fu : Nat) (s : List UInt8) (hf : s.length < fu) (h63 : s.length ≤ 9223372036854775807) : f_mix_Sum fu s = some ((hash (fun y => y % 2 ^ 64) s : Nat) : Int) := by
  unfold f_mix_Sum
  rw [show (18446744073709551615 : Int) = ((2 ^ 64 - 1 : Nat) : Int) from rfl, msum_ok 64 (by omega) fu s hf h63, opt_of]
def idOf (s : List UInt8) : A8u8 := ofA8u8 (beBytes 8 (hash (fun y => y % 2 ^ 64) s))
theorem be8_len (n : Nat) : (beBytes 8 n).length = 8 := beBytes_length 8 n
theorem cpbe (n : Nat) : cpA8u8 zer (beBytes 8 n) = ofA8u8 (beBytes 8 n) := by
  unfold cpA8u8
  rw [List.take_of_length_le (by rw [be8_len]; exact Nat.le_refl _), be8_len, show (lA8u8 zer).drop 8 = [] from rfl, List.append_nil]
theorem mID_ok (fu : Nat) (s : List UInt8) (hf : s.length < fu) (h63 : s.length ≤ 9223372036854775807) : f_mix_ID fu s = some (idOf s) := by
  unfold f_mix_ID
  rw [mSum_ok fu s hf h63, opt_of, req_pos ⟨by omega, by have := hash_lt 64 s; unfold M at this; omega⟩, Int.toNat_natCast]
  exact congrArg some (cpbe _)
theorem rcut_ok (fu : Nat) {y w : Nat} (hy : y < M) (hw : w ≤ 64) : f_lumref_Narrow_1 fu (y : Int) (w : Int) = some ((y % 2 ^ w : Nat) : Int) := by
  unfold f_lumref_Narrow_1
  by_cases h : w = 64
  · subst h
    rw [cond_tt (by rfl), Nat.mod_eq_of_lt (show y < 2 ^ 64 from hy)]
  · have h3 : (2 : Nat) ^ w ≤ 2 ^ 63 := Nat.pow_le_pow_right (by omega) (by omega)
    have h0 : (0 : Nat) < 2 ^ w := Nat.pow_pos (by omega)
    have e : IntKind.u64.wrap ((1 : Int) * 2 ^ min ((w : Int)).toNat (IntKind.bits .u64)) = ((2 ^ w : Nat) : Int) := by
      have := shl_nat (x := 1) (m := w) (j := (w : Int)) (k := .u64) rfl (show w ≤ 64 by omega)
      rw [show (1 : Int) * 2 ^ min ((w : Int)).toNat (IntKind.bits .u64) = ((1 * 2 ^ w : Nat) : Int) from this, wi (by unfold M; omega), Nat.one_mul]
    rw [cond_ff (by rw [beq_eq_false_iff_ne]; omega), req_pos (by omega), e, req_pos (by omega)]
    rfl
theorem bAtN {s : List UInt8} {j : Nat} (h : j < s.length) : En.bAt s (j : Int) = ((s[j].toNat : Nat) : Int) := by
  unfold En.bAt
  rw [Int.toNat_natCast, List.getD_eq_getElem?_getD, List.getElem?_eq_getElem h]; rfl
theorem blk_go (l : List UInt8) (hl : 8 ≤ l.length) (kk : Int → Option Int) : ∀ (n k : Nat), n ≤ 8 → n < k → f_lumref_Narrow_L27 l kk k ((leN ((l.take 8).drop n) : Nat) : Int) ((n : Int) - 1) = kk ((leN (l.take 8) : Nat) : Int)
  | 0, k + 1, _, _ => by
    rw [f_lumref_Narrow_L27, cond_ff (decide_eq_false (by omega))]; rfl
  | n + 1, k + 1, hn, hk => by
    have e : ((n + 1 : Nat) : Int) - 1 = (n : Int) := by omega
    have hlt : n < (l.take 8).length := by rw [List.length_take]; omega
    have hv : leN ((l.take 8).drop n) = 256 * leN ((l.take 8).drop (n + 1)) + l[n].toNat := by
      rw [List.drop_eq_getElem_cons hlt, List.getElem_take]
      show _ + _ = _
      omega
    have hlen : ((l.take 8).drop n).length ≤ 8 := by rw [List.length_drop, List.length_take]; omega
    have hM := leN_lt8 _ hlen
    rw [hv] at hM
    have hbl := l[n].toNat_lt
    rw [f_lumref_Narrow_L27, e, cond_tt (decide_eq_true (by omega)), req_pos ⟨by omega, by omega⟩, bAtN (by omega), wi (x := l[n].toNat) (by unfold M; omega)]
    rw [show (256 : Int) * ((leN ((l.take 8).drop (n + 1)) : Nat) : Int) = ((256 * leN ((l.take 8).drop (n + 1)) : Nat) : Int) from by omega, wi (by omega), ← Int.natCast_add, wi hM, ← hv]
    rw [w64 (by omega) (by omega)]
    exact blk_go l hl kk n k (by omega) (by omega)
theorem rsum_go (w : Nat) (hw : w ≤ 64) (kk : Int → Option Int) (fu : Nat) (hfu : 65 ≤ fu) : ∀ (k : Nat) (s : List UInt8) (x : Nat), x < M → s.length < k →
    f_lumref_Narrow_L13 (w : Int) kk fu k (x : Int) (pad s) = kk ((chain (fun y => y % 2 ^ w) s.length s x : Nat) : Int)
  | k + 1, s, x, hx, hk => by
    rw [f_lumref_Narrow_L13, lt_of]
    dsimp only
    by_cases hs : s = []
    · subst hs
      rw [cond_ff (by rfl), chain_nil]
    · obtain ⟨p1, p2, p3⟩ := pad_take s hs
      have hp : 0 < s.length := List.length_pos_iff.2 hs
      have h8 : (s.take 8).length ≤ 8 := by rw [List.length_take]; omega
      rw [cond_tt (by have := mt (pad_nil s).1 hs; simpa using this), lt_of, lt_of]
      dsimp only
      have hb := blk_go (pad s) p2 (fun j19i8 => (opt (f_lumref_Step fu (x : Int) j19i8) fun (r22 : Int) => (opt (f_lumref_Narrow_1 fu r22 (w : Int)) fun (r24 : Int) => (req (0 ≤ (8 : Int) ∧ (8 : Int) ≤ ((pad s).length : Int)) (f_lumref_Narrow_L13 (w : Int) kk fu k r24 ((pad s).drop ((8 : Int)).toNat)))))) 8 fu (by omega) (by omega)
      have h0 : leN (((pad s).take 8).drop 8) = 0 := by rw [List.drop_of_length_le (by rw [List.length_take]; omega)]; rfl
      rw [h0] at hb
      refine Eq.trans hb ?_
      rw [p1, rstep_ok fu hfu hx (leN_lt8 _ h8), opt_of, rcut_ok fu (stp_lt _ _) hw, opt_of, req_pos ⟨by omega, by omega⟩, show ((8 : Int)).toNat = 8 from rfl, p3]
      rw [rsum_go w hw kk fu hfu k (s.drop 8) _ (cut_lt w _ (stp_lt _ _)) (by rw [List.length_drop]; omega), chain_step _ hs]
theorem rep_zero : ∀ k : Nat, repeatL [0] k = List.replicate k 0
  | 0 => rfl
  | k + 1 => by show [0] ++ repeatL [0] k = _; rw [rep_zero k]; rfl
theorem repeat_ok (fu k : Nat) (hk : k ≤ 8) : f_strings_Repeat fu ([0] : List UInt8) (k : Int) = some (List.replicate k 0) := by
  unfold f_strings_Repeat
  rw [req_pos ⟨by omega, by omega, by rw [Int.toNat_natCast]; simp; omega⟩, Int.toNat_natCast, rep_zero]
theorem rnarrow_ok (w : Nat) (hw : w ≤ 64) (fu : Nat) (s : List UInt8) (hfu : 65 ≤ fu) (hf : s.length < fu) (hb : s.length ≤ 9223372036854775800) : f_lumref_Narrow fu (w : Int) s = some ((hash (fun y => y % 2 ^ w) s : Nat) : Int) := by
  unfold f_lumref_Narrow
  have e1 : (((s.length : Int)).tmod (8 : Int)) = ((s.length % 8 : Nat) : Int) := rfl
  have e2 : IntKind.i64.wrap ((8 : Int) - ((s.length % 8 : Nat) : Int)) = ((8 - s.length % 8 : Nat) : Int) := by rw [w64 (by omega) (by omega)]; omega
  have e3 : (((8 - s.length % 8 : Nat) : Int)).tmod (8 : Int) = (((8 - s.length % 8) % 8 : Nat) : Int) := rfl
  rw [e1, e2, e3, repeat_ok fu _ (by omega), opt_of, req_pos (by rw [List.length_replicate]; omega), lt_of]
  rw [show (s ++ List.replicate ((8 - s.length % 8) % 8) (0 : UInt8)) = pad s from rfl, show (0 : Int) = ((0 : Nat) : Int) from rfl, rsum_go w hw _ fu hfu fu s 0 M_pos hf]
  rw [wi (by unfold M; omega), rstep_ok fu hfu (chain_lt (cut_lt w) _ _ _ M_pos) (by unfold M; omega), opt_of, rcut_ok fu (stp_lt _ _) hw, opt_of]
  rfl
theorem p8 : 256 ^ 8 = 18446744073709551616 := by decide
theorem rdigits_ok : ∀ (k n fu : Nat), n < 256 ^ k → k ≤ 8 → k < fu → f_lumref_digits fu (n : Int) = some (digF k n)
  | 0, n, fu + 1, h, _, _ => by
    have : n = 0 := by simpa using h
    subst this; rfl
  | k + 1, n, fu + 1, h, h8, hf => by
    rw [f_lumref_digits]
    by_cases h0 : n = 0
    · subst h0; rfl
    have hn8 : n < 18446744073709551616 := by
      rw [← p8]; exact Nat.lt_of_lt_of_le h (Nat.pow_le_pow_right (by omega) h8)
    have e1 : ((n : Int)).tdiv 256 = ((n / 256 : Nat) : Int) := by rw [Int.tdiv_eq_ediv_of_nonneg (by omega)]; omega
    have e2 : ((n : Int)).tmod 256 = ((n % 256 : Nat) : Int) := by rw [Int.tmod_eq_emod_of_nonneg (by omega)]; omega
    have hl := digF_len k (n / 256)
    rw [cond_ff (by rw [beq_eq_false_iff_ne]; omega), e1, e2, wi (by unfold M; omega), rdigits_ok k (n / 256) fu (div_lt h) (by omega) (by omega), opt_of, u8w_in (by omega), req_pos ⟨by omega, by omega⟩, req_pos (by rw [List.length_singleton]; omega), Int.toNat_natCast]
    show _ = some (if n = 0 then [] else digF k (n / 256) ++ [(n % 256).toUInt8])
    rw [if_neg h0]
theorem drop_zeros : ∀ l : List UInt8, List.replicate (l.length - (trimLeftB l 0).length) 0 ++ trimLeftB l 0 = l
  | [] => rfl
  | b :: l => by
    unfold trimLeftB
    rw [List.dropWhile_cons]
    have ih := drop_zeros l
    unfold trimLeftB at ih
    have hle : (List.dropWhile (fun x => x == 0) l).length ≤ l.length := (List.dropWhile_sublist _).length_le
    by_cases h : b = 0
    · subst h
      rw [if_pos (by rfl), List.length_cons, show l.length + 1 - (List.dropWhile (fun x => x == 0) l).length = (l.length - (List.dropWhile (fun x => x == 0) l).length) + 1 by omega, List.replicate_succ, List.cons_append, ih]
    · rw [if_neg (by simpa using h)]
      simp
theorem wide_ok (fu n : Nat) (hn : n < M) (hf : 9 ≤ fu) : f_lumref_wide fu (n : Int) = some (beBytes 8 n) := by
  unfold f_lumref_wide
  have hn' : n < 256 ^ 8 := by rw [p8]; exact hn
  have hl := digF_len 8 n
  rw [rdigits_ok 8 n fu hn' (by omega) (by omega), opt_of]
  rw [show IntKind.i64.wrap ((8 : Int) - ((digF 8 n).length : Int)) = ((8 - (digF 8 n).length : Nat) : Int) from by rw [w64 (by omega) (by omega)]; omega, repeat_ok fu _ (by omega), opt_of, req_pos (by rw [List.length_replicate]; omega)]
  have h := drop_zeros (beBytes 8 n)
  rw [trim_be hn', be8_len] at h
  rw [h]
theorem rID_ok (fu : Nat) (s : List UInt8) (hfu : 65 ≤ fu) (hf : s.length < fu) (hb : s.length ≤ 9223372036854775800) : f_lumref_ID fu s = some (idOf s) := by
  unfold f_lumref_ID
  rw [show (64 : Int) = ((64 : Nat) : Int) from rfl, rnarrow_ok 64 (by omega) fu s hfu hf hb, opt_of, wide_ok fu _ (hash_lt 64 s) (by omega), opt_of, req_pos (by rw [be8_len]; omega), req_pos (by rw [be8_len]; omega)]
  rfl
end MX
end Go.Proofs.YtpakblkldklbmaaDoor.PFetchTexts
namespace Go.Proofs.YtpakblkldklbmaaDoor.PPut
open Go.RowKit YtpakblkldklbmaaDoor.En YtpakblkldklbmaaDoor Num Go.Lib
set_option linter.unusedVariables false
set_option linter.unusedSimpArgs false
theorem iw {n : Nat} (h : n ≤ 9223372036854775807) : IntKind.i64.wrap (n : Int) = (n : Int) := w64 (by omega) (by omega)
theorem uw {n : Nat} (h : n < 18446744073709551616) : IntKind.u64.wrap (n : Int) = (n : Int) := by
  unfold IntKind.wrap
  simp [IntKind.signed, IntKind.bits]
  omega
theorem bAt_lt {s : List UInt8} {j : Nat} (h : j < s.length) : En.bAt s (j : Int) = ((s[j].toNat : Nat) : Int) := by
  unfold En.bAt
  rw [Int.toNat_natCast, List.getD_eq_getElem?_getD, List.getElem?_eq_getElem h]; rfl
theorem p8 : 256 ^ 8 = 18446744073709551616 := by decide
theorem p7 : 256 ^ 7 = 72057594037927936 := by decide
theorem value_go (s : List UInt8) (hs : s.length ≤ 8) (kk : Int → Option Int) : ∀ (d j fu : Nat), s.length - j = d → j ≤ s.length → d < fu →
    f_num_value_L5 s kk fu ((beNat (s.take j) : Nat) : Int) (j : Int) = kk ((beNat s : Nat) : Int)
  | 0, j, fu + 1, hd, hj, _ => by
    rw [f_num_value_L5, cond_ff (dge (by omega)), List.take_of_length_le (by omega)]
  | d + 1, j, fu + 1, hd, hj, hf => by
    have hlt : j < s.length := by omega
    have hl : (s.take j).length ≤ 7 := by rw [List.length_take]; omega
    have h7 := beNat_lt' hl
    rw [p7] at h7
    have hb := s[j].toNat_lt
    rw [f_num_value_L5, cond_tt (dlt (by omega)), req_pos ⟨by omega, by omega⟩, bAt_lt hlt, uw (n := s[j].toNat) (by omega), wsucc (by omega)]
    have e1 : ((beNat (s.take j) : Nat) : Int) * 2 ^ min ((8 : Int)).toNat (IntKind.bits .u64) = ((beNat (s.take j) * 2 ^ 8 : Nat) : Int) := shl_nat (m := 8) rfl (by decide)
    rw [e1, uw (by omega), u64_or_nat _ _ (by omega) (by omega)]
    have e2 : beNat (s.take j) * 2 ^ 8 ||| s[j].toNat = beNat (s.take (j + 1)) := by
      rw [beNat_take hlt, Nat.mul_comm _ (2 ^ 8), ← Nat.two_pow_add_eq_or_of_lt (i := 8) (by omega)]
    rw [e2]
    exact value_go s hs kk d (j + 1) fu (by omega) (by omega) (by omega)
theorem value_ok (s : List UInt8) (hs : s.length ≤ 8) (fu : Nat) (hf : 9 ≤ fu) : f_num_value fu s = some ((beNat s : Nat) : Int) := by
  unfold f_num_value
  rw [lt_of]
  exact value_go s hs _ s.length 0 fu (by omega) (by omega) (by omega)
theorem number_ok : ∀ (k : Nat) (s : List UInt8) (fu : Nat), s.length = k → k ≤ 8 → k < fu → f_lumref_number fu s = some ((beNat s : Nat) : Int)
  | 0, s, fu + 1, hk, _, _ => by
    have : s = [] := List.eq_nil_of_length_eq_zero hk
    subst this; rfl
  | k + 1, s, fu + 1, hk, h8, hf => by
    have hne : s ≠ [] := by rintro rfl; simp at hk
    have e : IntKind.i64.wrap ((s.length : Int) - (1 : Int)) = (k : Int) := by rw [w64 (by omega) (by omega)]; omega
    have hlk : k < s.length := by omega
    have ht : (s.take k).length = k := by rw [List.length_take]; omega
    have h7 := beNat_lt' (l := s.take k) (k := 7) (by omega)
    rw [p7] at h7
    have hb := s[k].toNat_lt
    rw [f_lumref_number, cond_ff (beq_eq_false_iff_ne.2 hne), e, req_pos ⟨by omega, by omega⟩, Int.toNat_natCast, number_ok k (s.take k) fu ht (by omega) (by omega), opt_of, req_pos ⟨by omega, by omega⟩, bAt_lt hlk]
    have e1 : (256 : Int) * ((beNat (s.take k) : Nat) : Int) = ((256 * beNat (s.take k) : Nat) : Int) := by omega
    rw [e1, uw (by omega), uw (n := s[k].toNat) (by omega)]
    have e2 : ((256 * beNat (s.take k) : Nat) : Int) + ((s[k].toNat : Nat) : Int) = ((beNat s : Nat) : Int) := by
      have := beNat_take hlk
      rw [List.take_of_length_le (by omega : s.length ≤ k + 1)] at this
      omega
    rw [e2, uw]
    have := beNat_lt' (l := s) (k := 8) (by omega)
    rw [p8] at this; exact this
theorem digits_ok (n : Nat) (hn : n < 18446744073709551616) (fu : Nat) : f_num_digits fu (n : Int) = some (digF 8 n) := by
  unfold f_num_digits f_binary_BEAppendUint64_nil
  rw [req_pos ⟨by omega, by omega⟩, opt_of, Int.toNat_natCast]
  show (opt (req ((0 : UInt8).toNat < 128) (some (trimLeftB (beBytes 8 n) 0))) fun r5 => some r5) = _
  rw [req_pos (by decide), opt_of, trim_be (by rw [p8]; exact hn)]
theorem rdigits_ok : ∀ (k n fu : Nat), n < 256 ^ k → k ≤ 8 → k < fu → f_lumref_digits fu (n : Int) = some (digF k n)
  | 0, n, fu + 1, h, _, _ => by
    have : n = 0 := by simpa using h
    subst this; rfl
  | k + 1, n, fu + 1, h, h8, hf => by
    rw [f_lumref_digits]
    by_cases h0 : n = 0
    · subst h0; rfl
    have hn8 : n < 18446744073709551616 := by
      rw [← p8]; exact Nat.lt_of_lt_of_le h (Nat.pow_le_pow_right (by omega) h8)
    have e1 : ((n : Int)).tdiv 256 = ((n / 256 : Nat) : Int) := by rw [Int.tdiv_eq_ediv_of_nonneg (by omega)]; omega
    have e2 : ((n : Int)).tmod 256 = ((n % 256 : Nat) : Int) := by rw [Int.tmod_eq_emod_of_nonneg (by omega)]; omega
    have hl := digF_len k (n / 256)
    rw [cond_ff (by rw [beq_eq_false_iff_ne]; omega), e1, e2, uw (by omega), rdigits_ok k (n / 256) fu (div_lt h) (by omega) (by omega), opt_of, u8w_in (by omega), req_pos ⟨by omega, by omega⟩, req_pos (by rw [List.length_singleton]; omega), Int.toNat_natCast]
    show _ = some (if n = 0 then [] else digF k (n / 256) ++ [(n % 256).toUInt8])
    rw [if_neg h0]
def putV (n : Nat) : List UInt8 := UInt8.ofNat (digF 8 n).length :: digF 8 n
theorem put_tail (d : List UInt8) (hd : d.length ≤ 8) : (req (0 ≤ (IntKind.u8.wrap (d.length : Int)) ∧ (IntKind.u8.wrap (d.length : Int)) ≤ 255) (req (([(UInt8.ofNat ((IntKind.u8.wrap (d.length : Int))).toNat)]).length + d.length ≤ 9223372036854775807) (some (([(UInt8.ofNat ((IntKind.u8.wrap (d.length : Int))).toNat)]) ++ d)))) = some (UInt8.ofNat d.length :: d) := by
  rw [u8w_in (by omega), req_pos ⟨by omega, by omega⟩, req_pos (by rw [List.length_singleton]; omega), Int.toNat_natCast]; rfl
theorem put_ok (n : Nat) (hn : n < 18446744073709551616) (fu : Nat) : f_num_Put fu (n : Int) = some (putV n) := by
  unfold f_num_Put putV
  rw [digits_ok n hn, opt_of, put_tail _ (digF_len 8 n)]
theorem rput_ok (n : Nat) (hn : n < 18446744073709551616) (fu : Nat) (hf : 9 ≤ fu) : f_lumref_Put fu (n : Int) = some (putV n) := by
  unfold f_lumref_Put putV
  rw [rdigits_ok 8 n fu (by rw [p8]; exact hn) (by omega) (by omega), opt_of, put_tail _ (digF_len 8 n)]
def getV : List UInt8 → Int × Int × Int
  | [] => (0, 0, 3)
  | b :: t => if 8 < b.toNat then (0, 0, 4) else if t.length < b.toNat then (0, 0, 3) else if (t.take b.toNat).take 1 = [0] then (0, 0, 4) else ((beNat (t.take b.toNat) : Nat), (1 + b.toNat : Nat), 0)
theorem getV_cons (b : UInt8) (t : List UInt8) : getV (b :: t) = if 8 < b.toNat then (0, 0, 4) else if t.length < b.toNat then (0, 0, 3) else if (t.take b.toNat).take 1 = [0] then (0, 0, 4) else (((beNat (t.take b.toNat) : Nat) : Int), ((1 + b.toNat : Nat) : Int), (0 : Int)) := rfl
theorem cut_b (b : UInt8) (t : List UInt8) : cut (b :: t) 1 ((1 + b.toNat : Nat) : Int) = t.take b.toNat := by
  unfold cut
  rw [Int.toNat_natCast, Nat.add_comm]; rfl
theorem b0 (b : UInt8) (t : List UInt8) : En.bAt (b :: t) 0 = ((b.toNat : Nat) : Int) := rfl
theorem wb (b : UInt8) : IntKind.i64.wrap ((1 : Int) + ((b.toNat : Nat) : Int)) = ((1 + b.toNat : Nat) : Int) := by
  have := b.toNat_lt
  rw [w64 (by omega) (by omega)]; omega
theorem get_ok (s : List UInt8) (fu : Nat) (hf : 9 ≤ fu) : f_num_Get fu s = some (getV s) := by
  unfold f_num_Get
  cases s with
  | nil => rfl
  | cons b t =>
    have hb := b.toNat_lt
    have hlen : (((b :: t).length : Nat) : Int) = (t.length : Int) + 1 := by simp
    rw [cond_ff (by rfl), req_pos ⟨by omega, by omega⟩, b0, iw (n := b.toNat) (by omega), wb]
    rw [getV_cons]
    by_cases h1 : 8 < b.toNat
    · rw [cond_tt (decide_eq_true (by omega)), if_pos h1]
    rw [cond_ff (decide_eq_false (by omega)), if_neg h1]
    by_cases h2 : t.length < b.toNat
    · rw [cond_tt (dlt (by omega)), if_pos h2]
    rw [cond_ff (dge (by omega)), if_neg h2, lt_of]
    have tail : ∀ q : Bool, (bif q then (some ((0 : Int), (0 : Int), (4 : Int))) else (req (0 ≤ (1 : Int) ∧ (1 : Int) ≤ ((1 + b.toNat : Nat) : Int) ∧ ((1 + b.toNat : Nat) : Int) ≤ ((b :: t).length : Int)) (opt (f_num_value fu (cut (b :: t) (1 : Int) ((1 + b.toNat : Nat) : Int))) fun (r10 : Int) => (some (r10, ((1 + b.toNat : Nat) : Int), (0 : Int)))))) = some (bif q then ((0 : Int), (0 : Int), (4 : Int)) else (((beNat (t.take b.toNat) : Nat) : Int), ((1 + b.toNat : Nat) : Int), (0 : Int))) := by
      intro q
      cases q with
      | true => rfl
      | false =>
        rw [cond_ff rfl, req_pos ⟨by omega, by omega, by omega⟩, cut_b, value_ok _ (by rw [List.length_take]; omega) fu hf, opt_of]; rfl
    by_cases h3 : 0 < b.toNat
    · rw [cond_tt (decide_eq_true (by omega)), req_pos ⟨by omega, by omega⟩]
      refine (tail _).trans ?_
      congr 1
      cases t with
      | nil => exact absurd h3 (by simp at h2; omega)
      | cons c u =>
        have e : En.bAt (b :: c :: u) 1 = ((c.toNat : Nat) : Int) := rfl
        have e3 : ((c :: u).take b.toNat).take 1 = [c] := by
          obtain ⟨m, hm⟩ : ∃ m, b.toNat = m + 1 := ⟨b.toNat - 1, by omega⟩
          rw [hm]; rfl
        rw [e, e3]
        by_cases h4 : c = 0
        · subst h4; rfl
        · have h5 : c.toNat ≠ 0 := fun h => h4 (UInt8.toNat_inj.1 h)
          rw [cond_ff (by rw [beq_eq_false_iff_ne]; omega), if_neg (by simpa using h4)]
    · rw [cond_ff (decide_eq_false (by omega))]
      refine (tail _).trans ?_
      have h0 : b.toNat = 0 := by omega
      rw [h0, if_neg (by simp)]; rfl
theorem hp_ok (fu : Nat) (s : List UInt8) (c : UInt8) : f_strings_HasPrefix fu s [c] = some (decide (s.take 1 = [c])) := by
  unfold f_strings_HasPrefix f_stringslite_HasPrefix
  rw [lt_of]
  cases s with
  | nil => rfl
  | cons a t =>
    rw [cond_tt (decide_eq_true (by simp; omega)), req_pos ⟨by simp, by simp; omega⟩, opt_of]
    congr 1
    show (([a] : List UInt8) == [c]) = decide ([a] = [c])
    by_cases h : a = c
    · subst h; simp
    · simp [h]
theorem rget_ok (s : List UInt8) (fu : Nat) (hf : 9 ≤ fu) : f_lumref_Get fu s = some (getV s) := by
  unfold f_lumref_Get
  cases s with
  | nil => rfl
  | cons b t =>
    have hb := b.toNat_lt
    have hlen : (((b :: t).length : Nat) : Int) = (t.length : Int) + 1 := by simp
    rw [cond_ff (by rw [beq_eq_false_iff_ne]; omega), req_pos ⟨by omega, by omega⟩, b0]
    rw [getV_cons]
    by_cases h1 : 8 < b.toNat
    · rw [cond_tt (decide_eq_true (by omega)), if_pos h1]
    rw [cond_ff (decide_eq_false (by omega)), if_neg h1, req_pos ⟨by omega, by omega⟩, iw (n := b.toNat) (by omega), wb]
    by_cases h2 : t.length < b.toNat
    · rw [cond_tt (dlt (by omega)), if_pos h2]
    rw [cond_ff (dge (by omega)), if_neg h2, req_pos ⟨by omega, by omega, by omega⟩, cut_b, hp_ok, opt_of]
    by_cases h4 : (t.take b.toNat).take 1 = [0]
    · rw [if_pos h4, decide_eq_true h4]; rfl
    · rw [if_neg h4, decide_eq_false h4, cond_ff rfl, req_pos ⟨by omega, by omega, by omega⟩, number_ok _ _ fu rfl (by rw [List.length_take]; omega) (by rw [List.length_take]; omega), opt_of]
end Go.Proofs.YtpakblkldklbmaaDoor.PPut
namespace Go.Proofs.YtpakblkldklbmaaDoor.PFetchTexts
open Go.RowKit YtpakblkldklbmaaDoor.En YtpakblkldklbmaaDoor Num Mix Go.Lib PPut
set_option linter.unusedVariables false
set_option linter.unusedSimpArgs false
namespace JF
def IdF (F : List UInt8 → A8u8) : Prop := ∀ (fu : Nat) (s : List UInt8), 65 ≤ fu → s.length < fu → s.length ≤ 9223372036854775800 → f_mix_ID fu s = some (F s) ∧ f_lumref_ID fu s = some (F s)
theorem id_ex : ∃ F, IdF F := ⟨MX.idOf, fun fu s h1 h2 h3 => ⟨MX.mID_ok fu s h2 (by omega), MX.rID_ok fu s h1 h2 h3⟩⟩
theorem beFrom_ge : ∀ (l : List UInt8) (acc : Nat), acc ≤ beFrom acc l
  | [], acc => Nat.le_refl _
  | b :: l, acc => by
    have := beFrom_ge l (acc * 256 + b.toNat)
    show acc ≤ beFrom (acc * 256 + b.toNat) l
    omega
theorem be_pos {b : UInt8} {t : List UInt8} (h : b ≠ 0) : 0 < beNat (b :: t) := by
  have h1 := beFrom_ge t (0 * 256 + b.toNat)
  have h2 : b.toNat ≠ 0 := fun e => h (UInt8.toNat_inj.1 (by rw [e]; rfl))
  show 0 < beFrom (0 * 256 + b.toNat) t
  omega
theorem digF_be : ∀ (k : Nat) (d : List UInt8), d.length ≤ k → d.take 1 ≠ [0] → digF k (beNat d) = d
  | 0, d, hl, _ => by
    have : d = [] := List.eq_nil_of_length_eq_zero (by omega)
    subst this; rfl
  | k + 1, d, hl, hz => by
    by_cases hd : d = []
    · subst hd; rfl
    have hpos : 0 < beNat d := by
      match d, hd, hz with
      | b :: t, _, hz => exact be_pos (fun e => hz (by rw [e]; rfl))
    obtain ⟨d', b, rfl⟩ : ∃ d' b, d = d' ++ [b] := ⟨d.dropLast, d.getLast hd, (List.dropLast_concat_getLast hd).symm⟩
    have hb := b.toNat_lt
    rw [beNat_snoc] at hpos ⊢
    unfold digF
    rw [if_neg (by omega), show (beNat d' * 256 + b.toNat) / 256 = beNat d' by omega, show (beNat d' * 256 + b.toNat) % 256 = b.toNat by omega]
    have hl' : d'.length ≤ k := by rw [List.length_append, List.length_singleton] at hl; omega
    have hz' : d'.take 1 ≠ [0] := by
      intro e
      apply hz
      cases d' with
      | nil => cases e
      | cons c t =>
        show [c] = [0]
        exact e
    rw [digF_be k d' hl' hz']
    congr 1
    exact congrArg (fun x => [x]) UInt8.ofNat_toNat
theorem putV_len (n : Nat) : (putV n).length ≤ 9 ∧ 1 ≤ (putV n).length := by
  have := digF_len 8 n
  unfold putV
  rw [List.length_cons]
  omega
theorem getV_canon (s : List UInt8) (h : (getV s).2.2 = 0) : ∃ n k : Nat, getV s = ((n : Int), (k : Int), 0) ∧ k ≤ s.length ∧ s.take k = putV n ∧ n < 18446744073709551616 ∧ 1 ≤ k ∧ k ≤ 9 := by
  cases s with
  | nil => cases h
  | cons b t =>
    rw [getV_cons] at h ⊢
    split at h
    · cases h
    · split at h
      · cases h
      · split at h
        · cases h
        · rename_i h1 h2 h3
          rw [if_neg h1, if_neg h2, if_neg h3]
          have hl : (t.take b.toNat).length = b.toNat := by rw [List.length_take]; omega
          refine ⟨_, _, rfl, by rw [List.length_cons]; omega, ?_, ?_, by omega, by omega⟩
          · rw [Nat.add_comm, List.take_succ_cons]
            unfold putV
            rw [digF_be 8 _ (by omega) h3, hl, UInt8.ofNat_toNat]
          · have := beNat_lt' (l := t.take b.toNat) (k := 8) (by omega)
            rw [p8] at this; exact this
def frameV (F : List UInt8 → A8u8) (s : List UInt8) : List UInt8 := (putV s.length ++ s) ++ lA8u8 (F (putV s.length ++ s))
theorem l8 (x : A8u8) : (lA8u8 x).length = 8 := rfl
theorem frameV_len (F : List UInt8 → A8u8) (s : List UInt8) : (frameV F s).length = (putV s.length).length + s.length + 8 := by
  unfold frameV; rw [List.length_append, List.length_append, l8]
theorem frame_ok {F : List UInt8 → A8u8} (hF : IdF F) (fu : Nat) (hfu : 6000 ≤ fu) (s : List UInt8) (hs : s.length ≤ 4096) : f_journal_Frame fu s = some (frameV F s, 0) := by
  have hp := putV_len s.length
  unfold f_journal_Frame
  rw [cond_ff (decide_eq_false (by omega)), uw (n := s.length) (by omega), put_ok s.length (by omega) fu, opt_of, req_pos (by omega), (hF fu (putV s.length ++ s) (by omega) (by rw [List.length_append]; omega) (by rw [List.length_append]; omega)).1, opt_of, req_pos (by rw [List.length_append, l8]; omega)]
  rfl
theorem frame_large (fu : Nat) (s : List UInt8) (hs : 4096 < s.length) : f_journal_Frame fu s = some ([], 2) := by
  unfold f_journal_Frame
  rw [cond_tt (decide_eq_true (by omega))]
theorem rframe_ok {F : List UInt8 → A8u8} (hF : IdF F) (fu : Nat) (hfu : 6000 ≤ fu) (s : List UInt8) (hs : s.length ≤ 4096) : f_lumref_Frame fu s = some (frameV F s) := by
  have hp := putV_len s.length
  unfold f_lumref_Frame
  rw [uw (n := s.length) (by omega), rput_ok s.length (by omega) fu (by omega), opt_of, req_pos (by omega), (hF fu (putV s.length ++ s) (by omega) (by rw [List.length_append]; omega) (by rw [List.length_append]; omega)).2, opt_of, req_pos (by rw [List.length_append, l8]; omega)]
  rfl
theorem cut_nat (s : List UInt8) (a b : Nat) : cut s (a : Int) (b : Int) = (s.take b).drop a := by unfold cut; rw [Int.toNat_natCast, Int.toNat_natCast]
theorem lof {l : List UInt8} (h : l.length = 8) : lA8u8 (ofA8u8 l) = l := MX.lof h
theorem of_l (x : A8u8) : ofA8u8 (lA8u8 x) = x := rfl
theorem sum_eq (X : A8u8) (l : List UInt8) (h : l.length = 8) : (X == ofA8u8 l) = (l == lA8u8 X) := by
  rw [Bool.eq_iff_iff, beq_iff_eq, beq_iff_eq]
  constructor
  · rintro rfl; exact (lof h).symm
  · rintro rfl; exact (of_l X).symm
theorem take_split (s : List UInt8) (e : Nat) (f : List UInt8) (hf : f.length = 8) : (s.take (e + 8) == s.take e ++ f) = ((s.take (e + 8)).drop e == f) := by
  have h : s.take (e + 8) = s.take e ++ (s.take (e + 8)).drop e := by
    have := (List.take_append_drop e (s.take (e + 8))).symm
    rw [List.take_take, Nat.min_eq_left (by omega)] at this
    exact this
  rw [Bool.eq_iff_iff, beq_iff_eq, beq_iff_eq]
  constructor
  · intro h2; rw [h2, List.drop_append]
    by_cases hl : e ≤ s.length
    · rw [List.length_take, Nat.min_eq_left hl, List.drop_of_length_le (by rw [List.length_take]; omega), Nat.sub_self]; rfl
    · exfalso
      have := congrArg List.length h2
      rw [List.length_take, List.length_append, List.length_take] at this
      omega
  · intro h2; rw [h2] at h; exact h
theorem scan_ok {F : List UInt8 → A8u8} (hF : IdF F) (a : List UInt8) (ha : a.length ≤ 1099511627776) (fu : Nat) (hfu : 2199023255552 ≤ fu) : ∀ (d at_ : Nat) (out : List (List UInt8)) (k q : Nat), at_ ≤ a.length → a.length - at_ ≤ d → d < k → d + 6000 < q → out.length + (a.length - at_) ≤ 1099511627776 →
    ∃ (l : List (List UInt8)) (m : Nat), f_lumref_Scan q (a.drop at_) = some (l, (m : Int)) ∧ f_journal_Scan_L3 a fu k out (at_ : Int) = some (out ++ l, ((at_ + m : Nat) : Int)) ∧ l.length ≤ a.length - at_ ∧ m ≤ a.length - at_ ∧ ∀ t ∈ l, t.length ≤ 4096 := by
  intro d
  induction d with
  | zero =>
    intro at_ out k q h1 h2 h3 h4 h5
    obtain ⟨k, rfl⟩ : ∃ k', k = k' + 1 := ⟨k - 1, by omega⟩
    obtain ⟨q, rfl⟩ : ∃ q', q = q' + 1 := ⟨q - 1, by omega⟩
    have hn : a.drop at_ = [] := List.drop_of_length_le (by omega)
    refine ⟨[], 0, ?_, ?_, by simp, by omega, by simp⟩
    · rw [hn, f_lumref_Scan, rget_ok [] q (by omega), opt_of, lt_of]; rfl
    · rw [f_journal_Scan_L3, req_pos ⟨by omega, by omega⟩, Int.toNat_natCast, hn, get_ok [] fu (by omega), opt_of, lt_of]
      show some (out, (at_ : Int)) = _
      rw [List.append_nil]; rfl
  | succ d ih =>
    intro at_ out k q h1 h2 h3 h4 h5
    obtain ⟨k, rfl⟩ : ∃ k', k = k' + 1 := ⟨k - 1, by omega⟩
    obtain ⟨q, rfl⟩ : ∃ q', q = q' + 1 := ⟨q - 1, by omega⟩
    obtain ⟨s, hs⟩ : ∃ s, s = a.drop at_ := ⟨_, rfl⟩
    have hsl : s.length = a.length - at_ := by rw [hs, List.length_drop]
    have stop1 : ∀ X : Option (List (List UInt8) × Int), X = some (out, (at_ : Int)) → X = some (out ++ [], ((at_ + 0 : Nat) : Int)) := by
      intro X hX; rw [hX, List.append_nil, Nat.add_zero]
    rw [f_journal_Scan_L3, req_pos ⟨by omega, by omega⟩, Int.toNat_natCast, ← hs, get_ok s fu (by omega), opt_of, f_lumref_Scan, rget_ok s q (by omega), opt_of]
    by_cases he : (getV s).2.2 = 0
    · obtain ⟨n, j, hg, hj, hput, hn, hj1, hj9⟩ := getV_canon s he
      rw [hg]
      simp only [lt_of]
      have z0 : ((0 : Int) != 0) = false := rfl
      by_cases hbig : n > 4096
      · rw [cond_ff z0, decide_eq_true (show ((n : Nat) : Int) > 4096 by omega), cond_tt rfl, cond_ff z0, cond_tt rfl, cond_tt rfl]
        exact ⟨[], 0, rfl, stop1 _ rfl, by simp, by omega, by simp⟩
      · have ew : IntKind.i64.wrap (((j : Nat) : Int) + (IntKind.i64.wrap ((n : Nat) : Int))) = ((j + n : Nat) : Int) := by rw [iw (by omega), ← Int.natCast_add, iw (by omega)]
        have ew8 : IntKind.i64.wrap (((j + n : Nat) : Int) + (8 : Int)) = ((j + n + 8 : Nat) : Int) := by
          rw [show ((j + n : Nat) : Int) + (8 : Int) = ((j + n + 8 : Nat) : Int) from by omega, iw (by omega)]
        have el : IntKind.u64.wrap (IntKind.i64.wrap ((s.length : Int) - ((j : Nat) : Int))) = ((s.length - j : Nat) : Int) := by
          rw [show (s.length : Int) - ((j : Nat) : Int) = ((s.length - j : Nat) : Int) from by omega, iw (by omega), uw (by omega)]
        rw [ew, ew8, el]
        rw [cond_ff z0, decide_eq_false (show ¬ ((n : Nat) : Int) > 4096 by omega), cond_ff rfl, cond_ff z0, cond_ff rfl]
        by_cases hshort : s.length - j < n
        · rw [decide_eq_true (show ((s.length - j : Nat) : Int) < ((n : Nat) : Int) by omega), cond_tt rfl, decide_eq_true (show ((s.length : Nat) : Int) < ((j + n + 8 : Nat) : Int) by omega), cond_tt rfl, cond_tt rfl]
          exact ⟨[], 0, rfl, stop1 _ rfl, by simp, by omega, by simp⟩
        · rw [decide_eq_false (show ¬ ((s.length - j : Nat) : Int) < ((n : Nat) : Int) by omega), cond_ff rfl]
          obtain ⟨t, ht⟩ : ∃ t, t = (s.take (j + n)).drop j := ⟨_, rfl⟩
          have htl : t.length = n := by rw [ht, List.length_drop, List.length_take]; omega
          have hpt : putV t.length ++ t = s.take (j + n) := by
            rw [htl, ← hput, ht]
            have := List.take_append_drop j (s.take (j + n))
            rw [List.take_take, Nat.min_eq_left (by omega)] at this
            exact this
          have hfr : frameV F t = s.take (j + n) ++ lA8u8 (F (s.take (j + n))) := by unfold frameV; rw [hpt]
          have hfl : (frameV F t).length = j + n + 8 := by rw [hfr, List.length_append, l8, List.length_take]; omega
          rw [cut_nat, ← ht, req_pos ⟨by omega, by omega, by omega⟩, rframe_ok hF q (by omega) t (by omega), opt_of, hfl]
          by_cases hs8 : s.length < j + n + 8
          · rw [decide_eq_true (show ((s.length : Nat) : Int) < ((j + n + 8 : Nat) : Int) by omega), cond_tt rfl, cond_tt rfl, cond_tt rfl]
            exact ⟨[], 0, rfl, stop1 _ rfl, by simp, by omega, by simp⟩
          · have hcl : ((s.take (j + n + 8)).drop (j + n)).length = 8 := by rw [List.length_drop, List.length_take]; omega
            rw [decide_eq_false (show ¬ ((s.length : Nat) : Int) < ((j + n + 8 : Nat) : Int) by omega), cond_ff rfl, cond_ff rfl, cut_nat]
            rw [req_pos (by omega), req_pos (by omega), req_pos (by omega), req_pos (by omega), req_pos (by omega), req_pos (by omega), Int.toNat_natCast, Int.toNat_natCast]
            rw [(hF fu (s.take (j + n)) (by omega) (by rw [List.length_take]; omega) (by rw [List.length_take]; omega)).1, opt_of, sum_eq _ _ hcl]
            rw [hfr, take_split s (j + n) _ (l8 _)]
            cases hc : ((s.take (j + n + 8)).drop (j + n) == lA8u8 (F (s.take (j + n))))
            · rw [show (!false) = true from rfl, cond_tt rfl, cond_tt rfl]
              exact ⟨[], 0, rfl, stop1 _ rfl, by simp, by omega, by simp⟩
            · rw [show (!true) = false from rfl, cond_ff rfl, cond_ff rfl]
              rw [req_pos (by omega), req_pos ⟨by rw [List.length_singleton]; omega, by rw [List.length_singleton]; omega⟩]
              rw [← Int.natCast_add, iw (by omega)]
              obtain ⟨l, m, g1, g2, g3, g4, g5⟩ := ih (at_ + (j + n + 8)) (out ++ [t]) k q (by omega) (by omega) (by omega) (by omega) (by rw [List.length_append, List.length_singleton]; omega)
              have hdd : s.drop (j + n + 8) = a.drop (at_ + (j + n + 8)) := by rw [hs, List.drop_drop]
              rw [hdd, g1, opt_of]
              dsimp only
              rw [req_pos ⟨by rw [List.length_singleton]; omega, by rw [List.length_singleton]; omega⟩, g2]
              refine ⟨[t] ++ l, j + n + 8 + m, ?_, ?_, ?_, ?_, ?_⟩
              · rw [← Int.natCast_add, iw (by omega)]
              · rw [List.append_assoc, Nat.add_assoc]
              · rw [List.length_append, List.length_singleton]; omega
              · omega
              · intro t' ht'
                rcases List.mem_append.1 ht' with h | h
                · rw [List.mem_singleton.1 h]; omega
                · exact g5 t' h
    · have z1 : ((getV s).2.2 != 0) = true := by simpa using he
      simp only [lt_of]
      rw [cond_tt z1, cond_tt z1, cond_tt rfl, cond_tt rfl]
      exact ⟨[], 0, rfl, stop1 _ rfl, by simp, by omega, by simp⟩
theorem scans_ok {F : List UInt8 → A8u8} (hF : IdF F) (a : List UInt8) (ha : a.length ≤ 1099511627776) (fu : Nat) (hfu : 2199023255552 ≤ fu) : ∃ (l : List (List UInt8)) (m : Nat), f_lumref_Scan fu a = some (l, (m : Int)) ∧ f_journal_Scan fu a = some (l, (m : Int)) ∧ l.length ≤ a.length ∧ m ≤ a.length ∧ ∀ t ∈ l, t.length ≤ 4096 := by
  obtain ⟨l, m, h1, h2, h3, h4, h5⟩ := scan_ok hF a ha fu hfu a.length 0 [] fu fu (by omega) (by omega) (by omega) (by omega) (by simp; omega)
  rw [List.drop_zero] at h1
  refine ⟨l, m, h1, ?_, by omega, by omega, h5⟩
  unfold f_journal_Scan
  rw [Nat.zero_add] at h2
  exact h2
end JF
end Go.Proofs.YtpakblkldklbmaaDoor.PFetchTexts
namespace Go.Proofs.YtpakblkldklbmaaDoor.PFetchTexts
open Go.RowKit YtpakblkldklbmaaDoor.En YtpakblkldklbmaaDoor Num Mix JF PPut
open Go.Lib
set_option linter.unusedVariables false
set_option linter.unusedSimpArgs false
abbrev Bl := S_api_Blob
theorem known_ok (k : Int) (fu : Nat) : f_pack_Known fu k = some (decide (1 ≤ k ∧ k ≤ 3)) := by
  unfold f_pack_Known
  rw [lt_of]
  by_cases h : k ≥ 1
  · rw [cond_tt (decide_eq_true h)]
    by_cases h2 : k ≤ 3
    · rw [decide_eq_true h2, decide_eq_true ⟨h, h2⟩]
    · rw [decide_eq_false h2, decide_eq_false (fun e => h2 e.2)]
  · rw [cond_ff (decide_eq_false h), decide_eq_false (fun e => h e.1)]
theorem kind_ok (k : Int) (fu : Nat) : f_lumref_kindOK fu k = some (decide (1 ≤ k ∧ k ≤ 3)) := by
  unfold f_lumref_kindOK
  rw [lt_of]
  by_cases h1 : k = 1
  · subst h1; rfl
  rw [cond_ff (beq_eq_false_iff_ne.2 h1)]
  by_cases h2 : k = 2
  · subst h2; rfl
  rw [cond_ff (beq_eq_false_iff_ne.2 h2)]
  by_cases h3 : k = 3
  · subst h3; rfl
  rw [beq_eq_false_iff_ne.2 h3, decide_eq_false (by omega)]
theorem blob_ok {F : List UInt8 → A8u8} (hF : IdF F) (b : S_api_Blob) (fu : Nat) (hfu : 6000 ≤ fu) : ∃ x e, f_pack_ID fu b = some (x, e) ∧ f_lumref_BlobID fu b = some (x, e) ∧ (e = 0 → (1 ≤ b.Kind ∧ b.Kind ≤ 3) ∧ b.Bytes.length ≤ 4096) := by
  unfold f_pack_ID f_lumref_BlobID
  rw [known_ok, kind_ok, opt_of, opt_of]
  by_cases hk : 1 ≤ b.Kind ∧ b.Kind ≤ 3
  · have e : (!decide (1 ≤ b.Kind ∧ b.Kind ≤ 3)) = false := by rw [decide_eq_true hk]; rfl
    rw [e, cond_ff rfl, cond_ff rfl]
    by_cases hl : (b.Bytes.length : Int) > 4096
    · rw [cond_tt (decide_eq_true hl), cond_tt (decide_eq_true hl)]
      exact ⟨_, _, rfl, rfl, fun h => absurd h (by simp)⟩
    · rw [cond_ff (decide_eq_false hl), cond_ff (decide_eq_false hl)]
      obtain ⟨k, hk2⟩ : ∃ k : Nat, b.Kind = k := ⟨b.Kind.toNat, by omega⟩
      rw [hk2, u8w_in (x := k) (by omega)]
      have hlen : (([(UInt8.ofNat ((k : Int)).toNat)]) ++ b.Bytes).length ≤ 4097 := by rw [List.length_append, List.length_singleton]; omega
      obtain ⟨f1, f2⟩ := hF fu (([(UInt8.ofNat ((k : Int)).toNat)]) ++ b.Bytes) (by omega) (by omega) (by omega)
      rw [req_pos ⟨by omega, by omega⟩, req_pos (by rw [List.length_singleton]; omega), f1, opt_of, req_pos ⟨by omega, by omega⟩, req_pos (by rw [List.length_singleton]; omega), f2, opt_of]
      exact ⟨_, _, rfl, rfl, fun _ => ⟨by omega, by omega⟩⟩
  · have e : (!decide (1 ≤ b.Kind ∧ b.Kind ≤ 3)) = true := by rw [decide_eq_false hk]; rfl
    rw [e, cond_tt rfl, cond_tt rfl]
    exact ⟨_, _, rfl, rfl, fun h => absurd h (by simp)⟩
abbrev R2 := List (List UInt8) × Int
theorem chunk_go (W : List UInt8) (hW : W.length ≤ 2048000) : ∀ (k i q : Nat) (out : List (List UInt8)), i ≤ W.length + 1024 → W.length + 1024 - i < k → W.length + 1024 - i < q → out.length ≤ i →
    ∃ r : List (List UInt8), f_fetch_Texts_L13 W (fun x => some (x, (0 : Int))) k (i : Int) out = some (r, 0) ∧ f_lumref_Texts_L7 W (fun x => some (x, (0 : Int))) q out (i : Int) = some (r, 0) ∧ r.length ≤ 2049024
  | 0, i, q, out, _, hk, _, _ => absurd hk (Nat.not_lt_zero _)
  | k + 1, i, 0, out, _, _, hq, _ => absurd hq (Nat.not_lt_zero _)
  | k + 1, i, q + 1, out, hi, hk, hq, ho => by
    rw [f_fetch_Texts_L13, f_lumref_Texts_L7]
    by_cases hlt : i < W.length
    · rw [cond_tt (dlt (by omega)), cond_tt (dlt (by omega))]
      have hd : ((W.drop ((i : Nat) : Int).toNat).length : Int) = ((W.length - i : Nat) : Int) := by rw [Int.toNat_natCast, List.length_drop]
      obtain ⟨e, he, he1, he2⟩ : ∃ e : Nat, e = min (i + 1024) W.length ∧ i ≤ e ∧ e ≤ W.length := ⟨_, rfl, by omega, by omega⟩
      have b1 : IntKind.i64.wrap ((i : Int) + (if ((W.drop ((i : Nat) : Int).toNat).length : Int) < (1024 : Int) then ((W.drop ((i : Nat) : Int).toNat).length : Int) else (1024 : Int))) = (e : Int) := by
        rw [hd, w64 (by split <;> omega) (by split <;> omega)]; split <;> omega
      have b2 : IntKind.i64.wrap ((i : Int) + 1024) = ((i + 1024 : Nat) : Int) := by rw [w64 (by omega) (by omega)]; omega
      have b3 : (if (W.length : Int) < ((i + 1024 : Nat) : Int) then (W.length : Int) else ((i + 1024 : Nat) : Int)) = (e : Int) := by split <;> omega
      rw [b1, b2, b3, req_pos ⟨by omega, by omega⟩, req_pos ⟨by omega, by omega, by omega, by omega⟩, req_pos ⟨by rw [List.length_singleton]; omega, by rw [List.length_singleton]; omega⟩, req_pos ⟨by omega, by omega, by omega⟩, req_pos ⟨by rw [List.length_singleton]; omega, by rw [List.length_singleton]; omega⟩]
      exact chunk_go W hW k (i + 1024) q _ (by omega) (by omega) (by omega) (by rw [List.length_append, List.length_singleton]; omega)
    · rw [cond_ff (dge (by omega)), cond_ff (dge (by omega))]
      exact ⟨out, rfl, rfl, by omega⟩
theorem texts_go {F : List UInt8 → A8u8} (hF : IdF F) (a : List Bl) (ha : a.length ≤ 1048576) (fu : Nat) (hfu : 6000 ≤ fu) (kk kk' : List UInt8 → Option R2) (hkk : ∀ W : List UInt8, W.length ≤ 2048000 → ∃ r : R2, kk W = some r ∧ kk' W = some r ∧ r.1.length ≤ 2049024) :
    ∀ (k i q : Nat) (W : List UInt8), i ≤ a.length → a.length - i < k → a.length - i < q → W.length ≤ 2048000 →
    ∃ r : R2, f_fetch_Texts_L28 a kk fu k W (i : Int) = some r ∧ f_lumref_Texts_L15 a kk' fu q W (i : Int) = some r ∧ r.1.length ≤ 2049024
  | 0, i, q, W, _, hk, _, _ => absurd hk (Nat.not_lt_zero _)
  | k + 1, i, 0, W, _, _, hq, _ => absurd hq (Nat.not_lt_zero _)
  | k + 1, i, q + 1, W, hi, hk, hq, hW => by
    rw [f_fetch_Texts_L28, f_lumref_Texts_L15]
    by_cases hlt : i < a.length
    · rw [cond_tt (dlt (by omega)), cond_tt (dlt (by omega)), at_lt hlt, opt_of, opt_of]
      obtain ⟨b, hb⟩ : ∃ b, b = a[i] := ⟨_, rfl⟩
      rw [← hb]
      obtain ⟨x, e, h1, h2, h3⟩ := blob_ok hF b fu hfu
      rw [h1, h2, opt_of, opt_of]
      by_cases he : e = 0
      · obtain ⟨hk1, hl⟩ := h3 he
        subst he
        rw [cond_ff (show (((0 : Int)) != 0) = false from rfl), cond_ff (show (((0 : Int)) != 0) = false from rfl)]
        obtain ⟨c, hc⟩ : ∃ c : Nat, b.Kind = c := ⟨b.Kind.toNat, by omega⟩
        rw [hc, u8w_in (x := c) (by omega), req_pos ⟨by omega, by omega⟩, req_pos (by rw [List.length_singleton]; omega)]
        obtain ⟨s, hs⟩ : ∃ s, s = [UInt8.ofNat ((c : Nat) : Int).toNat] ++ b.Bytes := ⟨_, rfl⟩
        have hsl : s.length = b.Bytes.length + 1 := by rw [hs, List.length_append, List.length_singleton]; omega
        rw [← hs]
        by_cases hbig : b.Bytes.length = 4096
        · rw [frame_large fu s (by omega), opt_of, cond_tt (show (((2 : Int)) != 0) = true from rfl), cond_tt (decide_eq_true (by omega))]
          exact ⟨_, rfl, rfl, by simp⟩
        · have hp := putV_len s.length
          have hfl := frameV_len F s
          rw [cond_ff (decide_eq_false (by omega)), req_pos ⟨by omega, by omega⟩, req_pos (by rw [List.length_singleton]; omega), frame_ok hF fu hfu s (by omega), rframe_ok hF fu hfu s (by omega), opt_of, opt_of]
          obtain ⟨f, hf⟩ : ∃ f, f = frameV F s := ⟨_, rfl⟩
          rw [← hf] at hfl ⊢
          dsimp only
          rw [cond_ff (show (((0 : Int)) != 0) = false from rfl), req_pos (by omega), req_pos (by omega)]
          by_cases hover : (W ++ f).length > 2048000
          · rw [cond_tt (decide_eq_true (by omega)), cond_tt (decide_eq_true (by omega))]
            exact ⟨_, rfl, rfl, by simp⟩
          · rw [cond_ff (decide_eq_false (by omega)), cond_ff (decide_eq_false (by omega)), wsucc (by omega)]
            exact texts_go hF a ha fu hfu kk kk' hkk k (i + 1) q (W ++ f) (by omega) (by omega) (by omega) (by omega)
      · rw [cond_tt (show (e != 0) = true from by simpa using he), cond_tt (show (e != 0) = true from by simpa using he)]
        exact ⟨_, rfl, rfl, by simp⟩
    · rw [cond_ff (dge (by omega)), cond_ff (dge (by omega))]
      exact hkk W hW
theorem texts_ok (a : List Bl) (ha : a.length ≤ 1048576) (fu : Nat) (hfu : 4000000 ≤ fu) : ∃ r : R2, f_fetch_Texts fu a = some r ∧ f_lumref_Texts fu a = some r ∧ r.1.length ≤ 2049024 := by
  obtain ⟨F, hF⟩ := id_ex
  unfold f_fetch_Texts f_lumref_Texts
  rw [lt_of, lt_of]
  refine texts_go hF a ha fu (by omega) _ _ (fun W hW => ?_) fu 0 fu [] (Nat.zero_le _) (by omega) (by omega) (by simp)
  obtain ⟨r, h1, h2, h3⟩ := chunk_go W hW fu 0 fu [] (by omega) (by omega) (by omega) (by simp)
  refine ⟨(r, 0), ?_, ?_, h3⟩
  · unfold f_slices_Chunk___byte_byte_
    rw [lt_of, cond_ff (by rfl), opt_of]
    exact h1
  · rw [lt_of]
    exact h2
abbrev R3 := List Bl × Bool
def Wf (b : Bl) : Prop := (Lit.int .i64 b.Kind).wf = true ∧ b.Bytes.length ≤ 9223372036854775807
theorem wf_small {k : Int} (h : 1 ≤ k ∧ k ≤ 3) : (Lit.int .i64 k).wf = true := by simp [Lit.wf, IntKind.min, IntKind.max, IntKind.signed, IntKind.bits]; omega
theorem blobs_go (l : List (List UInt8)) (m : Int) (hl : l.length ≤ 1099511627776) (ht : ∀ t ∈ l, t.length ≤ 4096) (b : Bool) (fu : Nat) : ∀ (k i q : Nat) (out : List Bl), i ≤ l.length → l.length - i < k → l.length - i < q → out.length ≤ i → (∀ x ∈ out, Wf x) →
    ∃ r : R3, f_fetch_Blobs_L10 (l, m) (fun x => some (x, b)) fu k out (i : Int) = some r ∧ f_lumref_Blobs_L10 (l, m) (fun x => some (x, b)) fu q out (i : Int) = some r ∧ r.1.length ≤ 1099511627776 ∧ ∀ x ∈ r.1, Wf x
  | 0, i, q, out, _, hk, _, _, _ => absurd hk (Nat.not_lt_zero _)
  | k + 1, i, 0, out, _, _, hq, _, _ => absurd hq (Nat.not_lt_zero _)
  | k + 1, i, q + 1, out, hi, hk, hq, ho, hw => by
    rw [f_fetch_Blobs_L10, f_lumref_Blobs_L10]
    by_cases hlt : i < l.length
    · rw [cond_tt (dlt (by simp only []; omega)), cond_tt (dlt (by simp only []; omega))]
      simp only []
      rw [at_lt hlt, opt_of, opt_of, lt_of, lt_of]
      have htl := ht _ (List.getElem_mem hlt)
      obtain ⟨t, htt⟩ : ∃ t, t = l[i] := ⟨_, rfl⟩
      rw [← htt] at htl ⊢
      by_cases he : t = []
      · rw [cond_tt (by rw [he]; rfl), cond_tt (by rw [he]; rfl)]
        exact ⟨_, rfl, rfl, by simp only []; omega, hw⟩
      · have hpos : 0 < t.length := List.length_pos_iff.2 he
        have q0 : (0 : Int) ≤ 0 ∧ (0 : Int) < (t.length : Int) := ⟨by omega, by omega⟩
        have q1 : (0 : Int) ≤ 1 ∧ (1 : Int) ≤ (t.length : Int) := ⟨by omega, by omega⟩
        have q2 : ∀ y : Bl, (out.length + [y].length) * 24 ≤ 140737488355328 ∧ out.length + [y].length ≤ 9223372036854775807 := fun y => ⟨by rw [List.length_singleton]; omega, by rw [List.length_singleton]; omega⟩
        have e1 : (t == []) = false := by simpa using he
        simp only [e1, cond_false, req_pos q0, req_pos q1, req_pos (q2 _), known_ok, kind_ok, opt_of]
        by_cases hk3 : 1 ≤ IntKind.i64.wrap (En.bAt t 0) ∧ IntKind.i64.wrap (En.bAt t 0) ≤ 3
        · simp only [decide_eq_true hk3, Bool.not_true, cond_false]
          rw [wsucc (by omega)]
          refine blobs_go l m hl ht b fu k (i + 1) q _ (by omega) (by omega) (by omega) (by rw [List.length_append, List.length_singleton]; omega) (fun x hx => ?_)
          rcases List.mem_append.1 hx with hx | hx
          · exact hw x hx
          · rw [List.mem_singleton.1 hx]
            exact ⟨wf_small hk3, by show (t.drop _).length ≤ _; rw [List.length_drop]; omega⟩
        · simp only [decide_eq_false hk3, Bool.not_false, cond_true]
          exact ⟨_, rfl, rfl, by simp only []; omega, hw⟩
    · rw [cond_ff (dge (by simp only []; omega)), cond_ff (dge (by simp only []; omega))]
      exact ⟨_, rfl, rfl, by simp only []; omega, hw⟩
theorem lens_le (N : Nat) : ∀ l : List (List UInt8), (∀ t ∈ l, t.length ≤ N) → Lib.lens l ≤ l.length * N
  | [], _ => by simp [Lib.lens]
  | t :: l, h => by
    have h1 := lens_le N l (fun x hx => h x (by simp [hx]))
    have h2 := h t (by simp)
    have h3 : Lib.lens (t :: l) = t.length + Lib.lens l := by simp [Lib.lens]
    rw [h3, List.length_cons, Nat.succ_mul]
    omega
theorem join_le (l : List (List UInt8)) (hl : l.length ≤ 1048576) (h : ∀ t ∈ l, t.length ≤ 1048576) : (Lib.join l []).length ≤ 1099511627776 := by
  have h1 := lens_le 1048576 l h
  have h2 : l.length * 1048576 ≤ 1048576 * 1048576 := Nat.mul_le_mul_right _ hl
  cases l with
  | nil => rw [Lib.join_nil]; simp
  | cons x r => rw [Lib.join_length, List.length_nil, Nat.zero_mul, Nat.zero_add]; omega
theorem blobs_ok (a : List (List UInt8)) (ha : a.length ≤ 1048576) (h : ∀ t ∈ a, t.length ≤ 1048576) (fu : Nat) (hfu : 2199023255552 ≤ fu) : ∃ r : R3, f_fetch_Blobs fu a = some r ∧ f_lumref_Blobs fu a = some r ∧ r.1.length ≤ 1099511627776 ∧ ∀ x ∈ r.1, Wf x := by
  obtain ⟨F, hF⟩ := id_ex
  have hj := join_le a ha h
  obtain ⟨l, m, h1, h2, h3, h4, h5⟩ := scans_ok hF (Lib.join a []) hj fu hfu
  unfold f_fetch_Blobs f_lumref_Blobs f_strings_Join
  rw [req_pos ⟨by omega, by omega⟩, opt_of, opt_of, h1, h2, opt_of, opt_of, lt_of, lt_of]
  exact blobs_go l m (by omega) h5 _ fu fu 0 fu [] (Nat.zero_le _) (by omega) (by omega) (by simp) (by simp)
theorem eq_go (a : List (List UInt8)) (ha : a.length < 9000000000000000000) (kk : Unit → Option Bool) : ∀ (d j fu : Nat), a.length - j = d → j ≤ a.length → d < fu → f_slices_Equal___string_string__L6 a a kk fu (j : Int) = kk ()
  | 0, j, fu + 1, hd, hj, _ => by rw [f_slices_Equal___string_string__L6, cond_ff (dge (by omega))]
  | d + 1, j, fu + 1, hd, hj, hf => by
    have hlt : j < a.length := by omega
    rw [f_slices_Equal___string_string__L6, cond_tt (dlt (by omega)), at_lt hlt, opt_of, opt_of, cond_ff (by simp), wsucc (by omega)]
    exact eq_go a ha kk d (j + 1) fu (by omega) (by omega) (by omega)
theorem eq_ok (a : List (List UInt8)) (ha : a.length < 9000000000000000000) (fu : Nat) (hf : a.length < fu) : f_slices_Equal___string_string_ fu a a = some true := by
  unfold f_slices_Equal___string_string_
  rw [cond_ff (by simp), lt_of]
  exact eq_go a ha _ a.length 0 fu (by omega) (by omega) (by omega)
theorem eqB (l : List Bl) (hl : l.length ≤ 1099511627776) (hw : ∀ x ∈ l, Wf x) (kk : Unit → Option Bool) : ∀ (d i fu : Nat), l.length - i = d → i ≤ l.length → d < fu → f_slices_Equal___api_Blob_api_Blob__L6 l l kk fu (i : Int) = kk ()
  | _, _, 0, _, _, hf => absurd hf (Nat.not_lt_zero _)
  | 0, i, fu + 1, hd, hi, _ => by rw [f_slices_Equal___api_Blob_api_Blob__L6, cond_ff (dge (by omega))]
  | d + 1, i, fu + 1, hd, hi, hf => by
    have hlt : i < l.length := by omega
    have w1 := hw _ (List.getElem_mem hlt)
    rw [f_slices_Equal___api_Blob_api_Blob__L6, cond_tt (dlt (by omega)), at_lt hlt, opt_of, opt_of, req_pos w1.1, req_pos w1.2, req_pos w1.1, req_pos w1.2, show (!(l[i] == l[i])) = false from by simp, cond_ff rfl, wsucc (by omega)]
    exact eqB l hl hw kk d (i + 1) fu (by omega) (by omega) (by omega)
theorem eqB_ok (a : List Bl) (ha : a.length ≤ 1099511627776) (hw : ∀ x ∈ a, Wf x) (fu : Nat) (hf : a.length < fu) : f_slices_Equal___api_Blob_api_Blob_ fu a a = some true := by
  unfold f_slices_Equal___api_Blob_api_Blob_
  rw [cond_ff (by simp), lt_of]
  exact eqB a ha hw _ a.length 0 fu (by omega) (by omega) (by omega)
theorem law_ok (a : List Bl) (c : List (List UInt8)) (ha : a.length ≤ 1048576) (hc : c.length ≤ 1048576) (hct : ∀ t ∈ c, t.length ≤ 1048576) (fu : Nat) (hfu : 2199023255552 ≤ fu) : f_lumlaw_FetchTexts fu a c = some true := by
  obtain ⟨r, a1, a2, a3⟩ := texts_ok a ha fu (by omega)
  obtain ⟨s, b1, b2, b3, b4⟩ := blobs_ok c hc hct fu hfu
  unfold f_lumlaw_FetchTexts
  rw [a1, opt_of, a2, opt_of, b1, opt_of, b2, opt_of, lt_of, eq_ok r.1 (by omega) fu (by omega), opt_of, cond_tt rfl, cond_tt (by simp), eqB_ok s.1 b3 b4 fu (by omega), opt_of, cond_tt rfl]
  simp
def fuel (_ : List Bl) (_ : List (List UInt8)) : Nat := 2199023255552
theorem says (a : List Bl) (c : List (List UInt8)) (h : okB (fun N y => okbS_api_Blob N y) 1048576 a) (h' : okB (fun N (y : List UInt8) => y.length ≤ 9223372036854775807 ∧ y.length ≤ N) 1048576 c) : f_lumlaw_FetchTexts (fuel a c) a c = some true :=
  law_ok a c h.1 h'.1 (fun t ht => (h'.2 t ht).2) 2199023255552 (Nat.le_refl _)
end Go.Proofs.YtpakblkldklbmaaDoor.PFetchTexts
