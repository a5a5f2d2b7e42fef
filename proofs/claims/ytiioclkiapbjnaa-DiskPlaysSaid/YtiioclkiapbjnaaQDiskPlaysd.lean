/- What DiskPlays leans on, part 4. No condition. -/
import Derived.Test.YtiioclkiapbjnaaQDiskPlaysc
import Derived.Test.YtiioclkiapbjnaaChecked
import Derived.IntWalk
import Derived.Lib.Bytealg
import Derived.Sort.Walk0
namespace Go.Proofs.Ytiioclkiapbjnaa
open Go.RowKit Ytiioclkiapbjnaa.En
set_option linter.unusedVariables false
set_option linter.unusedSimpArgs false
open Go.Value (int bool)
set_option maxRecDepth 100000 in
set_option maxHeartbeats 2000000 in
set_option maxHeartbeats 2000000 in
theorem f_lumlaw_sameDeed_ok (fu : Nat) (bx0 : Nat) (gm0_1 : Nat) (gm0_2 : Nat) (v0_3 : Value) (a0 : D_disk_Disk) (bx1 : Nat) (v1_1 : Value) (v1_2 : Value) (v1_3 : Value) (a1 : D_lumref_Disk) (v2_4 : Value) (a2 : S_api_Deed) {r : (Bool × D_disk_Disk × D_lumref_Disk)} (h : f_lumlaw_sameDeed fu a0 a1 a2 = some r) : FnOk Try.prog 7 [(ptr bx0 0), (ptr bx1 0), (ag [(int .i64 a2.Kind), (str a2.Name), (str a2.Text), (int .i64 a2.N), v2_4])] [(fDat (tyList tyS_lumref_File) [v1_1] a1.Seen), (fDat (tyList tyS_lumref_File) [v1_2] a1.Safe), (fDat (tyList (tyInt .i64)) [v2_4] a2.Keep)] [(oBox bx0 54 [(int .i64 a0.room), (Value.map (some gm0_1)), (Value.map (some gm0_2)), v0_3, (bool a0.fused), (int .i64 a0.left)]), (oMapK Try.prog 9 gm0_1 str str a0.files), (oMapK Try.prog 9 gm0_2 str str a0.durable), (oRow v0_3 114 tyI114 a0.changes), (oBox bx1 57 [(int .i64 a1.Room), v1_1, v1_2, v1_3, (int .i64 a1.Left)]), (oRow v1_3 32 tyS_api_Deed a1.Ops)] (fun (i : Nat × Nat × Value × Value × Value × Value) => { val := (bool r.1), own := [(oBox bx0 54 [(int .i64 r.2.1.room), (Value.map (some i.1)), (Value.map (some i.2.1)), i.2.2.1, (bool r.2.1.fused), (int .i64 r.2.1.left)]), (oMapK Try.prog 9 i.1 str str r.2.1.files), (oMapK Try.prog 9 i.2.1 str str r.2.1.durable), (oRow i.2.2.1 114 tyI114 r.2.1.changes), (oBox bx1 57 [(int .i64 r.2.2.Room), i.2.2.2.1, i.2.2.2.2.1, i.2.2.2.2.2, (int .i64 r.2.2.Left)]), (oRow i.2.2.2.2.2 32 tyS_api_Deed r.2.2.Ops)], fz := [(fDat (tyList tyS_lumref_File) [i.2.2.2.1] r.2.2.Seen), (fDat (tyList tyS_lumref_File) [i.2.2.2.2.1] r.2.2.Safe)] }) := by
 unfold f_lumlaw_sameDeed at h
 refine fn_enter Try.func7 rfl Try.ntmps7 rfl (fun w0 Z0 => ?_)
 refine aw_sr ?_
 refine al_box (vs := [(iq a2.Kind), (str a2.Name), (str a2.Text), (iq a2.N), v2_4]) rfl (cv_rfl rfl) rfl (fun g1 => ?_)
 refine an_ ?_
 obtain ⟨kk3, hkk3, h⟩ := lt_some h
 refine aw_seq_join (ι := Int × Nat × (List ((List UInt8) × (List UInt8))) × Nat × (List ((List UInt8) × (List UInt8))) × Value × (List I114) × Bool × Int × Int × Value × (List S_lumref_File) × Value × (List S_lumref_File) × Value × (List S_api_Deed) × Int) (fun i => (memOf w0 Z0 [(oBox bx0 54 [(iq a0.room), (Value.map (some gm0_1)), (Value.map (some gm0_2)), v0_3, (bool a0.fused), (iq a0.left)]), (oMapK Try.prog 9 gm0_1 str str a0.files), (oMapK Try.prog 9 gm0_2 str str a0.durable), (oRow v0_3 114 tyI114 a0.changes), (oBox bx1 57 [(iq a1.Room), v1_1, v1_2, v1_3, (iq a1.Left)]), (oRow v1_3 32 tyS_api_Deed a1.Ops)] [(oMapK Try.prog 9 i.2.1 str str i.2.2.1), (oMapK Try.prog 9 i.2.2.2.1 str str i.2.2.2.2.1), (oRow i.2.2.2.2.2.1 114 tyI114 i.2.2.2.2.2.2.1), (oBox bx0 54 [(iq i.1), (Value.map (some i.2.1)), (Value.map (some i.2.2.2.1)), i.2.2.2.2.2.1, (bool i.2.2.2.2.2.2.2.1), (iq i.2.2.2.2.2.2.2.2.1)]), (oRow i.2.2.2.2.2.2.2.2.2.2.2.2.2.2.1 32 tyS_api_Deed i.2.2.2.2.2.2.2.2.2.2.2.2.2.2.2.1), (oBox bx1 57 [(iq i.2.2.2.2.2.2.2.2.2.1), i.2.2.2.2.2.2.2.2.2.2.1, i.2.2.2.2.2.2.2.2.2.2.2.2.1, i.2.2.2.2.2.2.2.2.2.2.2.2.2.2.1, (iq i.2.2.2.2.2.2.2.2.2.2.2.2.2.2.2.2)])] [(fDat (tyList tyS_lumref_File) [i.2.2.2.2.2.2.2.2.2.2.1] i.2.2.2.2.2.2.2.2.2.2.2.1), (fDat (tyList tyS_lumref_File) [i.2.2.2.2.2.2.2.2.2.2.2.2.1] i.2.2.2.2.2.2.2.2.2.2.2.2.2.1), (fDat (tyList tyS_lumref_File) [v1_1] a1.Seen), (fDat (tyList tyS_lumref_File) [v1_2] a1.Safe), (fDat (tyList tq) [v2_4] a2.Keep)])) (fun i => (tab [(0, (pq bx0)), (1, (pq bx1))])) (fun i => kk3 i.1 i.2.2.1 i.2.2.2.2.1 i.2.2.2.2.2.2.1 i.2.2.2.2.2.2.2.1 i.2.2.2.2.2.2.2.2.1 i.2.2.2.2.2.2.2.2.2.1 i.2.2.2.2.2.2.2.2.2.2.2.1 i.2.2.2.2.2.2.2.2.2.2.2.2.2.1 i.2.2.2.2.2.2.2.2.2.2.2.2.2.2.2.1 i.2.2.2.2.2.2.2.2.2.2.2.2.2.2.2.2 = some r) ?_ ?_
 rintro ⟨j2i0_0, j2g0_1, j2xm0_1, j2g0_2, j2xm0_2, j2v0_3, j2x0_3, j2b0_4, j2i0_5, j2i1_0, j2v1_1, j2x1_1, j2v1_2, j2x1_2, j2v1_3, j2x1_3, j2i1_4⟩ h
 have h : kk3 j2i0_0 j2xm0_1 j2xm0_2 j2x0_3 j2b0_4 j2i0_5 j2i1_0 j2x1_1 j2x1_2 j2x1_3 j2i1_4 = some r := h
 rw [hkk3] at h
 dsimp only at h
 clear hkk3
 refine aw_show (m := (memOf w0 Z0 [(oBox bx0 54 [(iq a0.room), (Value.map (some gm0_1)), (Value.map (some gm0_2)), v0_3, (bool a0.fused), (iq a0.left)]), (oMapK Try.prog 9 gm0_1 str str a0.files), (oMapK Try.prog 9 gm0_2 str str a0.durable), (oRow v0_3 114 tyI114 a0.changes), (oBox bx1 57 [(iq a1.Room), v1_1, v1_2, v1_3, (iq a1.Left)]), (oRow v1_3 32 tyS_api_Deed a1.Ops)] [(oMapK Try.prog 9 j2g0_1 str str j2xm0_1), (oMapK Try.prog 9 j2g0_2 str str j2xm0_2), (oRow j2v0_3 114 tyI114 j2x0_3), (oBox bx0 54 [(iq j2i0_0), (Value.map (some j2g0_1)), (Value.map (some j2g0_2)), j2v0_3, (bool j2b0_4), (iq j2i0_5)]), (oRow j2v1_3 32 tyS_api_Deed j2x1_3), (oBox bx1 57 [(iq j2i1_0), j2v1_1, j2v1_2, j2v1_3, (iq j2i1_4)])] [(fDat (tyList tyS_lumref_File) [j2v1_1] j2x1_1), (fDat (tyList tyS_lumref_File) [j2v1_2] j2x1_2), (fDat (tyList tyS_lumref_File) [v1_1] a1.Seen), (fDat (tyList tyS_lumref_File) [v1_2] a1.Safe), (fDat (tyList tq) [v2_4] a2.Keep)])) (S := _) ?_
 refine aw_sr ?_
 refine an_ ?_
 refine aw_ret ?_
 cases h
 exact fn_ret (j2g0_1, j2g0_2, j2v0_3, j2v1_1, j2v1_2, j2v1_3) [3, 0, 1, 2, 5, 4] [0, 1] rfl rfl rfl rfl (res1 rfl rfl) rfl rfl rfl (by decide)
 clear hkk3
 refine aw_sr ?_
 refine al_val (ov_fieldA (p := 0) rfl Try.underlying32 rfl sz3 rfl rfl rfl) ?_
 refine al_val (ov_load (i := 0) (v := (iq a2.Kind)) rfl rfl Try.underlying3 sz3 rfl rfl rfl rfl) ?_
 refine al_nt ?_
 refine aw_block ?_
 refine aw_sr ?_
 refine in_ ?_
 refine an_ ?_
 refine aw_cond rfl (fun hb4 => ?_) (fun hb4 => ?_)
 replace h := bif_t hb4 h
 refine aw_seq ?_
 refine aw_region_open [(sp_ 0 19 (pq bx0)), (sp_ 1 20 (ptr g1 1)), (sp_ 2 21 (str a2.Name)), (sp_ 3 22 (ptr g1 2)), (sp_ 4 23 (str a2.Text)), (sp_ 6 25 (pq bx1)), (sp_ 7 26 (ptr g1 1)), (sp_ 8 27 (str a2.Name)), (sp_ 9 28 (ptr g1 2)), (sp_ 10 29 (str a2.Text))] (tab [(0, (pq bx0)), (1, (pq bx1)), (5, (pq g1)), (6, (bool false))]) mixed (fun a hs => hs.tab _ (allT_mem ⟨rfl, rfl, rfl, rfl, trivial⟩)) ?_
 refine ta_show (m := (mm47 w0 Z0 a0 a1 a2 bx0 bx1 g1 gm0_1 gm0_2 v0_3 v1_1 v1_2 v1_3 v2_4)) (S := _) ?_
 refine ta_step 5 _ [0, 1, 2, 3, 4, 6, 7, 8, 9, 10] [19, 20, 21, 22, 23, 25, 26, 27, 28, 29] [0, 1, 2, 3, 4] [] [(sp_ 0 19 (pq bx0)), (sp_ 1 20 (ptr g1 1)), (sp_ 2 21 (str a2.Name)), (sp_ 3 22 (ptr g1 2)), (sp_ 4 23 (str a2.Text))] [(sp_ 6 25 (pq bx1)), (sp_ 7 26 (ptr g1 1)), (sp_ 8 27 (str a2.Name)), (sp_ 9 28 (ptr g1 2)), (sp_ 10 29 (str a2.Text))] rfl rfl rfl (by kernel_rfl) rfl rfl rfl ⟨⟨_, rfl, [], rfl, by
  intro X_ Y_ F_ K_ hK_
  refine sh_ (mm47 w0 Z0 a0 a1 a2 bx0 bx1 g1 gm0_1 gm0_2 v0_3 v1_1 v1_2 v1_3 v2_4) X_ Y_ ?_
  refine mv_ ?_
  refine al_nil ?_
  exact fr_fin hK_ ()⟩, ⟨_, rfl, [], rfl, by
  intro X_ Y_ F_ K_ hK_
  refine sh_ (mm47 w0 Z0 a0 a1 a2 bx0 bx1 g1 gm0_1 gm0_2 v0_3 v1_1 v1_2 v1_3 v2_4) X_ Y_ ?_
  refine al_val (ov_fieldA (p := 1) rfl Try.underlying32 rfl sz9 rfl rfl rfl) ?_
  refine al_nil ?_
  exact fr_fin hK_ ()⟩, ⟨_, rfl, [1], rfl, by
  intro _
  intro X_ Y_ F_ K_ hK_
  refine sh_ (mm47 w0 Z0 a0 a1 a2 bx0 bx1 g1 gm0_1 gm0_2 v0_3 v1_1 v1_2 v1_3 v2_4) X_ Y_ ?_
  refine al_val (ov_load (i := 0) (v := (str a2.Name)) rfl rfl Try.underlying9 sz9 rfl rfl rfl rfl) ?_
  refine al_nil ?_
  exact fr_fin hK_ ()⟩, ⟨_, rfl, [], rfl, by
  intro X_ Y_ F_ K_ hK_
  refine sh_ (mm47 w0 Z0 a0 a1 a2 bx0 bx1 g1 gm0_1 gm0_2 v0_3 v1_1 v1_2 v1_3 v2_4) X_ Y_ ?_
  refine al_val (ov_fieldA (p := 2) rfl Try.underlying32 rfl sz9 rfl rfl rfl) ?_
  refine al_nil ?_
  exact fr_fin hK_ ()⟩, ⟨_, rfl, [3], rfl, by
  intro _
  intro X_ Y_ F_ K_ hK_
  refine sh_ (mm47 w0 Z0 a0 a1 a2 bx0 bx1 g1 gm0_1 gm0_2 v0_3 v1_1 v1_2 v1_3 v2_4) X_ Y_ ?_
  refine al_val (ov_load (i := 0) (v := (str a2.Text)) rfl rfl Try.underlying9 sz9 rfl rfl rfl rfl) ?_
  refine al_nil ?_
  exact fr_fin hK_ ()⟩, ⟨_, rfl, [], rfl, by
  intro X_ Y_ F_ K_ hK_
  refine sh_ (mm47 w0 Z0 a0 a1 a2 bx0 bx1 g1 gm0_1 gm0_2 v0_3 v1_1 v1_2 v1_3 v2_4) X_ Y_ ?_
  refine mv_ ?_
  refine al_nil ?_
  exact fr_fin hK_ ()⟩, ⟨_, rfl, [], rfl, by
  intro X_ Y_ F_ K_ hK_
  refine sh_ (mm47 w0 Z0 a0 a1 a2 bx0 bx1 g1 gm0_1 gm0_2 v0_3 v1_1 v1_2 v1_3 v2_4) X_ Y_ ?_
  refine al_val (ov_fieldA (p := 1) rfl Try.underlying32 rfl sz9 rfl rfl rfl) ?_
  refine al_nil ?_
  exact fr_fin hK_ ()⟩, ⟨_, rfl, [6], rfl, by
  intro _
  intro X_ Y_ F_ K_ hK_
  refine sh_ (mm47 w0 Z0 a0 a1 a2 bx0 bx1 g1 gm0_1 gm0_2 v0_3 v1_1 v1_2 v1_3 v2_4) X_ Y_ ?_
  refine al_val (ov_load (i := 0) (v := (str a2.Name)) rfl rfl Try.underlying9 sz9 rfl rfl rfl rfl) ?_
  refine al_nil ?_
  exact fr_fin hK_ ()⟩, ⟨_, rfl, [], rfl, by
  intro X_ Y_ F_ K_ hK_
  refine sh_ (mm47 w0 Z0 a0 a1 a2 bx0 bx1 g1 gm0_1 gm0_2 v0_3 v1_1 v1_2 v1_3 v2_4) X_ Y_ ?_
  refine al_val (ov_fieldA (p := 2) rfl Try.underlying32 rfl sz9 rfl rfl rfl) ?_
  refine al_nil ?_
  exact fr_fin hK_ ()⟩, ⟨_, rfl, [8], rfl, by
  intro _
  intro X_ Y_ F_ K_ hK_
  refine sh_ (mm47 w0 Z0 a0 a1 a2 bx0 bx1 g1 gm0_1 gm0_2 v0_3 v1_1 v1_2 v1_3 v2_4) X_ Y_ ?_
  refine al_val (ov_load (i := 0) (v := (str a2.Text)) rfl rfl Try.underlying9 sz9 rfl rfl rfl rfl) ?_
  refine al_nil ?_
  exact fr_fin hK_ ()⟩, trivial⟩ ?_
 intro _
 intro _
 intro _
 intro _
 intro _
 intro X_ Y_ F_ K_ hK_
 refine sh_ (mm47 w0 Z0 a0 a1 a2 bx0 bx1 g1 gm0_1 gm0_2 v0_3 v1_1 v1_2 v1_3 v2_4) X_ Y_ ?_
 obtain ⟨r6, hc5, h⟩ := opt_some h
 refine al_callX (vs := [(pq bx0), (str a2.Name), (str a2.Text)]) (f___disk_Disk__Write_ok fu bx0 gm0_1 gm0_2 v0_3 a0 a2.Name a2.Text hc5) [] [1, 2, 3, 4] [0, 5, 6] pre_nil rfl (by simp) (by decide) rfl (.inl rfl) rfl Try.func17 rfl rfl rfl (fun ⟨g7, g8, v9⟩ => ?_)
 refine al_nil ?_
 refine aq_show (m := Mem.plus (mm48 w0 Z0 a0 a1 a2 bx0 bx1 g1 g7 g8 gm0_1 gm0_2 r6 v0_3 v1_1 v1_2 v1_3 v2_4 v9) X_ Y_) ?_
 refine aq_next hK_ [0, 1, 2, 3, 4, 5, 6] [0, 1, 2] [(0, (pq bx0)), (1, (pq bx1)), (5, (pq g1)), (6, (bool false)), (24, (iq r6.1))] [25, 26, 27, 28, 29] [] rfl rfl (by decide) rfl ⟨rfl, rfl, rfl, rfl, rfl, trivial⟩ ⟨rfl, rfl, rfl, rfl, rfl, trivial⟩ ?_
 clear hK_ K_ F_ X_ Y_
 refine ta_show (m := (mm48 w0 Z0 a0 a1 a2 bx0 bx1 g1 g7 g8 gm0_1 gm0_2 r6 v0_3 v1_1 v1_2 v1_3 v2_4 v9)) (S := _) ?_
 refine ta_step 11 _ [6, 7, 8, 9, 10] [25, 26, 27, 28, 29] [6, 7, 8, 9, 10] [12] [(sp_ 6 25 (pq bx1)), (sp_ 7 26 (ptr g1 1)), (sp_ 8 27 (str a2.Name)), (sp_ 9 28 (ptr g1 2)), (sp_ 10 29 (str a2.Text))] [] rfl rfl rfl (by kernel_rfl) rfl rfl rfl ⟨⟨_, rfl, [], rfl, by
  intro X_ Y_ F_ K_ hK_
  refine sh_ (mm48 w0 Z0 a0 a1 a2 bx0 bx1 g1 g7 g8 gm0_1 gm0_2 r6 v0_3 v1_1 v1_2 v1_3 v2_4 v9) X_ Y_ ?_
  refine mv_ ?_
  refine al_nil ?_
  exact fr_fin hK_ ()⟩, ⟨_, rfl, [], rfl, by
  intro X_ Y_ F_ K_ hK_
  refine sh_ (mm48 w0 Z0 a0 a1 a2 bx0 bx1 g1 g7 g8 gm0_1 gm0_2 r6 v0_3 v1_1 v1_2 v1_3 v2_4 v9) X_ Y_ ?_
  refine al_val (ov_fieldA (p := 1) rfl Try.underlying32 rfl sz9 rfl rfl rfl) ?_
  refine al_nil ?_
  exact fr_fin hK_ ()⟩, ⟨_, rfl, [1], rfl, by
  intro _
  intro X_ Y_ F_ K_ hK_
  refine sh_ (mm48 w0 Z0 a0 a1 a2 bx0 bx1 g1 g7 g8 gm0_1 gm0_2 r6 v0_3 v1_1 v1_2 v1_3 v2_4 v9) X_ Y_ ?_
  refine al_val (ov_load (i := 4) (v := (str a2.Name)) rfl rfl Try.underlying9 sz9 rfl rfl rfl rfl) ?_
  refine al_nil ?_
  exact fr_fin hK_ ()⟩, ⟨_, rfl, [], rfl, by
  intro X_ Y_ F_ K_ hK_
  refine sh_ (mm48 w0 Z0 a0 a1 a2 bx0 bx1 g1 g7 g8 gm0_1 gm0_2 r6 v0_3 v1_1 v1_2 v1_3 v2_4 v9) X_ Y_ ?_
  refine al_val (ov_fieldA (p := 2) rfl Try.underlying32 rfl sz9 rfl rfl rfl) ?_
  refine al_nil ?_
  exact fr_fin hK_ ()⟩, ⟨_, rfl, [3], rfl, by
  intro _
  intro X_ Y_ F_ K_ hK_
  refine sh_ (mm48 w0 Z0 a0 a1 a2 bx0 bx1 g1 g7 g8 gm0_1 gm0_2 r6 v0_3 v1_1 v1_2 v1_3 v2_4 v9) X_ Y_ ?_
  refine al_val (ov_load (i := 4) (v := (str a2.Text)) rfl rfl Try.underlying9 sz9 rfl rfl rfl rfl) ?_
  refine al_nil ?_
  exact fr_fin hK_ ()⟩, trivial⟩ ?_
 intro _
 intro _
 intro _
 intro _
 intro _
 intro X_ Y_ F_ K_ hK_
 refine sh_ (mm48 w0 Z0 a0 a1 a2 bx0 bx1 g1 g7 g8 gm0_1 gm0_2 r6 v0_3 v1_1 v1_2 v1_3 v2_4 v9) X_ Y_ ?_
 obtain ⟨r11, hc10, h⟩ := opt_some h
 refine al_callX (vs := [(pq bx1), (str a2.Name), (str a2.Text)]) (f___lumref_Disk__Write_ok fu bx1 v1_1 v1_2 v1_3 a1 a2.Name a2.Text hc10) [] [5, 6] [0, 1, 2, 3, 4] (pre_fz 0 rfl (pre_fz 1 rfl pre_nil)) rfl (by simp) (by decide) rfl (.inl rfl) rfl Try.func18 rfl rfl rfl (fun ⟨v12, v13, v14⟩ => ?_)
 refine al_nil ?_
 refine aq_show (m := Mem.plus (mm49 w0 Z0 a0 a1 a2 bx0 bx1 g1 g7 g8 gm0_1 gm0_2 r11 r6 v0_3 v12 v13 v14 v1_1 v1_2 v1_3 v2_4 v9) X_ Y_) ?_
 refine aq_next hK_ [0, 1, 2, 3, 4, 5, 6] [0, 1, 2, 3, 4] [(0, (pq bx0)), (1, (pq bx1)), (6, (bool false)), (24, (iq r6.1)), (30, (iq r11.1))] [] [(sp_ 12 31 (bool (r6.1 == r11.1)))] rfl rfl (by decide) rfl ⟨rfl, rfl, rfl, rfl, rfl, trivial⟩ trivial ?_
 clear hK_ K_ F_ X_ Y_
 refine ta_show (m := (mm49 w0 Z0 a0 a1 a2 bx0 bx1 g1 g7 g8 gm0_1 gm0_2 r11 r6 v0_3 v12 v13 v14 v1_1 v1_2 v1_3 v2_4 v9)) (S := _) ?_
 refine ta_step 13 _ [12] [31] [12] [] [(sp_ 12 31 (bool (r6.1 == r11.1)))] [] rfl rfl rfl (by kernel_rfl) rfl rfl rfl ⟨⟨_, rfl, [], rfl, by
  intro X_ Y_ F_ K_ hK_
  refine sh_ (mm49 w0 Z0 a0 a1 a2 bx0 bx1 g1 g7 g8 gm0_1 gm0_2 r11 r6 v0_3 v12 v13 v14 v1_1 v1_2 v1_3 v2_4 v9) X_ Y_ ?_
  refine in_ ?_
  refine al_nil ?_
  exact fr_fin hK_ ()⟩, trivial⟩ ?_
 intro _
 intro X_ Y_ F_ K_ hK_
 refine sh_ (mm49 w0 Z0 a0 a1 a2 bx0 bx1 g1 g7 g8 gm0_1 gm0_2 r11 r6 v0_3 v12 v13 v14 v1_1 v1_2 v1_3 v2_4 v9) X_ Y_ ?_
 refine as_ ?_
 refine al_nil ?_
 refine aq_show (m := Mem.plus (mm49 w0 Z0 a0 a1 a2 bx0 bx1 g1 g7 g8 gm0_1 gm0_2 r11 r6 v0_3 v12 v13 v14 v1_1 v1_2 v1_3 v2_4 v9) X_ Y_) ?_
 refine aq_next hK_ [0, 1, 2, 3, 4, 5, 6] [0, 1, 2, 3, 4] [(0, (pq bx0)), (1, (pq bx1)), (6, (bool (r6.1 == r11.1)))] [] [] rfl rfl (by decide) rfl ⟨rfl, rfl, rfl, trivial⟩ trivial ?_
 clear hK_ K_ F_ X_ Y_
 refine ta_show (m := (mm49 w0 Z0 a0 a1 a2 bx0 bx1 g1 g7 g8 gm0_1 gm0_2 r11 r6 v0_3 v12 v13 v14 v1_1 v1_2 v1_3 v2_4 v9)) (S := _) ?_
 refine ta_end [] [] rfl rfl (by kernel_rfl) rfl trivial ?_
 refine aq_show (m := (mm49 w0 Z0 a0 a1 a2 bx0 bx1 g1 g7 g8 gm0_1 gm0_2 r11 r6 v0_3 v12 v13 v14 v1_1 v1_2 v1_3 v2_4 v9)) (S := (tab [(0, (pq bx0)), (1, (pq bx1)), (6, (bool (r6.1 == r11.1)))])) ?_
 refine aq_then ?_
 refine aw_ret ?_
 refine aq_block_ret ?_
 refine aq_then_ret ?_
 cases h
 exact fn_ret (g7, g8, v9, v12, v13, v14) [2, 3, 4, 5, 0, 1] [0, 1] rfl rfl rfl rfl (res1 rfl rfl) rfl rfl rfl (by decide)
 replace h := bif_f hb4 h
 refine aw_sr ?_
 refine in_ ?_
 refine an_ ?_
 refine aw_cond rfl (fun hb15 => ?_) (fun hb15 => ?_)
 replace h := bif_t hb15 h
 refine aw_seq ?_
 refine aw_region_open [(sp_ 0 34 (pq bx0)), (sp_ 1 35 (ptr g1 1)), (sp_ 2 36 (str a2.Name)), (sp_ 3 37 (ptr g1 2)), (sp_ 4 38 (str a2.Text)), (sp_ 6 40 (pq bx1)), (sp_ 7 41 (ag [(iq a2.Kind), (str a2.Name), (str a2.Text), (iq a2.N), v2_4]))] (tab [(0, (pq bx0)), (1, (pq bx1)), (5, (pq g1)), (6, (bool false))]) mixed (fun a hs => hs.tab _ (allT_mem ⟨rfl, rfl, rfl, rfl, trivial⟩)) ?_
 refine ta_show (m := (mm47 w0 Z0 a0 a1 a2 bx0 bx1 g1 gm0_1 gm0_2 v0_3 v1_1 v1_2 v1_3 v2_4)) (S := _) ?_
 refine ta_step 5 _ [0, 1, 2, 3, 4, 6, 7] [34, 35, 36, 37, 38, 40, 41] [0, 1, 2, 3, 4] [] [(sp_ 0 34 (pq bx0)), (sp_ 1 35 (ptr g1 1)), (sp_ 2 36 (str a2.Name)), (sp_ 3 37 (ptr g1 2)), (sp_ 4 38 (str a2.Text))] [(sp_ 6 40 (pq bx1)), (sp_ 7 41 (ag [(iq a2.Kind), (str a2.Name), (str a2.Text), (iq a2.N), v2_4]))] rfl rfl rfl (by kernel_rfl) rfl rfl rfl ⟨⟨_, rfl, [], rfl, by
  intro X_ Y_ F_ K_ hK_
  refine sh_ (mm47 w0 Z0 a0 a1 a2 bx0 bx1 g1 gm0_1 gm0_2 v0_3 v1_1 v1_2 v1_3 v2_4) X_ Y_ ?_
  refine mv_ ?_
  refine al_nil ?_
  exact fr_fin hK_ ()⟩, ⟨_, rfl, [], rfl, by
  intro X_ Y_ F_ K_ hK_
  refine sh_ (mm47 w0 Z0 a0 a1 a2 bx0 bx1 g1 gm0_1 gm0_2 v0_3 v1_1 v1_2 v1_3 v2_4) X_ Y_ ?_
  refine al_val (ov_fieldA (p := 1) rfl Try.underlying32 rfl sz9 rfl rfl rfl) ?_
  refine al_nil ?_
  exact fr_fin hK_ ()⟩, ⟨_, rfl, [1], rfl, by
  intro _
  intro X_ Y_ F_ K_ hK_
  refine sh_ (mm47 w0 Z0 a0 a1 a2 bx0 bx1 g1 gm0_1 gm0_2 v0_3 v1_1 v1_2 v1_3 v2_4) X_ Y_ ?_
  refine al_val (ov_load (i := 0) (v := (str a2.Name)) rfl rfl Try.underlying9 sz9 rfl rfl rfl rfl) ?_
  refine al_nil ?_
  exact fr_fin hK_ ()⟩, ⟨_, rfl, [], rfl, by
  intro X_ Y_ F_ K_ hK_
  refine sh_ (mm47 w0 Z0 a0 a1 a2 bx0 bx1 g1 gm0_1 gm0_2 v0_3 v1_1 v1_2 v1_3 v2_4) X_ Y_ ?_
  refine al_val (ov_fieldA (p := 2) rfl Try.underlying32 rfl sz9 rfl rfl rfl) ?_
  refine al_nil ?_
  exact fr_fin hK_ ()⟩, ⟨_, rfl, [3], rfl, by
  intro _
  intro X_ Y_ F_ K_ hK_
  refine sh_ (mm47 w0 Z0 a0 a1 a2 bx0 bx1 g1 gm0_1 gm0_2 v0_3 v1_1 v1_2 v1_3 v2_4) X_ Y_ ?_
  refine al_val (ov_load (i := 0) (v := (str a2.Text)) rfl rfl Try.underlying9 sz9 rfl rfl rfl rfl) ?_
  refine al_nil ?_
  exact fr_fin hK_ ()⟩, ⟨_, rfl, [], rfl, by
  intro X_ Y_ F_ K_ hK_
  refine sh_ (mm47 w0 Z0 a0 a1 a2 bx0 bx1 g1 gm0_1 gm0_2 v0_3 v1_1 v1_2 v1_3 v2_4) X_ Y_ ?_
  refine mv_ ?_
  refine al_nil ?_
  exact fr_fin hK_ ()⟩, ⟨_, rfl, [], rfl, by
  intro X_ Y_ F_ K_ hK_
  refine sh_ (mm47 w0 Z0 a0 a1 a2 bx0 bx1 g1 gm0_1 gm0_2 v0_3 v1_1 v1_2 v1_3 v2_4) X_ Y_ ?_
  refine al_val (ov_load (i := 0) (v := (ag [(iq a2.Kind), (str a2.Name), (str a2.Text), (iq a2.N), v2_4])) rfl rfl Try.underlying32 sz32 rfl rfl rfl rfl) ?_
  refine al_nil ?_
  exact fr_fin hK_ ()⟩, trivial⟩ ?_
 intro _
 intro _
 intro _
 intro _
 intro _
 intro X_ Y_ F_ K_ hK_
 refine sh_ (mm47 w0 Z0 a0 a1 a2 bx0 bx1 g1 gm0_1 gm0_2 v0_3 v1_1 v1_2 v1_3 v2_4) X_ Y_ ?_
 obtain ⟨r17, hc16, h⟩ := opt_some h
 refine al_callX (vs := [(pq bx0), (str a2.Name), (str a2.Text)]) (f___disk_Disk__Rename_ok fu bx0 gm0_1 gm0_2 v0_3 a0 a2.Name a2.Text hc16) [] [1, 2, 3, 4] [0, 5, 6] pre_nil rfl (by simp) (by decide) rfl (.inl rfl) rfl Try.func19 rfl rfl rfl (fun ⟨g18, g19, v20⟩ => ?_)
 refine al_nil ?_
 refine aq_show (m := Mem.plus (mm50 w0 Z0 a0 a1 a2 bx0 bx1 g1 g18 g19 gm0_1 gm0_2 r17 v0_3 v1_1 v1_2 v1_3 v20 v2_4) X_ Y_) ?_
 refine aq_next hK_ [0, 1, 2, 3, 4, 5, 6] [0, 1, 2] [(0, (pq bx0)), (1, (pq bx1)), (5, (pq g1)), (6, (bool false)), (39, (iq r17.1))] [40, 41] [] rfl rfl (by decide) rfl ⟨rfl, rfl, rfl, rfl, rfl, trivial⟩ ⟨rfl, rfl, trivial⟩ ?_
 clear hK_ K_ F_ X_ Y_
 refine ta_show (m := (mm50 w0 Z0 a0 a1 a2 bx0 bx1 g1 g18 g19 gm0_1 gm0_2 r17 v0_3 v1_1 v1_2 v1_3 v20 v2_4)) (S := _) ?_
 refine ta_step 8 _ [6, 7] [40, 41] [6, 7] [9] [(sp_ 6 40 (pq bx1)), (sp_ 7 41 (ag [(iq a2.Kind), (str a2.Name), (str a2.Text), (iq a2.N), v2_4]))] [] rfl rfl rfl (by kernel_rfl) rfl rfl rfl ⟨⟨_, rfl, [], rfl, by
  intro X_ Y_ F_ K_ hK_
  refine sh_ (mm50 w0 Z0 a0 a1 a2 bx0 bx1 g1 g18 g19 gm0_1 gm0_2 r17 v0_3 v1_1 v1_2 v1_3 v20 v2_4) X_ Y_ ?_
  refine mv_ ?_
  refine al_nil ?_
  exact fr_fin hK_ ()⟩, ⟨_, rfl, [], rfl, by
  intro X_ Y_ F_ K_ hK_
  refine sh_ (mm50 w0 Z0 a0 a1 a2 bx0 bx1 g1 g18 g19 gm0_1 gm0_2 r17 v0_3 v1_1 v1_2 v1_3 v20 v2_4) X_ Y_ ?_
  refine al_val (ov_load (i := 4) (v := (ag [(iq a2.Kind), (str a2.Name), (str a2.Text), (iq a2.N), v2_4])) rfl rfl Try.underlying32 sz32 rfl rfl rfl rfl) ?_
  refine al_nil ?_
  exact fr_fin hK_ ()⟩, trivial⟩ ?_
 intro _
 intro _
 intro X_ Y_ F_ K_ hK_
 refine sh_ (mm50 w0 Z0 a0 a1 a2 bx0 bx1 g1 g18 g19 gm0_1 gm0_2 r17 v0_3 v1_1 v1_2 v1_3 v20 v2_4) X_ Y_ ?_
 obtain ⟨r22, hc21, h⟩ := opt_some h
 refine al_callX (vs := [(pq bx1), (ag [(iq a2.Kind), (str a2.Name), (str a2.Text), (iq a2.N), v2_4])]) (f___lumref_Disk__Change_ok fu bx1 v1_1 v1_2 v1_3 a1 v2_4 a2 hc21) [] [5, 6] [0, 1, 2, 3, 4] (pre_fz 0 rfl (pre_fz 1 rfl (pre_fz 2 rfl pre_nil))) rfl (by simp) (by decide) rfl (.inl rfl) rfl Try.func20 rfl rfl rfl (fun ⟨v23, v24, v25⟩ => ?_)
 refine al_nil ?_
 refine aq_show (m := Mem.plus (mm51 w0 Z0 a0 a1 a2 bx0 bx1 g1 g18 g19 gm0_1 gm0_2 r17 r22 v0_3 v1_1 v1_2 v1_3 v20 v23 v24 v25 v2_4) X_ Y_) ?_
 refine aq_next hK_ [0, 1, 2, 3, 4, 5, 6] [0, 1, 2, 3, 4] [(0, (pq bx0)), (1, (pq bx1)), (6, (bool false)), (39, (iq r17.1)), (42, (iq r22.1))] [] [(sp_ 9 43 (bool (r17.1 == r22.1)))] rfl rfl (by decide) rfl ⟨rfl, rfl, rfl, rfl, rfl, trivial⟩ trivial ?_
 clear hK_ K_ F_ X_ Y_
 refine ta_show (m := (mm51 w0 Z0 a0 a1 a2 bx0 bx1 g1 g18 g19 gm0_1 gm0_2 r17 r22 v0_3 v1_1 v1_2 v1_3 v20 v23 v24 v25 v2_4)) (S := _) ?_
 refine ta_step 10 _ [9] [43] [9] [] [(sp_ 9 43 (bool (r17.1 == r22.1)))] [] rfl rfl rfl (by kernel_rfl) rfl rfl rfl ⟨⟨_, rfl, [], rfl, by
  intro X_ Y_ F_ K_ hK_
  refine sh_ (mm51 w0 Z0 a0 a1 a2 bx0 bx1 g1 g18 g19 gm0_1 gm0_2 r17 r22 v0_3 v1_1 v1_2 v1_3 v20 v23 v24 v25 v2_4) X_ Y_ ?_
  refine in_ ?_
  refine al_nil ?_
  exact fr_fin hK_ ()⟩, trivial⟩ ?_
 intro _
 intro X_ Y_ F_ K_ hK_
 refine sh_ (mm51 w0 Z0 a0 a1 a2 bx0 bx1 g1 g18 g19 gm0_1 gm0_2 r17 r22 v0_3 v1_1 v1_2 v1_3 v20 v23 v24 v25 v2_4) X_ Y_ ?_
 refine as_ ?_
 refine al_nil ?_
 refine aq_show (m := Mem.plus (mm51 w0 Z0 a0 a1 a2 bx0 bx1 g1 g18 g19 gm0_1 gm0_2 r17 r22 v0_3 v1_1 v1_2 v1_3 v20 v23 v24 v25 v2_4) X_ Y_) ?_
 refine aq_next hK_ [0, 1, 2, 3, 4, 5, 6] [0, 1, 2, 3, 4] [(0, (pq bx0)), (1, (pq bx1)), (6, (bool (r17.1 == r22.1)))] [] [] rfl rfl (by decide) rfl ⟨rfl, rfl, rfl, trivial⟩ trivial ?_
 clear hK_ K_ F_ X_ Y_
 refine ta_show (m := (mm51 w0 Z0 a0 a1 a2 bx0 bx1 g1 g18 g19 gm0_1 gm0_2 r17 r22 v0_3 v1_1 v1_2 v1_3 v20 v23 v24 v25 v2_4)) (S := _) ?_
 refine ta_end [] [] rfl rfl (by kernel_rfl) rfl trivial ?_
 refine aq_show (m := (mm51 w0 Z0 a0 a1 a2 bx0 bx1 g1 g18 g19 gm0_1 gm0_2 r17 r22 v0_3 v1_1 v1_2 v1_3 v20 v23 v24 v25 v2_4)) (S := (tab [(0, (pq bx0)), (1, (pq bx1)), (6, (bool (r17.1 == r22.1)))])) ?_
 refine aq_then ?_
 refine aw_ret ?_
 refine aq_block_ret ?_
 refine aq_then_ret ?_
 cases h
 exact fn_ret (g18, g19, v20, v23, v24, v25) [2, 3, 4, 5, 0, 1] [0, 1] rfl rfl rfl rfl (res1 rfl rfl) rfl rfl rfl (by decide)
 replace h := bif_f hb15 h
 refine aw_sr ?_
 refine in_ ?_
 refine an_ ?_
 refine aw_cond rfl (fun hb26 => ?_) (fun hb26 => ?_)
 replace h := bif_t hb26 h
 refine aw_seq ?_
 refine aw_region_open [(sp_ 0 46 (pq bx0)), (sp_ 1 47 (ptr g1 1)), (sp_ 2 48 (str a2.Name)), (sp_ 4 50 (pq bx1)), (sp_ 5 51 (ag [(iq a2.Kind), (str a2.Name), (str a2.Text), (iq a2.N), v2_4]))] (tab [(0, (pq bx0)), (1, (pq bx1)), (5, (pq g1)), (6, (bool false))]) mixed (fun a hs => hs.tab _ (allT_mem ⟨rfl, rfl, rfl, rfl, trivial⟩)) ?_
 refine ta_show (m := (mm47 w0 Z0 a0 a1 a2 bx0 bx1 g1 gm0_1 gm0_2 v0_3 v1_1 v1_2 v1_3 v2_4)) (S := _) ?_
 refine ta_step 3 _ [0, 1, 2, 4, 5] [46, 47, 48, 50, 51] [0, 1, 2] [] [(sp_ 0 46 (pq bx0)), (sp_ 1 47 (ptr g1 1)), (sp_ 2 48 (str a2.Name))] [(sp_ 4 50 (pq bx1)), (sp_ 5 51 (ag [(iq a2.Kind), (str a2.Name), (str a2.Text), (iq a2.N), v2_4]))] rfl rfl rfl (by kernel_rfl) rfl rfl rfl ⟨⟨_, rfl, [], rfl, by
  intro X_ Y_ F_ K_ hK_
  refine sh_ (mm47 w0 Z0 a0 a1 a2 bx0 bx1 g1 gm0_1 gm0_2 v0_3 v1_1 v1_2 v1_3 v2_4) X_ Y_ ?_
  refine mv_ ?_
  refine al_nil ?_
  exact fr_fin hK_ ()⟩, ⟨_, rfl, [], rfl, by
  intro X_ Y_ F_ K_ hK_
  refine sh_ (mm47 w0 Z0 a0 a1 a2 bx0 bx1 g1 gm0_1 gm0_2 v0_3 v1_1 v1_2 v1_3 v2_4) X_ Y_ ?_
  refine al_val (ov_fieldA (p := 1) rfl Try.underlying32 rfl sz9 rfl rfl rfl) ?_
  refine al_nil ?_
  exact fr_fin hK_ ()⟩, ⟨_, rfl, [1], rfl, by
  intro _
  intro X_ Y_ F_ K_ hK_
  refine sh_ (mm47 w0 Z0 a0 a1 a2 bx0 bx1 g1 gm0_1 gm0_2 v0_3 v1_1 v1_2 v1_3 v2_4) X_ Y_ ?_
  refine al_val (ov_load (i := 0) (v := (str a2.Name)) rfl rfl Try.underlying9 sz9 rfl rfl rfl rfl) ?_
  refine al_nil ?_
  exact fr_fin hK_ ()⟩, ⟨_, rfl, [], rfl, by
  intro X_ Y_ F_ K_ hK_
  refine sh_ (mm47 w0 Z0 a0 a1 a2 bx0 bx1 g1 gm0_1 gm0_2 v0_3 v1_1 v1_2 v1_3 v2_4) X_ Y_ ?_
  refine mv_ ?_
  refine al_nil ?_
  exact fr_fin hK_ ()⟩, ⟨_, rfl, [], rfl, by
  intro X_ Y_ F_ K_ hK_
  refine sh_ (mm47 w0 Z0 a0 a1 a2 bx0 bx1 g1 gm0_1 gm0_2 v0_3 v1_1 v1_2 v1_3 v2_4) X_ Y_ ?_
  refine al_val (ov_load (i := 0) (v := (ag [(iq a2.Kind), (str a2.Name), (str a2.Text), (iq a2.N), v2_4])) rfl rfl Try.underlying32 sz32 rfl rfl rfl rfl) ?_
  refine al_nil ?_
  exact fr_fin hK_ ()⟩, trivial⟩ ?_
 intro _
 intro _
 intro _
 intro X_ Y_ F_ K_ hK_
 refine sh_ (mm47 w0 Z0 a0 a1 a2 bx0 bx1 g1 gm0_1 gm0_2 v0_3 v1_1 v1_2 v1_3 v2_4) X_ Y_ ?_
 obtain ⟨r28, hc27, h⟩ := opt_some h
 refine al_callX (vs := [(pq bx0), (str a2.Name)]) (f___disk_Disk__Remove_ok fu bx0 gm0_1 gm0_2 v0_3 a0 a2.Name hc27) [] [1, 2, 3, 4] [0, 5, 6] pre_nil rfl (by simp) (by decide) rfl (.inl rfl) rfl Try.func21 rfl rfl rfl (fun ⟨g29, g30, v31⟩ => ?_)
 refine al_nil ?_
 refine aq_show (m := Mem.plus (mm52 w0 Z0 a0 a1 a2 bx0 bx1 g1 g29 g30 gm0_1 gm0_2 r28 v0_3 v1_1 v1_2 v1_3 v2_4 v31) X_ Y_) ?_
 refine aq_next hK_ [0, 1, 2, 3, 4, 5, 6] [0, 1, 2] [(0, (pq bx0)), (1, (pq bx1)), (5, (pq g1)), (6, (bool false)), (49, (iq r28.1))] [50, 51] [] rfl rfl (by decide) rfl ⟨rfl, rfl, rfl, rfl, rfl, trivial⟩ ⟨rfl, rfl, trivial⟩ ?_
 clear hK_ K_ F_ X_ Y_
 refine ta_show (m := (mm52 w0 Z0 a0 a1 a2 bx0 bx1 g1 g29 g30 gm0_1 gm0_2 r28 v0_3 v1_1 v1_2 v1_3 v2_4 v31)) (S := _) ?_
 refine ta_step 6 _ [4, 5] [50, 51] [4, 5] [7] [(sp_ 4 50 (pq bx1)), (sp_ 5 51 (ag [(iq a2.Kind), (str a2.Name), (str a2.Text), (iq a2.N), v2_4]))] [] rfl rfl rfl (by kernel_rfl) rfl rfl rfl ⟨⟨_, rfl, [], rfl, by
  intro X_ Y_ F_ K_ hK_
  refine sh_ (mm52 w0 Z0 a0 a1 a2 bx0 bx1 g1 g29 g30 gm0_1 gm0_2 r28 v0_3 v1_1 v1_2 v1_3 v2_4 v31) X_ Y_ ?_
  refine mv_ ?_
  refine al_nil ?_
  exact fr_fin hK_ ()⟩, ⟨_, rfl, [], rfl, by
  intro X_ Y_ F_ K_ hK_
  refine sh_ (mm52 w0 Z0 a0 a1 a2 bx0 bx1 g1 g29 g30 gm0_1 gm0_2 r28 v0_3 v1_1 v1_2 v1_3 v2_4 v31) X_ Y_ ?_
  refine al_val (ov_load (i := 4) (v := (ag [(iq a2.Kind), (str a2.Name), (str a2.Text), (iq a2.N), v2_4])) rfl rfl Try.underlying32 sz32 rfl rfl rfl rfl) ?_
  refine al_nil ?_
  exact fr_fin hK_ ()⟩, trivial⟩ ?_
 intro _
 intro _
 intro X_ Y_ F_ K_ hK_
 refine sh_ (mm52 w0 Z0 a0 a1 a2 bx0 bx1 g1 g29 g30 gm0_1 gm0_2 r28 v0_3 v1_1 v1_2 v1_3 v2_4 v31) X_ Y_ ?_
 obtain ⟨r33, hc32, h⟩ := opt_some h
 refine al_callX (vs := [(pq bx1), (ag [(iq a2.Kind), (str a2.Name), (str a2.Text), (iq a2.N), v2_4])]) (f___lumref_Disk__Change_ok fu bx1 v1_1 v1_2 v1_3 a1 v2_4 a2 hc32) [] [5, 6] [0, 1, 2, 3, 4] (pre_fz 0 rfl (pre_fz 1 rfl (pre_fz 2 rfl pre_nil))) rfl (by simp) (by decide) rfl (.inl rfl) rfl Try.func20 rfl rfl rfl (fun ⟨v34, v35, v36⟩ => ?_)
 refine al_nil ?_
 refine aq_show (m := Mem.plus (mm53 w0 Z0 a0 a1 a2 bx0 bx1 g1 g29 g30 gm0_1 gm0_2 r28 r33 v0_3 v1_1 v1_2 v1_3 v2_4 v31 v34 v35 v36) X_ Y_) ?_
 refine aq_next hK_ [0, 1, 2, 3, 4, 5, 6] [0, 1, 2, 3, 4] [(0, (pq bx0)), (1, (pq bx1)), (6, (bool false)), (49, (iq r28.1)), (52, (iq r33.1))] [] [(sp_ 7 53 (bool (r28.1 == r33.1)))] rfl rfl (by decide) rfl ⟨rfl, rfl, rfl, rfl, rfl, trivial⟩ trivial ?_
 clear hK_ K_ F_ X_ Y_
 refine ta_show (m := (mm53 w0 Z0 a0 a1 a2 bx0 bx1 g1 g29 g30 gm0_1 gm0_2 r28 r33 v0_3 v1_1 v1_2 v1_3 v2_4 v31 v34 v35 v36)) (S := _) ?_
 refine ta_step 8 _ [7] [53] [7] [] [(sp_ 7 53 (bool (r28.1 == r33.1)))] [] rfl rfl rfl (by kernel_rfl) rfl rfl rfl ⟨⟨_, rfl, [], rfl, by
  intro X_ Y_ F_ K_ hK_
  refine sh_ (mm53 w0 Z0 a0 a1 a2 bx0 bx1 g1 g29 g30 gm0_1 gm0_2 r28 r33 v0_3 v1_1 v1_2 v1_3 v2_4 v31 v34 v35 v36) X_ Y_ ?_
  refine in_ ?_
  refine al_nil ?_
  exact fr_fin hK_ ()⟩, trivial⟩ ?_
 intro _
 intro X_ Y_ F_ K_ hK_
 refine sh_ (mm53 w0 Z0 a0 a1 a2 bx0 bx1 g1 g29 g30 gm0_1 gm0_2 r28 r33 v0_3 v1_1 v1_2 v1_3 v2_4 v31 v34 v35 v36) X_ Y_ ?_
 refine as_ ?_
 refine al_nil ?_
 refine aq_show (m := Mem.plus (mm53 w0 Z0 a0 a1 a2 bx0 bx1 g1 g29 g30 gm0_1 gm0_2 r28 r33 v0_3 v1_1 v1_2 v1_3 v2_4 v31 v34 v35 v36) X_ Y_) ?_
 refine aq_next hK_ [0, 1, 2, 3, 4, 5, 6] [0, 1, 2, 3, 4] [(0, (pq bx0)), (1, (pq bx1)), (6, (bool (r28.1 == r33.1)))] [] [] rfl rfl (by decide) rfl ⟨rfl, rfl, rfl, trivial⟩ trivial ?_
 clear hK_ K_ F_ X_ Y_
 refine ta_show (m := (mm53 w0 Z0 a0 a1 a2 bx0 bx1 g1 g29 g30 gm0_1 gm0_2 r28 r33 v0_3 v1_1 v1_2 v1_3 v2_4 v31 v34 v35 v36)) (S := _) ?_
 refine ta_end [] [] rfl rfl (by kernel_rfl) rfl trivial ?_
 refine aq_show (m := (mm53 w0 Z0 a0 a1 a2 bx0 bx1 g1 g29 g30 gm0_1 gm0_2 r28 r33 v0_3 v1_1 v1_2 v1_3 v2_4 v31 v34 v35 v36)) (S := (tab [(0, (pq bx0)), (1, (pq bx1)), (6, (bool (r28.1 == r33.1)))])) ?_
 refine aq_then ?_
 refine aw_ret ?_
 refine aq_block_ret ?_
 refine aq_then_ret ?_
 cases h
 exact fn_ret (g29, g30, v31, v34, v35, v36) [2, 3, 4, 5, 0, 1] [0, 1] rfl rfl rfl rfl (res1 rfl rfl) rfl rfl rfl (by decide)
 replace h := bif_f hb26 h
 refine aw_sr ?_
 refine in_ ?_
 refine an_ ?_
 refine aw_cond rfl (fun hb37 => ?_) (fun hb37 => ?_)
 replace h := bif_t hb37 h
 refine sm_ ?_
 obtain ⟨r39, hc38, h⟩ := opt_some h
 refine al_call (vs := [(pq bx0)]) (f___disk_Disk__Sync_ok fu bx0 gm0_1 gm0_2 v0_3 a0 hc38) [] [1, 2, 3, 4] [0, 5, 6] pre_nil rfl (by simp) (by decide) (.inl rfl) rfl Try.func22 rfl rfl rfl (fun ⟨g40, g41, v42⟩ => ?_)
 refine mv_ ?_
 obtain ⟨r44, hc43, h⟩ := opt_some h
 refine al_call (vs := [(pq bx1)]) (f___lumref_Disk__Sync_ok fu bx1 v1_1 v1_2 v1_3 a1 hc43) [] [5, 6] [0, 1, 2, 3, 4] (pre_fz 0 rfl (pre_fz 1 rfl pre_nil)) rfl (by simp) (by decide) (.inl rfl) rfl Try.func23 rfl rfl rfl (fun ⟨v45, v46, v47⟩ => ?_)
 refine in_ ?_
 refine an_ ?_
 refine aw_ret ?_
 refine aq_block_ret ?_
 refine aq_then_ret ?_
 cases h
 exact fn_ret (g40, g41, v42, v45, v46, v47) [2, 3, 4, 5, 0, 1] [0, 1] rfl rfl rfl rfl (res1 rfl rfl) rfl rfl rfl (by decide)
 replace h := bif_f hb37 h
 refine aw_sr ?_
 refine in_ ?_
 refine an_ ?_
 refine aw_cond rfl (fun hb48 => ?_) (fun hb48 => ?_)
 replace h := bif_t hb48 h
 refine sm_ ?_
 refine al_val (ov_fieldA (p := 1) rfl Try.underlying32 rfl sz9 rfl rfl rfl) ?_
 refine al_val (ov_load (i := 0) (v := (str a2.Name)) rfl rfl Try.underlying9 sz9 rfl rfl rfl rfl) ?_
 obtain ⟨r50, hc49, h⟩ := opt_some h
 refine al_call (vs := [(pq bx0), (str a2.Name)]) (f___disk_Disk__Read_ok fu bx0 gm0_1 gm0_2 v0_3 a0 a2.Name hc49) [] [1, 2, 3, 4] [0, 5, 6] pre_nil rfl (by simp) (by decide) (.inl rfl) rfl Try.func24 rfl rfl rfl (fun ⟨g51, g52, v53⟩ => ?_)
 refine mv_ ?_
 refine al_ex rfl rfl rfl ?_
 refine al_ex rfl rfl rfl ?_
 refine as_ ?_
 refine an_ ?_
 refine sm_ ?_
 refine al_val (ov_fieldA (p := 1) rfl Try.underlying32 rfl sz9 rfl rfl rfl) ?_
 refine al_val (ov_load (i := 4) (v := (str a2.Name)) rfl rfl Try.underlying9 sz9 rfl rfl rfl rfl) ?_
 obtain ⟨r55, hc54, h⟩ := opt_some h
 refine al_call (vs := [(pq bx1), (str a2.Name)]) (f___lumref_Disk__Read_ok fu bx1 v1_1 v1_2 v1_3 a1 a2.Name hc54) [] [5, 6] [0, 1, 2, 3, 4] (pre_fz 0 rfl (pre_fz 1 rfl pre_nil)) rfl (by simp) (by decide) (.inl rfl) rfl Try.func25 rfl rfl rfl (fun ⟨v56, v57, v58⟩ => ?_)
 refine mv_ ?_
 refine al_ex rfl rfl rfl ?_
 refine al_ex rfl rfl rfl ?_
 refine as_ ?_
 refine an_ ?_
 obtain ⟨kk60, hkk60, h⟩ := lt_some h
 refine aw_seq_join (ι := Bool) (fun i => (mm54 w0 Z0 a0 a1 a2 bx0 bx1 g51 g52 gm0_1 gm0_2 r50 r55 v0_3 v1_1 v1_2 v1_3 v2_4 v53 v56 v57 v58)) (fun i => (tab [(0, (pq bx0)), (1, (pq bx1)), (6, (bool i))])) (fun i => kk60 i = some r) ?_ ?_
 rintro j59b6 h
 have h : kk60 j59b6 = some r := h
 rw [hkk60] at h
 dsimp only at h
 clear hkk60
 refine aw_show (m := (mm54 w0 Z0 a0 a1 a2 bx0 bx1 g51 g52 gm0_1 gm0_2 r50 r55 v0_3 v1_1 v1_2 v1_3 v2_4 v53 v56 v57 v58)) (S := _) ?_
 refine aw_ret ?_
 refine aq_block_ret ?_
 refine aq_then_ret ?_
 cases h
 exact fn_ret (g51, g52, v53, v56, v57, v58) [3, 0, 1, 2, 5, 4] [0, 1] rfl rfl rfl rfl (res1 rfl rfl) rfl rfl rfl (by decide)
 clear hkk60
 refine aw_region ?_
 refine mv_ ?_
 refine mv_ ?_
 refine al_val (ov_strCmp rfl rfl rfl rfl) ?_
 refine mv_ ?_
 refine al_caseB 80 rfl (fun hb61 => ?_) (fun hb61 => ?_)
 replace h := bif_t hb61 h
 refine mv_ ?_
 refine mv_ ?_
 refine in_ ?_
 refine al_val (ov_pick_t rfl rfl rfl) ?_
 refine as_ ?_
 refine al_nil ?_
 exact aq_join (r50.2.1 == r55.2.1) h (nm_ [3, 4, 5, 2, 1, 0] [0, 1, 2, 3, 4] (by decide) ⟨rfl, rfl, rfl, trivial⟩)
 replace h := bif_f hb61 h
 iterate 3 refine al_skip ?_
 refine al_val (ov_pick_f rfl rfl rfl) ?_
 refine as_ ?_
 refine al_nil ?_
 exact aq_join false h (nm_ [3, 4, 5, 2, 1, 0] [0, 1, 2, 3, 4] (by decide) ⟨rfl, rfl, rfl, trivial⟩)
 replace h := bif_f hb48 h
 refine aw_sr ?_
 refine in_ ?_
 refine an_ ?_
 refine aw_cond rfl (fun hb62 => ?_) (fun hb62 => ?_)
 replace h := bif_t hb62 h
 refine sm_ ?_
 obtain ⟨r64, hc63, h⟩ := opt_some h
 refine al_call (vs := [(pq bx0)]) (f___disk_Disk__List_ok fu bx0 gm0_1 gm0_2 v0_3 a0 hc63) [] [1, 2, 3, 4] [0, 5, 6] pre_nil rfl (by simp) (by decide) (.inl rfl) rfl Try.func26 rfl rfl rfl (fun ⟨v65, g66, g67, v68⟩ => ?_)
 refine mv_ ?_
 refine al_ex rfl rfl rfl ?_
 refine al_ex rfl rfl rfl ?_
 refine as_ ?_
 refine an_ ?_
 refine sm_ ?_
 obtain ⟨r70, hc69, h⟩ := opt_some h
 refine al_call (vs := [(pq bx1)]) (f___lumref_Disk__List_ok fu bx1 v1_1 v1_2 v1_3 a1 hc69) [] [6, 7] [0, 1, 2, 3, 4, 5] (pre_fz 0 rfl (pre_fz 1 rfl pre_nil)) rfl (by simp) (by decide) (.inl rfl) rfl Try.func27 rfl rfl rfl (fun ⟨v71, v72, v73, v74⟩ => ?_)
 refine mv_ ?_
 refine al_ex rfl rfl rfl ?_
 refine al_ex rfl rfl rfl ?_
 refine as_ ?_
 refine an_ ?_
 obtain ⟨kk76, hkk76, h⟩ := lt_some h
 refine aw_seq_join (ι := Bool) (fun i => (mm55 w0 Z0 a0 a1 a2 bx0 bx1 g66 g67 gm0_1 gm0_2 r64 r70 v0_3 v1_1 v1_2 v1_3 v2_4 v68 v72 v73 v74)) (fun i => (tab [(0, (pq bx0)), (1, (pq bx1)), (6, (bool i))])) (fun i => kk76 i = some r) ?_ ?_
 rintro j75b6 h
 have h : kk76 j75b6 = some r := h
 rw [hkk76] at h
 dsimp only at h
 clear hkk76
 refine aw_show (m := (mm55 w0 Z0 a0 a1 a2 bx0 bx1 g66 g67 gm0_1 gm0_2 r64 r70 v0_3 v1_1 v1_2 v1_3 v2_4 v68 v72 v73 v74)) (S := _) ?_
 refine aw_ret ?_
 refine aq_block_ret ?_
 refine aq_then_ret ?_
 cases h
 exact fn_ret (g66, g67, v68, v72, v73, v74) [3, 0, 1, 2, 5, 4] [0, 1] rfl rfl rfl rfl (res1 rfl rfl) rfl rfl rfl (by decide)
 clear hkk76
 refine aw_region ?_
 refine mv_ ?_
 refine mv_ ?_
 obtain ⟨r78, hc77, h⟩ := opt_some h
 refine al_call (vs := [v65, v71]) (f_slices_Equal___string_string__ok fu v65 r64.1 v71 r70.1 hc77) [0, 3] [] [0, 1, 2, 3, 4, 5, 6, 7, 8] (pre_own 3 rfl rfl (pre_own 0 rfl rfl pre_nil)) rfl (by simp) (by decide) (.inr flat_res0) rfl Try.func28 rfl rfl rfl (fun _ => ?_)
 refine mv_ ?_
 refine al_caseB 100 rfl (fun hb79 => ?_) (fun hb79 => ?_)
 replace h := bif_t hb79 h
 refine mv_ ?_
 refine mv_ ?_
 refine in_ ?_
 refine al_val (ov_pick_t rfl rfl rfl) ?_
 refine as_ ?_
 refine al_nil ?_
 exact aq_join (r64.2.1 == r70.2.1) h (nm_ [5, 6, 7, 4, 2, 1] [0, 1, 2, 3, 4] (by decide) ⟨rfl, rfl, rfl, trivial⟩)
 replace h := bif_f hb79 h
 iterate 3 refine al_skip ?_
 refine al_val (ov_pick_f rfl rfl rfl) ?_
 refine as_ ?_
 refine al_nil ?_
 exact aq_join false h (nm_ [5, 6, 7, 4, 2, 1] [0, 1, 2, 3, 4] (by decide) ⟨rfl, rfl, rfl, trivial⟩)
 replace h := bif_f hb62 h
 refine aw_sr ?_
 refine in_ ?_
 refine an_ ?_
 refine aw_cond rfl (fun hb80 => ?_) (fun hb80 => ?_)
 replace h := bif_t hb80 h
 refine sm_ ?_
 refine al_val (ov_fieldA (p := 3) rfl Try.underlying32 rfl sz3 rfl rfl rfl) ?_
 refine al_val (ov_load (i := 0) (v := (iq a2.N)) rfl rfl Try.underlying3 sz3 rfl rfl rfl rfl) ?_
 obtain ⟨r82, hc81, h⟩ := opt_some h
 refine al_call (vs := [(pq bx0), (iq a2.N)]) (f___disk_Disk__Fuse_ok fu bx0 gm0_1 gm0_2 v0_3 a0 a2.N hc81) [] [1, 2, 3, 4] [0, 5, 6] pre_nil rfl (by simp) (by decide) (.inl rfl) rfl Try.func29 rfl rfl rfl (fun ⟨g83, g84, v85⟩ => ?_)
 refine al_nt ?_
 refine aw_region ?_
 refine mv_ ?_
 refine al_val (ov_fieldA (p := 3) rfl Try.underlying32 rfl sz3 rfl rfl rfl) ?_
 refine al_val (ov_load (i := 4) (v := (iq a2.N)) rfl rfl Try.underlying3 sz3 rfl rfl rfl rfl) ?_
 obtain ⟨r87, hc86, h⟩ := opt_some h
 refine al_call (vs := [(pq bx1), (iq a2.N)]) (f___lumref_Disk__Fuse_ok fu bx1 v1_1 v1_2 v1_3 a1 a2.N hc86) [] [5, 6] [0, 1, 2, 3, 4] (pre_fz 0 rfl (pre_fz 1 rfl pre_nil)) rfl (by simp) (by decide) (.inl rfl) rfl Try.func30 rfl rfl rfl (fun ⟨v88, v89, v90⟩ => ?_)
 refine al_nil ?_
 refine aq_block ?_
 exact aq_join (r82.room, g83, r82.files, g84, r82.durable, v85, r82.changes, r82.fused, r82.left, r87.Room, v88, r87.Seen, v89, r87.Safe, v90, r87.Ops, r87.Left) h (nm_ [3, 4, 5, 2, 1, 0] [0, 1, 2, 3, 4] (by decide) ⟨rfl, rfl, trivial⟩)
 replace h := bif_f hb80 h
 refine aw_sr ?_
 refine in_ ?_
 refine an_ ?_
 refine aw_cond rfl (fun hb91 => ?_) (fun hb91 => ?_)
 replace h := bif_t hb91 h
 refine sm_ ?_
 refine al_val (ov_fieldA (p := 4) rfl Try.underlying32 rfl sz30 rfl rfl rfl) ?_
 refine al_val (ov_load (i := 0) (v := v2_4) rfl rfl Try.underlying30 sz30 rfl rfl rfl rfl) ?_
 obtain ⟨r93, hc92, h⟩ := opt_some h
 refine al_call (vs := [(pq bx0), v2_4]) (f___disk_Disk__Crash_ok fu bx0 gm0_1 gm0_2 v0_3 a0 v2_4 a2.Keep hc92) [] [1, 2, 3, 4] [0, 5, 6] (pre_fz 2 rfl pre_nil) rfl (by simp) (by decide) (.inl rfl) rfl Try.func31 rfl rfl rfl (fun ⟨g94, g95, v96⟩ => ?_)
 refine al_nt ?_
 refine aw_region ?_
 refine mv_ ?_
 refine al_val (ov_fieldA (p := 4) rfl Try.underlying32 rfl sz30 rfl rfl rfl) ?_
 refine al_val (ov_load (i := 4) (v := v2_4) rfl rfl Try.underlying30 sz30 rfl rfl rfl rfl) ?_
 obtain ⟨r98, hc97, h⟩ := opt_some h
 refine al_call (vs := [(pq bx1), v2_4]) (f___lumref_Disk__Crash_ok fu bx1 v1_1 v1_2 v1_3 a1 v2_4 a2.Keep hc97) [] [5, 6] [0, 1, 2, 3, 4] (pre_fz 0 rfl (pre_fz 1 rfl (pre_fz 2 rfl pre_nil))) rfl (by simp) (by decide) (.inl rfl) rfl Try.func32 rfl rfl rfl (fun ⟨v99, v100, v101⟩ => ?_)
 refine al_nil ?_
 refine aq_block ?_
 exact aq_join (r93.room, g94, r93.files, g95, r93.durable, v96, r93.changes, r93.fused, r93.left, r98.Room, v99, r98.Seen, v100, r98.Safe, v101, r98.Ops, r98.Left) h (nm_ [3, 4, 5, 2, 1, 0] [0, 1, 2, 3, 4] (by decide) ⟨rfl, rfl, trivial⟩)
 replace h := bif_f hb91 h
 refine aw_skip ?_
 refine aq_block ?_
 exact aq_join (a0.room, gm0_1, a0.files, gm0_2, a0.durable, v0_3, a0.changes, a0.fused, a0.left, a1.Room, v1_1, a1.Seen, v1_2, a1.Safe, v1_3, a1.Ops, a1.Left) h (nm_ [2, 3, 4, 1, 6, 5] [0, 1, 0, 1, 2] (by decide) ⟨rfl, rfl, trivial⟩)
def f_lumlaw_SameFiles_L20 (r2 : ((List (List UInt8)) × Int × D_disk_Disk)) (kk17 : (Int → (List ((List UInt8) × (List UInt8))) → (List ((List UInt8) × (List UInt8))) → (List I114) → Bool → Int → Int → (List S_lumref_File) → (List S_lumref_File) → (List S_api_Deed) → Int → Option (Bool × D_disk_Disk × D_lumref_Disk))) (fu : Nat) : Nat → Int → (List ((List UInt8) × (List UInt8))) → (List ((List UInt8) × (List UInt8))) → (List I114) → Bool → Int → Int → (List S_lumref_File) → (List S_lumref_File) → (List S_api_Deed) → Int → Int → Option (Bool × D_disk_Disk × D_lumref_Disk)
  | 0, _, _, _, _, _, _, _, _, _, _, _, _ => none
  | k19 + 1, l18i0_0, l18xm0_1, l18xm0_2, l18x0_3, l18b0_4, l18i0_5, l18i1_0, l18x1_1, l18x1_2, l18x1_3, l18i1_4, l18i36 => (bif (decide (l18i36 < (r2.1.length : Int))) then (opt (at? r2.1 l18i36) fun (u22 : (List UInt8)) => (opt (f___disk_Disk__Read fu (D_disk_Disk.mk l18i0_0 l18xm0_1 l18xm0_2 l18x0_3 l18b0_4 l18i0_5) u22) fun (r27 : ((List UInt8) × Int × D_disk_Disk)) => (opt (f___lumref_Disk__Read fu (D_lumref_Disk.mk l18i1_0 l18x1_1 l18x1_2 l18x1_3 l18i1_4) u22) fun (r32 : ((List UInt8) × Int × D_lumref_Disk)) => (lt (fun (j36b59 : Bool) => (bif j36b59 then (some (false, r27.2.2, r32.2.2)) else (f_lumlaw_SameFiles_L20 r2 kk17 fu k19 r27.2.2.room r27.2.2.files r27.2.2.durable r27.2.2.changes r27.2.2.fused r27.2.2.left r32.2.2.Room r32.2.2.Seen r32.2.2.Safe r32.2.2.Ops r32.2.2.Left (IntKind.i64.wrap (l18i36 + (1 : Int)))))) fun (kk37 : Bool → Option (Bool × D_disk_Disk × D_lumref_Disk)) => (bif (!(r27.1 == r32.1)) then (kk37 true) else (kk37 (r27.2.1 != r32.2.1))))))) else (kk17 l18i0_0 l18xm0_1 l18xm0_2 l18x0_3 l18b0_4 l18i0_5 l18i1_0 l18x1_1 l18x1_2 l18x1_3 l18i1_4))
def f_lumlaw_SameFiles (fu : Nat) (a0 : D_disk_Disk) (a1 : D_lumref_Disk) : Option (Bool × D_disk_Disk × D_lumref_Disk) := (opt (f___disk_Disk__List fu a0) fun (r2 : ((List (List UInt8)) × Int × D_disk_Disk)) => (opt (f___lumref_Disk__List fu a1) fun (r8 : ((List (List UInt8)) × Int × D_lumref_Disk)) => (lt (fun (j13b33 : Bool) => (bif j13b33 then (some (false, r2.2.2, r8.2.2)) else (lt (fun (j16i0_0 : Int) (j16xm0_1 : (List ((List UInt8) × (List UInt8)))) (j16xm0_2 : (List ((List UInt8) × (List UInt8)))) (j16x0_3 : (List I114)) (j16b0_4 : Bool) (j16i0_5 : Int) (j16i1_0 : Int) (j16x1_1 : (List S_lumref_File)) (j16x1_2 : (List S_lumref_File)) (j16x1_3 : (List S_api_Deed)) (j16i1_4 : Int) => (some (true, (D_disk_Disk.mk j16i0_0 j16xm0_1 j16xm0_2 j16x0_3 j16b0_4 j16i0_5), (D_lumref_Disk.mk j16i1_0 j16x1_1 j16x1_2 j16x1_3 j16i1_4)))) fun (kk17 : Int → (List ((List UInt8) × (List UInt8))) → (List ((List UInt8) × (List UInt8))) → (List I114) → Bool → Int → Int → (List S_lumref_File) → (List S_lumref_File) → (List S_api_Deed) → Int → Option (Bool × D_disk_Disk × D_lumref_Disk)) => (f_lumlaw_SameFiles_L20 r2 kk17 fu fu r2.2.2.room r2.2.2.files r2.2.2.durable r2.2.2.changes r2.2.2.fused r2.2.2.left r8.2.2.Room r8.2.2.Seen r8.2.2.Safe r8.2.2.Ops r8.2.2.Left (0 : Int))))) fun (kk14 : Bool → Option (Bool × D_disk_Disk × D_lumref_Disk)) => (bif (r2.2.1 != r8.2.1) then (kk14 true) else (opt (f_slices_Equal___string_string_ fu r2.1 r8.1) fun (r42 : Bool) => (kk14 (!r42)))))))
abbrev mm56 (w0 : World) (Z0 : Nat → Prop) (a0 : D_disk_Disk) (a1 : D_lumref_Disk) (bx0 : Nat) (bx1 : Nat) (g4 : Nat) (g5 : Nat) (gm0_1 : Nat) (gm0_2 : Nat) (r2 : ((List (List UInt8)) × Int × D_disk_Disk)) (r8 : ((List (List UInt8)) × Int × D_lumref_Disk)) (v0_3 : Value) (v10 : Value) (v11 : Value) (v12 : Value) (v1_1 : Value) (v1_2 : Value) (v1_3 : Value) (v3 : Value) (v6 : Value) : Mem := memOf w0 Z0 [(oBox bx0 54 [(int .i64 a0.room), (Value.map (some gm0_1)), (Value.map (some gm0_2)), v0_3, (bool a0.fused), (int .i64 a0.left)]), (oMapK Try.prog 9 gm0_1 str str a0.files), (oMapK Try.prog 9 gm0_2 str str a0.durable), (oRow v0_3 114 tyI114 a0.changes), (oBox bx1 57 [(int .i64 a1.Room), v1_1, v1_2, v1_3, (int .i64 a1.Left)]), (oRow v1_3 32 tyS_api_Deed a1.Ops)] [(oMapK Try.prog 9 g4 str str r2.2.2.files), (oMapK Try.prog 9 g5 str str r2.2.2.durable), (oRow v6 114 tyI114 r2.2.2.changes), (oBox bx0 54 [(int .i64 r2.2.2.room), (Value.map (some g4)), (Value.map (some g5)), v6, (bool r2.2.2.fused), (int .i64 r2.2.2.left)]), (oRow v12 32 tyS_api_Deed r8.2.2.Ops), (oBox bx1 57 [(int .i64 r8.2.2.Room), v10, v11, v12, (int .i64 r8.2.2.Left)]), (oRow v3 9 tyStr r2.1)] [(fDat (tyList tyS_lumref_File) [v10] r8.2.2.Seen), (fDat (tyList tyS_lumref_File) [v11] r8.2.2.Safe), (fDat (tyList tyS_lumref_File) [v1_1] a1.Seen), (fDat (tyList tyS_lumref_File) [v1_2] a1.Safe)]
abbrev mm57 (w0 : World) (Z0 : Nat → Prop) (a0 : D_disk_Disk) (a1 : D_lumref_Disk) (bx0 : Nat) (bx1 : Nat) (g28 : Nat) (g29 : Nat) (gm0_1 : Nat) (gm0_2 : Nat) (l18v1_1 : Value) (l18v1_2 : Value) (l18x1_1 : (List S_lumref_File)) (l18x1_2 : (List S_lumref_File)) (r2 : ((List (List UInt8)) × Int × D_disk_Disk)) (r27 : ((List UInt8) × Int × D_disk_Disk)) (r32 : ((List UInt8) × Int × D_lumref_Disk)) (r8 : ((List (List UInt8)) × Int × D_lumref_Disk)) (v0_3 : Value) (v10 : Value) (v11 : Value) (v1_1 : Value) (v1_2 : Value) (v1_3 : Value) (v3 : Value) (v30 : Value) (v33 : Value) (v34 : Value) (v35 : Value) : Mem := memOf w0 Z0 [(oBox bx0 54 [(int .i64 a0.room), (Value.map (some gm0_1)), (Value.map (some gm0_2)), v0_3, (bool a0.fused), (int .i64 a0.left)]), (oMapK Try.prog 9 gm0_1 str str a0.files), (oMapK Try.prog 9 gm0_2 str str a0.durable), (oRow v0_3 114 tyI114 a0.changes), (oBox bx1 57 [(int .i64 a1.Room), v1_1, v1_2, v1_3, (int .i64 a1.Left)]), (oRow v1_3 32 tyS_api_Deed a1.Ops)] [(oMapK Try.prog 9 g28 str str r27.2.2.files), (oMapK Try.prog 9 g29 str str r27.2.2.durable), (oRow v30 114 tyI114 r27.2.2.changes), (oBox bx0 54 [(int .i64 r27.2.2.room), (Value.map (some g28)), (Value.map (some g29)), v30, (bool r27.2.2.fused), (int .i64 r27.2.2.left)]), (oRow v35 32 tyS_api_Deed r32.2.2.Ops), (oBox bx1 57 [(int .i64 r32.2.2.Room), v33, v34, v35, (int .i64 r32.2.2.Left)]), (oRow v3 9 tyStr r2.1)] [(fDat (tyList tyS_lumref_File) [v33] r32.2.2.Seen), (fDat (tyList tyS_lumref_File) [v34] r32.2.2.Safe), (fDat (tyList tyS_lumref_File) [l18v1_1] l18x1_1), (fDat (tyList tyS_lumref_File) [l18v1_2] l18x1_2), (fDat (tyList tyS_lumref_File) [v10] r8.2.2.Seen), (fDat (tyList tyS_lumref_File) [v11] r8.2.2.Safe), (fDat (tyList tyS_lumref_File) [v1_1] a1.Seen), (fDat (tyList tyS_lumref_File) [v1_2] a1.Safe)]
set_option maxHeartbeats 2000000 in
set_option maxRecDepth 100000 in
theorem f_lumlaw_SameFiles_ok (fu : Nat) (bx0 : Nat) (gm0_1 : Nat) (gm0_2 : Nat) (v0_3 : Value) (a0 : D_disk_Disk) (bx1 : Nat) (v1_1 : Value) (v1_2 : Value) (v1_3 : Value) (a1 : D_lumref_Disk) {r : (Bool × D_disk_Disk × D_lumref_Disk)} (h : f_lumlaw_SameFiles fu a0 a1 = some r) : FnOk Try.prog 8 [(ptr bx0 0), (ptr bx1 0)] [(fDat (tyList tyS_lumref_File) [v1_1] a1.Seen), (fDat (tyList tyS_lumref_File) [v1_2] a1.Safe)] [(oBox bx0 54 [(int .i64 a0.room), (Value.map (some gm0_1)), (Value.map (some gm0_2)), v0_3, (bool a0.fused), (int .i64 a0.left)]), (oMapK Try.prog 9 gm0_1 str str a0.files), (oMapK Try.prog 9 gm0_2 str str a0.durable), (oRow v0_3 114 tyI114 a0.changes), (oBox bx1 57 [(int .i64 a1.Room), v1_1, v1_2, v1_3, (int .i64 a1.Left)]), (oRow v1_3 32 tyS_api_Deed a1.Ops)] (fun (i : Nat × Nat × Value × Value × Value × Value) => { val := (bool r.1), own := [(oBox bx0 54 [(int .i64 r.2.1.room), (Value.map (some i.1)), (Value.map (some i.2.1)), i.2.2.1, (bool r.2.1.fused), (int .i64 r.2.1.left)]), (oMapK Try.prog 9 i.1 str str r.2.1.files), (oMapK Try.prog 9 i.2.1 str str r.2.1.durable), (oRow i.2.2.1 114 tyI114 r.2.1.changes), (oBox bx1 57 [(int .i64 r.2.2.Room), i.2.2.2.1, i.2.2.2.2.1, i.2.2.2.2.2, (int .i64 r.2.2.Left)]), (oRow i.2.2.2.2.2 32 tyS_api_Deed r.2.2.Ops)], fz := [(fDat (tyList tyS_lumref_File) [i.2.2.2.1] r.2.2.Seen), (fDat (tyList tyS_lumref_File) [i.2.2.2.2.1] r.2.2.Safe)] }) := by
 unfold f_lumlaw_SameFiles at h
 refine fn_enter Try.func8 rfl Try.ntmps8 rfl (fun w0 Z0 => ?_)
 refine aw_sr ?_
 refine an_ ?_
 refine sm_ ?_
 obtain ⟨r2, hc1, h⟩ := opt_some h
 refine al_call (vs := [(pq bx0)]) (f___disk_Disk__List_ok fu bx0 gm0_1 gm0_2 v0_3 a0 hc1) [] [0, 1, 2, 3] [4, 5] pre_nil rfl (by simp) (by decide) (.inl rfl) rfl Try.func26 rfl rfl rfl (fun ⟨v3, g4, g5, v6⟩ => ?_)
 refine mv_ ?_
 refine al_ex rfl rfl rfl ?_
 refine al_ex rfl rfl rfl ?_
 refine as_ ?_
 refine an_ ?_
 refine sm_ ?_
 obtain ⟨r8, hc7, h⟩ := opt_some h
 refine al_call (vs := [(pq bx1)]) (f___lumref_Disk__List_ok fu bx1 v1_1 v1_2 v1_3 a1 hc7) [] [5, 6] [0, 1, 2, 3, 4] (pre_fz 0 rfl (pre_fz 1 rfl pre_nil)) rfl (by simp) (by decide) (.inl rfl) rfl Try.func27 rfl rfl rfl (fun ⟨v9, v10, v11, v12⟩ => ?_)
 refine mv_ ?_
 refine al_ex rfl rfl rfl ?_
 refine al_ex rfl rfl rfl ?_
 refine as_ ?_
 refine an_ ?_
 refine aw_seq ?_
 obtain ⟨kk14, hkk14, h⟩ := lt_some h
 refine aw_seq_join (ι := Bool) (fun i => (mm56 w0 Z0 a0 a1 bx0 bx1 g4 g5 gm0_1 gm0_2 r2 r8 v0_3 v10 v11 v12 v1_1 v1_2 v1_3 v3 v6)) (fun i => (tab [(0, (pq bx0)), (1, (pq bx1)), (5, v3), (33, (bool i))])) (fun i => kk14 i = some r) ?_ ?_
 rintro j13b33 h
 have h : kk14 j13b33 = some r := h
 rw [hkk14] at h
 dsimp only at h
 clear hkk14
 refine aw_show (m := (mm56 w0 Z0 a0 a1 bx0 bx1 g4 g5 gm0_1 gm0_2 r2 r8 v0_3 v10 v11 v12 v1_1 v1_2 v1_3 v3 v6)) (S := _) ?_
 refine aw_cond rfl (fun hb15 => ?_) (fun hb15 => ?_)
 replace h := bif_t hb15 h
 refine aw_sr ?_
 refine an_ ?_
 refine aw_ret ?_
 refine aq_then_ret ?_
 cases h
 exact fn_ret (g4, g5, v6, v10, v11, v12) [3, 0, 1, 2, 5, 4] [0, 1] rfl rfl rfl rfl (res1 rfl rfl) rfl rfl rfl (by decide)
 replace h := bif_f hb15 h
 refine aw_skip ?_
 refine aq_then ?_
 obtain ⟨kk17, hkk17, h⟩ := lt_some h
 refine aw_seq_join (ι := Int × Nat × (List ((List UInt8) × (List UInt8))) × Nat × (List ((List UInt8) × (List UInt8))) × Value × (List I114) × Bool × Int × Int × Value × (List S_lumref_File) × Value × (List S_lumref_File) × Value × (List S_api_Deed) × Int) (fun i => (memOf w0 Z0 [(oBox bx0 54 [(iq a0.room), (Value.map (some gm0_1)), (Value.map (some gm0_2)), v0_3, (bool a0.fused), (iq a0.left)]), (oMapK Try.prog 9 gm0_1 str str a0.files), (oMapK Try.prog 9 gm0_2 str str a0.durable), (oRow v0_3 114 tyI114 a0.changes), (oBox bx1 57 [(iq a1.Room), v1_1, v1_2, v1_3, (iq a1.Left)]), (oRow v1_3 32 tyS_api_Deed a1.Ops)] [(oMapK Try.prog 9 i.2.1 str str i.2.2.1), (oMapK Try.prog 9 i.2.2.2.1 str str i.2.2.2.2.1), (oRow i.2.2.2.2.2.1 114 tyI114 i.2.2.2.2.2.2.1), (oBox bx0 54 [(iq i.1), (Value.map (some i.2.1)), (Value.map (some i.2.2.2.1)), i.2.2.2.2.2.1, (bool i.2.2.2.2.2.2.2.1), (iq i.2.2.2.2.2.2.2.2.1)]), (oRow i.2.2.2.2.2.2.2.2.2.2.2.2.2.2.1 32 tyS_api_Deed i.2.2.2.2.2.2.2.2.2.2.2.2.2.2.2.1), (oBox bx1 57 [(iq i.2.2.2.2.2.2.2.2.2.1), i.2.2.2.2.2.2.2.2.2.2.1, i.2.2.2.2.2.2.2.2.2.2.2.2.1, i.2.2.2.2.2.2.2.2.2.2.2.2.2.2.1, (iq i.2.2.2.2.2.2.2.2.2.2.2.2.2.2.2.2)])] [(fDat (tyList tyS_lumref_File) [i.2.2.2.2.2.2.2.2.2.2.1] i.2.2.2.2.2.2.2.2.2.2.2.1), (fDat (tyList tyS_lumref_File) [i.2.2.2.2.2.2.2.2.2.2.2.2.1] i.2.2.2.2.2.2.2.2.2.2.2.2.2.1), (fDat (tyList tyS_lumref_File) [v10] r8.2.2.Seen), (fDat (tyList tyS_lumref_File) [v11] r8.2.2.Safe), (fDat (tyList tyS_lumref_File) [v1_1] a1.Seen), (fDat (tyList tyS_lumref_File) [v1_2] a1.Safe)])) (fun i => (tab [(0, (pq bx0)), (1, (pq bx1))])) (fun i => kk17 i.1 i.2.2.1 i.2.2.2.2.1 i.2.2.2.2.2.2.1 i.2.2.2.2.2.2.2.1 i.2.2.2.2.2.2.2.2.1 i.2.2.2.2.2.2.2.2.2.1 i.2.2.2.2.2.2.2.2.2.2.2.1 i.2.2.2.2.2.2.2.2.2.2.2.2.2.1 i.2.2.2.2.2.2.2.2.2.2.2.2.2.2.2.1 i.2.2.2.2.2.2.2.2.2.2.2.2.2.2.2.2 = some r) ?_ ?_
 rintro ⟨j16i0_0, j16g0_1, j16xm0_1, j16g0_2, j16xm0_2, j16v0_3, j16x0_3, j16b0_4, j16i0_5, j16i1_0, j16v1_1, j16x1_1, j16v1_2, j16x1_2, j16v1_3, j16x1_3, j16i1_4⟩ h
 have h : kk17 j16i0_0 j16xm0_1 j16xm0_2 j16x0_3 j16b0_4 j16i0_5 j16i1_0 j16x1_1 j16x1_2 j16x1_3 j16i1_4 = some r := h
 rw [hkk17] at h
 dsimp only at h
 clear hkk17
 refine aw_show (m := (memOf w0 Z0 [(oBox bx0 54 [(iq a0.room), (Value.map (some gm0_1)), (Value.map (some gm0_2)), v0_3, (bool a0.fused), (iq a0.left)]), (oMapK Try.prog 9 gm0_1 str str a0.files), (oMapK Try.prog 9 gm0_2 str str a0.durable), (oRow v0_3 114 tyI114 a0.changes), (oBox bx1 57 [(iq a1.Room), v1_1, v1_2, v1_3, (iq a1.Left)]), (oRow v1_3 32 tyS_api_Deed a1.Ops)] [(oMapK Try.prog 9 j16g0_1 str str j16xm0_1), (oMapK Try.prog 9 j16g0_2 str str j16xm0_2), (oRow j16v0_3 114 tyI114 j16x0_3), (oBox bx0 54 [(iq j16i0_0), (Value.map (some j16g0_1)), (Value.map (some j16g0_2)), j16v0_3, (bool j16b0_4), (iq j16i0_5)]), (oRow j16v1_3 32 tyS_api_Deed j16x1_3), (oBox bx1 57 [(iq j16i1_0), j16v1_1, j16v1_2, j16v1_3, (iq j16i1_4)])] [(fDat (tyList tyS_lumref_File) [j16v1_1] j16x1_1), (fDat (tyList tyS_lumref_File) [j16v1_2] j16x1_2), (fDat (tyList tyS_lumref_File) [v10] r8.2.2.Seen), (fDat (tyList tyS_lumref_File) [v11] r8.2.2.Safe), (fDat (tyList tyS_lumref_File) [v1_1] a1.Seen), (fDat (tyList tyS_lumref_File) [v1_2] a1.Safe)])) (S := _) ?_
 refine aw_sr ?_
 refine an_ ?_
 refine aw_ret ?_
 cases h
 exact fn_ret (j16g0_1, j16g0_2, j16v0_3, j16v1_1, j16v1_2, j16v1_3) [3, 0, 1, 2, 5, 4] [0, 1] rfl rfl rfl rfl (res1 rfl rfl) rfl rfl rfl (by decide)
 clear hkk17
 refine sm_ ?_
 refine al_val (ov_lenR 6 rfl rfl Try.underlying64 rfl) ?_
 refine mv_ ?_
 refine al_nt ?_
 refine aw_block ?_
 refine aw_state (aw_loop (ι := Int × Nat × (List ((List UInt8) × (List UInt8))) × Nat × (List ((List UInt8) × (List UInt8))) × Value × (List I114) × Bool × Int × Int × Value × (List S_lumref_File) × Value × (List S_lumref_File) × Value × (List S_api_Deed) × Int × Int) (fun i => (memOf w0 Z0 [(oBox bx0 54 [(iq a0.room), (Value.map (some gm0_1)), (Value.map (some gm0_2)), v0_3, (bool a0.fused), (iq a0.left)]), (oMapK Try.prog 9 gm0_1 str str a0.files), (oMapK Try.prog 9 gm0_2 str str a0.durable), (oRow v0_3 114 tyI114 a0.changes), (oBox bx1 57 [(iq a1.Room), v1_1, v1_2, v1_3, (iq a1.Left)]), (oRow v1_3 32 tyS_api_Deed a1.Ops)] [(oMapK Try.prog 9 i.2.1 str str i.2.2.1), (oMapK Try.prog 9 i.2.2.2.1 str str i.2.2.2.2.1), (oRow i.2.2.2.2.2.1 114 tyI114 i.2.2.2.2.2.2.1), (oBox bx0 54 [(iq i.1), (Value.map (some i.2.1)), (Value.map (some i.2.2.2.1)), i.2.2.2.2.2.1, (bool i.2.2.2.2.2.2.2.1), (iq i.2.2.2.2.2.2.2.2.1)]), (oRow i.2.2.2.2.2.2.2.2.2.2.2.2.2.2.1 32 tyS_api_Deed i.2.2.2.2.2.2.2.2.2.2.2.2.2.2.2.1), (oBox bx1 57 [(iq i.2.2.2.2.2.2.2.2.2.1), i.2.2.2.2.2.2.2.2.2.2.1, i.2.2.2.2.2.2.2.2.2.2.2.2.1, i.2.2.2.2.2.2.2.2.2.2.2.2.2.2.1, (iq i.2.2.2.2.2.2.2.2.2.2.2.2.2.2.2.2.1)]), (oRow v3 9 tyStr r2.1)] [(fDat (tyList tyS_lumref_File) [i.2.2.2.2.2.2.2.2.2.2.1] i.2.2.2.2.2.2.2.2.2.2.2.1), (fDat (tyList tyS_lumref_File) [i.2.2.2.2.2.2.2.2.2.2.2.2.1] i.2.2.2.2.2.2.2.2.2.2.2.2.2.1), (fDat (tyList tyS_lumref_File) [v10] r8.2.2.Seen), (fDat (tyList tyS_lumref_File) [v11] r8.2.2.Safe), (fDat (tyList tyS_lumref_File) [v1_1] a1.Seen), (fDat (tyList tyS_lumref_File) [v1_2] a1.Safe)])) (fun i => (tab [(0, (pq bx0)), (1, (pq bx1)), (34, v3), (35, (iq (r2.1.length : Int))), (36, (iq i.2.2.2.2.2.2.2.2.2.2.2.2.2.2.2.2.2))])) (fun q i => f_lumlaw_SameFiles_L20 r2 kk17 fu q i.1 i.2.2.1 i.2.2.2.2.1 i.2.2.2.2.2.2.1 i.2.2.2.2.2.2.2.1 i.2.2.2.2.2.2.2.2.1 i.2.2.2.2.2.2.2.2.2.1 i.2.2.2.2.2.2.2.2.2.2.2.1 i.2.2.2.2.2.2.2.2.2.2.2.2.2.1 i.2.2.2.2.2.2.2.2.2.2.2.2.2.2.2.1 i.2.2.2.2.2.2.2.2.2.2.2.2.2.2.2.2.1 i.2.2.2.2.2.2.2.2.2.2.2.2.2.2.2.2.2 = some r) ?_ fu (r2.2.2.room, g4, r2.2.2.files, g5, r2.2.2.durable, v6, r2.2.2.changes, r2.2.2.fused, r2.2.2.left, r8.2.2.Room, v10, r8.2.2.Seen, v11, r8.2.2.Safe, v12, r8.2.2.Ops, r8.2.2.Left, (0 : Int)) h) (nm_ [0, 1, 2, 3, 4, 5, 6] [0, 1, 0, 1, 2, 3] (by decide) ⟨rfl, rfl, rfl, rfl, rfl, trivial⟩)
 clear h
 rintro k19 ⟨l18i0_0, l18g0_1, l18xm0_1, l18g0_2, l18xm0_2, l18v0_3, l18x0_3, l18b0_4, l18i0_5, l18i1_0, l18v1_1, l18x1_1, l18v1_2, l18x1_2, l18v1_3, l18x1_3, l18i1_4, l18i36⟩ h
 have h : f_lumlaw_SameFiles_L20 r2 kk17 fu k19 l18i0_0 l18xm0_1 l18xm0_2 l18x0_3 l18b0_4 l18i0_5 l18i1_0 l18x1_1 l18x1_2 l18x1_3 l18i1_4 l18i36 = some r := h
 obtain _ | k19 := k19
 rw [f_lumlaw_SameFiles_L20] at h; cases h
 rw [f_lumlaw_SameFiles_L20] at h
 refine aw_show (m := (memOf w0 Z0 [(oBox bx0 54 [(iq a0.room), (Value.map (some gm0_1)), (Value.map (some gm0_2)), v0_3, (bool a0.fused), (iq a0.left)]), (oMapK Try.prog 9 gm0_1 str str a0.files), (oMapK Try.prog 9 gm0_2 str str a0.durable), (oRow v0_3 114 tyI114 a0.changes), (oBox bx1 57 [(iq a1.Room), v1_1, v1_2, v1_3, (iq a1.Left)]), (oRow v1_3 32 tyS_api_Deed a1.Ops)] [(oMapK Try.prog 9 l18g0_1 str str l18xm0_1), (oMapK Try.prog 9 l18g0_2 str str l18xm0_2), (oRow l18v0_3 114 tyI114 l18x0_3), (oBox bx0 54 [(iq l18i0_0), (Value.map (some l18g0_1)), (Value.map (some l18g0_2)), l18v0_3, (bool l18b0_4), (iq l18i0_5)]), (oRow l18v1_3 32 tyS_api_Deed l18x1_3), (oBox bx1 57 [(iq l18i1_0), l18v1_1, l18v1_2, l18v1_3, (iq l18i1_4)]), (oRow v3 9 tyStr r2.1)] [(fDat (tyList tyS_lumref_File) [l18v1_1] l18x1_1), (fDat (tyList tyS_lumref_File) [l18v1_2] l18x1_2), (fDat (tyList tyS_lumref_File) [v10] r8.2.2.Seen), (fDat (tyList tyS_lumref_File) [v11] r8.2.2.Safe), (fDat (tyList tyS_lumref_File) [v1_1] a1.Seen), (fDat (tyList tyS_lumref_File) [v1_2] a1.Safe)])) (S := _) ?_
 refine aw_sr ?_
 refine im_ ?_
 refine aw_seq ?_
 refine aw_cond rfl (fun hb21 => ?_) (fun hb21 => ?_)
 replace h := bif_t hb21 h
 refine aw_skip ?_
 refine aq_then ?_
 refine aw_seq ?_
 refine aw_block ?_
 refine aw_sr ?_
 obtain ⟨u22, hu23, h⟩ := opt_some h
 refine al_idxR 6 (at_some hu23).1 (at_some hu23).2.1 rfl rfl rfl Try.underlying64 sz9 rfl (fun p24 hp25 => ?_)
 refine al_val (ov_loadR (ds := [(str u22)]) 6 rfl hp25 (at_some hu23).2.2 (fun h => h) rfl Try.underlying9 sz9 rfl rfl rfl) ?_
 refine an_ ?_
 refine sm_ ?_
 refine mv_ ?_
 obtain ⟨r27, hc26, h⟩ := opt_some h
 refine al_call (vs := [(pq bx0), (str u22)]) (f___disk_Disk__Read_ok fu bx0 l18g0_1 l18g0_2 l18v0_3 (D_disk_Disk.mk l18i0_0 l18xm0_1 l18xm0_2 l18x0_3 l18b0_4 l18i0_5) u22 hc26) [] [3, 0, 1, 2] [4, 5, 6] pre_nil rfl (by simp) (by decide) (.inl rfl) rfl Try.func24 rfl rfl rfl (fun ⟨g28, g29, v30⟩ => ?_)
 refine mv_ ?_
 refine al_ex rfl rfl rfl ?_
 refine al_ex rfl rfl rfl ?_
 refine as_ ?_
 refine an_ ?_
 refine sm_ ?_
 refine mv_ ?_
 obtain ⟨r32, hc31, h⟩ := opt_some h
 refine al_call (vs := [(pq bx1), (str u22)]) (f___lumref_Disk__Read_ok fu bx1 l18v1_1 l18v1_2 l18v1_3 (D_lumref_Disk.mk l18i1_0 l18x1_1 l18x1_2 l18x1_3 l18i1_4) u22 hc31) [] [5, 4] [0, 1, 2, 3, 6] (pre_fz 0 rfl (pre_fz 1 rfl pre_nil)) rfl (by simp) (by decide) (.inl rfl) rfl Try.func25 rfl rfl rfl (fun ⟨v33, v34, v35⟩ => ?_)
 refine mv_ ?_
 refine al_ex rfl rfl rfl ?_
 refine al_ex rfl rfl rfl ?_
 refine as_ ?_
 refine an_ ?_
 obtain ⟨kk37, hkk37, h⟩ := lt_some h
 refine aw_seq_join (ι := Bool) (fun i => (mm57 w0 Z0 a0 a1 bx0 bx1 g28 g29 gm0_1 gm0_2 l18v1_1 l18v1_2 l18x1_1 l18x1_2 r2 r27 r32 r8 v0_3 v10 v11 v1_1 v1_2 v1_3 v3 v30 v33 v34 v35)) (fun i => (tab [(0, (pq bx0)), (1, (pq bx1)), (34, v3), (35, (iq (r2.1.length : Int))), (36, (iq l18i36)), (59, (bool i))])) (fun i => kk37 i = some r) ?_ ?_
 rintro j36b59 h
 have h : kk37 j36b59 = some r := h
 rw [hkk37] at h
 dsimp only at h
 clear hkk37
 refine aw_show (m := (mm57 w0 Z0 a0 a1 bx0 bx1 g28 g29 gm0_1 gm0_2 l18v1_1 l18v1_2 l18x1_1 l18x1_2 r2 r27 r32 r8 v0_3 v10 v11 v1_1 v1_2 v1_3 v3 v30 v33 v34 v35)) (S := _) ?_
 refine aw_cond rfl (fun hb38 => ?_) (fun hb38 => ?_)
 replace h := bif_t hb38 h
 refine aw_sr ?_
 refine an_ ?_
 refine aw_ret ?_
 refine aq_block_ret ?_
 refine aq_then_ret ?_
 refine aq_then_ret ?_
 refine aq_block_ret ?_
 refine aq_then_ret ?_
 cases h
 exact fn_ret (g28, g29, v30, v33, v34, v35) [3, 0, 1, 2, 5, 4] [0, 1] rfl rfl rfl rfl (res1 rfl rfl) rfl rfl rfl (by decide)
 replace h := bif_f hb38 h
 refine aw_skip ?_
 refine aq_block ?_
 refine aq_then ?_
 refine aw_region ?_
 refine in_ ?_
 refine mv_ ?_
 refine al_nil ?_
 exact aq_again k19 (r27.2.2.room, g28, r27.2.2.files, g29, r27.2.2.durable, v30, r27.2.2.changes, r27.2.2.fused, r27.2.2.left, r32.2.2.Room, v33, r32.2.2.Seen, v34, r32.2.2.Safe, v35, r32.2.2.Ops, r32.2.2.Left, (wq (l18i36 + (1 : Int)))) (Nat.lt_succ_self _) h (nm_ [0, 1, 2, 3, 4, 5, 6] [0, 1, 4, 5, 6, 7] (by decide) ⟨rfl, rfl, rfl, rfl, rfl, trivial⟩)
 clear hkk37
 refine aw_region ?_
 refine mv_ ?_
 refine mv_ ?_
 refine al_val (ov_strCmp rfl rfl rfl rfl) ?_
 refine mv_ ?_
 refine al_caseB 55 rfl (fun hb39 => ?_) (fun hb39 => ?_)
 replace h := bif_t hb39 h
 iterate 3 refine al_skip ?_
 refine al_val (ov_pick_t rfl rfl rfl) ?_
 refine al_nil ?_
 exact aq_join true h (nm_ [3, 4, 5, 2, 1, 0, 6] [0, 1, 2, 3, 4, 5, 6, 7] (by decide) ⟨rfl, rfl, rfl, rfl, rfl, rfl, trivial⟩)
 replace h := bif_f hb39 h
 refine mv_ ?_
 refine mv_ ?_
 refine in_ ?_
 refine al_val (ov_pick_f rfl rfl rfl) ?_
 refine al_nil ?_
 exact aq_join (r27.2.1 != r32.2.1) h (nm_ [3, 4, 5, 2, 1, 0, 6] [0, 1, 2, 3, 4, 5, 6, 7] (by decide) ⟨rfl, rfl, rfl, rfl, rfl, rfl, trivial⟩)
 replace h := bif_f hb21 h
 refine aw_exit ?_
 refine aq_then_exit ?_
 refine aq_then_exit ?_
 refine aq_block_exit ?_
 exact aq_join (l18i0_0, l18g0_1, l18xm0_1, l18g0_2, l18xm0_2, l18v0_3, l18x0_3, l18b0_4, l18i0_5, l18i1_0, l18v1_1, l18x1_1, l18v1_2, l18x1_2, l18v1_3, l18x1_3, l18i1_4) h (nm_ [0, 1, 2, 3, 4, 5] [0, 1, 2, 3, 4, 5] (by decide) ⟨rfl, rfl, trivial⟩)
 clear hkk14
 refine aw_region ?_
 refine mv_ ?_
 refine mv_ ?_
 refine in_ ?_
 refine mv_ ?_
 refine al_caseB 28 rfl (fun hb40 => ?_) (fun hb40 => ?_)
 replace h := bif_t hb40 h
 iterate 4 refine al_skip ?_
 refine al_val (ov_pick_t rfl rfl rfl) ?_
 refine al_nil ?_
 exact aq_join true h (nm_ [5, 6, 7, 4, 2, 1, 3] [0, 1, 2, 3] (by decide) ⟨rfl, rfl, rfl, rfl, trivial⟩)
 replace h := bif_f hb40 h
 refine mv_ ?_
 refine mv_ ?_
 obtain ⟨r42, hc41, h⟩ := opt_some h
 refine al_call (vs := [v3, v9]) (f_slices_Equal___string_string__ok fu v3 r2.1 v9 r8.1 hc41) [0, 3] [] [0, 1, 2, 3, 4, 5, 6, 7] (pre_own 3 rfl rfl (pre_own 0 rfl rfl pre_nil)) rfl (by simp) (by decide) (.inr flat_res0) rfl Try.func28 rfl rfl rfl (fun _ => ?_)
 refine al_val (ov_not rfl rfl) ?_
 refine al_val (ov_pick_f rfl rfl rfl) ?_
 refine al_nil ?_
 exact aq_join (!r42) h (nm_ [5, 6, 7, 4, 2, 1, 3] [0, 1, 2, 3] (by decide) ⟨rfl, rfl, rfl, rfl, trivial⟩)
def f_lumlaw_DiskPlays_L46 (a1 : (List S_api_Deed)) (kk38 : (Int → (List ((List UInt8) × (List UInt8))) → (List ((List UInt8) × (List UInt8))) → (List I114) → Bool → Int → Option Bool)) (fu : Nat) : Nat → Int → (List ((List UInt8) × (List UInt8))) → (List ((List UInt8) × (List UInt8))) → (List I114) → Bool → Int → Int → Option Bool
  | 0, _, _, _, _, _, _, _ => none
  | k45 + 1, l44i5_0, l44xm5_1, l44xm5_2, l44x5_3, l44b5_4, l44i5_5, l44i38 => (bif (decide (l44i38 < (a1.length : Int))) then (opt (at? a1 l44i38) fun (u48 : S_api_Deed) => (opt (f_lumlaw_sameDeed_nilp fu (D_disk_Disk.mk l44i5_0 l44xm5_1 l44xm5_2 l44x5_3 l44b5_4 l44i5_5) u48) fun (r55 : (Bool × D_disk_Disk)) => (bif (!r55.1) then (some false) else (f_lumlaw_DiskPlays_L46 a1 kk38 fu k45 r55.2.room r55.2.files r55.2.durable r55.2.changes r55.2.fused r55.2.left (IntKind.i64.wrap (l44i38 + (1 : Int))))))) else (kk38 l44i5_0 l44xm5_1 l44xm5_2 l44x5_3 l44b5_4 l44i5_5))
def f_lumlaw_DiskPlays_L77 (a1 : (List S_api_Deed)) (kk66 : (Int → (List ((List UInt8) × (List UInt8))) → (List ((List UInt8) × (List UInt8))) → (List I114) → Bool → Int → Int → (List S_lumref_File) → (List S_lumref_File) → (List S_api_Deed) → Int → Option Bool)) (fu : Nat) : Nat → Int → (List ((List UInt8) × (List UInt8))) → (List ((List UInt8) × (List UInt8))) → (List I114) → Bool → Int → Int → (List S_lumref_File) → (List S_lumref_File) → (List S_api_Deed) → Int → Int → Option Bool
  | 0, _, _, _, _, _, _, _, _, _, _, _, _ => none
  | k76 + 1, l75i5_0, l75xm5_1, l75xm5_2, l75x5_3, l75b5_4, l75i5_5, l75i7_0, l75x7_1, l75x7_2, l75x7_3, l75i7_4, l75i38 => (bif (decide (l75i38 < (a1.length : Int))) then (opt (at? a1 l75i38) fun (u79 : S_api_Deed) => (opt (f_lumlaw_sameDeed fu (D_disk_Disk.mk l75i5_0 l75xm5_1 l75xm5_2 l75x5_3 l75b5_4 l75i5_5) (D_lumref_Disk.mk l75i7_0 l75x7_1 l75x7_2 l75x7_3 l75i7_4) u79) fun (r86 : (Bool × D_disk_Disk × D_lumref_Disk)) => (bif (!r86.1) then (some false) else (f_lumlaw_DiskPlays_L77 a1 kk66 fu k76 r86.2.1.room r86.2.1.files r86.2.1.durable r86.2.1.changes r86.2.1.fused r86.2.1.left r86.2.2.Room r86.2.2.Seen r86.2.2.Safe r86.2.2.Ops r86.2.2.Left (IntKind.i64.wrap (l75i38 + (1 : Int))))))) else (kk66 l75i5_0 l75xm5_1 l75xm5_2 l75x5_3 l75b5_4 l75i5_5 l75i7_0 l75x7_1 l75x7_2 l75x7_3 l75i7_4))
def f_lumlaw_DiskPlays (fu : Nat) (a0 : Int) (a1 : (List S_api_Deed)) : Option Bool := (opt (f_disk_New fu a0) fun (r1 : ((Option D_disk_Disk) × Int)) => (match r1.1 with | none => (opt (f_lumref_NewDisk fu a0) fun (r9 : ((Option D_lumref_Disk) × Int)) => (match r9.1 with | none => (bif (r9.2 != (0 : Int)) then (some (r1.2 == r9.2)) else (lt (fun (_ : Unit) => (some false)) fun (kk19 : Unit → Option Bool) => (bif (r1.2 != (0 : Int)) then (kk19 ()) else (kk19 ())))) | some x12 => (bif (r9.2 != (0 : Int)) then (some (r1.2 == r9.2)) else (lt (fun (_ : Unit) => (some false)) fun (kk23 : Unit → Option Bool) => (bif (r1.2 != (0 : Int)) then (kk23 ()) else (kk23 ())))))) | some x4 => (opt (f_lumref_NewDisk fu a0) fun (r25 : ((Option D_lumref_Disk) × Int)) => (match r25.1 with | none => (bif (r25.2 != (0 : Int)) then (some false) else (lt (fun (j34b35 : Bool) => (bif j34b35 then (some false) else (lt (fun (j37i5_0 : Int) (j37xm5_1 : (List ((List UInt8) × (List UInt8)))) (j37xm5_2 : (List ((List UInt8) × (List UInt8)))) (j37x5_3 : (List I114)) (j37b5_4 : Bool) (j37i5_5 : Int) => (opt (f_lumlaw_SameFiles_nilp fu (D_disk_Disk.mk j37i5_0 j37xm5_1 j37xm5_2 j37x5_3 j37b5_4 j37i5_5)) fun (r40 : (Bool × D_disk_Disk)) => (some r40.1))) fun (kk38 : Int → (List ((List UInt8) × (List UInt8))) → (List ((List UInt8) × (List UInt8))) → (List I114) → Bool → Int → Option Bool) => (f_lumlaw_DiskPlays_L46 a1 kk38 fu fu x4.room x4.files x4.durable x4.changes x4.fused x4.left (0 : Int))))) fun (kk35 : Bool → Option Bool) => (bif (r1.2 != (0 : Int)) then (kk35 true) else (kk35 false)))) | some x28 => (bif (r25.2 != (0 : Int)) then (some false) else (lt (fun (j62b35 : Bool) => (bif j62b35 then (some false) else (lt (fun (j65i5_0 : Int) (j65xm5_1 : (List ((List UInt8) × (List UInt8)))) (j65xm5_2 : (List ((List UInt8) × (List UInt8)))) (j65x5_3 : (List I114)) (j65b5_4 : Bool) (j65i5_5 : Int) (j65i7_0 : Int) (j65x7_1 : (List S_lumref_File)) (j65x7_2 : (List S_lumref_File)) (j65x7_3 : (List S_api_Deed)) (j65i7_4 : Int) => (opt (f_lumlaw_SameFiles fu (D_disk_Disk.mk j65i5_0 j65xm5_1 j65xm5_2 j65x5_3 j65b5_4 j65i5_5) (D_lumref_Disk.mk j65i7_0 j65x7_1 j65x7_2 j65x7_3 j65i7_4)) fun (r68 : (Bool × D_disk_Disk × D_lumref_Disk)) => (some r68.1))) fun (kk66 : Int → (List ((List UInt8) × (List UInt8))) → (List ((List UInt8) × (List UInt8))) → (List I114) → Bool → Int → Int → (List S_lumref_File) → (List S_lumref_File) → (List S_api_Deed) → Int → Option Bool) => (f_lumlaw_DiskPlays_L77 a1 kk66 fu fu x4.room x4.files x4.durable x4.changes x4.fused x4.left x28.Room x28.Seen x28.Safe x28.Ops x28.Left (0 : Int))))) fun (kk63 : Bool → Option Bool) => (bif (r1.2 != (0 : Int)) then (kk63 true) else (kk63 false))))))))
abbrev mm58 (w0 : World) (Z0 : Nat → Prop) (a1 : (List S_api_Deed)) (g13 : Nat) (v14 : Value) (v15 : Value) (v16 : Value) (v1_0 : Value) (x12 : D_lumref_Disk) : Mem := memOf w0 Z0 [] [(oRow v16 32 tyS_api_Deed x12.Ops), (oBox g13 57 [(int .i64 x12.Room), v14, v15, v16, (int .i64 x12.Left)])] [(fDat (tyList tyS_api_Deed) [v1_0] a1), (fDat (tyList tyS_lumref_File) [v14] x12.Seen), (fDat (tyList tyS_lumref_File) [v15] x12.Safe)]
abbrev mm59 (w0 : World) (Z0 : Nat → Prop) (a1 : (List S_api_Deed)) (g5 : Nat) (g6 : Nat) (g7 : Nat) (v1_0 : Value) (v8 : Value) (x4 : D_disk_Disk) : Mem := memOf w0 Z0 [] [(oMapK Try.prog 9 g6 str str x4.files), (oMapK Try.prog 9 g7 str str x4.durable), (oRow v8 114 tyI114 x4.changes), (oBox g5 54 [(int .i64 x4.room), (Value.map (some g6)), (Value.map (some g7)), v8, (bool x4.fused), (int .i64 x4.left)])] [(fDat (tyList tyS_api_Deed) [v1_0] a1)]
abbrev mm60 (w0 : World) (Z0 : Nat → Prop) (a1 : (List S_api_Deed)) (g29 : Nat) (g5 : Nat) (g6 : Nat) (g7 : Nat) (v1_0 : Value) (v30 : Value) (v31 : Value) (v32 : Value) (v8 : Value) (x28 : D_lumref_Disk) (x4 : D_disk_Disk) : Mem := memOf w0 Z0 [] [(oMapK Try.prog 9 g6 str str x4.files), (oMapK Try.prog 9 g7 str str x4.durable), (oRow v8 114 tyI114 x4.changes), (oBox g5 54 [(int .i64 x4.room), (Value.map (some g6)), (Value.map (some g7)), v8, (bool x4.fused), (int .i64 x4.left)]), (oRow v32 32 tyS_api_Deed x28.Ops), (oBox g29 57 [(int .i64 x28.Room), v30, v31, v32, (int .i64 x28.Left)])] [(fDat (tyList tyS_api_Deed) [v1_0] a1), (fDat (tyList tyS_lumref_File) [v30] x28.Seen), (fDat (tyList tyS_lumref_File) [v31] x28.Safe)]
set_option maxRecDepth 100000 in
set_option maxHeartbeats 2000000 in
set_option maxHeartbeats 2000000 in
theorem f_lumlaw_DiskPlays_ok (fu : Nat) (a0 : Int) (v1_0 : Value) (a1 : (List S_api_Deed)) {r : Bool} (h : f_lumlaw_DiskPlays fu a0 a1 = some r) : FnOk Try.prog 3 [(int .i64 a0), v1_0] [(fDat (tyList tyS_api_Deed) [v1_0] a1)] [] (fun (i : Unit) => { val := (bool r) }) := by
 unfold f_lumlaw_DiskPlays at h
 refine fn_enter Try.func3 rfl Try.ntmps3 rfl (fun w0 Z0 => ?_)
 refine aw_sr ?_
 refine an_ ?_
 refine sm_ ?_
 obtain ⟨r1, hc2, h⟩ := opt_some h
 rcases ho3 : r1.1 with _ | x4
 rw [ho3] at h
 dsimp only at h
 refine al_call (vs := [(iq a0)]) (f_disk_New_ok_none fu a0 hc2 (Prod.ext ho3 rfl)) [] [] [] pre_nil rfl (by simp) (by decide) (.inl rfl) rfl Try.func5 rfl rfl rfl (fun _ => ?_)
 refine mv_ ?_
 refine al_ex rfl rfl rfl ?_
 refine al_ex rfl rfl rfl ?_
 refine as_ ?_
 refine an_ ?_
 refine sm_ ?_
 obtain ⟨r9, hc10, h⟩ := opt_some h
 rcases ho11 : r9.1 with _ | x12
 rw [ho11] at h
 dsimp only at h
 refine al_call (vs := [(iq a0)]) (f_lumref_NewDisk_ok_none fu a0 hc10 (Prod.ext ho11 rfl)) [] [] [] pre_nil rfl (by simp) (by decide) (.inl rfl) rfl Try.func6 rfl rfl rfl (fun _ => ?_)
 refine mv_ ?_
 refine al_ex rfl rfl rfl ?_
 refine al_ex rfl rfl rfl ?_
 refine as_ ?_
 refine an_ ?_
 refine aw_seq ?_
 refine sm_ ?_
 refine im_ ?_
 refine aw_cond rfl (fun hb17 => ?_) (fun hb17 => ?_)
 replace h := bif_t hb17 h
 refine sm_ ?_
 refine al_val (ov_ptrEqN rfl rfl Try.underlying23 rfl) ?_
 refine mv_ ?_
 refine mv_ ?_
 refine mv_ ?_
 refine in_ ?_
 refine al_val (ov_pick_t rfl rfl rfl) ?_
 refine an_ ?_
 refine aw_ret ?_
 refine aq_then_ret ?_
 cases h
 exact fr1_
 replace h := bif_f hb17 h
 refine aw_skip ?_
 refine aq_then ?_
 refine aw_seq ?_
 obtain ⟨kk19, hkk19, h⟩ := lt_some h
 refine aw_seq_join (ι := Unit) (fun i => (memOf w0 Z0 [] [] [(fDat (tyList tyS_api_Deed) [v1_0] a1)])) (fun i => (tab [(1, v1_0), (5, (Value.pointer none)), (7, (Value.pointer none)), (35, (bool true))])) (fun i => kk19 () = some r) ?_ ?_
 rintro _ h
 have h : kk19 () = some r := h
 rw [hkk19] at h
 dsimp only at h
 clear hkk19
 refine aw_show (m := (memOf w0 Z0 [] [] [(fDat (tyList tyS_api_Deed) [v1_0] a1)])) (S := _) ?_
 refine aw_cond_t rfl ?_
 refine aw_sr ?_
 refine an_ ?_
 refine aw_ret ?_
 refine aq_then_ret ?_
 cases h
 exact fr1_
 clear hkk19
 refine aw_region ?_
 refine mv_ ?_
 refine in_ ?_
 refine mv_ ?_
 refine al_caseB 32 rfl (fun hb20 => ?_) (fun hb20 => ?_)
 replace h := bif_t hb20 h
 refine al_skip ?_
 refine al_skip ?_
 refine al_val (ov_pick_t rfl rfl rfl) ?_
 refine al_nil ?_
 exact aq_join () h (nm_ [] [0] (by decide) ⟨rfl, rfl, rfl, rfl, trivial⟩)
 replace h := bif_f hb20 h
 refine mv_ ?_
 refine al_val (ov_ptrEqN rfl rfl Try.underlying23 rfl) ?_
 refine al_val (ov_pick_f rfl rfl rfl) ?_
 refine al_nil ?_
 exact aq_join () h (nm_ [] [0] (by decide) ⟨rfl, rfl, rfl, rfl, trivial⟩)
 rw [ho11] at h
 dsimp only at h
 refine al_call (vs := [(iq a0)]) (f_lumref_NewDisk_ok_some fu a0 hc10 (Prod.ext ho11 rfl)) [] [] [] pre_nil rfl (by simp) (by decide) (.inl rfl) rfl Try.func6 rfl rfl rfl (fun ⟨g13, v14, v15, v16⟩ => ?_)
 refine mv_ ?_
 refine al_ex rfl rfl rfl ?_
 refine al_ex rfl rfl rfl ?_
 refine as_ ?_
 refine an_ ?_
 refine aw_seq ?_
 refine sm_ ?_
 refine im_ ?_
 refine aw_cond rfl (fun hb21 => ?_) (fun hb21 => ?_)
 replace h := bif_t hb21 h
 refine sm_ ?_
 refine al_val (ov_ptrEqN rfl rfl Try.underlying23 rfl) ?_
 refine mv_ ?_
 refine mv_ ?_
 refine mv_ ?_
 refine in_ ?_
 refine al_val (ov_pick_t rfl rfl rfl) ?_
 refine an_ ?_
 refine aw_ret ?_
 refine aq_then_ret ?_
 cases h
 exact fr1_
 replace h := bif_f hb21 h
 refine aw_skip ?_
 refine aq_then ?_
 refine aw_seq ?_
 obtain ⟨kk23, hkk23, h⟩ := lt_some h
 refine aw_seq_join (ι := Unit) (fun i => (mm58 w0 Z0 a1 g13 v14 v15 v16 v1_0 x12)) (fun i => (tab [(1, v1_0), (5, (Value.pointer none)), (7, (pq g13)), (35, (bool true))])) (fun i => kk23 () = some r) ?_ ?_
 rintro _ h
 have h : kk23 () = some r := h
 rw [hkk23] at h
 dsimp only at h
 clear hkk23
 refine aw_show (m := (mm58 w0 Z0 a1 g13 v14 v15 v16 v1_0 x12)) (S := _) ?_
 refine aw_cond_t rfl ?_
 refine aw_sr ?_
 refine an_ ?_
 refine aw_ret ?_
 refine aq_then_ret ?_
 cases h
 exact fr1_
 clear hkk23
 refine aw_region ?_
 refine mv_ ?_
 refine in_ ?_
 refine mv_ ?_
 refine al_caseB 32 rfl (fun hb24 => ?_) (fun hb24 => ?_)
 replace h := bif_t hb24 h
 refine al_skip ?_
 refine al_skip ?_
 refine al_val (ov_pick_t rfl rfl rfl) ?_
 refine al_nil ?_
 exact aq_join () h (nm_ [1, 0] [2, 0, 1] (by decide) ⟨rfl, rfl, rfl, rfl, trivial⟩)
 replace h := bif_f hb24 h
 refine mv_ ?_
 refine al_val (ov_ptrEqN rfl rfl Try.underlying23 rfl) ?_
 refine al_val (ov_pick_f rfl rfl rfl) ?_
 refine al_nil ?_
 exact aq_join () h (nm_ [1, 0] [2, 0, 1] (by decide) ⟨rfl, rfl, rfl, rfl, trivial⟩)
 rw [ho3] at h
 dsimp only at h
 refine al_call (vs := [(iq a0)]) (f_disk_New_ok_some fu a0 hc2 (Prod.ext ho3 rfl)) [] [] [] pre_nil rfl (by simp) (by decide) (.inl rfl) rfl Try.func5 rfl rfl rfl (fun ⟨g5, g6, g7, v8⟩ => ?_)
 refine mv_ ?_
 refine al_ex rfl rfl rfl ?_
 refine al_ex rfl rfl rfl ?_
 refine as_ ?_
 refine an_ ?_
 refine sm_ ?_
 obtain ⟨r25, hc26, h⟩ := opt_some h
 rcases ho27 : r25.1 with _ | x28
 rw [ho27] at h
 dsimp only at h
 refine al_call (vs := [(iq a0)]) (f_lumref_NewDisk_ok_none fu a0 hc26 (Prod.ext ho27 rfl)) [] [] [0, 1, 2, 3] pre_nil rfl (by simp) (by decide) (.inl rfl) rfl Try.func6 rfl rfl rfl (fun _ => ?_)
 refine mv_ ?_
 refine al_ex rfl rfl rfl ?_
 refine al_ex rfl rfl rfl ?_
 refine as_ ?_
 refine an_ ?_
 refine aw_seq ?_
 refine sm_ ?_
 refine im_ ?_
 refine aw_cond rfl (fun hb33 => ?_) (fun hb33 => ?_)
 replace h := bif_t hb33 h
 refine sm_ ?_
 refine al_val (ov_ptrEqB rfl rfl Try.underlying23 rfl) ?_
 refine mv_ ?_
 iterate 3 refine al_skip ?_
 refine al_val (ov_pick_f rfl rfl rfl) ?_
 refine an_ ?_
 refine aw_ret ?_
 refine aq_then_ret ?_
 cases h
 exact fr1_
 replace h := bif_f hb33 h
 refine aw_skip ?_
 refine aq_then ?_
 refine aw_seq ?_
 obtain ⟨kk35, hkk35, h⟩ := lt_some h
 refine aw_seq_join (ι := Bool) (fun i => (mm59 w0 Z0 a1 g5 g6 g7 v1_0 v8 x4)) (fun i => (tab [(1, v1_0), (5, (pq g5)), (7, (Value.pointer none)), (35, (bool i))])) (fun i => kk35 i = some r) ?_ ?_
 rintro j34b35 h
 have h : kk35 j34b35 = some r := h
 rw [hkk35] at h
 dsimp only at h
 clear hkk35
 refine aw_show (m := (mm59 w0 Z0 a1 g5 g6 g7 v1_0 v8 x4)) (S := _) ?_
 refine aw_cond rfl (fun hb36 => ?_) (fun hb36 => ?_)
 replace h := bif_t hb36 h
 refine aw_sr ?_
 refine an_ ?_
 refine aw_ret ?_
 refine aq_then_ret ?_
 cases h
 exact fr1_
 replace h := bif_f hb36 h
 refine aw_skip ?_
 refine aq_then ?_
 obtain ⟨kk38, hkk38, h⟩ := lt_some h
 refine aw_seq_join (ι := Int × Nat × (List ((List UInt8) × (List UInt8))) × Nat × (List ((List UInt8) × (List UInt8))) × Value × (List I114) × Bool × Int) (fun i => (memOf w0 Z0 [] [(oMapK Try.prog 9 i.2.1 str str i.2.2.1), (oMapK Try.prog 9 i.2.2.2.1 str str i.2.2.2.2.1), (oRow i.2.2.2.2.2.1 114 tyI114 i.2.2.2.2.2.2.1), (oBox g5 54 [(iq i.1), (Value.map (some i.2.1)), (Value.map (some i.2.2.2.1)), i.2.2.2.2.2.1, (bool i.2.2.2.2.2.2.2.1), (iq i.2.2.2.2.2.2.2.2)])] [(fDat (tyList tyS_api_Deed) [v1_0] a1)])) (fun i => (tab [(5, (pq g5)), (7, (Value.pointer none))])) (fun i => kk38 i.1 i.2.2.1 i.2.2.2.2.1 i.2.2.2.2.2.2.1 i.2.2.2.2.2.2.2.1 i.2.2.2.2.2.2.2.2 = some r) ?_ ?_
 rintro ⟨j37i5_0, j37g5_1, j37xm5_1, j37g5_2, j37xm5_2, j37v5_3, j37x5_3, j37b5_4, j37i5_5⟩ h
 have h : kk38 j37i5_0 j37xm5_1 j37xm5_2 j37x5_3 j37b5_4 j37i5_5 = some r := h
 rw [hkk38] at h
 dsimp only at h
 clear hkk38
 refine aw_show (m := (memOf w0 Z0 [] [(oMapK Try.prog 9 j37g5_1 str str j37xm5_1), (oMapK Try.prog 9 j37g5_2 str str j37xm5_2), (oRow j37v5_3 114 tyI114 j37x5_3), (oBox g5 54 [(iq j37i5_0), (Value.map (some j37g5_1)), (Value.map (some j37g5_2)), j37v5_3, (bool j37b5_4), (iq j37i5_5)])] [(fDat (tyList tyS_api_Deed) [v1_0] a1)])) (S := _) ?_
 refine sm_ ?_
 refine mv_ ?_
 obtain ⟨r40, hc39, h⟩ := opt_some h
 refine al_call (vs := [(pq g5), (Value.pointer none)]) (f_lumlaw_SameFiles_nilp_ok fu g5 j37g5_1 j37g5_2 j37v5_3 (D_disk_Disk.mk j37i5_0 j37xm5_1 j37xm5_2 j37x5_3 j37b5_4 j37i5_5) hc39) [] [3, 0, 1, 2] [] pre_nil rfl (by simp) (by decide) (.inl rfl) rfl Try.func8 rfl rfl rfl (fun ⟨g41, g42, v43⟩ => ?_)
 refine an_ ?_
 refine aw_ret ?_
 cases h
 exact fr1_
 clear hkk38
 refine sm_ ?_
 refine al_val (ov_lenD 0 rfl rfl Try.underlying22 rfl) ?_
 refine mv_ ?_
 refine al_nt ?_
 refine aw_block ?_
 refine aw_state (aw_loop (ι := Int × Nat × (List ((List UInt8) × (List UInt8))) × Nat × (List ((List UInt8) × (List UInt8))) × Value × (List I114) × Bool × Int × Int) (fun i => (memOf w0 Z0 [] [(oMapK Try.prog 9 i.2.1 str str i.2.2.1), (oMapK Try.prog 9 i.2.2.2.1 str str i.2.2.2.2.1), (oRow i.2.2.2.2.2.1 114 tyI114 i.2.2.2.2.2.2.1), (oBox g5 54 [(iq i.1), (Value.map (some i.2.1)), (Value.map (some i.2.2.2.1)), i.2.2.2.2.2.1, (bool i.2.2.2.2.2.2.2.1), (iq i.2.2.2.2.2.2.2.2.1)])] [(fDat (tyList tyS_api_Deed) [v1_0] a1)])) (fun i => (tab [(5, (pq g5)), (7, (Value.pointer none)), (36, v1_0), (37, (iq (a1.length : Int))), (38, (iq i.2.2.2.2.2.2.2.2.2))])) (fun q i => f_lumlaw_DiskPlays_L46 a1 kk38 fu q i.1 i.2.2.1 i.2.2.2.2.1 i.2.2.2.2.2.2.1 i.2.2.2.2.2.2.2.1 i.2.2.2.2.2.2.2.2.1 i.2.2.2.2.2.2.2.2.2 = some r) ?_ fu (x4.room, g6, x4.files, g7, x4.durable, v8, x4.changes, x4.fused, x4.left, (0 : Int)) h) (nm_ [0, 1, 2, 3] [0] (by decide) ⟨rfl, rfl, rfl, rfl, rfl, trivial⟩)
 clear h
 rintro k45 ⟨l44i5_0, l44g5_1, l44xm5_1, l44g5_2, l44xm5_2, l44v5_3, l44x5_3, l44b5_4, l44i5_5, l44i38⟩ h
 have h : f_lumlaw_DiskPlays_L46 a1 kk38 fu k45 l44i5_0 l44xm5_1 l44xm5_2 l44x5_3 l44b5_4 l44i5_5 l44i38 = some r := h
 obtain _ | k45 := k45
 rw [f_lumlaw_DiskPlays_L46] at h; cases h
 rw [f_lumlaw_DiskPlays_L46] at h
 refine aw_show (m := (memOf w0 Z0 [] [(oMapK Try.prog 9 l44g5_1 str str l44xm5_1), (oMapK Try.prog 9 l44g5_2 str str l44xm5_2), (oRow l44v5_3 114 tyI114 l44x5_3), (oBox g5 54 [(iq l44i5_0), (Value.map (some l44g5_1)), (Value.map (some l44g5_2)), l44v5_3, (bool l44b5_4), (iq l44i5_5)])] [(fDat (tyList tyS_api_Deed) [v1_0] a1)])) (S := _) ?_
 refine aw_sr ?_
 refine im_ ?_
 refine aw_seq ?_
 refine aw_cond rfl (fun hb47 => ?_) (fun hb47 => ?_)
 replace h := bif_t hb47 h
 refine aw_skip ?_
 refine aq_then ?_
 refine aw_seq ?_
 refine aw_block ?_
 refine aw_sr ?_
 obtain ⟨u48, hu49, h⟩ := opt_some h
 refine al_idxD 0 hu49 rfl rfl rfl Try.underlying22 sz32 rfl (fun p50 => ?_)
 refine al_loadPA 0 rfl rfl Try.underlying32 sz32 rfl rfl (fun cs52 => ?_)
 refine al_use (ι := Value) 0 rfl (fun j => cs52 = [(iq u48.Kind), (str u48.Name), (str u48.Text), (iq u48.N), j]) (fun j => [(fDat (tyList tq) [j] u48.Keep)]) encnS_api_Deed (fun s51 hq => ?_)
 subst hq
 refine al_alloc (zs := [(iq (0 : Int)), (str ([] : List UInt8)), (str ([] : List UInt8)), (iq (0 : Int)), nS]) (zeroOf_to to32) rfl rfl (fun g53 => ?_)
 refine al_store (i := 0) (vs := [(iq u48.Kind), (str u48.Name), (str u48.Text), (iq u48.N), s51]) (cs' := [(iq u48.Kind), (str u48.Name), (str u48.Text), (iq u48.N), s51]) rfl rfl rfl sz32 (cv_rfl rfl) rfl (co_val rfl (co_val rfl (co_val rfl (co_val rfl (co_fz 0 rfl co_nil))))) (Nat.le_of_ble_eq_true rfl) rfl rfl ?_
 refine al_nt ?_
 refine sm_ ?_
 refine mv_ ?_
 refine al_val (ov_load (i := 0) (v := (ag [(iq u48.Kind), (str u48.Name), (str u48.Text), (iq u48.N), s51])) rfl rfl Try.underlying32 sz32 rfl rfl rfl rfl) ?_
 obtain ⟨r55, hc54, h⟩ := opt_some h
 refine al_call (vs := [(pq g5), (Value.pointer none), (ag [(iq u48.Kind), (str u48.Name), (str u48.Text), (iq u48.N), s51])]) (f_lumlaw_sameDeed_nilp_ok fu g5 l44g5_1 l44g5_2 l44v5_3 (D_disk_Disk.mk l44i5_0 l44xm5_1 l44xm5_2 l44x5_3 l44b5_4 l44i5_5) s51 u48 hc54) [] [4, 1, 2, 3] [0] (pre_fz 0 rfl pre_nil) rfl (by simp) (by decide) (.inl rfl) rfl Try.func7 rfl rfl rfl (fun ⟨g56, g57, v58⟩ => ?_)
 refine al_val (ov_not rfl rfl) ?_
 refine al_nt ?_
 refine aw_cond rfl (fun hb59 => ?_) (fun hb59 => ?_)
 replace h := bif_t hb59 h
 refine aw_sr ?_
 refine an_ ?_
 refine aw_ret ?_
 refine aq_block_ret ?_
 refine aq_then_ret ?_
 refine aq_then_ret ?_
 refine aq_block_ret ?_
 refine aq_then_ret ?_
 cases h
 exact fr1_
 replace h := bif_f hb59 h
 refine aw_skip ?_
 refine aq_block ?_
 refine aq_then ?_
 refine aw_region ?_
 refine in_ ?_
 refine mv_ ?_
 refine al_nil ?_
 exact aq_again k45 (r55.2.room, g56, r55.2.files, g57, r55.2.durable, v58, r55.2.changes, r55.2.fused, r55.2.left, (wq (l44i38 + (1 : Int)))) (Nat.lt_succ_self _) h (nm_ [1, 2, 3, 0] [3] (by decide) ⟨rfl, rfl, rfl, rfl, rfl, trivial⟩)
 replace h := bif_f hb47 h
 refine aw_exit ?_
 refine aq_then_exit ?_
 refine aq_then_exit ?_
 refine aq_block_exit ?_
 exact aq_join (l44i5_0, l44g5_1, l44xm5_1, l44g5_2, l44xm5_2, l44v5_3, l44x5_3, l44b5_4, l44i5_5) h (nm_ [0, 1, 2, 3] [0] (by decide) ⟨rfl, rfl, trivial⟩)
 clear hkk35
 refine aw_region ?_
 refine mv_ ?_
 refine in_ ?_
 refine mv_ ?_
 refine al_caseB 32 rfl (fun hb60 => ?_) (fun hb60 => ?_)
 replace h := bif_t hb60 h
 refine al_skip ?_
 refine al_skip ?_
 refine al_val (ov_pick_t rfl rfl rfl) ?_
 refine al_nil ?_
 exact aq_join true h (nm_ [1, 2, 3, 0] [0] (by decide) ⟨rfl, rfl, rfl, rfl, trivial⟩)
 replace h := bif_f hb60 h
 refine mv_ ?_
 refine al_val (ov_ptrEqB rfl rfl Try.underlying23 rfl) ?_
 refine al_val (ov_pick_f rfl rfl rfl) ?_
 refine al_nil ?_
 exact aq_join false h (nm_ [1, 2, 3, 0] [0] (by decide) ⟨rfl, rfl, rfl, rfl, trivial⟩)
 rw [ho27] at h
 dsimp only at h
 refine al_call (vs := [(iq a0)]) (f_lumref_NewDisk_ok_some fu a0 hc26 (Prod.ext ho27 rfl)) [] [] [0, 1, 2, 3] pre_nil rfl (by simp) (by decide) (.inl rfl) rfl Try.func6 rfl rfl rfl (fun ⟨g29, v30, v31, v32⟩ => ?_)
 refine mv_ ?_
 refine al_ex rfl rfl rfl ?_
 refine al_ex rfl rfl rfl ?_
 refine as_ ?_
 refine an_ ?_
 refine aw_seq ?_
 refine sm_ ?_
 refine im_ ?_
 refine aw_cond rfl (fun hb61 => ?_) (fun hb61 => ?_)
 replace h := bif_t hb61 h
 refine sm_ ?_
 refine al_val (ov_ptrEqB rfl rfl Try.underlying23 rfl) ?_
 refine mv_ ?_
 iterate 3 refine al_skip ?_
 refine al_val (ov_pick_f rfl rfl rfl) ?_
 refine an_ ?_
 refine aw_ret ?_
 refine aq_then_ret ?_
 cases h
 exact fr1_
 replace h := bif_f hb61 h
 refine aw_skip ?_
 refine aq_then ?_
 refine aw_seq ?_
 obtain ⟨kk63, hkk63, h⟩ := lt_some h
 refine aw_seq_join (ι := Bool) (fun i => (mm60 w0 Z0 a1 g29 g5 g6 g7 v1_0 v30 v31 v32 v8 x28 x4)) (fun i => (tab [(1, v1_0), (5, (pq g5)), (7, (pq g29)), (35, (bool i))])) (fun i => kk63 i = some r) ?_ ?_
 rintro j62b35 h
 have h : kk63 j62b35 = some r := h
 rw [hkk63] at h
 dsimp only at h
 clear hkk63
 refine aw_show (m := (mm60 w0 Z0 a1 g29 g5 g6 g7 v1_0 v30 v31 v32 v8 x28 x4)) (S := _) ?_
 refine aw_cond rfl (fun hb64 => ?_) (fun hb64 => ?_)
 replace h := bif_t hb64 h
 refine aw_sr ?_
 refine an_ ?_
 refine aw_ret ?_
 refine aq_then_ret ?_
 cases h
 exact fr1_
 replace h := bif_f hb64 h
 refine aw_skip ?_
 refine aq_then ?_
 obtain ⟨kk66, hkk66, h⟩ := lt_some h
 refine aw_seq_join (ι := Int × Nat × (List ((List UInt8) × (List UInt8))) × Nat × (List ((List UInt8) × (List UInt8))) × Value × (List I114) × Bool × Int × Int × Value × (List S_lumref_File) × Value × (List S_lumref_File) × Value × (List S_api_Deed) × Int) (fun i => (memOf w0 Z0 [] [(oMapK Try.prog 9 i.2.1 str str i.2.2.1), (oMapK Try.prog 9 i.2.2.2.1 str str i.2.2.2.2.1), (oRow i.2.2.2.2.2.1 114 tyI114 i.2.2.2.2.2.2.1), (oBox g5 54 [(iq i.1), (Value.map (some i.2.1)), (Value.map (some i.2.2.2.1)), i.2.2.2.2.2.1, (bool i.2.2.2.2.2.2.2.1), (iq i.2.2.2.2.2.2.2.2.1)]), (oRow i.2.2.2.2.2.2.2.2.2.2.2.2.2.2.1 32 tyS_api_Deed i.2.2.2.2.2.2.2.2.2.2.2.2.2.2.2.1), (oBox g29 57 [(iq i.2.2.2.2.2.2.2.2.2.1), i.2.2.2.2.2.2.2.2.2.2.1, i.2.2.2.2.2.2.2.2.2.2.2.2.1, i.2.2.2.2.2.2.2.2.2.2.2.2.2.2.1, (iq i.2.2.2.2.2.2.2.2.2.2.2.2.2.2.2.2)])] [(fDat (tyList tyS_lumref_File) [i.2.2.2.2.2.2.2.2.2.2.1] i.2.2.2.2.2.2.2.2.2.2.2.1), (fDat (tyList tyS_lumref_File) [i.2.2.2.2.2.2.2.2.2.2.2.2.1] i.2.2.2.2.2.2.2.2.2.2.2.2.2.1), (fDat (tyList tyS_api_Deed) [v1_0] a1), (fDat (tyList tyS_lumref_File) [v30] x28.Seen), (fDat (tyList tyS_lumref_File) [v31] x28.Safe)])) (fun i => (tab [(5, (pq g5)), (7, (pq g29))])) (fun i => kk66 i.1 i.2.2.1 i.2.2.2.2.1 i.2.2.2.2.2.2.1 i.2.2.2.2.2.2.2.1 i.2.2.2.2.2.2.2.2.1 i.2.2.2.2.2.2.2.2.2.1 i.2.2.2.2.2.2.2.2.2.2.2.1 i.2.2.2.2.2.2.2.2.2.2.2.2.2.1 i.2.2.2.2.2.2.2.2.2.2.2.2.2.2.2.1 i.2.2.2.2.2.2.2.2.2.2.2.2.2.2.2.2 = some r) ?_ ?_
 rintro ⟨j65i5_0, j65g5_1, j65xm5_1, j65g5_2, j65xm5_2, j65v5_3, j65x5_3, j65b5_4, j65i5_5, j65i7_0, j65v7_1, j65x7_1, j65v7_2, j65x7_2, j65v7_3, j65x7_3, j65i7_4⟩ h
 have h : kk66 j65i5_0 j65xm5_1 j65xm5_2 j65x5_3 j65b5_4 j65i5_5 j65i7_0 j65x7_1 j65x7_2 j65x7_3 j65i7_4 = some r := h
 rw [hkk66] at h
 dsimp only at h
 clear hkk66
 refine aw_show (m := (memOf w0 Z0 [] [(oMapK Try.prog 9 j65g5_1 str str j65xm5_1), (oMapK Try.prog 9 j65g5_2 str str j65xm5_2), (oRow j65v5_3 114 tyI114 j65x5_3), (oBox g5 54 [(iq j65i5_0), (Value.map (some j65g5_1)), (Value.map (some j65g5_2)), j65v5_3, (bool j65b5_4), (iq j65i5_5)]), (oRow j65v7_3 32 tyS_api_Deed j65x7_3), (oBox g29 57 [(iq j65i7_0), j65v7_1, j65v7_2, j65v7_3, (iq j65i7_4)])] [(fDat (tyList tyS_lumref_File) [j65v7_1] j65x7_1), (fDat (tyList tyS_lumref_File) [j65v7_2] j65x7_2), (fDat (tyList tyS_api_Deed) [v1_0] a1), (fDat (tyList tyS_lumref_File) [v30] x28.Seen), (fDat (tyList tyS_lumref_File) [v31] x28.Safe)])) (S := _) ?_
 refine sm_ ?_
 refine mv_ ?_
 obtain ⟨r68, hc67, h⟩ := opt_some h
 refine al_call (vs := [(pq g5), (pq g29)]) (f_lumlaw_SameFiles_ok fu g5 j65g5_1 j65g5_2 j65v5_3 (D_disk_Disk.mk j65i5_0 j65xm5_1 j65xm5_2 j65x5_3 j65b5_4 j65i5_5) g29 j65v7_1 j65v7_2 j65v7_3 (D_lumref_Disk.mk j65i7_0 j65x7_1 j65x7_2 j65x7_3 j65i7_4) hc67) [] [3, 0, 1, 2, 5, 4] [] (pre_fz 0 rfl (pre_fz 1 rfl pre_nil)) rfl (by simp) (by decide) (.inl rfl) rfl Try.func8 rfl rfl rfl (fun ⟨g69, g70, v71, v72, v73, v74⟩ => ?_)
 refine an_ ?_
 refine aw_ret ?_
 cases h
 exact fr1_
 clear hkk66
 refine sm_ ?_
 refine al_val (ov_lenD 0 rfl rfl Try.underlying22 rfl) ?_
 refine mv_ ?_
 refine al_nt ?_
 refine aw_block ?_
 refine aw_state (aw_loop (ι := Int × Nat × (List ((List UInt8) × (List UInt8))) × Nat × (List ((List UInt8) × (List UInt8))) × Value × (List I114) × Bool × Int × Int × Value × (List S_lumref_File) × Value × (List S_lumref_File) × Value × (List S_api_Deed) × Int × Int) (fun i => (memOf w0 Z0 [] [(oMapK Try.prog 9 i.2.1 str str i.2.2.1), (oMapK Try.prog 9 i.2.2.2.1 str str i.2.2.2.2.1), (oRow i.2.2.2.2.2.1 114 tyI114 i.2.2.2.2.2.2.1), (oBox g5 54 [(iq i.1), (Value.map (some i.2.1)), (Value.map (some i.2.2.2.1)), i.2.2.2.2.2.1, (bool i.2.2.2.2.2.2.2.1), (iq i.2.2.2.2.2.2.2.2.1)]), (oRow i.2.2.2.2.2.2.2.2.2.2.2.2.2.2.1 32 tyS_api_Deed i.2.2.2.2.2.2.2.2.2.2.2.2.2.2.2.1), (oBox g29 57 [(iq i.2.2.2.2.2.2.2.2.2.1), i.2.2.2.2.2.2.2.2.2.2.1, i.2.2.2.2.2.2.2.2.2.2.2.2.1, i.2.2.2.2.2.2.2.2.2.2.2.2.2.2.1, (iq i.2.2.2.2.2.2.2.2.2.2.2.2.2.2.2.2.1)])] [(fDat (tyList tyS_lumref_File) [i.2.2.2.2.2.2.2.2.2.2.1] i.2.2.2.2.2.2.2.2.2.2.2.1), (fDat (tyList tyS_lumref_File) [i.2.2.2.2.2.2.2.2.2.2.2.2.1] i.2.2.2.2.2.2.2.2.2.2.2.2.2.1), (fDat (tyList tyS_api_Deed) [v1_0] a1), (fDat (tyList tyS_lumref_File) [v30] x28.Seen), (fDat (tyList tyS_lumref_File) [v31] x28.Safe)])) (fun i => (tab [(5, (pq g5)), (7, (pq g29)), (36, v1_0), (37, (iq (a1.length : Int))), (38, (iq i.2.2.2.2.2.2.2.2.2.2.2.2.2.2.2.2.2))])) (fun q i => f_lumlaw_DiskPlays_L77 a1 kk66 fu q i.1 i.2.2.1 i.2.2.2.2.1 i.2.2.2.2.2.2.1 i.2.2.2.2.2.2.2.1 i.2.2.2.2.2.2.2.2.1 i.2.2.2.2.2.2.2.2.2.1 i.2.2.2.2.2.2.2.2.2.2.2.1 i.2.2.2.2.2.2.2.2.2.2.2.2.2.1 i.2.2.2.2.2.2.2.2.2.2.2.2.2.2.2.1 i.2.2.2.2.2.2.2.2.2.2.2.2.2.2.2.2.1 i.2.2.2.2.2.2.2.2.2.2.2.2.2.2.2.2.2 = some r) ?_ fu (x4.room, g6, x4.files, g7, x4.durable, v8, x4.changes, x4.fused, x4.left, x28.Room, v30, x28.Seen, v31, x28.Safe, v32, x28.Ops, x28.Left, (0 : Int)) h) (nm_ [0, 1, 2, 3, 4, 5] [1, 2, 0, 1, 2] (by decide) ⟨rfl, rfl, rfl, rfl, rfl, trivial⟩)
 clear h
 rintro k76 ⟨l75i5_0, l75g5_1, l75xm5_1, l75g5_2, l75xm5_2, l75v5_3, l75x5_3, l75b5_4, l75i5_5, l75i7_0, l75v7_1, l75x7_1, l75v7_2, l75x7_2, l75v7_3, l75x7_3, l75i7_4, l75i38⟩ h
 have h : f_lumlaw_DiskPlays_L77 a1 kk66 fu k76 l75i5_0 l75xm5_1 l75xm5_2 l75x5_3 l75b5_4 l75i5_5 l75i7_0 l75x7_1 l75x7_2 l75x7_3 l75i7_4 l75i38 = some r := h
 obtain _ | k76 := k76
 rw [f_lumlaw_DiskPlays_L77] at h; cases h
 rw [f_lumlaw_DiskPlays_L77] at h
 refine aw_show (m := (memOf w0 Z0 [] [(oMapK Try.prog 9 l75g5_1 str str l75xm5_1), (oMapK Try.prog 9 l75g5_2 str str l75xm5_2), (oRow l75v5_3 114 tyI114 l75x5_3), (oBox g5 54 [(iq l75i5_0), (Value.map (some l75g5_1)), (Value.map (some l75g5_2)), l75v5_3, (bool l75b5_4), (iq l75i5_5)]), (oRow l75v7_3 32 tyS_api_Deed l75x7_3), (oBox g29 57 [(iq l75i7_0), l75v7_1, l75v7_2, l75v7_3, (iq l75i7_4)])] [(fDat (tyList tyS_lumref_File) [l75v7_1] l75x7_1), (fDat (tyList tyS_lumref_File) [l75v7_2] l75x7_2), (fDat (tyList tyS_api_Deed) [v1_0] a1), (fDat (tyList tyS_lumref_File) [v30] x28.Seen), (fDat (tyList tyS_lumref_File) [v31] x28.Safe)])) (S := _) ?_
 refine aw_sr ?_
 refine im_ ?_
 refine aw_seq ?_
 refine aw_cond rfl (fun hb78 => ?_) (fun hb78 => ?_)
 replace h := bif_t hb78 h
 refine aw_skip ?_
 refine aq_then ?_
 refine aw_seq ?_
 refine aw_block ?_
 refine aw_sr ?_
 obtain ⟨u79, hu80, h⟩ := opt_some h
 refine al_idxD 2 hu80 rfl rfl rfl Try.underlying22 sz32 rfl (fun p81 => ?_)
 refine al_loadPA 0 rfl rfl Try.underlying32 sz32 rfl rfl (fun cs83 => ?_)
 refine al_use (ι := Value) 0 rfl (fun j => cs83 = [(iq u79.Kind), (str u79.Name), (str u79.Text), (iq u79.N), j]) (fun j => [(fDat (tyList tq) [j] u79.Keep)]) encnS_api_Deed (fun s82 hq => ?_)
 subst hq
 refine al_alloc (zs := [(iq (0 : Int)), (str ([] : List UInt8)), (str ([] : List UInt8)), (iq (0 : Int)), nS]) (zeroOf_to to32) rfl rfl (fun g84 => ?_)
 refine al_store (i := 0) (vs := [(iq u79.Kind), (str u79.Name), (str u79.Text), (iq u79.N), s82]) (cs' := [(iq u79.Kind), (str u79.Name), (str u79.Text), (iq u79.N), s82]) rfl rfl rfl sz32 (cv_rfl rfl) rfl (co_val rfl (co_val rfl (co_val rfl (co_val rfl (co_fz 0 rfl co_nil))))) (Nat.le_of_ble_eq_true rfl) rfl rfl ?_
 refine al_nt ?_
 refine sm_ ?_
 refine mv_ ?_
 refine al_val (ov_load (i := 0) (v := (ag [(iq u79.Kind), (str u79.Name), (str u79.Text), (iq u79.N), s82])) rfl rfl Try.underlying32 sz32 rfl rfl rfl rfl) ?_
 obtain ⟨r86, hc85, h⟩ := opt_some h
 refine al_call (vs := [(pq g5), (pq g29), (ag [(iq u79.Kind), (str u79.Name), (str u79.Text), (iq u79.N), s82])]) (f_lumlaw_sameDeed_ok fu g5 l75g5_1 l75g5_2 l75v5_3 (D_disk_Disk.mk l75i5_0 l75xm5_1 l75xm5_2 l75x5_3 l75b5_4 l75i5_5) g29 l75v7_1 l75v7_2 l75v7_3 (D_lumref_Disk.mk l75i7_0 l75x7_1 l75x7_2 l75x7_3 l75i7_4) s82 u79 hc85) [] [4, 1, 2, 3, 6, 5] [0] (pre_fz 3 rfl (pre_fz 4 rfl (pre_fz 0 rfl pre_nil))) rfl (by simp) (by decide) (.inl rfl) rfl Try.func7 rfl rfl rfl (fun ⟨g87, g88, v89, v90, v91, v92⟩ => ?_)
 refine al_val (ov_not rfl rfl) ?_
 refine al_nt ?_
 refine aw_cond rfl (fun hb93 => ?_) (fun hb93 => ?_)
 replace h := bif_t hb93 h
 refine aw_sr ?_
 refine an_ ?_
 refine aw_ret ?_
 refine aq_block_ret ?_
 refine aq_then_ret ?_
 refine aq_then_ret ?_
 refine aq_block_ret ?_
 refine aq_then_ret ?_
 cases h
 exact fr1_
 replace h := bif_f hb93 h
 refine aw_skip ?_
 refine aq_block ?_
 refine aq_then ?_
 refine aw_region ?_
 refine in_ ?_
 refine mv_ ?_
 refine al_nil ?_
 exact aq_again k76 (r86.2.1.room, g87, r86.2.1.files, g88, r86.2.1.durable, v89, r86.2.1.changes, r86.2.1.fused, r86.2.1.left, r86.2.2.Room, v90, r86.2.2.Seen, v91, r86.2.2.Safe, v92, r86.2.2.Ops, r86.2.2.Left, (wq (l75i38 + (1 : Int)))) (Nat.lt_succ_self _) h (nm_ [1, 2, 3, 0, 5, 4] [0, 1, 7, 8, 9] (by decide) ⟨rfl, rfl, rfl, rfl, rfl, trivial⟩)
 replace h := bif_f hb78 h
 refine aw_exit ?_
 refine aq_then_exit ?_
 refine aq_then_exit ?_
 refine aq_block_exit ?_
 exact aq_join (l75i5_0, l75g5_1, l75xm5_1, l75g5_2, l75xm5_2, l75v5_3, l75x5_3, l75b5_4, l75i5_5, l75i7_0, l75v7_1, l75x7_1, l75v7_2, l75x7_2, l75v7_3, l75x7_3, l75i7_4) h (nm_ [0, 1, 2, 3, 4, 5] [0, 1, 2, 3, 4] (by decide) ⟨rfl, rfl, trivial⟩)
 clear hkk63
 refine aw_region ?_
 refine mv_ ?_
 refine in_ ?_
 refine mv_ ?_
 refine al_caseB 32 rfl (fun hb94 => ?_) (fun hb94 => ?_)
 replace h := bif_t hb94 h
 refine al_skip ?_
 refine al_skip ?_
 refine al_val (ov_pick_t rfl rfl rfl) ?_
 refine al_nil ?_
 exact aq_join true h (nm_ [3, 4, 5, 2, 1, 0] [2, 0, 1] (by decide) ⟨rfl, rfl, rfl, rfl, trivial⟩)
 replace h := bif_f hb94 h
 refine mv_ ?_
 refine al_val (ov_ptrEqB rfl rfl Try.underlying23 rfl) ?_
 refine al_val (ov_pick_f rfl rfl rfl) ?_
 refine al_nil ?_
 exact aq_join false h (nm_ [3, 4, 5, 2, 1, 0] [2, 0, 1] (by decide) ⟨rfl, rfl, rfl, rfl, trivial⟩)
end Go.Proofs.Ytiioclkiapbjnaa
namespace Go.Proofs.Ytiioclkiapbjnaa
open Go.RowKit Ytiioclkiapbjnaa.En
theorem at_nat {α : Type} (xs : List α) (k : Nat) : at? xs (k : Int) = xs[k]? := by unfold at?; rw [if_pos (Int.natCast_nonneg k)]; simp
theorem at_lt {α : Type} {xs : List α} {k : Nat} (h : k < xs.length) : at? xs (k : Int) = some xs[k] := by rw [at_nat, List.getElem?_eq_getElem h]
theorem w64 {x : Int} (h0 : -9223372036854775808 ≤ x) (h1 : x ≤ 9223372036854775807) : IntKind.i64.wrap x = x := IntWalk.i64_in x (by omega)
theorem wsucc {k : Nat} (h : k < 9223372036854775807) : IntKind.i64.wrap ((k : Int) + 1) = ((k + 1 : Nat) : Int) := by rw [w64 (by omega) (by omega)]; omega
theorem dlt {a b : Int} (h : a < b) : decide (a < b) = true := decide_eq_true h
theorem dge {a b : Int} (h : b ≤ a) : decide (a < b) = false := decide_eq_false (by omega)
theorem cond_tt {α : Type} {b : Bool} {x y : α} (h : b = true) : (bif b then x else y) = x := by rw [h]; rfl
theorem cond_ff {α : Type} {b : Bool} {x y : α} (h : b = false) : (bif b then x else y) = y := by rw [h]; rfl
theorem wfi64 {x : Int} (h : (Lit.int .i64 x).wf = true) : -9223372036854775808 ≤ x ∧ x ≤ 9223372036854775807 := by
  simpa [Lit.wf, IntKind.min, IntKind.max, IntKind.signed, IntKind.bits] using h
end Go.Proofs.Ytiioclkiapbjnaa
namespace Go.Proofs.Ytiioclkiapbjnaa.StrOrd
open Go.RowKit Ytiioclkiapbjnaa.En Ytiioclkiapbjnaa
theorem u8_tri (a b : UInt8) : a < b ∨ a = b ∨ b < a := by
  rcases Nat.lt_trichotomy a.toNat b.toNat with h | h | h
  · exact .inl (UInt8.lt_iff_toNat_lt.2 h)
  · exact .inr (.inl (UInt8.toNat_inj.1 h))
  · exact .inr (.inr (UInt8.lt_iff_toNat_lt.2 h))
theorem u8_irr (a : UInt8) : ¬ a < a := fun h => Nat.lt_irrefl _ (UInt8.lt_iff_toNat_lt.1 h)
theorem u8_trans {a b c : UInt8} (h : a < b) (h' : b < c) : a < c := UInt8.lt_iff_toNat_lt.2 (Nat.lt_trans (UInt8.lt_iff_toNat_lt.1 h) (UInt8.lt_iff_toNat_lt.1 h'))
abbrev L (a b : List UInt8) : Prop := Op.bytesLess a b = true
theorem less_nil (a : List UInt8) : ¬ L a [] := by cases a <;> simp [L, Op.bytesLess]
theorem less_cons {x y : UInt8} {a b : List UInt8} : L (x :: a) (y :: b) ↔ x < y ∨ (x = y ∧ L a b) := by simp [L, Op.bytesLess]
theorem irr : ∀ a : List UInt8, ¬ L a a
  | [] => less_nil []
  | x :: a => fun h => by
    rcases less_cons.1 h with h | h
    · exact u8_irr x h
    · exact irr a h.2
theorem trans : ∀ {a b c : List UInt8}, L a b → L b c → L a c
  | a, [], c, h, _ => absurd h (less_nil a)
  | a, _ :: _, [], _, h => absurd h (less_nil _)
  | [], _ :: _, _ :: _, _, _ => rfl
  | x :: a, y :: b, z :: c, h, h' => by
    rcases less_cons.1 h with k | ⟨e, k⟩
    · rcases less_cons.1 h' with k' | ⟨e', _⟩
      · exact less_cons.2 (.inl (u8_trans k k'))
      · subst e'; exact less_cons.2 (.inl k)
    · subst e
      rcases less_cons.1 h' with k' | ⟨e', k'⟩
      · exact less_cons.2 (.inl k')
      · exact less_cons.2 (.inr ⟨e', trans k k'⟩)
theorem tri : ∀ a b : List UInt8, L a b ∨ a = b ∨ L b a
  | [], [] => .inr (.inl rfl)
  | [], _ :: _ => .inl rfl
  | _ :: _, [] => .inr (.inr rfl)
  | x :: a, y :: b => by
    rcases u8_tri x y with h | rfl | h
    · exact .inl (less_cons.2 (.inl h))
    · rcases tri a b with h | rfl | h
      · exact .inl (less_cons.2 (.inr ⟨rfl, h⟩))
      · exact .inr (.inl rfl)
      · exact .inr (.inr (less_cons.2 (.inr ⟨rfl, h⟩)))
    · exact .inr (.inr (less_cons.2 (.inl h)))
end Go.Proofs.Ytiioclkiapbjnaa.StrOrd
namespace Go.Proofs.Ytiioclkiapbjnaa.Dk
open Go.RowKit Ytiioclkiapbjnaa.En Ytiioclkiapbjnaa
abbrev L (a b : List UInt8) : Prop := Op.bytesLess a b = true
set_option linter.unusedVariables false
set_option linter.unusedSimpArgs false
abbrev Str := List UInt8
abbrev MM := List (Str × Str)
def pr (f : S_lumref_File) : Str × Str := (f.Name, f.Bytes)
def Up (s : List S_lumref_File) : Prop := s.Pairwise (fun f g => L f.Name g.Name)
def Rel (m : MM) (s : List S_lumref_File) : Prop := m.Perm (s.map pr) ∧ Up s
def wo (s : List S_lumref_File) (n : Str) : List S_lumref_File := s.filter (fun f => !(f.Name == n))
def lk : List S_lumref_File → Str → Option Str
  | [], _ => none
  | f :: s, n => if f.Name = n then some f.Bytes else lk s n
theorem up_nodup {s : List S_lumref_File} (h : Up s) : (s.map (fun f => f.Name)).Nodup := by
  unfold List.Nodup
  rw [List.pairwise_map]
  refine List.Pairwise.imp (fun {a b} hab => ?_) h
  intro e
  rw [e] at hab
  exact StrOrd.irr _ hab
theorem rel_nodup {m : MM} {s : List S_lumref_File} (h : Rel m s) : (m.map (fun x => x.1)).Nodup := by
  have h1 := (h.1.map (fun x : Str × Str => x.1)).nodup_iff.2 (by rw [List.map_map]; exact up_nodup h.2)
  exact h1
theorem rel_nil : Rel [] [] := ⟨List.Perm.refl _, List.Pairwise.nil⟩
theorem gdel_eq : ∀ {m : MM} {k : Str}, (m.map (fun x => x.1)).Nodup → gdel m k = m.filter (fun x => !(x.1 == k))
  | [], _, _ => rfl
  | x :: m, k, h => by
    rw [List.map_cons, List.nodup_cons] at h
    unfold gdel
    by_cases e : x.1 = k
    · rw [if_pos e, List.filter_cons, if_neg (by simp [e])]
      symm
      refine List.filter_eq_self.2 fun y hy => ?_
      have : y.1 ≠ k := fun e2 => h.1 (by rw [e, ← e2]; exact List.mem_map.2 ⟨y, hy, rfl⟩)
      simpa using this
    · rw [if_neg e, List.filter_cons, if_pos (by simpa using e), gdel_eq h.2]
theorem gset_perm : ∀ {m : MM} {k v : Str}, (m.map (fun x => x.1)).Nodup → (gset m k v).Perm ((k, v) :: m.filter (fun x => !(x.1 == k)))
  | [], _, _, _ => List.Perm.refl _
  | x :: m, k, v, h => by
    rw [List.map_cons, List.nodup_cons] at h
    unfold gset
    by_cases e : x.1 = k
    · rw [if_pos e, List.filter_cons, if_neg (by simp [e])]
      have : m.filter (fun x => !(x.1 == k)) = m := List.filter_eq_self.2 fun y hy => by
        have : y.1 ≠ k := fun e2 => h.1 (by rw [e, ← e2]; exact List.mem_map.2 ⟨y, hy, rfl⟩)
        simpa using this
      rw [this]
    · rw [if_neg e, List.filter_cons, if_pos (by simpa using e)]
      exact ((gset_perm h.2).cons x).trans (List.Perm.swap _ _ _)
theorem wo_pr (s : List S_lumref_File) (n : Str) : (wo s n).map pr = (s.map pr).filter (fun x => !(x.1 == n)) := by
  unfold wo
  rw [List.filter_map]; rfl
theorem up_wo {s : List S_lumref_File} (h : Up s) (n : Str) : Up (wo s n) := List.Pairwise.sublist List.filter_sublist h
theorem rel_del {m : MM} {s : List S_lumref_File} (h : Rel m s) (n : Str) : Rel (gdel m n) (wo s n) := by
  refine ⟨?_, up_wo h.2 n⟩
  rw [gdel_eq (rel_nodup h), wo_pr]
  exact h.1.filter _
theorem wo_mem {s : List S_lumref_File} {n : Str} {f : S_lumref_File} (h : f ∈ wo s n) : f ∈ s ∧ f.Name ≠ n := by
  have := List.mem_filter.1 h
  exact ⟨this.1, by simpa using this.2⟩
def ix : List S_lumref_File → Str → Nat
  | [], _ => 0
  | f :: s, n => if Op.bytesLess f.Name n = true then ix s n + 1 else 0
theorem ix_le : ∀ (s : List S_lumref_File) (n : Str), ix s n ≤ s.length
  | [], _ => Nat.le_refl _
  | f :: s, n => by unfold ix; split <;> simp; exact ix_le s n
def ins (s : List S_lumref_File) (n b : Str) : List S_lumref_File := s.take (ix s n) ++ ⟨n, b⟩ :: s.drop (ix s n)
def put (s : List S_lumref_File) (n b : Str) : List S_lumref_File := ins (wo s n) n b
theorem ins_cons_lt {f : S_lumref_File} {s : List S_lumref_File} {n b : Str} (h : L f.Name n) : ins (f :: s) n b = f :: ins s n b := by
  unfold ins
  rw [show ix (f :: s) n = ix s n + 1 from if_pos h]; rfl
theorem ins_cons_ge {f : S_lumref_File} {s : List S_lumref_File} {n b : Str} (h : ¬L f.Name n) : ins (f :: s) n b = ⟨n, b⟩ :: f :: s := by
  unfold ins
  rw [show ix (f :: s) n = 0 from if_neg h]; rfl
theorem ins_perm (s : List S_lumref_File) (n b : Str) : (ins s n b).Perm (⟨n, b⟩ :: s) := by
  unfold ins
  have := List.perm_middle (a := (⟨n, b⟩ : S_lumref_File)) (l₁ := s.take (ix s n)) (l₂ := s.drop (ix s n))
  rw [List.take_append_drop] at this
  exact this
theorem up_ins : ∀ {s : List S_lumref_File} {n b : Str}, Up s → (∀ f ∈ s, f.Name ≠ n) → Up (ins s n b)
  | [], n, b, _, _ => by unfold ins Up; simp
  | f :: s, n, b, h, hn => by
    obtain ⟨h1, h2⟩ := List.pairwise_cons.1 h
    by_cases hl : L f.Name n
    · rw [ins_cons_lt hl]
      refine List.pairwise_cons.2 ⟨fun g hg => ?_, up_ins h2 (fun g hg => hn g (by simp [hg]))⟩
      rcases List.mem_cons.1 ((ins_perm s n b).mem_iff.1 hg) with rfl | hg
      · exact hl
      · exact h1 g hg
    · rw [ins_cons_ge hl]
      have hlt : L n f.Name := by
        rcases StrOrd.tri n f.Name with h3 | h3 | h3
        · exact h3
        · exact absurd h3.symm (hn f (by simp))
        · exact absurd h3 hl
      refine List.pairwise_cons.2 ⟨fun g hg => ?_, h⟩
      rcases List.mem_cons.1 hg with rfl | hg
      · exact hlt
      · exact StrOrd.trans hlt (h1 g hg)
theorem rel_put {m : MM} {s : List S_lumref_File} (h : Rel m s) (n b : Str) : Rel (gset m n b) (put s n b) := by
  refine ⟨?_, up_ins (up_wo h.2 n) (fun f hf => (wo_mem hf).2)⟩
  refine (gset_perm (rel_nodup h)).trans (List.Perm.trans ?_ ((ins_perm (wo s n) n b).map pr).symm)
  rw [List.map_cons]
  refine List.Perm.cons _ ?_
  rw [wo_pr]
  exact h.1.filter _
theorem gget_mem : ∀ {m : MM} {k v : Str}, (m.map (fun x => x.1)).Nodup → (gget m k = some v ↔ (k, v) ∈ m)
  | [], k, v, _ => by simp [gget]
  | x :: m, k, v, h => by
    rw [List.map_cons, List.nodup_cons] at h
    unfold gget
    by_cases e : x.1 = k
    · rw [if_pos e]
      constructor
      · intro h2
        rw [← Option.some.inj h2, ← e]; exact List.mem_cons_self
      · intro h2
        rcases List.mem_cons.1 h2 with h3 | h3
        · rw [← h3]
        · exact absurd (List.mem_map.2 ⟨(k, v), h3, e.symm⟩) h.1
    · rw [if_neg e, gget_mem h.2]
      constructor
      · exact fun h2 => List.mem_cons_of_mem _ h2
      · intro h2
        rcases List.mem_cons.1 h2 with h3 | h3
        · exact absurd (by rw [← h3]) e
        · exact h3
theorem lk_gget : ∀ (s : List S_lumref_File) (n : Str), lk s n = gget (s.map pr) n
  | [], _ => rfl
  | f :: s, n => by
    rw [List.map_cons]
    unfold lk gget
    rw [lk_gget s n]; rfl
theorem perm_gget {m m' : MM} (h : m.Perm m') (hn : (m.map (fun x => x.1)).Nodup) (k : Str) : gget m k = gget m' k := by
  have hn' : (m'.map (fun x => x.1)).Nodup := (h.map _).nodup_iff.1 hn
  apply Option.ext
  intro v
  rw [gget_mem hn, gget_mem hn', h.mem_iff]
theorem rel_lk {m : MM} {s : List S_lumref_File} (h : Rel m s) (n : Str) : gget m n = lk s n := by
  rw [lk_gget]; exact perm_gget h.1 (rel_nodup h) n
theorem lk_mem {s : List S_lumref_File} {n b : Str} (h : lk s n = some b) : (⟨n, b⟩ : S_lumref_File) ∈ s := by
  induction s with
  | nil => cases h
  | cons f s ih =>
    unfold lk at h
    by_cases e : f.Name = n
    · rw [if_pos e] at h
      have h2 := Option.some.inj h
      have : f = ⟨n, b⟩ := by rw [← e, ← h2]
      rw [this]; exact List.mem_cons_self
    · rw [if_neg e] at h
      exact List.mem_cons_of_mem _ (ih h)
theorem rel_self {m : MM} {s : List S_lumref_File} (h : Rel m s) {n b : Str} (hl : lk s n = some b) : Rel m (put (wo s n) n b) := by
  have h1 := rel_put (rel_del h n) n b
  refine ⟨?_, h1.2⟩
  refine List.Perm.trans ?_ h1.1
  have hd := rel_nodup (rel_del h n)
  refine List.Perm.trans ?_ (gset_perm hd).symm
  have hn := rel_nodup h
  have hmem : (n, b) ∈ m := (gget_mem hn).1 (by rw [rel_lk h, hl])
  rw [gdel_eq hn, List.filter_filter]
  have : m.filter (fun x => (!(x.1 == n)) && (!(x.1 == n))) = m.filter (fun x => !(x.1 == n)) := List.filter_congr fun x _ => by cases x.1 == n <;> rfl
  rw [this]
  clear this hd h1 hl h
  induction m with
  | nil => cases hmem
  | cons x m ih =>
    rw [List.map_cons, List.nodup_cons] at hn
    by_cases e : x.1 = n
    · have hx : x = (n, b) := by
        rcases List.mem_cons.1 hmem with h3 | h3
        · exact h3.symm
        · exact absurd (List.mem_map.2 ⟨(n, b), h3, e.symm⟩) hn.1
      have hf : m.filter (fun x => !(x.1 == n)) = m := List.filter_eq_self.2 fun y hy => by
        have : y.1 ≠ n := fun e2 => hn.1 (by rw [e, ← e2]; exact List.mem_map.2 ⟨y, hy, rfl⟩)
        simpa using this
      rw [List.filter_cons, if_neg (by simp [e]), hf, hx]
    · have h3 : (n, b) ∈ m := by
        rcases List.mem_cons.1 hmem with h3 | h3
        · exact absurd (by rw [← h3]) e
        · exact h3
      rw [List.filter_cons, if_pos (by simpa using e)]
      exact ((ih hn.2 h3).cons x).trans (List.Perm.swap _ _ _)
def Tx (s : List S_lumref_File) : Prop := ∀ f ∈ s, f.Bytes.length ≤ 65536
theorem wo_len (s : List S_lumref_File) (n : Str) : (wo s n).length ≤ s.length := List.length_filter_le _ _
theorem put_len (s : List S_lumref_File) (n b : Str) : (put s n b).length ≤ s.length + 1 := by
  unfold put
  rw [(ins_perm _ n b).length_eq]
  have := wo_len s n
  simp; omega
theorem tx_wo {s : List S_lumref_File} (h : Tx s) (n : Str) : Tx (wo s n) := fun f hf => h f (wo_mem hf).1
theorem tx_put {s : List S_lumref_File} (h : Tx s) {n b : Str} (hb : b.length ≤ 65536) : Tx (put s n b) := fun f hf => by
  rcases List.mem_cons.1 ((ins_perm _ n b).mem_iff.1 hf) with rfl | hf
  · exact hb
  · exact tx_wo h n f hf
def sm : MM → Str → Nat
  | [], _ => 0
  | x :: m, n => (if x.1 = n then 0 else x.2.length) + sm m n
theorem sm_perm {m m' : MM} (h : m.Perm m') (n : Str) : sm m n = sm m' n := by
  induction h with
  | nil => rfl
  | cons x _ ih => unfold sm; rw [ih]
  | swap x y l => simp only [sm]; omega
  | trans _ _ h1 h2 => exact h1.trans h2
theorem sm_erase : ∀ {m : MM} {n : Str} {j : Nat} {x : Str × Str}, m[j]? = some x → sm m n = (if x.1 = n then 0 else x.2.length) + sm (m.eraseIdx j) n
  | [], _, _, _, h => by simp at h
  | y :: m, n, 0, x, h => by simp at h; subst h; rfl
  | y :: m, n, j + 1, x, h => by
    rw [List.getElem?_cons_succ] at h
    rw [List.eraseIdx_cons_succ]
    unfold sm
    rw [sm_erase h]; omega
def sb : List S_lumref_File → Nat
  | [] => 0
  | f :: s => f.Bytes.length + sb s
theorem sm_wo : ∀ (s : List S_lumref_File) (n : Str), sm (s.map pr) n = sb (wo s n)
  | [], _ => rfl
  | f :: s, n => by
    rw [List.map_cons]
    unfold wo
    rw [List.filter_cons]
    unfold sm
    rw [sm_wo s n]
    by_cases e : f.Name = n
    · rw [if_pos (show (pr f).1 = n from e), if_neg (by simp [e])]; simp [wo]
    · rw [if_neg (show ¬(pr f).1 = n from e), if_pos (by simpa using e)]; rfl
theorem rel_sm {m : MM} {s : List S_lumref_File} (h : Rel m s) (n : Str) : sm m n = sb (wo s n) := by rw [sm_perm h.1, sm_wo]
theorem sb_le : ∀ {s : List S_lumref_File}, Tx s → sb s ≤ 65536 * s.length
  | [], _ => Nat.le_refl _
  | f :: s, h => by
    have h1 := h f (by simp)
    have h2 := sb_le (s := s) (fun g hg => h g (by simp [hg]))
    unfold sb; rw [List.length_cons]; omega
end Go.Proofs.Ytiioclkiapbjnaa.Dk
namespace Go.Proofs.Ytiioclkiapbjnaa.Dk
open Go.RowKit Ytiioclkiapbjnaa.En Ytiioclkiapbjnaa
set_option linter.unusedVariables false
set_option linter.unusedSimpArgs false
theorem insert_ok (l : List S_lumref_File) (hl : l.length ≤ 4000000000000) (k : Nat) (hk : k ≤ l.length) (y : S_lumref_File) (fu : Nat) : f_slices_Insert___lumref_File_lumref_File__own_own fu l (k : Int) [y] = some (l.take k ++ y :: l.drop k) := by
  unfold f_slices_Insert___lumref_File_lumref_File__own_own
  have e1 : (([y] : List S_lumref_File).length : Int) = 1 := rfl
  have e1n : ([y] : List S_lumref_File).length = 1 := rfl
  rw [req_pos (by omega), cond_ff (by rfl)]
  by_cases he : k = l.length
  · rw [cond_tt (by rw [he]; simp), req_pos (by rw [e1n]; omega), he]; simp
  have hkl : k < l.length := by omega
  rw [cond_ff (by simp; omega)]
  obtain ⟨z, hz⟩ : ∃ z : S_lumref_File, z = S_lumref_File.mk [] [] := ⟨_, rfl⟩
  rw [← hz]
  have w1 : IntKind.i64.wrap ((l.length : Int) + (([y] : List S_lumref_File).length : Int)) = ((l.length + 1 : Nat) : Int) := by rw [e1, w64 (by omega) (by omega)]; omega
  have w2 : IntKind.i64.wrap (((l.length + 1 : Nat) : Int) - (k : Int)) = ((l.length + 1 - k : Nat) : Int) := by rw [w64 (by omega) (by omega)]; omega
  have w3 : IntKind.i64.wrap ((k : Int) + (([y] : List S_lumref_File).length : Int)) = ((k + 1 : Nat) : Int) := by rw [e1, w64 (by omega) (by omega)]; omega
  rw [w1, w2, w3]
  simp only [Int.toNat_natCast, e1n]
  have lt0 : (l.take k).length = k := by rw [List.length_take]; omega
  have ld0 : (l.drop k).length = l.length - k := by rw [List.length_drop]
  -- the first row
  obtain ⟨L1, hL1⟩ : ∃ L1, L1 = l.take k ++ List.replicate (l.length + 1 - k) z := ⟨_, rfl⟩
  rw [← hL1]
  have l1 : L1.length = l.length + 1 := by rw [hL1, List.length_append, lt0, List.length_replicate]; omega
  have t1 : L1.take k = l.take k := by rw [hL1, List.take_append_of_le_length (by omega), List.take_take, Nat.min_self]
  obtain ⟨L2, hL2⟩ : ∃ L2, L2 = L1.take k ++ (([y] : List S_lumref_File).take (L1.length - k) ++ L1.drop (k + 1)) := ⟨_, rfl⟩
  rw [← hL2]
  have ty : ([y] : List S_lumref_File).take (L1.length - k) = [y] := List.take_of_length_le (by rw [l1, e1n]; omega)
  have l2 : L2.length = l.length + 1 := by rw [hL2, ty, List.length_append, List.length_append, List.length_take, List.length_drop, l1, e1n]; omega
  have t2 : L2.take (k + 1) = l.take k ++ [y] := by
    rw [hL2, ty, t1, ← List.append_assoc, List.take_append_of_le_length (by rw [List.length_append, lt0, e1n]; exact Nat.le_refl _), List.take_of_length_le (by rw [List.length_append, lt0, e1n]; exact Nat.le_refl _)]
  -- the row in place
  obtain ⟨M1, hM1⟩ : ∃ M1, M1 = l.take (k + 1) ++ l.drop k := ⟨_, rfl⟩
  rw [← hM1]
  have m1 : M1.length = l.length + 1 := by rw [hM1, List.length_append, List.length_take, ld0]; omega
  have mt : M1.take k = l.take k := by rw [hM1, List.take_append_of_le_length (by rw [List.length_take]; omega), List.take_take, Nat.min_eq_left (by omega)]
  have md : M1.drop (k + 1) = l.drop k := by
    rw [hM1, List.drop_append, List.drop_of_length_le (by rw [List.length_take]; omega), List.length_take, Nat.min_eq_left (by omega), Nat.sub_self]; rfl
  refine both_of ?_ ?_
  · rw [req_pos (by omega), req_pos (by omega), req_pos (by rw [l1]; omega), req_pos (by rw [l1]; omega), req_pos (by rw [l2]; omega), req_pos (by omega), req_pos (by rw [l2, ld0]; omega), t2,
      List.take_of_length_le (l := l.drop k) (by rw [l2, ld0]; omega), List.drop_of_length_le (l := L2) (by rw [l2, ld0]; omega), List.append_nil, List.append_assoc]; rfl
  · rw [req_pos (by omega), req_pos (by omega), req_pos (by omega), req_pos (by omega), req_pos (by omega), req_pos (by omega), req_pos (by rw [m1]; omega), req_pos (by rw [m1]; omega), mt, md,
      List.take_of_length_le (l := ([y] : List S_lumref_File)) (by rw [m1, e1n]; omega)]; rfl
end Go.Proofs.Ytiioclkiapbjnaa.Dk
namespace Go.Proofs.Ytiioclkiapbjnaa.Dk
open Go.RowKit Ytiioclkiapbjnaa.En Ytiioclkiapbjnaa
set_option linter.unusedVariables false
set_option linter.unusedSimpArgs false
theorem amb_same {β : Type} [DecidableEq β] {c : Bool} {x y : Option β} (h : c = true → x = y) : amb c x y = y := by
  unfold amb
  cases c with
  | true => rw [h rfl]; simp
  | false => rfl
theorem clF {l : List S_lumref_File} (hl : l.length ≤ 2000000000000) (fu : Nat) : f_slices_Clone___lumref_File_lumref_File_ fu l = some l := by
  unfold f_slices_Clone___lumref_File_lumref_File_
  rw [amb_same, req_pos (by simp; omega), List.nil_append]
  intro h; obtain rfl : l = [] := by simpa using h
  rw [req_pos (by simp)]; rfl
theorem wo_cons (f : S_lumref_File) (s : List S_lumref_File) (n : Str) : wo (f :: s) n = if f.Name = n then wo s n else f :: wo s n := by
  unfold wo
  rw [List.filter_cons]
  by_cases e : f.Name = n
  · rw [if_pos e, if_neg (by simp [e])]
  · rw [if_neg e, if_pos (by simpa using e)]
theorem gone_loop (s : List S_lumref_File) (n : Str) (hs : s.length ≤ 2000000000000) (kk : List S_lumref_File → Option (List S_lumref_File)) : ∀ (fuel k : Nat) (acc : List S_lumref_File), acc.length ≤ k → k ≤ s.length → s.length - k < fuel →
    f_lumref_gone_L5 s n kk fuel acc (k : Int) = kk (acc ++ wo (s.drop k) n)
  | 0, k, acc, _, _, hf => absurd hf (Nat.not_lt_zero _)
  | fuel + 1, k, acc, ha, hk, hf => by
    rw [f_lumref_gone_L5]
    by_cases hlt : k < s.length
    · rw [cond_tt (dlt (by omega)), lt_of, at_lt hlt, opt_of, List.drop_eq_getElem_cons hlt, wo_cons, wsucc (by omega)]
      by_cases e : s[k].Name = n
      · rw [cond_ff (by simp [e]), if_pos e]
        exact gone_loop s n hs kk fuel (k + 1) acc (by omega) (by omega) (by omega)
      · rw [cond_tt (by simpa using e), if_neg e, req_pos (by simp; omega)]
        refine (gone_loop s n hs kk fuel (k + 1) (acc ++ [s[k]]) (by simp; omega) (by omega) (by omega)).trans ?_
        rw [List.append_assoc]; rfl
    · rw [cond_ff (dge (by omega)), List.drop_of_length_le (by omega)]
      show kk acc = kk (acc ++ [])
      rw [List.append_nil]
theorem goneS (s : List S_lumref_File) (n : Str) (hs : s.length ≤ 2000000000000) (fu : Nat) (hf : s.length < fu) : f_lumref_gone fu s n = some (wo s n) := by
  unfold f_lumref_gone
  rw [lt_of]
  refine (gone_loop s n hs _ fu 0 [] (by simp) (by omega) (by omega)).trans ?_
  rw [List.drop_zero, List.nil_append]
theorem look_loop (s : List S_lumref_File) (n : Str) (hs : s.length ≤ 2000000000000) (kk : Unit → Option (Str × Bool)) : ∀ (fuel k : Nat), k ≤ s.length → s.length - k < fuel →
    f_lumref_look_L5 s n kk fuel (k : Int) = match lk (s.drop k) n with | some b => some (b, true) | none => kk ()
  | 0, k, _, hf => absurd hf (Nat.not_lt_zero _)
  | fuel + 1, k, hk, hf => by
    rw [f_lumref_look_L5]
    by_cases hlt : k < s.length
    · rw [cond_tt (dlt (by omega)), at_lt hlt, opt_of, List.drop_eq_getElem_cons hlt, wsucc (by omega)]
      unfold lk
      by_cases e : s[k].Name = n
      · rw [cond_tt (by simp [e]), if_pos e]
      · rw [cond_ff (by simpa using e), if_neg e]
        exact look_loop s n hs kk fuel (k + 1) (by omega) (by omega)
    · rw [cond_ff (dge (by omega)), List.drop_of_length_le (by omega)]; rfl
def lkb (s : List S_lumref_File) (n : Str) : Str × Bool := match lk s n with | some b => (b, true) | none => ([], false)
theorem lookS (s : List S_lumref_File) (n : Str) (hs : s.length ≤ 2000000000000) (fu : Nat) (hf : s.length < fu) : f_lumref_look fu s n = some (lkb s n) := by
  unfold f_lumref_look lkb
  rw [lt_of]
  refine (look_loop s n hs _ fu 0 (by omega) (by omega)).trans ?_
  rw [List.drop_zero]
  cases lk s n <;> rfl
theorem ix_cons (f : S_lumref_File) (s : List S_lumref_File) (n : Str) : ix (f :: s) n = if Op.bytesLess f.Name n = true then ix s n + 1 else 0 := rfl
theorem ix_loop (n : Str) (r : List S_lumref_File) (hs : r.length ≤ 2000000000000) (kk : Int → Option (List S_lumref_File)) : ∀ (fuel k : Nat), k ≤ r.length → r.length - k < fuel →
    f_lumref_set_L12 n r kk fuel (k : Int) = kk ((k + ix (r.drop k) n : Nat) : Int)
  | 0, k, _, hf => absurd hf (Nat.not_lt_zero _)
  | fuel + 1, k, hk, hf => by
    rw [f_lumref_set_L12]
    rw [lt_of]
    by_cases hlt : k < r.length
    · rw [cond_tt (dlt (by omega)), at_lt hlt, opt_of, List.drop_eq_getElem_cons hlt, wsucc (by omega)]
      dsimp only
      rw [ix_loop n r hs kk fuel (k + 1) (by omega) (by omega)]
      rw [ix_cons]
      by_cases e : Op.bytesLess r[k].Name n = true
      · rw [cond_tt e, if_pos e]
        have : k + 1 + ix (r.drop (k + 1)) n = k + (ix (r.drop (k + 1)) n + 1) := by omega
        exact congrArg (fun q : Nat => kk (q : Int)) this
      · rw [cond_ff (by simpa using e), if_neg e]; rfl
    · rw [cond_ff (dge (by omega)), List.drop_of_length_le (by omega)]; rfl
theorem setS (s : List S_lumref_File) (n b : Str) (hs : s.length ≤ 2000000000000) (fu : Nat) (hf : s.length < fu) : f_lumref_set fu s n b = some (put s n b) := by
  unfold f_lumref_set
  have hw := wo_len s n
  have hi := ix_le (wo s n) n
  rw [goneS s n hs fu hf, opt_of, lt_of]
  refine (ix_loop n (wo s n) (by omega) _ fu 0 (by omega) (by omega)).trans ?_
  rw [List.drop_zero, Nat.zero_add, insert_ok (wo s n) (by omega) _ hi, opt_of]; rfl
def mn (t : Str) (b : Int) : Int := if (t.length : Int) < b then (t.length : Int) else b
def aft (s : List S_lumref_File) (x : S_api_Deed) (b : Int) : List S_lumref_File :=
  if x.Kind = 1 then put s x.Name (x.Text.take (mn x.Text b).toNat)
  else if x.Kind = 2 then (match lk s x.Name with | some t => put (wo s x.Name) x.Text t | none => s)
  else wo s x.Name
theorem mn_ok (t : Str) {b : Int} (hb : 0 ≤ b) : 0 ≤ mn t b ∧ mn t b ≤ (t.length : Int) := by
  unfold mn
  split <;> omega
theorem afterS (s : List S_lumref_File) (x : S_api_Deed) {b : Int} (hb : 0 ≤ b) (hs : s.length ≤ 2000000000000) (fu : Nat) (hf : s.length < fu) : f_lumref_after fu s x b = some (aft s x b) := by
  unfold f_lumref_after aft
  by_cases k1 : x.Kind = 1
  · rw [cond_tt (by simp [k1]), if_pos k1]
    refine (req_pos (mn_ok x.Text hb)).trans ?_
    show opt (f_lumref_set fu s x.Name (x.Text.take (mn x.Text b).toNat)) _ = _
    rw [setS s _ _ hs fu hf, opt_of]
  · rw [cond_ff (by simpa using k1), if_neg k1]
    by_cases k2 : x.Kind = 2
    · rw [cond_tt (by simp [k2]), if_pos k2, lookS s _ hs fu hf, opt_of]
      unfold lkb
      have hw := wo_len s x.Name
      cases lk s x.Name with
      | none => rfl
      | some t =>
        dsimp only
        rw [cond_tt rfl, goneS s _ hs fu hf, opt_of, setS _ _ _ (by omega) fu (by omega), opt_of]
    · rw [cond_ff (by simpa using k2), if_neg k2, goneS s _ hs fu hf, opt_of]
def opOf (x : S_api_Deed) : I114 := if x.Kind = 1 then .t95 ⟨x.Name, x.Text⟩ else if x.Kind = 2 then .t98 ⟨x.Name, x.Text⟩ else .t105 ⟨x.Name⟩
structure OpOk (x : S_api_Deed) : Prop where
  name : x.Name.length ≤ 24
  text : x.Kind = 1 → x.Text.length ≤ 65536
  to2 : x.Kind = 2 → x.Text.length ≤ 24
def app (fu : Nat) (c : I114) (m : MM) (b : Int) : Option MM := match c with
  | .nil => none
  | .t95 w => f__disk_write__apply fu w m b
  | .t98 r => f__disk_rename__apply fu r m b
  | .t105 r => f__disk_remove__apply fu r m b
theorem rel_app {m : MM} {s : List S_lumref_File} (h : Rel m s) {x : S_api_Deed} (hx : OpOk x) {b : Int} (hb : 0 ≤ b) (fu : Nat) : ∃ m', app fu (opOf x) m b = some m' ∧ Rel m' (aft s x b) := by
  have hn := hx.name
  unfold opOf aft
  by_cases k1 : x.Kind = 1
  · rw [if_pos k1, if_pos k1]
    refine ⟨gset m x.Name (x.Text.take (mn x.Text b).toNat), ?_, rel_put h _ _⟩
    show f__disk_write__apply fu ⟨x.Name, x.Text⟩ m b = _
    unfold f__disk_write__apply
    refine (req_pos (mn_ok x.Text hb)).trans ?_
    refine (req_pos (by show x.Name.length ≤ _; omega)).trans ?_
    rfl
  · rw [if_neg k1, if_neg k1]
    by_cases k2 : x.Kind = 2
    · have ht := hx.to2 k2
      rw [if_pos k2, if_pos k2]
      show ∃ m', f__disk_rename__apply fu ⟨x.Name, x.Text⟩ m b = some m' ∧ _
      unfold f__disk_rename__apply
      dsimp only
      rw [req_pos (by omega), lt_of, rel_lk h x.Name]
      cases hl : lk s x.Name with
      | none => exact ⟨m, by simp, h⟩
      | some t =>
        rw [cond_tt (show (some t).isSome = true from rfl)]
        dsimp only
        by_cases e : x.Name = x.Text
        · rw [cond_ff (by simp [e])]
          refine ⟨m, rfl, ?_⟩
          rw [← e]
          exact rel_self h hl
        · rw [cond_tt (by simpa using e), req_pos (by omega), req_pos (by omega)]
          exact ⟨_, rfl, rel_put (rel_del h x.Name) x.Text t⟩
    · rw [if_neg k2, if_neg k2]
      refine ⟨gdel m x.Name, ?_, rel_del h x.Name⟩
      show f__disk_remove__apply fu ⟨x.Name⟩ m b = _
      unfold f__disk_remove__apply
      dsimp only
      rw [req_pos (by omega)]
theorem aft_len (s : List S_lumref_File) (x : S_api_Deed) (b : Int) : (aft s x b).length ≤ s.length + 1 := by
  unfold aft
  split
  · exact put_len _ _ _
  split
  · cases lk s x.Name with
    | none => exact Nat.le_succ _
    | some t => have := put_len (wo s x.Name) x.Text t; have := wo_len s x.Name; dsimp only; omega
  · have := wo_len s x.Name; omega
theorem aft_tx {s : List S_lumref_File} (h : Tx s) {x : S_api_Deed} (hx : OpOk x) (b : Int) : Tx (aft s x b) := by
  unfold aft
  split
  · rename_i k1
    refine tx_put h ?_
    have := hx.text k1
    rw [List.length_take]; omega
  split
  · cases hl : lk s x.Name with
    | none => exact h
    | some t => exact tx_put (tx_wo h _) (h _ (lk_mem hl))
  · exact tx_wo h _
theorem rel_keys {m : MM} {s : List S_lumref_File} (h : Rel m s) : (m.map Prod.fst).mergeSort (fun x y => decide (x ≤ y)) = s.map (fun f => f.Name) := by
  have h1 : (m.map Prod.fst).Perm (s.map (fun f => f.Name)) := by
    have := h.1.map (fun x : Str × Str => x.1)
    rw [List.map_map] at this; exact this
  rw [show (m.map Prod.fst).mergeSort (fun x y => decide (x ≤ y)) = (s.map (fun f => f.Name)).mergeSort (fun x y => decide (x ≤ y)) from Go.mergeSort_of_perm h1]
  refine List.mergeSort_of_pairwise ?_
  rw [List.pairwise_map]
  refine List.Pairwise.imp (fun {a b} hab => ?_) h.2
  have hab' : Op.bytesLess a.Name b.Name = true := hab
  rw [Go.Proofs.bytesLess_eq] at hab'
  exact decide_eq_true (List.le_of_lt (of_decide_eq_true hab'))
end Go.Proofs.Ytiioclkiapbjnaa.Dk
namespace Go.Proofs.Ytiioclkiapbjnaa.Dk
open Go.RowKit Ytiioclkiapbjnaa.En Ytiioclkiapbjnaa
set_option linter.unusedVariables false
set_option linter.unusedSimpArgs false
structure Inv (N : Nat) (d : D_disk_Disk) (r : D_lumref_Disk) : Prop where
  room : r.Room = d.room
  seen : Rel d.files r.Seen
  safe : Rel d.durable r.Safe
  ops : d.changes = r.Ops.map opOf
  ok : ∀ x ∈ r.Ops, OpOk x
  lo : 0 ≤ d.left
  hi : d.left ≤ 9223372036854775807
  fuse : r.Left = if d.fused = true then d.left else -1
  ns : r.Seen.length ≤ N
  nf : r.Safe.length + r.Ops.length ≤ N
  ts : Tx r.Seen
  tf : Tx r.Safe
theorem Inv.up {N : Nat} {d : D_disk_Disk} {r : D_lumref_Disk} (h : Inv N d r) : Inv (N + 1) d r := { h with ns := Nat.le_succ_of_le h.ns, nf := Nat.le_succ_of_le h.nf }
theorem Inv.len {N : Nat} {d : D_disk_Disk} {r : D_lumref_Disk} (h : Inv N d r) : d.files.length = r.Seen.length := by rw [h.seen.1.length_eq, List.length_map]
def dn (d : D_disk_Disk) : Bool := d.fused && (d.left == 0)
def beg (d : D_disk_Disk) : D_disk_Disk := ⟨d.room, d.files, d.durable, d.changes, d.fused, if d.fused = true then d.left - 1 else d.left⟩
def lf (x : Int) : Int := if x > 0 then x - 1 else x
def rb (r : D_lumref_Disk) : D_lumref_Disk := ⟨r.Room, r.Seen, r.Safe, r.Ops, lf r.Left⟩
theorem downS (d : D_disk_Disk) (fu : Nat) : f___disk_Disk__down fu d = some (dn d, d) := by
  unfold f___disk_Disk__down dn
  rw [lt_of]
  cases d.fused <;> rfl
theorem beginS {N : Nat} {d : D_disk_Disk} {r : D_lumref_Disk} (h : Inv N d r) (fu : Nat) : f___disk_Disk__begin fu d = some (if dn d = true then (17, d) else (0, beg d)) := by
  have h1 := h.lo
  have h2 := h.hi
  unfold f___disk_Disk__begin
  rw [downS, opt_of]
  dsimp only
  cases hd : dn d with
  | true => rfl
  | false =>
    rw [cond_ff rfl, lt_of, if_neg (by decide)]
    unfold beg
    cases hf : d.fused with
    | true =>
      rw [cond_tt rfl, w64 (by omega) (by omega), if_pos rfl]
    | false => rw [cond_ff rfl, if_neg (by decide)]
theorem Inv.down {N : Nat} {d : D_disk_Disk} {r : D_lumref_Disk} (h : Inv N d r) : (r.Left == 0) = dn d := by
  rw [h.fuse]; unfold dn
  cases d.fused with
  | true => rw [if_pos rfl]; rfl
  | false => rfl
theorem Inv.beg {N : Nat} {d : D_disk_Disk} {r : D_lumref_Disk} (h : Inv N d r) (hd : dn d = false) : Inv N (beg d) (rb r) := by
  have h1 := h.lo
  have h2 := h.hi
  have h3 := h.fuse
  unfold dn at hd
  refine { room := h.room, seen := h.seen, safe := h.safe, ops := h.ops, ok := h.ok, lo := ?_, hi := ?_, fuse := ?_, ns := h.ns, nf := h.nf, ts := h.ts, tf := h.tf }
  · show 0 ≤ (if d.fused = true then d.left - 1 else d.left)
    cases hf : d.fused with
    | true =>
      rw [hf] at hd
      have : d.left ≠ 0 := by simpa using hd
      rw [if_pos rfl]; omega
    | false => rw [if_neg (by decide)]; exact h1
  · show (if d.fused = true then d.left - 1 else d.left) ≤ _
    split <;> omega
  · show lf r.Left = if d.fused = true then (if d.fused = true then d.left - 1 else d.left) else -1
    rw [h3]; unfold lf
    cases hf : d.fused with
    | true =>
      rw [hf] at hd
      have : d.left ≠ 0 := by simpa using hd
      rw [if_pos rfl, if_pos rfl, if_pos rfl, if_pos (by omega)]
    | false => rfl
theorem lf_step (x : Int) (h : x ≤ 9223372036854775807) (A : Int → Option (Int × D_lumref_Disk)) : (lt A fun (kk : Int → Option (Int × D_lumref_Disk)) => (bif (decide (x > (0 : Int))) then (kk (IntKind.i64.wrap (x - (1 : Int)))) else (kk x))) = A (lf x) := by
  unfold lf
  rw [lt_of]
  by_cases h0 : x > 0
  · rw [cond_tt (decide_eq_true h0), if_pos h0, w64 (by omega) (by omega)]
  · rw [cond_ff (decide_eq_false h0), if_neg h0]
theorem Inv.leftHi {N : Nat} {d : D_disk_Disk} {r : D_lumref_Disk} (h : Inv N d r) : r.Left ≤ 9223372036854775807 := by
  rw [h.fuse]; have := h.hi; split <;> omega
def rt (s : Str) : Bool := decide (1 ≤ s.length ∧ s.length ≤ 24)
theorem rightS (s : Str) (fu : Nat) : f_disk_right fu s = some (rt s) := by
  unfold f_disk_right rt
  rw [lt_of]
  by_cases h1 : 1 ≤ s.length
  · rw [cond_tt (decide_eq_true (by omega))]
    by_cases h2 : s.length ≤ 24
    · rw [decide_eq_true (by omega), decide_eq_true ⟨h1, h2⟩]
    · rw [decide_eq_false (by omega), decide_eq_false (fun h => h2 h.2)]
  · rw [cond_ff (decide_eq_false (by omega)), decide_eq_false (fun h => h1 h.1)]
theorem errS (s : Str) (fu : Nat) : f_lumref_fileErr fu s = some (if rt s = true then 0 else 8) := by
  unfold f_lumref_fileErr rt
  rw [lt_of]
  by_cases h1 : s = []
  · rw [cond_tt (by simp [h1]), if_neg (by simp [h1])]; rfl
  · have h1' : 1 ≤ s.length := by
      cases s with
      | nil => exact absurd rfl h1
      | cons a b => simp
    rw [cond_ff (by simpa using h1)]
    by_cases h2 : s.length ≤ 24
    · rw [decide_eq_false (by omega), if_pos (decide_eq_true ⟨h1', h2⟩)]; rfl
    · rw [decide_eq_true (by omega), if_neg (by simp; omega)]; rfl
theorem doS (d : D_disk_Disk) (c : I114) {m : MM} (fu : Nat) (hc : app fu c d.files 65536 = some m) (hl : d.changes.length ≤ 2000000000000) : f___disk_Disk__do fu d c = some ⟨d.room, m, d.durable, d.changes ++ [c], d.fused, d.left⟩ := by
  unfold f___disk_Disk__do
  cases c with
  | nil => cases hc
  | t95 w =>
    dsimp only
    rw [show f__disk_write__apply fu w d.files 65536 = some m from hc, opt_of, req_pos (by simp; omega)]
  | t98 w =>
    dsimp only
    rw [show f__disk_rename__apply fu w d.files 65536 = some m from hc, opt_of, req_pos (by simp; omega)]
  | t105 w =>
    dsimp only
    rw [show f__disk_remove__apply fu w d.files 65536 = some m from hc, opt_of, req_pos (by simp; omega)]
def did (r : D_lumref_Disk) (x : S_api_Deed) : D_lumref_Disk := ⟨r.Room, aft r.Seen x 65536, r.Safe, r.Ops ++ [x], r.Left⟩
theorem Inv.did {N : Nat} {d : D_disk_Disk} {r : D_lumref_Disk} (h : Inv N d r) {x : S_api_Deed} (hx : OpOk x) (hN : N ≤ 1954687338267) (fu : Nat) : ∃ d', f___disk_Disk__do fu d (opOf x) = some d' ∧ Inv (N + 1) d' (did r x) := by
  obtain ⟨m, hm, hr⟩ := rel_app h.seen hx (b := 65536) (by decide) fu
  have hcl : d.changes.length ≤ 2000000000000 := by
    rw [h.ops, List.length_map]; have := h.nf; omega
  refine ⟨_, doS d (opOf x) fu hm hcl, ?_⟩
  refine { room := h.room, seen := hr, safe := h.safe, ops := ?_, ok := ?_, lo := h.lo, hi := h.hi, fuse := h.fuse, ns := ?_, nf := ?_, ts := aft_tx h.ts hx _, tf := h.tf }
  · show d.changes ++ [opOf x] = (r.Ops ++ [x]).map opOf
    rw [h.ops, List.map_append]; rfl
  · intro y hy
    rcases List.mem_append.1 hy with hy | hy
    · exact h.ok y hy
    · rw [List.mem_singleton.1 hy]; exact hx
  · have := aft_len r.Seen x 65536
    have := h.ns
    show (aft r.Seen x 65536).length ≤ N + 1
    omega
  · have := h.nf
    show r.Safe.length + (r.Ops ++ [x]).length ≤ N + 1
    rw [List.length_append]; simp; omega
theorem pickM_const {α β : Type} [DecidableEq β] {l : List α} {f : α → List α → Option β} {z c : Option β} (h : ∀ j y, l[j]? = some y → f y (l.eraseIdx j) = c) (hz : l = [] → z = c) : pickM l f z = c := by
  cases l with
  | nil => exact hz rfl
  | cons x r =>
    have h0 : f x r = c := h 0 x rfl
    unfold pickM
    dsimp only
    rw [if_pos, h0]
    refine List.all_eq_true.2 fun j hj => ?_
    have hlt : j < r.length := List.mem_range.1 hj
    refine decide_eq_true ?_
    unfold pk
    rw [List.getElem?_cons_succ, List.getElem?_eq_getElem hlt]
    dsimp only
    rw [h0]
    exact h (j + 1) r[j] (by rw [List.getElem?_cons_succ, List.getElem?_eq_getElem hlt])
theorem sum_loop (n : Str) (kk : Int → Option (Int × D_disk_Disk)) : ∀ (fuel : Nat) (left : MM) (acc : Nat), left.length < fuel → acc + sm left n ≤ 9000000000000000000 →
    f___disk_Disk__Write_L22 n kk fuel left (acc : Int) = kk ((acc + sm left n : Nat) : Int)
  | 0, _, _, hf, _ => absurd hf (Nat.not_lt_zero _)
  | fuel + 1, left, acc, hf, hb => by
    rw [f___disk_Disk__Write_L22]
    refine pickM_const (fun j y hy => ?_) (fun hl => by subst hl; rfl)
    have hj := (List.getElem?_eq_some_iff.1 hy).1
    have hlen : (left.eraseIdx j).length < fuel := by rw [List.length_eraseIdx, if_pos hj]; omega
    have hs := sm_erase (n := n) hy
    by_cases e : y.1 = n
    · rw [if_pos e] at hs
      rw [cond_ff (by simp [e]), sum_loop n kk fuel (left.eraseIdx j) acc hlen (by omega), hs, Nat.zero_add]
    · rw [if_neg e] at hs
      rw [cond_tt (by simpa using e), w64 (by omega) (by omega)]
      have := sum_loop n kk fuel (left.eraseIdx j) (acc + y.2.length) hlen (by omega)
      rw [Int.natCast_add] at this
      rw [this, hs, Nat.add_assoc]
theorem sumR_loop (l : List S_lumref_File) (hl : l.length ≤ 2000000000000) (kk : Int → Option (Int × D_lumref_Disk)) : ∀ (fuel k acc : Nat), k ≤ l.length → l.length - k < fuel → acc + sb (l.drop k) ≤ 9000000000000000000 →
    f___lumref_Disk__Change_L26 kk l fuel (acc : Int) (k : Int) = kk ((acc + sb (l.drop k) : Nat) : Int)
  | 0, k, acc, _, hf, _ => absurd hf (Nat.not_lt_zero _)
  | fuel + 1, k, acc, hk, hf, hb => by
    rw [f___lumref_Disk__Change_L26]
    by_cases hlt : k < l.length
    · rw [List.drop_eq_getElem_cons hlt] at hb ⊢
      have e : sb (l[k] :: l.drop (k + 1)) = l[k].Bytes.length + sb (l.drop (k + 1)) := rfl
      rw [e] at hb ⊢
      rw [cond_tt (dlt (by omega)), at_lt hlt, opt_of, w64 (by omega) (by omega), wsucc (by omega)]
      have := sumR_loop l hl kk fuel (k + 1) (acc + l[k].Bytes.length) (by omega) (by omega) (by omega)
      rw [Int.natCast_add] at this
      rw [this, Nat.add_assoc]
    · rw [cond_ff (dge (by omega)), List.drop_of_length_le (by omega)]; rfl
end Go.Proofs.Ytiioclkiapbjnaa.Dk
namespace Go.Proofs.Ytiioclkiapbjnaa.Dk
open Go.RowKit Ytiioclkiapbjnaa.En Ytiioclkiapbjnaa
set_option linter.unusedVariables false
set_option linter.unusedSimpArgs false
variable {N : Nat} {d : D_disk_Disk} {r : D_lumref_Disk}
theorem chg_down (h : Inv N d r) (hd : dn d = true) (x : S_api_Deed) (fu : Nat) : f___lumref_Disk__Change fu r x = some (17, r) := by
  unfold f___lumref_Disk__Change
  rw [cond_tt (h.down.trans hd)]
def badN (x : S_api_Deed) : Bool := !rt x.Name || (x.Kind == 2 && !rt x.Text)
theorem chg_bad (h : Inv N d r) (hd : dn d = false) (x : S_api_Deed) (fu : Nat) (hb : badN x = true) : f___lumref_Disk__Change fu r x = some (8, rb r) := by
  unfold f___lumref_Disk__Change
  rw [cond_ff (h.down.trans hd), lf_step _ h.leftHi]
  rw [lt_of, errS, opt_of]
  unfold badN at hb
  cases h1 : rt x.Name with
  | false => rw [if_neg (by decide)]; rfl
  | true =>
    rw [h1] at hb
    simp only [Bool.not_true, Bool.false_or, Bool.and_eq_true, Bool.not_eq_true'] at hb
    rw [if_pos rfl, cond_ff (by decide), cond_tt hb.1, errS, opt_of, hb.2]; rfl
theorem chg_good (h : Inv N d r) (hd : dn d = false) (x : S_api_Deed) (fu : Nat) (hb : badN x = false) : f___lumref_Disk__Change fu r x = (lt (fun (_ : Unit) => (opt (f_lumref_after fu r.Seen x (65536 : Int)) fun (r11 : (List S_lumref_File)) => (req (((r.Ops.length + ([x]).length) * 72 : Nat) ≤ 140737488355328 ∧ r.Ops.length + ([x]).length ≤ 9223372036854775807) (some ((0 : Int), (D_lumref_Disk.mk r.Room r11 r.Safe (r.Ops ++ ([x])) (lf r.Left))))))) fun (kk9 : Unit → Option (Int × D_lumref_Disk)) => (bif (x.Kind == (1 : Int)) then (bif (decide ((x.Text.length : Int) > (65536 : Int))) then (some ((2 : Int), (D_lumref_Disk.mk r.Room r.Seen r.Safe r.Ops (lf r.Left)))) else (lt (fun (j18i5 : Int) => (bif (decide (j18i5 > r.Room)) then (some ((12 : Int), (D_lumref_Disk.mk r.Room r.Seen r.Safe r.Ops (lf r.Left)))) else (kk9 ()))) fun (kk19 : Int → Option (Int × D_lumref_Disk)) => (opt (f_lumref_gone fu r.Seen x.Name) fun (r22 : (List S_lumref_File)) => (f___lumref_Disk__Change_L26 kk19 r22 fu (x.Text.length : Int) (0 : Int))))) else (opt (f_lumref_look fu r.Seen x.Name) fun (r34 : ((List UInt8) × Bool)) => (bif (!r34.2) then (some ((9 : Int), (D_lumref_Disk.mk r.Room r.Seen r.Safe r.Ops (lf r.Left)))) else (kk9 ()))))) := by
  unfold f___lumref_Disk__Change
  rw [cond_ff (h.down.trans hd), lf_step _ h.leftHi]
  unfold badN at hb
  simp only [Bool.or_eq_false_iff, Bool.not_eq_false'] at hb
  rw [lt_of, errS, opt_of, if_pos hb.1, cond_ff (by decide)]
  cases h2 : (x.Kind == 2) with
  | false => rfl
  | true =>
    rw [h2] at hb
    have h3 : rt x.Text = true := by simpa using hb.2
    rw [cond_tt rfl, errS, opt_of, if_pos h3]; rfl
theorem chg_did (h : Inv N d r) (x : S_api_Deed) (fu : Nat) (hfu : N < fu) (hN : N ≤ 1954687338267) (L : Int) : (opt (f_lumref_after fu r.Seen x (65536 : Int)) fun (r11 : (List S_lumref_File)) => (req (((r.Ops.length + ([x]).length) * 72 : Nat) ≤ 140737488355328 ∧ r.Ops.length + ([x]).length ≤ 9223372036854775807) (some ((0 : Int), (D_lumref_Disk.mk r.Room r11 r.Safe (r.Ops ++ ([x])) L))))) = some (0, ⟨r.Room, aft r.Seen x 65536, r.Safe, r.Ops ++ [x], L⟩) := by
  have h1 := h.ns
  have h2 := h.nf
  rw [afterS r.Seen x (by decide) (by omega) fu (by omega), opt_of, req_pos (by simp; omega)]
theorem rt_len {s : Str} (h : rt s = true) : s.length ≤ 24 := (of_decide_eq_true h).2
theorem same_write (h : Inv N d r) (x : S_api_Deed) (hk : x.Kind = 1) (fu : Nat) (hfu : N + 1 < fu) (hN : N ≤ 1954687338267) : ∃ e d' r', f___disk_Disk__Write fu d x.Name x.Text = some (e, d') ∧ f___lumref_Disk__Change fu r x = some (e, r') ∧ Inv (N + 1) d' r' := by
  unfold f___disk_Disk__Write
  rw [beginS h, opt_of]
  cases hd : dn d with
  | true =>
    rw [if_pos rfl]
    exact ⟨17, d, r, rfl, chg_down h hd x fu, h.up⟩
  | false =>
    have hb := h.beg hd
    rw [if_neg (by decide)]
    dsimp only
    rw [cond_ff (by decide), rightS, opt_of]
    have hbad : badN x = !rt x.Name := by unfold badN; rw [hk]; simp
    cases hn : rt x.Name with
    | false =>
      exact ⟨8, beg d, rb r, rfl, chg_bad h hd x fu (by rw [hbad, hn]; rfl), hb.up⟩
    | true =>
      rw [cond_ff (show (!true) = false from rfl)]
      have hg := chg_good h hd x fu (by rw [hbad, hn]; rfl)
      rw [hg, lt_of, lt_of, cond_tt (show (x.Kind == 1) = true from by simp [hk])]
      by_cases ht : x.Text.length > 65536
      · rw [cond_tt (decide_eq_true (by omega)), cond_tt (decide_eq_true (by omega))]
        exact ⟨2, beg d, rb r, rfl, rfl, hb.up⟩
      · rw [cond_ff (decide_eq_false (by omega)), cond_ff (decide_eq_false (by omega)), lt_of]
        have hns := h.ns
        have hwl := wo_len r.Seen x.Name
        have htx := sb_le (tx_wo h.ts x.Name)
        have hsm := rel_sm h.seen x.Name
        have hfl := h.len
        rw [goneS r.Seen x.Name (by omega) fu (by omega), opt_of]
        have e1 := sum_loop x.Name (fun (j11i8 : Int) => (bif (decide (j11i8 > (beg d).room)) then (some ((12 : Int), beg d)) else (opt (f___disk_Disk__do fu (beg d) (I114.t95 (S_disk_write.mk x.Name x.Text))) fun (r15 : D_disk_Disk) => (some ((0 : Int), r15))))) fu d.files x.Text.length (by omega) (by omega)
        have e2 := sumR_loop (wo r.Seen x.Name) (by omega) (fun (j18i5 : Int) => (bif (decide (j18i5 > r.Room)) then (some ((12 : Int), (D_lumref_Disk.mk r.Room r.Seen r.Safe r.Ops (lf r.Left)))) else (opt (f_lumref_after fu r.Seen x (65536 : Int)) fun (r11 : (List S_lumref_File)) => (req (((r.Ops.length + ([x]).length) * 72 : Nat) ≤ 140737488355328 ∧ r.Ops.length + ([x]).length ≤ 9223372036854775807) (some ((0 : Int), (D_lumref_Disk.mk r.Room r11 r.Safe (r.Ops ++ ([x])) (lf r.Left)))))))) fu 0 x.Text.length (by omega) (by omega) (by rw [List.drop_zero]; omega)
        rw [List.drop_zero, ← hsm] at e2
        have hroom := h.room
        show ∃ e d' r', f___disk_Disk__Write_L22 x.Name _ fu d.files (x.Text.length : Int) = some (e, d') ∧ f___lumref_Disk__Change_L26 _ (wo r.Seen x.Name) fu (x.Text.length : Int) ((0 : Nat) : Int) = some (e, r') ∧ _
        rw [show f___disk_Disk__Write_L22 x.Name _ fu d.files (x.Text.length : Int) = _ from e1, show f___lumref_Disk__Change_L26 _ (wo r.Seen x.Name) fu (x.Text.length : Int) ((0 : Nat) : Int) = _ from e2]
        by_cases hs : ((x.Text.length + sm d.files x.Name : Nat) : Int) > d.room
        · rw [cond_tt (show decide (_ > (beg d).room) = true from decide_eq_true hs), cond_tt (decide_eq_true (by rw [hroom]; exact hs))]
          exact ⟨12, beg d, rb r, rfl, rfl, hb.up⟩
        · rw [cond_ff (show decide (_ > (beg d).room) = false from decide_eq_false hs), cond_ff (decide_eq_false (by rw [hroom]; exact hs))]
          have hok : OpOk x := ⟨rt_len hn, fun _ => by omega, fun h2 => by rw [hk] at h2; cases h2⟩
          obtain ⟨d', hd', hi'⟩ := hb.did hok hN fu
          have ho : opOf x = I114.t95 ⟨x.Name, x.Text⟩ := if_pos hk
          rw [ho] at hd'
          rw [hd', opt_of, chg_did h x fu (by omega) hN]
          exact ⟨0, d', _, rfl, rfl, hi'⟩
theorem lkb_some (s : List S_lumref_File) (n : Str) : (lkb s n).2 = (lk s n).isSome := by unfold lkb; cases lk s n <;> rfl
theorem same_rename (h : Inv N d r) (x : S_api_Deed) (hk : x.Kind = 2) (fu : Nat) (hfu : N + 1 < fu) (hN : N ≤ 1954687338267) : ∃ e d' r', f___disk_Disk__Rename fu d x.Name x.Text = some (e, d') ∧ f___lumref_Disk__Change fu r x = some (e, r') ∧ Inv (N + 1) d' r' := by
  unfold f___disk_Disk__Rename
  rw [beginS h, opt_of]
  cases hd : dn d with
  | true =>
    rw [if_pos rfl]
    exact ⟨17, d, r, rfl, chg_down h hd x fu, h.up⟩
  | false =>
    have hb := h.beg hd
    rw [if_neg (by decide)]
    dsimp only
    rw [cond_ff (by decide), lt_of, rightS, opt_of]
    have hbad : badN x = (!rt x.Name || !rt x.Text) := by unfold badN; rw [hk]; simp
    cases hn : rt x.Name with
    | false =>
      rw [cond_tt (show (!false) = true from rfl)]
      exact ⟨8, beg d, rb r, rfl, chg_bad h hd x fu (by rw [hbad, hn]; rfl), hb.up⟩
    | true =>
      rw [cond_ff (show (!true) = false from rfl), rightS, opt_of]
      cases hn2 : rt x.Text with
      | false => exact ⟨8, beg d, rb r, rfl, chg_bad h hd x fu (by rw [hbad, hn, hn2]; rfl), hb.up⟩
      | true =>
        dsimp only
        have hg := chg_good h hd x fu (by rw [hbad, hn, hn2]; rfl)
        have hns := h.ns
        have hnl := rt_len hn
        rw [hg, lt_of, cond_ff (show (x.Kind == 1) = false from by simp [hk]), cond_ff (show (!true) = false from rfl), req_pos (by omega), lookS r.Seen x.Name (by omega) fu (by omega), opt_of, lkb_some]
        rw [show gget (beg d).files x.Name = lk r.Seen x.Name from rel_lk h.seen x.Name]
        cases hl : lk r.Seen x.Name with
        | none => exact ⟨9, beg d, rb r, rfl, rfl, hb.up⟩
        | some t =>
          rw [cond_ff (show (!(some t).isSome) = false from rfl), cond_ff (show (!(some t).isSome) = false from rfl)]
          have hok : OpOk x := ⟨hnl, (fun h2 => by rw [hk] at h2; cases h2), fun _ => rt_len hn2⟩
          obtain ⟨d', hd', hi'⟩ := hb.did hok hN fu
          have ho : opOf x = I114.t98 ⟨x.Name, x.Text⟩ := by unfold opOf; rw [if_neg (by rw [hk]; decide), if_pos hk]
          rw [ho] at hd'
          rw [hd', opt_of, chg_did h x fu (by omega) hN]
          exact ⟨0, d', _, rfl, rfl, hi'⟩
theorem same_remove (h : Inv N d r) (x : S_api_Deed) (hk : x.Kind = 3) (fu : Nat) (hfu : N + 1 < fu) (hN : N ≤ 1954687338267) : ∃ e d' r', f___disk_Disk__Remove fu d x.Name = some (e, d') ∧ f___lumref_Disk__Change fu r x = some (e, r') ∧ Inv (N + 1) d' r' := by
  unfold f___disk_Disk__Remove
  rw [beginS h, opt_of]
  cases hd : dn d with
  | true =>
    rw [if_pos rfl]
    exact ⟨17, d, r, rfl, chg_down h hd x fu, h.up⟩
  | false =>
    have hb := h.beg hd
    rw [if_neg (by decide)]
    dsimp only
    rw [cond_ff (by decide), rightS, opt_of]
    have hbad : badN x = !rt x.Name := by unfold badN; rw [hk]; simp
    cases hn : rt x.Name with
    | false =>
      exact ⟨8, beg d, rb r, rfl, chg_bad h hd x fu (by rw [hbad, hn]; rfl), hb.up⟩
    | true =>
      have hg := chg_good h hd x fu (by rw [hbad, hn]; rfl)
      have hns := h.ns
      have hnl := rt_len hn
      rw [hg, lt_of, cond_ff (show (x.Kind == 1) = false from by simp [hk]), cond_ff (show (!true) = false from rfl), req_pos (by omega), lookS r.Seen x.Name (by omega) fu (by omega), opt_of, lkb_some]
      rw [show gget (beg d).files x.Name = lk r.Seen x.Name from rel_lk h.seen x.Name]
      cases hl : lk r.Seen x.Name with
      | none => exact ⟨9, beg d, rb r, rfl, rfl, hb.up⟩
      | some t =>
        rw [cond_ff (show (!(some t).isSome) = false from rfl), cond_ff (show (!(some t).isSome) = false from rfl)]
        have hok : OpOk x := ⟨hnl, (fun h2 => by rw [hk] at h2; cases h2), (fun h2 => by rw [hk] at h2; cases h2)⟩
        obtain ⟨d', hd', hi'⟩ := hb.did hok hN fu
        have ho : opOf x = I114.t105 ⟨x.Name⟩ := by unfold opOf; rw [if_neg (by rw [hk]; decide), if_neg (by rw [hk]; decide)]
        rw [ho] at hd'
        rw [hd', opt_of, chg_did h x fu (by omega) hN]
        exact ⟨0, d', _, rfl, rfl, hi'⟩
end Go.Proofs.Ytiioclkiapbjnaa.Dk
namespace Go.Proofs.Ytiioclkiapbjnaa.Dk
open Go.RowKit Ytiioclkiapbjnaa.En Ytiioclkiapbjnaa
set_option linter.unusedVariables false
set_option linter.unusedSimpArgs false
variable {N : Nat} {d : D_disk_Disk} {r : D_lumref_Disk}
theorem same_sync (h : Inv N d r) (fu : Nat) (hN : N ≤ 1954687338267) : ∃ e d' r', f___disk_Disk__Sync fu d = some (e, d') ∧ f___lumref_Disk__Sync fu r = some (e, r') ∧ Inv (N + 1) d' r' := by
  unfold f___disk_Disk__Sync f___lumref_Disk__Sync
  rw [beginS h, opt_of]
  cases hd : dn d with
  | true =>
    rw [if_pos rfl, cond_tt (h.down.trans hd)]
    exact ⟨17, d, r, rfl, rfl, h.up⟩
  | false =>
    have hb := h.beg hd
    have hns := h.ns
    rw [if_neg (by decide), cond_ff (h.down.trans hd), lf_step _ h.leftHi, clF (by omega), opt_of]
    refine ⟨0, _, _, rfl, rfl, ?_⟩
    exact { room := hb.room, seen := hb.seen, safe := hb.seen, ops := rfl, ok := fun x hx => absurd hx (by simp), lo := hb.lo, hi := hb.hi, fuse := hb.fuse, ns := Nat.le_succ_of_le hns, nf := by show r.Seen.length + 0 ≤ N + 1; omega, ts := h.ts, tf := h.ts }
theorem same_read (h : Inv N d r) (n : Str) (fu : Nat) (hfu : N < fu) (hN : N ≤ 1954687338268) : ∃ s e, f___disk_Disk__Read fu d n = some (s, e, d) ∧ f___lumref_Disk__Read fu r n = some (s, e, r) := by
  unfold f___disk_Disk__Read f___lumref_Disk__Read
  rw [downS, opt_of]
  dsimp only
  cases hd : dn d with
  | true =>
    rw [cond_tt rfl, cond_tt (h.down.trans hd)]
    exact ⟨[], 17, rfl, rfl⟩
  | false =>
    have hns := h.ns
    rw [cond_ff rfl, cond_ff (h.down.trans hd), rightS, opt_of, errS, opt_of]
    cases hn : rt n with
    | false => exact ⟨[], 8, rfl, rfl⟩
    | true =>
      have hnl := rt_len hn
      rw [cond_ff (show (!true) = false from rfl), if_pos rfl, cond_ff (show ((0 : Int) != 0) = false from rfl), req_pos (by omega), lookS r.Seen n (by omega) fu (by omega), opt_of, lkb_some, rel_lk h.seen n]
      cases hl : lk r.Seen n with
      | none => exact ⟨[], 9, rfl, rfl⟩
      | some t =>
        refine ⟨t, 0, rfl, ?_⟩
        rw [cond_ff (show (!(some t).isSome) = false from rfl)]
        unfold lkb; rw [hl]
theorem names_loop (r : D_lumref_Disk) (hs : r.Seen.length ≤ 2000000000000) (kk : List Str → Option (List Str × Int × D_lumref_Disk)) : ∀ (fuel k : Nat) (acc : List Str), acc.length = k → k ≤ r.Seen.length → r.Seen.length - k < fuel →
    f___lumref_Disk__List_L6 r kk fuel acc (k : Int) = kk (acc ++ (r.Seen.drop k).map (fun f => f.Name))
  | 0, k, acc, _, _, hf => absurd hf (Nat.not_lt_zero _)
  | fuel + 1, k, acc, ha, hk, hf => by
    rw [f___lumref_Disk__List_L6]
    by_cases hlt : k < r.Seen.length
    · rw [cond_tt (dlt (by omega)), at_lt hlt, opt_of, req_pos (by simp; omega), wsucc (by omega), names_loop r hs kk fuel (k + 1) _ (by simp [ha]) (by omega) (by omega), List.drop_eq_getElem_cons hlt, List.map_cons, List.append_assoc]; rfl
    · rw [cond_ff (dge (by omega)), List.drop_of_length_le (by omega)]
      show kk acc = kk (acc ++ [])
      rw [List.append_nil]
theorem same_list (h : Inv N d r) (fu : Nat) (hfu : N < fu) (hN : N ≤ 1954687338268) : ∃ l e, f___disk_Disk__List fu d = some (l, e, d) ∧ f___lumref_Disk__List fu r = some (l, e, r) ∧ l.length ≤ N := by
  unfold f___disk_Disk__List f___lumref_Disk__List
  rw [downS, opt_of]
  dsimp only
  cases hd : dn d with
  | true =>
    rw [cond_tt rfl, cond_tt (h.down.trans hd)]
    exact ⟨[], 17, rfl, rfl, Nat.zero_le _⟩
  | false =>
    have hns := h.ns
    have hlen := h.len
    rw [cond_ff rfl, cond_ff (h.down.trans hd)]
    unfold f_slices_Sorted_SS
    rw [req_pos (by omega), opt_of, rel_keys h.seen, lt_of]
    refine ⟨r.Seen.map (fun f => f.Name), 0, rfl, ?_, by rw [List.length_map]; exact hns⟩
    refine (names_loop r (by omega) _ fu 0 [] rfl (by omega) (by omega)).trans ?_
    rw [List.drop_zero, List.nil_append]
theorem same_fuse (h : Inv N d r) (n : Int) (hn : n ≤ 9223372036854775807) (fu : Nat) : ∃ d' r', f___disk_Disk__Fuse fu d n = some d' ∧ f___lumref_Disk__Fuse fu r n = some r' ∧ Inv N d' r' := by
  unfold f___disk_Disk__Fuse f___lumref_Disk__Fuse
  by_cases h0 : n ≥ 0
  · rw [cond_tt (decide_eq_true h0)]
    refine ⟨_, _, rfl, rfl, { h with lo := ?_, hi := ?_, fuse := ?_ }⟩
    · show 0 ≤ (if 0 > n then 0 else n)
      rw [if_neg (by omega)]; exact h0
    · show (if 0 > n then 0 else n) ≤ _
      rw [if_neg (by omega)]; exact hn
    · show n = if decide (n ≥ 0) = true then (if 0 > n then 0 else n) else -1
      rw [if_pos (decide_eq_true h0), if_neg (by omega)]
  · rw [cond_ff (decide_eq_false h0)]
    refine ⟨_, _, rfl, rfl, { h with lo := ?_, hi := ?_, fuse := ?_ }⟩
    · show 0 ≤ (if 0 > n then 0 else n)
      rw [if_pos (by omega)]; decide
    · show (if 0 > n then 0 else n) ≤ _
      rw [if_pos (by omega)]; decide
    · show (-1 : Int) = if decide (n ≥ 0) = true then _ else -1
      rw [if_neg (by simpa using h0)]
def kv (l : List Int) (k : Nat) : Int := match l[k]? with | some v => v | none => 0
def bv (v : Int) : Int := if v = 1 then 65536 else v - 2
theorem kv_lt {l : List Int} {k : Nat} (h : k < l.length) : kv l k = l[k] := by unfold kv; rw [List.getElem?_eq_getElem h]
theorem kv_ge {l : List Int} {k : Nat} (h : l.length ≤ k) : kv l k = 0 := by unfold kv; rw [List.getElem?_eq_none h]
theorem app_one (fu : Nat) (c : I114) (m : MM) (b : Int) (kk : MM → Option D_disk_Disk) : (match c with | .nil => none | .t95 iy => (opt (f__disk_write__apply fu iy m b) fun (q : MM) => (kk q)) | .t98 iy => (opt (f__disk_rename__apply fu iy m b) fun (q : MM) => (kk q)) | .t105 iy => (opt (f__disk_remove__apply fu iy m b) fun (q : MM) => (kk q))) = opt (app fu c m b) kk := by
  cases c <;> rfl
theorem app_two (fu : Nat) (c : I114) (m : MM) (v : Int) (kk : MM → Option D_disk_Disk) : (match c with | .nil => none | .t95 iy => (opt (some v) fun (u : Int) => (opt (f__disk_write__apply fu iy m (IntKind.i64.wrap (u - (2 : Int)))) fun (q : MM) => (kk q))) | .t98 iy => (opt (some v) fun (u : Int) => (opt (f__disk_rename__apply fu iy m (IntKind.i64.wrap (u - (2 : Int)))) fun (q : MM) => (kk q))) | .t105 iy => (opt (some v) fun (u : Int) => (opt (f__disk_remove__apply fu iy m (IntKind.i64.wrap (u - (2 : Int)))) fun (q : MM) => (kk q)))) = opt (app fu c m (IntKind.i64.wrap (v - 2))) kk := by
  cases c <;> rfl
theorem code_step (d : D_disk_Disk) (l : List Int) (hl : ∀ v ∈ l, v ≤ 9223372036854775807) (hc : d.changes.length ≤ 2000000000000) (kk : MM → Option D_disk_Disk) (fu fuel k : Nat) (m : MM) (hk : k < d.changes.length) :
    f___disk_Disk__Crash_L6 d l kk fu (fuel + 1) m (k : Int) = if kv l k < 1 then f___disk_Disk__Crash_L6 d l kk fu fuel m ((k + 1 : Nat) : Int) else opt (app fu d.changes[k] m (bv (kv l k))) (fun m' => f___disk_Disk__Crash_L6 d l kk fu fuel m' ((k + 1 : Nat) : Int)) := by
  rw [f___disk_Disk__Crash_L6, cond_tt (dlt (by omega)), lt_of, at_lt hk, opt_of, wsucc (by omega), lt_of]
  by_cases h1 : k < l.length
  · have hv := hl l[k] (List.getElem_mem h1)
    rw [kv_lt h1, cond_ff (decide_eq_false (by omega)), at_lt h1, opt_of]
    by_cases h2 : l[k] < 1
    · rw [if_pos h2, decide_eq_true h2]; rfl
    · rw [if_neg h2, decide_eq_false h2]
      dsimp only
      rw [cond_ff rfl, opt_of]
      unfold bv
      by_cases h3 : l[k] = 1
      · rw [cond_tt (by simp [h3]), if_pos h3]
        exact app_one fu d.changes[k] m 65536 (fun m' => f___disk_Disk__Crash_L6 d l kk fu fuel m' ((k + 1 : Nat) : Int))
      · rw [cond_ff (by simpa using h3), if_neg h3]
        refine (app_two fu d.changes[k] m l[k] (fun m' => f___disk_Disk__Crash_L6 d l kk fu fuel m' ((k + 1 : Nat) : Int))).trans ?_
        rw [w64 (by omega) (by omega)]
  · rw [kv_ge (by omega), cond_tt (decide_eq_true (by omega)), if_pos (by decide)]; rfl
theorem ref_step (r : D_lumref_Disk) (l : List Int) (hl : ∀ v ∈ l, v ≤ 9223372036854775807) (hc : r.Ops.length ≤ 2000000000000) (kk : List S_lumref_File → Option D_lumref_Disk) (fu fuel k : Nat) (s : List S_lumref_File) (hs : s.length ≤ 2000000000000) (hf : s.length < fu) (hk : k < r.Ops.length) :
    f___lumref_Disk__Crash_L11 r l kk fu (fuel + 1) s (k : Int) = if kv l k < 1 then f___lumref_Disk__Crash_L11 r l kk fu fuel s ((k + 1 : Nat) : Int) else f___lumref_Disk__Crash_L11 r l kk fu fuel (aft s r.Ops[k] (bv (kv l k))) ((k + 1 : Nat) : Int) := by
  rw [f___lumref_Disk__Crash_L11, cond_tt (dlt (by omega)), lt_of, at_lt hk, opt_of, wsucc (by omega), lt_of]
  have key : ∀ v : Int, v ≤ 9223372036854775807 → (bif (v == (1 : Int)) then (opt (f_lumref_after fu s r.Ops[k] (65536 : Int)) fun (r26 : (List S_lumref_File)) => (f___lumref_Disk__Crash_L11 r l kk fu fuel r26 ((k + 1 : Nat) : Int))) else (bif (decide (v > (1 : Int))) then (opt (f_lumref_after fu s r.Ops[k] (IntKind.i64.wrap (v - (2 : Int)))) fun (r30 : (List S_lumref_File)) => (f___lumref_Disk__Crash_L11 r l kk fu fuel r30 ((k + 1 : Nat) : Int))) else (f___lumref_Disk__Crash_L11 r l kk fu fuel s ((k + 1 : Nat) : Int)))) = if v < 1 then f___lumref_Disk__Crash_L11 r l kk fu fuel s ((k + 1 : Nat) : Int) else f___lumref_Disk__Crash_L11 r l kk fu fuel (aft s r.Ops[k] (bv v)) ((k + 1 : Nat) : Int) := fun v hv => by
    unfold bv
    by_cases h3 : v = 1
    · rw [cond_tt (by simp [h3]), if_neg (by omega), if_pos h3, afterS s _ (by decide) hs fu hf, opt_of]
    · rw [cond_ff (by simpa using h3), if_neg h3]
      by_cases h2 : v > 1
      · rw [cond_tt (decide_eq_true h2), if_neg (by omega), w64 (by omega) (by omega), afterS s _ (by omega) hs fu hf, opt_of]
      · rw [cond_ff (decide_eq_false h2), if_pos (by omega)]
  by_cases h1 : k < l.length
  · rw [cond_tt (dlt (by omega)), at_lt h1, opt_of, kv_lt h1]
    exact key l[k] (hl l[k] (List.getElem_mem h1))
  · rw [cond_ff (dge (by omega)), kv_ge (by omega)]
    exact key 0 (by decide)
theorem crash_loop (h : Inv N d r) (l : List Int) (hl : ∀ v ∈ l, v ≤ 9223372036854775807) (hN : N ≤ 1954687338268) (kk : MM → Option D_disk_Disk) (kk' : List S_lumref_File → Option D_lumref_Disk) (fu : Nat) (hfu : N < fu) : ∀ (fuel k : Nat) (m : MM) (s : List S_lumref_File), Rel m s → Tx s → k ≤ r.Ops.length → s.length + (r.Ops.length - k) ≤ N → r.Ops.length - k < fuel →
    ∃ m' s', f___disk_Disk__Crash_L6 d l kk fu fuel m (k : Int) = kk m' ∧ f___lumref_Disk__Crash_L11 r l kk' fu fuel s (k : Int) = kk' s' ∧ Rel m' s' ∧ Tx s' ∧ s'.length ≤ N
  | 0, k, m, s, _, _, _, _, hf => absurd hf (Nat.not_lt_zero _)
  | fuel + 1, k, m, s, hr, ht, hk, hn, hf => by
    have hcl : d.changes.length = r.Ops.length := by rw [h.ops, List.length_map]
    have hnf := h.nf
    by_cases hlt : k < r.Ops.length
    · rw [code_step d l hl (by omega) kk fu fuel k m (by omega), ref_step r l hl (by omega) kk' fu fuel k s (by omega) (by omega) hlt]
      by_cases h1 : kv l k < 1
      · rw [if_pos h1, if_pos h1]
        exact crash_loop h l hl hN kk kk' fu hfu fuel (k + 1) m s hr ht (by omega) (by omega) (by omega)
      · rw [if_neg h1, if_neg h1]
        have hb : 0 ≤ bv (kv l k) := by unfold bv; split <;> omega
        have hok := h.ok r.Ops[k] (List.getElem_mem hlt)
        obtain ⟨m', hm', hr'⟩ := rel_app hr hok hb fu
        have he : d.changes[k] = opOf r.Ops[k] := by
          have := h.ops
          simp [this]
        rw [he, hm', opt_of]
        have := aft_len s r.Ops[k] (bv (kv l k))
        exact crash_loop h l hl hN kk kk' fu hfu fuel (k + 1) m' _ hr' (aft_tx ht hok _) (by omega) (by omega) (by omega)
    · refine ⟨m, s, ?_, ?_, hr, ht, by omega⟩
      · rw [f___disk_Disk__Crash_L6, cond_ff (dge (by omega))]
      · rw [f___lumref_Disk__Crash_L11, cond_ff (dge (by omega))]
theorem same_crash (h : Inv N d r) (l : List Int) (hl : ∀ v ∈ l, v ≤ 9223372036854775807) (fu : Nat) (hfu : N < fu) (hN : N ≤ 1954687338268) : ∃ d' r', f___disk_Disk__Crash fu d l = some d' ∧ f___lumref_Disk__Crash fu r l = some r' ∧ Inv N d' r' := by
  have hnf := h.nf
  obtain ⟨m', s', h1, h2, h3, h4, h5⟩ := crash_loop h l hl hN (fun (j1xm0_2 : MM) => (some (D_disk_Disk.mk d.room j1xm0_2 j1xm0_2 ([] : List I114) false d.left))) (fun (j1x4 : (List S_lumref_File)) => (opt (f_slices_Clone___lumref_File_lumref_File_ fu j1x4) fun (r4 : (List S_lumref_File)) => (opt (f_slices_Clone___lumref_File_lumref_File_ fu j1x4) fun (r7 : (List S_lumref_File)) => (some (D_lumref_Disk.mk r.Room r7 r4 ([] : List S_api_Deed) (-1 : Int)))))) fu hfu fu 0 d.durable r.Safe h.safe h.tf (by omega) (by omega) (by omega)
  unfold f___disk_Disk__Crash f___lumref_Disk__Crash
  rw [lt_of, lt_of]
  rw [show ((0 : Nat) : Int) = (0 : Int) from rfl] at h1 h2
  rw [h1, h2, clF (by omega), opt_of, opt_of]
  refine ⟨_, _, rfl, rfl, ?_⟩
  exact { room := h.room, seen := h3, safe := h3, ops := rfl, ok := fun x hx => absurd hx (by simp), lo := h.lo, hi := h.hi, fuse := rfl, ns := h5, nf := h5, ts := h4, tf := h4 }
end Go.Proofs.Ytiioclkiapbjnaa.Dk
namespace Go.Proofs.Ytiioclkiapbjnaa.Dk
open Go.RowKit Ytiioclkiapbjnaa.En Ytiioclkiapbjnaa
set_option linter.unusedVariables false
set_option linter.unusedSimpArgs false
variable {N : Nat} {d : D_disk_Disk} {r : D_lumref_Disk}
theorem eqS_loop (l : List Str) (hl : l.length ≤ 2000000000000) (kk : Unit → Option Bool) : ∀ (fuel i : Nat), i ≤ l.length → l.length - i < fuel → f_slices_Equal___string_string__L6 l l kk fuel (i : Int) = kk ()
  | 0, i, _, h => absurd h (Nat.not_lt_zero _)
  | fuel + 1, i, hi, hf => by
    rw [f_slices_Equal___string_string__L6]
    by_cases hlt : i < l.length
    · rw [cond_tt (dlt (by omega)), at_lt hlt, opt_of, opt_of, cond_ff (by simp), wsucc (by omega)]
      exact eqS_loop l hl kk fuel (i + 1) (by omega) (by omega)
    · rw [cond_ff (dge (by omega))]
theorem eqS (l : List Str) (hl : l.length ≤ 2000000000000) (fu : Nat) (hf : l.length < fu) : f_slices_Equal___string_string_ fu l l = some true := by
  unfold f_slices_Equal___string_string_
  rw [cond_ff (by simp), lt_of]
  exact eqS_loop l hl (fun _ => some true) fu 0 (Nat.zero_le _) (by omega)
theorem same_deed (h : Inv N d r) (x : S_api_Deed) (hx : okS_api_Deed x) (fu : Nat) (hfu : N + 1 < fu) (hN : N ≤ 1954687338267) : ∃ d' r', f_lumlaw_sameDeed fu d r x = some (true, d', r') ∧ Inv (N + 1) d' r' := by
  obtain ⟨_, _, _, hn, hkeep⟩ := hx
  unfold f_lumlaw_sameDeed
  rw [lt_of]
  by_cases k1 : x.Kind = 1
  · rw [cond_tt (by simp [k1])]
    obtain ⟨e, d', r', h1, h2, h3⟩ := same_write h ⟨1, x.Name, x.Text, 0, []⟩ rfl fu hfu hN
    rw [show f___disk_Disk__Write fu d x.Name x.Text = some (e, d') from h1, opt_of]
    unfold f___lumref_Disk__Write
    rw [h2, opt_of, opt_of]
    exact ⟨d', r', by simp, h3⟩
  rw [cond_ff (by simpa using k1)]
  by_cases k2 : x.Kind = 2
  · rw [cond_tt (by simp [k2])]
    obtain ⟨e, d', r', h1, h2, h3⟩ := same_rename h x k2 fu hfu hN
    rw [h1, opt_of, h2, opt_of]
    exact ⟨d', r', by simp, h3⟩
  rw [cond_ff (by simpa using k2)]
  by_cases k3 : x.Kind = 3
  · rw [cond_tt (by simp [k3])]
    obtain ⟨e, d', r', h1, h2, h3⟩ := same_remove h x k3 fu hfu hN
    rw [h1, opt_of, h2, opt_of]
    exact ⟨d', r', by simp, h3⟩
  rw [cond_ff (by simpa using k3)]
  by_cases k4 : x.Kind = 4
  · rw [cond_tt (by simp [k4])]
    obtain ⟨e, d', r', h1, h2, h3⟩ := same_sync h fu hN
    rw [h1, opt_of, h2, opt_of]
    exact ⟨d', r', by simp, h3⟩
  rw [cond_ff (by simpa using k4)]
  by_cases k5 : x.Kind = 5
  · rw [cond_tt (by simp [k5])]
    obtain ⟨s, e, h1, h2⟩ := same_read h x.Name fu (by omega) (by omega)
    rw [h1, opt_of, h2, opt_of, lt_of, cond_tt (by simp)]
    exact ⟨d, r, by simp, h.up⟩
  rw [cond_ff (by simpa using k5)]
  by_cases k6 : x.Kind = 6
  · rw [cond_tt (by simp [k6])]
    obtain ⟨l, e, h1, h2, h3⟩ := same_list h fu (by omega) (by omega)
    rw [h1, opt_of, h2, opt_of, lt_of, eqS l (by omega) fu (by omega), opt_of, cond_tt rfl]
    exact ⟨d, r, by simp, h.up⟩
  rw [cond_ff (by simpa using k6)]
  by_cases k7 : x.Kind = 7
  · rw [cond_tt (by simp [k7])]
    obtain ⟨d', r', h1, h2, h3⟩ := same_fuse h x.N (wfi64 hn).2 fu
    rw [h1, opt_of, h2, opt_of]
    exact ⟨d', r', rfl, h3.up⟩
  rw [cond_ff (by simpa using k7)]
  by_cases k8 : x.Kind = 8
  · rw [cond_tt (by simp [k8])]
    obtain ⟨d', r', h1, h2, h3⟩ := same_crash h x.Keep (fun v hv => (wfi64 (hkeep.2 v hv)).2) fu (by omega) (by omega)
    rw [h1, opt_of, h2, opt_of]
    exact ⟨d', r', rfl, h3.up⟩
  rw [cond_ff (by simpa using k8)]
  exact ⟨d, r, rfl, h.up⟩
abbrev KD := Int → (List ((List UInt8) × (List UInt8))) → (List ((List UInt8) × (List UInt8))) → (List I114) → Bool → Int → Int → (List S_lumref_File) → (List S_lumref_File) → (List S_api_Deed) → Int → Option Bool
theorem deeds_loop (l : List S_api_Deed) (hl : l.length ≤ 1954687338267) (hok : ∀ x ∈ l, okS_api_Deed x) (kk : KD) (fu : Nat) (hfu : l.length + 1 < fu) : ∀ (fuel k : Nat) (d : D_disk_Disk) (r : D_lumref_Disk), Inv k d r → k ≤ l.length → l.length - k < fuel →
    ∃ d' r', f_lumlaw_DiskPlays_L77 l kk fu fuel d.room d.files d.durable d.changes d.fused d.left r.Room r.Seen r.Safe r.Ops r.Left (k : Int) = kk d'.room d'.files d'.durable d'.changes d'.fused d'.left r'.Room r'.Seen r'.Safe r'.Ops r'.Left ∧ Inv l.length d' r'
  | 0, k, d, r, _, _, hf => absurd hf (Nat.not_lt_zero _)
  | fuel + 1, k, d, r, h, hk, hf => by
    by_cases hlt : k < l.length
    · obtain ⟨d1, r1, h1, h2⟩ := same_deed h l[k] (hok _ (List.getElem_mem hlt)) fu (by omega) (by omega)
      obtain ⟨d', r', h3, h4⟩ := deeds_loop l hl hok kk fu hfu fuel (k + 1) d1 r1 h2 (by omega) (by omega)
      refine ⟨d', r', ?_, h4⟩
      rw [f_lumlaw_DiskPlays_L77, cond_tt (dlt (by omega)), at_lt hlt, opt_of]
      show opt (f_lumlaw_sameDeed fu d r l[k]) _ = _
      rw [h1, opt_of, wsucc (by omega)]
      exact h3
    · refine ⟨d, r, ?_, ?_⟩
      · rw [f_lumlaw_DiskPlays_L77, cond_ff (dge (by omega))]
      · rw [show l.length = k by omega]; exact h
theorem reads_loop (h : Inv N d r) (hN : N ≤ 1954687338268) (fu : Nat) (hfu : N < fu) (r2 : (List (List UInt8)) × Int × D_disk_Disk) (hl : r2.1.length ≤ N) (kk : Int → (List ((List UInt8) × (List UInt8))) → (List ((List UInt8) × (List UInt8))) → (List I114) → Bool → Int → Int → (List S_lumref_File) → (List S_lumref_File) → (List S_api_Deed) → Int → Option (Bool × D_disk_Disk × D_lumref_Disk)) : ∀ (fuel k : Nat), k ≤ r2.1.length → r2.1.length - k < fuel →
    f_lumlaw_SameFiles_L20 r2 kk fu fuel d.room d.files d.durable d.changes d.fused d.left r.Room r.Seen r.Safe r.Ops r.Left (k : Int) = kk d.room d.files d.durable d.changes d.fused d.left r.Room r.Seen r.Safe r.Ops r.Left
  | 0, k, _, hf => absurd hf (Nat.not_lt_zero _)
  | fuel + 1, k, hk, hf => by
    rw [f_lumlaw_SameFiles_L20]
    by_cases hlt : k < r2.1.length
    · obtain ⟨s, e, h1, h2⟩ := same_read h r2.1[k] fu hfu hN
      rw [cond_tt (dlt (by omega)), at_lt hlt, opt_of]
      show opt (f___disk_Disk__Read fu d r2.1[k]) _ = _
      rw [h1, opt_of]
      show opt (f___lumref_Disk__Read fu r r2.1[k]) _ = _
      rw [h2, opt_of, lt_of, cond_ff (by simp), wsucc (by omega)]
      dsimp only
      rw [cond_ff (by simp)]
      exact reads_loop h hN fu hfu r2 hl kk fuel (k + 1) (by omega) (by omega)
    · rw [cond_ff (dge (by omega))]
theorem same_files (h : Inv N d r) (hN : N ≤ 1954687338268) (fu : Nat) (hfu : N < fu) : f_lumlaw_SameFiles fu d r = some (true, d, r) := by
  unfold f_lumlaw_SameFiles
  obtain ⟨l, e, h1, h2, h3⟩ := same_list h fu hfu hN
  rw [h1, opt_of, h2, opt_of, lt_of, cond_ff (by simp), eqS l (by omega) fu (by omega), opt_of]
  dsimp only
  rw [cond_ff (by simp), lt_of]
  exact reads_loop h hN fu hfu (l, e, d) h3 _ fu 0 (by omega) (by show l.length - 0 < fu; omega)
end Go.Proofs.Ytiioclkiapbjnaa.Dk
namespace Go.Proofs.Ytiioclkiapbjnaa.PDiskPlays
open Go.RowKit Ytiioclkiapbjnaa.En Ytiioclkiapbjnaa Ytiioclkiapbjnaa.Dk
set_option linter.unusedVariables false
set_option linter.unusedSimpArgs false
def fuel (x : Int) (l : List S_api_Deed) : Nat := l.length + 2
def d0 (x : Int) : D_disk_Disk := ⟨x, [], [], [], false, 0⟩
def r0 (x : Int) : D_lumref_Disk := ⟨x, [], [], [], -1⟩
theorem newD (fu : Nat) (x : Int) : f_disk_New fu x = some (if x < 0 ∨ x > 1099511627776 then (none, 1) else (some (d0 x), 0)) := by
  unfold f_disk_New
  rw [lt_of]
  by_cases h0 : x < 0
  · rw [cond_tt (dlt h0), if_pos (.inl h0)]; rfl
  · rw [cond_ff (decide_eq_false h0)]
    by_cases h1 : x > 1099511627776
    · rw [decide_eq_true h1, if_pos (.inr h1)]; rfl
    · rw [decide_eq_false h1, if_neg (by omega)]; rfl
theorem newR (fu : Nat) (x : Int) : f_lumref_NewDisk fu x = some (if x < 0 ∨ x > 1099511627776 then (none, 1) else (some (r0 x), 0)) := by
  unfold f_lumref_NewDisk
  rw [lt_of]
  by_cases h0 : x < 0
  · rw [cond_tt (dlt h0), if_pos (.inl h0)]; rfl
  · rw [cond_ff (decide_eq_false h0)]
    by_cases h1 : x > 1099511627776
    · rw [decide_eq_true h1, if_pos (.inr h1)]; rfl
    · rw [decide_eq_false h1, if_neg (by omega)]; rfl
theorem inv0 (x : Int) : Inv 0 (d0 x) (r0 x) := { room := rfl, seen := rel_nil, safe := rel_nil, ops := rfl, ok := fun y hy => absurd hy (by simp [r0]), lo := by show (0 : Int) ≤ 0; decide, hi := by show (0 : Int) ≤ _; decide, fuse := rfl, ns := Nat.le_refl _, nf := Nat.le_refl _, ts := fun f hf => absurd hf (by simp [r0]), tf := fun f hf => absurd hf (by simp [r0]) }
theorem says (x : Int) (l : List S_api_Deed) (ok0 : (Lit.int .i64 x).wf = true) (ok1 : okL (fun y => okS_api_Deed y) l) (hl : l.length ≤ 1954687338267) : f_lumlaw_DiskPlays (fuel x l) x l = some true := by
  unfold f_lumlaw_DiskPlays fuel
  rw [newD, opt_of]
  by_cases hb : x < 0 ∨ x > 1099511627776
  · rw [if_pos hb]
    dsimp only
    rw [newR, opt_of, if_pos hb]; rfl
  · rw [if_neg hb]
    dsimp only
    rw [newR, opt_of, if_neg hb]
    dsimp only
    rw [cond_ff (show ((0 : Int) != 0) = false from rfl), lt_of, cond_ff (show ((0 : Int) != 0) = false from rfl)]
    dsimp only
    rw [cond_ff rfl, lt_of]
    obtain ⟨d', r', h1, h2⟩ := deeds_loop l hl ok1.2 (fun (j65i5_0 : Int) (j65xm5_1 : (List ((List UInt8) × (List UInt8)))) (j65xm5_2 : (List ((List UInt8) × (List UInt8)))) (j65x5_3 : (List I114)) (j65b5_4 : Bool) (j65i5_5 : Int) (j65i7_0 : Int) (j65x7_1 : (List S_lumref_File)) (j65x7_2 : (List S_lumref_File)) (j65x7_3 : (List S_api_Deed)) (j65i7_4 : Int) => (opt (f_lumlaw_SameFiles (l.length + 2) (D_disk_Disk.mk j65i5_0 j65xm5_1 j65xm5_2 j65x5_3 j65b5_4 j65i5_5) (D_lumref_Disk.mk j65i7_0 j65x7_1 j65x7_2 j65x7_3 j65i7_4)) fun (r68 : (Bool × D_disk_Disk × D_lumref_Disk)) => (some r68.1))) (l.length + 2) (by omega) (l.length + 2) 0 (d0 x) (r0 x) (inv0 x) (Nat.zero_le _) (by omega)
    refine h1.trans ?_
    show opt (f_lumlaw_SameFiles (l.length + 2) d' r') _ = _
    rw [same_files h2 (by omega) (l.length + 2) (by omega), opt_of]
section
variable {α H : Type} {P : Program} {w : World} {base : Nat} {spare : Nat → Bool} {held : Bool} {enc : TypeId × Value → H} {v : Value} {d : DataW H} {ps : List MemPlace} {rr : Reach} {b0 : Nat} {t : TypeId}
theorem par_sliceN {e : TypeId} {τ : Ty α} {ok : List α → Prop} (ht : P.underlying t = some (.slice e)) (ho : Opn H P t (tyList τ) ok) (hval : Value.okWide P w rr b0 t v) (hd : DataW.Trod enc P w base spare held t v d ps) : ∃ xs, ok xs ∧ (tyList τ).rep (Full w) w [v] xs ∧ (xs.length = 0 ∨ ∃ elems sp, d = .slice elems sp ∧ elems.length = xs.length) := by
  obtain ⟨A, l, c, rfl⟩ := Go.WideShapes.okWide_slice ht hval
  obtain ⟨fuel, hf⟩ := hd
  obtain ⟨xs, hok, hrep⟩ := ho enc w base spare held fuel _ _ hf
  refine ⟨xs, hok, hrep, ?_⟩
  obtain ⟨A', n, cap, he, hn, _⟩ := hrep
  have he' : (.slice A l c : Value) = .slice A' n cap := by simpa [Value.cells] using he
  injection he' with q1 q2 q3
  rcases DataW.trod_slice ht hf with ⟨hcs, _⟩ | ⟨a, len, cap2, elems, rest, m, _, hcs, hx, _, _, _, hlen, _⟩
  · have hcs' : (.slice A l c : Value) = .slice none 0 0 := by simpa [Value.cells] using hcs
    injection hcs' with q4 q5 q6
    exact .inl (by omega)
  · have hcs' : (.slice A l c : Value) = .slice (some a) len cap2 := by simpa [Value.cells] using hcs
    injection hcs' with q4 q5 q6
    refine .inr ⟨elems.map (·.1), rest.map (·.1), (Prod.mk.inj hx).1, ?_⟩
    rw [List.length_map]; omega
end
end Go.Proofs.Ytiioclkiapbjnaa.PDiskPlays
