/- What DiskPlays leans on, part 3. No condition. -/
import Derived.Test.YtiioclkiapbjnaaQDiskPlaysb
import Derived.Test.YtiioclkiapbjnaaChecked
namespace Go.Proofs.Ytiioclkiapbjnaa
open Go.RowKit Ytiioclkiapbjnaa.En
set_option linter.unusedVariables false
set_option linter.unusedSimpArgs false
open Go.Value (int bool)
set_option maxRecDepth 100000 in
set_option maxHeartbeats 2000000 in
set_option maxHeartbeats 2000000 in
theorem f___disk_Disk__Crash_ok (fu : Nat) (bx0 : Nat) (gm0_1 : Nat) (gm0_2 : Nat) (v0_3 : Value) (a0 : D_disk_Disk) (v1_0 : Value) (a1 : (List Int)) {r : D_disk_Disk} (h : f___disk_Disk__Crash fu a0 a1 = some r) : FnOk Try.prog 31 [(ptr bx0 0), v1_0] [(fDat (tyList (tyInt .i64)) [v1_0] a1)] [(oBox bx0 54 [(int .i64 a0.room), (Value.map (some gm0_1)), (Value.map (some gm0_2)), v0_3, (bool a0.fused), (int .i64 a0.left)]), (oMapK Try.prog 9 gm0_1 str str a0.files), (oMapK Try.prog 9 gm0_2 str str a0.durable), (oRow v0_3 114 tyI114 a0.changes)] (fun (i : Nat × Nat × Value) => { val := (Value.tuple #[]), own := [(oBox bx0 54 [(int .i64 r.room), (Value.map (some i.1)), (Value.map (some i.2.1)), i.2.2, (bool r.fused), (int .i64 r.left)]), (oMapK Try.prog 9 i.1 str str r.files), (oMapK Try.prog 9 i.2.1 str str r.durable), (oRow i.2.2 114 tyI114 r.changes)] }) := by
 unfold f___disk_Disk__Crash at h
 refine fn_enter Try.func31 rfl Try.ntmps31 rfl (fun w0 Z0 => ?_)
 obtain ⟨kk2, hkk2, h⟩ := lt_some h
 refine aw_seq_join (ι := (List ((List UInt8) × (List UInt8)))) (fun i => (mm13 w0 Z0 a0 a1 bx0 gm0_1 gm0_2 i v0_3 v1_0)) (fun i => (tab [(0, (pq bx0))])) (fun i => kk2 i = some r) ?_ ?_
 ·rintro j1xm0_2 h
  have h : kk2 j1xm0_2 = some r := h
  rw [hkk2] at h
  dsimp only at h
  clear hkk2
  refine aw_show (m := (mm13 w0 Z0 a0 a1 bx0 gm0_1 gm0_2 j1xm0_2 v0_3 v1_0)) (S := _) ?_
  refine sm_ ?_
  refine mv_ ?_
  refine al_val (ov_nilCheck rfl rfl) ?_
  refine al_val (ov_fieldA (p := 2) rfl Try.underlying54 rfl sz51 rfl rfl rfl) ?_
  refine al_val (ov_load (i := 3) (v := (Value.map (some gm0_2))) rfl rfl Try.underlying51 sz51 rfl rfl rfl rfl) ?_
  refine al_call (vs := [(Value.map (some gm0_2))]) (f_maps_Clone_SS_ok gm0_2 j1xm0_2) [] [1] [0, 2, 3] pre_nil rfl (by simp) (by decide) (.inl rfl) rfl Try.func59 rfl rfl rfl (fun g3 => ?_)
  refine al_val (ov_nilCheck rfl rfl) ?_
  refine al_val (ov_fieldA (p := 1) rfl Try.underlying54 rfl sz51 rfl rfl rfl) ?_
  refine al_store (i := 4) (vs := [(Value.map (some g3))]) (cs' := [(iq a0.room), (Value.map (some g3)), (Value.map (some gm0_2)), v0_3, (bool a0.fused), (iq a0.left)]) rfl rfl rfl sz51 (cv_rfl rfl) rfl (co_val rfl co_nil) (Nat.le_of_ble_eq_true rfl) rfl rfl ?_
  refine al_nt ?_
  refine sm_ ?_
  refine al_val (ov_nilCheck rfl rfl) ?_
  refine al_val (ov_fieldA (p := 3) rfl Try.underlying54 rfl sz52 rfl rfl rfl) ?_
  refine al_store (i := 4) (vs := [nS]) (cs' := [(iq a0.room), (Value.map (some g3)), (Value.map (some gm0_2)), nS, (bool a0.fused), (iq a0.left)]) rfl rfl rfl sz52 (cv_rfl rfl) rfl (co_val rfl co_nil) (Nat.le_of_ble_eq_true rfl) rfl rfl ?_
  refine al_nt ?_
  refine aw_region ?_
  refine mv_ ?_
  refine al_val (ov_nilCheck rfl rfl) ?_
  refine al_val (ov_fieldA (p := 4) rfl Try.underlying54 rfl sz4 rfl rfl rfl) ?_
  refine al_store (i := 4) (vs := [(bool false)]) (cs' := [(iq a0.room), (Value.map (some g3)), (Value.map (some gm0_2)), nS, (bool false), (iq a0.left)]) rfl rfl rfl sz4 (cv_rfl rfl) rfl (co_val rfl co_nil) (Nat.le_of_ble_eq_true rfl) rfl rfl ?_
  refine al_nil ?_
  refine aq_nilR 114 tyI114 ?_
  refine fn_end ?_
  cases h
  exact fn_ret (g3, gm0_2, nS) [5, 2, 1, 0] [] rfl rfl rfl rfl (resC rfl (resN) rfl) rfl rfl rfl (by decide)
 ·clear hkk2
  refine sm_ ?_
  refine al_val (ov_nilCheck rfl rfl) ?_
  refine al_val (ov_fieldA (p := 3) rfl Try.underlying54 rfl sz52 rfl rfl rfl) ?_
  refine al_val (ov_load (i := 0) (v := v0_3) rfl rfl Try.underlying52 sz52 rfl rfl rfl rfl) ?_
  refine al_val (ov_lenR 3 rfl rfl Try.underlying52 rfl) ?_
  refine mv_ ?_
  refine al_nt ?_
  refine aw_block ?_
  refine aw_state (aw_loop (ι := (List ((List UInt8) × (List UInt8))) × Int) (fun i => (mm14 w0 Z0 a0 a1 bx0 gm0_1 gm0_2 i.1 v0_3 v1_0)) (fun i => (tab [(0, (pq bx0)), (1, v1_0), (9, v0_3), (10, (iq (a0.changes.length : Int))), (11, (iq i.2))])) (fun q i => f___disk_Disk__Crash_L6 a0 a1 kk2 fu q i.1 i.2 = some r) ?_ fu (a0.durable, (0 : Int)) h) (nm_ [1, 2, 3, 0] [0] (by decide) ⟨rfl, rfl, rfl, rfl, rfl, trivial⟩)
  clear h
  rintro k5 ⟨l4xm0_2, l4i11⟩ h
  have h : f___disk_Disk__Crash_L6 a0 a1 kk2 fu k5 l4xm0_2 l4i11 = some r := h
  obtain _ | k5 := k5
  · rw [f___disk_Disk__Crash_L6] at h; cases h
  rw [f___disk_Disk__Crash_L6] at h
  refine aw_show (m := (mm14 w0 Z0 a0 a1 bx0 gm0_1 gm0_2 l4xm0_2 v0_3 v1_0)) (S := _) ?_
  refine aw_sr ?_
  refine im_ ?_
  refine aw_seq ?_
  refine aw_cond rfl (fun hb7 => ?_) (fun hb7 => ?_)
  ·replace h := bif_t hb7 h
   refine aw_skip ?_
   refine aq_then ?_
   obtain ⟨kk9, hkk9, h⟩ := lt_some h
   refine aw_seq_join (ι := (List ((List UInt8) × (List UInt8)))) (fun i => (mm13 w0 Z0 a0 a1 bx0 gm0_1 gm0_2 i v0_3 v1_0)) (fun i => (tab [(0, (pq bx0)), (1, v1_0), (9, v0_3), (10, (iq (a0.changes.length : Int))), (11, (iq l4i11))])) (fun i => kk9 i = some r) ?_ ?_
   ·rintro j8xm0_2 h
    have h : kk9 j8xm0_2 = some r := h
    rw [hkk9] at h
    dsimp only at h
    clear hkk9
    refine aw_show (m := (memOf w0 Z0 [(oBox bx0 54 [(iq a0.room), (Value.map (some gm0_1)), (Value.map (some gm0_2)), v0_3, (bool a0.fused), (iq a0.left)]), (oMapK Try.prog 9 gm0_1 str str a0.files), (oMapK Try.prog 9 gm0_2 str str a0.durable), (oRow v0_3 114 tyI114 a0.changes)] [(oMapK Try.prog 9 gm0_1 str str a0.files), (oMapK Try.prog 9 gm0_2 str str j8xm0_2), (oRow v0_3 114 tyI114 a0.changes), (oBox bx0 54 [(iq a0.room), (Value.map (some gm0_1)), (Value.map (some gm0_2)), v0_3, (bool a0.fused), (iq a0.left)])] [(fDat (tyList tq) [v1_0] a1)])) (S := _) ?_
    refine aw_region ?_
    refine in_ ?_
    refine mv_ ?_
    refine al_nil ?_
    exact aq_again k5 (j8xm0_2, (wq (l4i11 + (1 : Int)))) (Nat.lt_succ_self _) h (nm_ [0, 1, 2, 3] [0] (by decide) ⟨rfl, rfl, rfl, rfl, rfl, trivial⟩)
   ·clear hkk9
    refine aw_block ?_
    refine sm_ ?_
    obtain ⟨u10, hu11, h⟩ := opt_some h
    refine al_idxR 2 (at_some hu11).1 (at_some hu11).2.1 rfl rfl rfl Try.underlying52 sz114 rfl (fun p12 hp13 => ?_)
    refine al_val (ov_loadR (ds := [(encI114 u10)]) 2 rfl hp13 (at_some hu11).2.2 (fun h => h) rfl Try.underlying114 sz114 rfl rfl rfl) ?_
    refine as_ ?_
    refine an_ ?_
    refine aw_block ?_
    obtain ⟨kk15, hkk15, h⟩ := lt_some h
    refine aw_seq_join (ι := Bool) (fun i => (mm14 w0 Z0 a0 a1 bx0 gm0_1 gm0_2 l4xm0_2 v0_3 v1_0)) (fun i => (tab [(0, (pq bx0)), (1, v1_0), (4, (iq l4i11)), (5, (encI114 u10)), (9, v0_3), (10, (iq (a0.changes.length : Int))), (11, (iq l4i11)), (30, (bool i))])) (fun i => kk15 i = some r) ?_ ?_
    ·rintro j14b30 h
     have h : kk15 j14b30 = some r := h
     rw [hkk15] at h
     dsimp only at h
     clear hkk15
     refine aw_show (m := (mm14 w0 Z0 a0 a1 bx0 gm0_1 gm0_2 l4xm0_2 v0_3 v1_0)) (S := _) ?_
     refine aw_cond rfl (fun hb16 => ?_) (fun hb16 => ?_)
     ·replace h := bif_t hb16 h
      refine aw_skip ?_
      refine aq_block ?_
      refine aq_block ?_
      exact aq_join l4xm0_2 h (nm_ [0, 1, 2, 3] [0] (by decide) ⟨rfl, rfl, rfl, rfl, rfl, trivial⟩)
     ·replace h := bif_f hb16 h
      refine sm_ ?_
      refine mv_ ?_
      obtain ⟨u17, hu18, h⟩ := opt_some h
      refine al_idxD 0 hu18 rfl rfl rfl Try.underlying30 sz3 rfl (fun p19 => ?_)
      refine al_val (ov_loadP (ds := [(iq u17)]) 0 rfl (fun h => h) rfl Try.underlying3 sz3 rfl rfl rfl) ?_
      refine in_ ?_
      refine an_ ?_
      refine aw_cond rfl (fun hb20 => ?_) (fun hb20 => ?_)
      ·replace h := bif_t hb20 h
       revert h
       generalize u10 = ix21
       intro h
       cases ix21 with
       | nil => cases h
       | t95 iy22 =>
         dsimp only at h
         refine aw_state (m' := (mm15 w0 Z0 a0 a1 bx0 gm0_1 gm0_2 l4xm0_2 p19 u17 v0_3 v1_0)) (S' := (tab [(0, (pq bx0)), (1, v1_0), (4, (iq l4i11)), (5, (Value.iface 95 (ag [(str iy22.name), (str iy22.s)]))), (9, v0_3), (10, (iq (a0.changes.length : Int))), (11, (iq l4i11)), (30, (bool j14b30)), (42, (bool (u17 == (1 : Int)))), (43, v1_0), (44, (iq l4i11)), (45, p19), (46, (iq u17)), (47, (bool (u17 == (1 : Int))))])) ?_ (nm_ [0, 1, 2, 3] [0, 1] (by decide) ⟨rfl, rfl, rfl, rfl, rfl, rfl, rfl, rfl, rfl, rfl, rfl, rfl, rfl, rfl, trivial⟩)
         refine aw_region_open [(sp_ 0 48 (Value.iface 95 (ag [(str iy22.name), (str iy22.s)]))), (sp_ 1 49 (pq bx0)), (sp_ 2 50 (pq bx0)), (sp_ 3 51 (ptr bx0 2)), (sp_ 4 52 (Value.map (some gm0_2))), (sp_ 5 53 (Value.func (.method "lumberroom/disk.apply") #[(Value.iface 95 (ag [(str iy22.name), (str iy22.s)]))] #[])), (sp_ 6 54 (Value.func (.method "lumberroom/disk.apply") #[(Value.iface 95 (ag [(str iy22.name), (str iy22.s)]))] #[])), (sp_ 7 55 (Value.iface 95 (ag [(str iy22.name), (str iy22.s)])))] (tab [(0, (pq bx0)), (1, v1_0), (5, (Value.iface 95 (ag [(str iy22.name), (str iy22.s)]))), (9, v0_3), (10, (iq (a0.changes.length : Int))), (11, (iq l4i11))]) mixed (fun a hs => hs.tab _ (allT_mem ⟨rfl, rfl, rfl, rfl, rfl, rfl, trivial⟩)) ?_
         refine ta_show (m := (mm15 w0 Z0 a0 a1 bx0 gm0_1 gm0_2 l4xm0_2 p19 u17 v0_3 v1_0)) (S := _) ?_
         refine ta_step 8 _ [0, 1, 2, 3, 4, 5, 6, 7] [48, 49, 50, 51, 52, 53, 54, 55] [0, 1, 2, 3, 4, 5, 6, 7] [] [(sp_ 0 48 (Value.iface 95 (ag [(str iy22.name), (str iy22.s)]))), (sp_ 1 49 (pq bx0)), (sp_ 2 50 (pq bx0)), (sp_ 3 51 (ptr bx0 2)), (sp_ 4 52 (Value.map (some gm0_2))), (sp_ 5 53 (Value.func (.method "lumberroom/disk.apply") #[(Value.iface 95 (ag [(str iy22.name), (str iy22.s)]))] #[])), (sp_ 6 54 (Value.func (.method "lumberroom/disk.apply") #[(Value.iface 95 (ag [(str iy22.name), (str iy22.s)]))] #[])), (sp_ 7 55 (Value.iface 95 (ag [(str iy22.name), (str iy22.s)])))] [] rfl rfl rfl (by kernel_rfl) rfl rfl rfl ⟨⟨_, rfl, [], rfl, by
 intro X_ Y_ F_ K_ hK_
 refine sh_ (mm15 w0 Z0 a0 a1 bx0 gm0_1 gm0_2 l4xm0_2 p19 u17 v0_3 v1_0) X_ Y_ ?_
 refine mv_ ?_
 refine al_nil ?_
 exact fr_fin hK_ ()⟩, ⟨_, rfl, [], rfl, by
 intro X_ Y_ F_ K_ hK_
 refine sh_ (mm15 w0 Z0 a0 a1 bx0 gm0_1 gm0_2 l4xm0_2 p19 u17 v0_3 v1_0) X_ Y_ ?_
 refine mv_ ?_
 refine al_nil ?_
 exact fr_fin hK_ ()⟩, ⟨_, rfl, [1], rfl, by
 intro _
 intro X_ Y_ F_ K_ hK_
 refine sh_ (mm15 w0 Z0 a0 a1 bx0 gm0_1 gm0_2 l4xm0_2 p19 u17 v0_3 v1_0) X_ Y_ ?_
 refine al_val (ov_nilCheck rfl rfl) ?_
 refine al_nil ?_
 exact fr_fin hK_ ()⟩, ⟨_, rfl, [2], rfl, by
 intro _
 intro X_ Y_ F_ K_ hK_
 refine sh_ (mm15 w0 Z0 a0 a1 bx0 gm0_1 gm0_2 l4xm0_2 p19 u17 v0_3 v1_0) X_ Y_ ?_
 refine al_val (ov_fieldA (p := 2) rfl Try.underlying54 rfl sz51 rfl rfl rfl) ?_
 refine al_nil ?_
 exact fr_fin hK_ ()⟩, ⟨_, rfl, [3], rfl, by
 intro _
 intro X_ Y_ F_ K_ hK_
 refine sh_ (mm15 w0 Z0 a0 a1 bx0 gm0_1 gm0_2 l4xm0_2 p19 u17 v0_3 v1_0) X_ Y_ ?_
 refine al_val (ov_load (i := 3) (v := (Value.map (some gm0_2))) rfl rfl Try.underlying51 sz51 rfl rfl rfl rfl) ?_
 refine al_nil ?_
 exact fr_fin hK_ ()⟩, ⟨_, rfl, [0], rfl, by
 intro _
 intro X_ Y_ F_ K_ hK_
 refine sh_ (mm15 w0 Z0 a0 a1 bx0 gm0_1 gm0_2 l4xm0_2 p19 u17 v0_3 v1_0) X_ Y_ ?_
 refine al_val (ov_makeMeth rfl rfl) ?_
 refine al_nil ?_
 exact fr_fin hK_ ()⟩, ⟨_, rfl, [5], rfl, by
 intro _
 intro X_ Y_ F_ K_ hK_
 refine sh_ (mm15 w0 Z0 a0 a1 bx0 gm0_1 gm0_2 l4xm0_2 p19 u17 v0_3 v1_0) X_ Y_ ?_
 refine al_val (ov_nilCheckM me95 Try.underlying95 rfl rfl rfl) ?_
 refine al_nil ?_
 exact fr_fin hK_ ()⟩, ⟨_, rfl, [0, 5, 6], rfl, by
 intro _
 intro _
 intro _
 intro X_ Y_ F_ K_ hK_
 refine sh_ (mm15 w0 Z0 a0 a1 bx0 gm0_1 gm0_2 l4xm0_2 p19 u17 v0_3 v1_0) X_ Y_ ?_
 refine mv_ ?_
 refine al_nil ?_
 exact fr_fin hK_ ()⟩, trivial⟩ ?_
         intro _
         intro _
         intro _
         intro _
         intro _
         intro _
         intro _
         intro _
         intro X_ Y_ F_ K_ hK_
         refine sh_ (mm15 w0 Z0 a0 a1 bx0 gm0_1 gm0_2 l4xm0_2 p19 u17 v0_3 v1_0) X_ Y_ ?_
         obtain ⟨r24, hc23, h⟩ := opt_some h
         refine al_callIX (vs := [(Value.map (some gm0_2)), (iq (65536 : Int))]) (f__disk_write__apply_ok fu iy22 gm0_2 l4xm0_2 (65536 : Int) hc23) rfl [] [1] [0, 2, 3] pre_nil rfl (by simp) (by decide) rfl (.inl rfl) me95 Try.underlying95 rfl rfl rfl Try.func124 rfl rfl rfl (fun _ => ?_)
         refine al_nil ?_
         refine aq_show (m := Mem.plus (mm16 w0 Z0 a0 a1 bx0 gm0_1 gm0_2 p19 r24 u17 v0_3 v1_0) X_ Y_) ?_
         refine aq_next hK_ [0, 1, 2, 3] [0, 1] [(0, (pq bx0)), (1, v1_0), (9, v0_3), (10, (iq (a0.changes.length : Int))), (11, (iq l4i11))] [] [] rfl rfl (by decide) rfl ⟨rfl, rfl, rfl, rfl, rfl, trivial⟩ trivial ?_
         clear hK_ K_ F_ X_ Y_
         refine ta_show (m := (mm16 w0 Z0 a0 a1 bx0 gm0_1 gm0_2 p19 r24 u17 v0_3 v1_0)) (S := _) ?_
         refine ta_end [] [] rfl rfl (by kernel_rfl) rfl trivial ?_
         refine aq_show (m := (mm16 w0 Z0 a0 a1 bx0 gm0_1 gm0_2 p19 r24 u17 v0_3 v1_0)) (S := (tab [(0, (pq bx0)), (1, v1_0), (9, v0_3), (10, (iq (a0.changes.length : Int))), (11, (iq l4i11))])) ?_
         refine aq_block ?_
         refine aq_block ?_
         exact aq_join r24 h (nm_ [1, 0, 2, 3] [1] (by decide) ⟨rfl, rfl, rfl, rfl, rfl, trivial⟩)
       | t98 iy25 =>
         dsimp only at h
         refine aw_state (m' := (mm15 w0 Z0 a0 a1 bx0 gm0_1 gm0_2 l4xm0_2 p19 u17 v0_3 v1_0)) (S' := (tab [(0, (pq bx0)), (1, v1_0), (4, (iq l4i11)), (5, (Value.iface 98 (ag [(str iy25.from_), (str iy25.to_)]))), (9, v0_3), (10, (iq (a0.changes.length : Int))), (11, (iq l4i11)), (30, (bool j14b30)), (42, (bool (u17 == (1 : Int)))), (43, v1_0), (44, (iq l4i11)), (45, p19), (46, (iq u17)), (47, (bool (u17 == (1 : Int))))])) ?_ (nm_ [0, 1, 2, 3] [0, 1] (by decide) ⟨rfl, rfl, rfl, rfl, rfl, rfl, rfl, rfl, rfl, rfl, rfl, rfl, rfl, rfl, trivial⟩)
         refine aw_region_open [(sp_ 0 48 (Value.iface 98 (ag [(str iy25.from_), (str iy25.to_)]))), (sp_ 1 49 (pq bx0)), (sp_ 2 50 (pq bx0)), (sp_ 3 51 (ptr bx0 2)), (sp_ 4 52 (Value.map (some gm0_2))), (sp_ 5 53 (Value.func (.method "lumberroom/disk.apply") #[(Value.iface 98 (ag [(str iy25.from_), (str iy25.to_)]))] #[])), (sp_ 6 54 (Value.func (.method "lumberroom/disk.apply") #[(Value.iface 98 (ag [(str iy25.from_), (str iy25.to_)]))] #[])), (sp_ 7 55 (Value.iface 98 (ag [(str iy25.from_), (str iy25.to_)])))] (tab [(0, (pq bx0)), (1, v1_0), (5, (Value.iface 98 (ag [(str iy25.from_), (str iy25.to_)]))), (9, v0_3), (10, (iq (a0.changes.length : Int))), (11, (iq l4i11))]) mixed (fun a hs => hs.tab _ (allT_mem ⟨rfl, rfl, rfl, rfl, rfl, rfl, trivial⟩)) ?_
         refine ta_show (m := (mm15 w0 Z0 a0 a1 bx0 gm0_1 gm0_2 l4xm0_2 p19 u17 v0_3 v1_0)) (S := _) ?_
         refine ta_step 8 _ [0, 1, 2, 3, 4, 5, 6, 7] [48, 49, 50, 51, 52, 53, 54, 55] [0, 1, 2, 3, 4, 5, 6, 7] [] [(sp_ 0 48 (Value.iface 98 (ag [(str iy25.from_), (str iy25.to_)]))), (sp_ 1 49 (pq bx0)), (sp_ 2 50 (pq bx0)), (sp_ 3 51 (ptr bx0 2)), (sp_ 4 52 (Value.map (some gm0_2))), (sp_ 5 53 (Value.func (.method "lumberroom/disk.apply") #[(Value.iface 98 (ag [(str iy25.from_), (str iy25.to_)]))] #[])), (sp_ 6 54 (Value.func (.method "lumberroom/disk.apply") #[(Value.iface 98 (ag [(str iy25.from_), (str iy25.to_)]))] #[])), (sp_ 7 55 (Value.iface 98 (ag [(str iy25.from_), (str iy25.to_)])))] [] rfl rfl rfl (by kernel_rfl) rfl rfl rfl ⟨⟨_, rfl, [], rfl, by
 intro X_ Y_ F_ K_ hK_
 refine sh_ (mm15 w0 Z0 a0 a1 bx0 gm0_1 gm0_2 l4xm0_2 p19 u17 v0_3 v1_0) X_ Y_ ?_
 refine mv_ ?_
 refine al_nil ?_
 exact fr_fin hK_ ()⟩, ⟨_, rfl, [], rfl, by
 intro X_ Y_ F_ K_ hK_
 refine sh_ (mm15 w0 Z0 a0 a1 bx0 gm0_1 gm0_2 l4xm0_2 p19 u17 v0_3 v1_0) X_ Y_ ?_
 refine mv_ ?_
 refine al_nil ?_
 exact fr_fin hK_ ()⟩, ⟨_, rfl, [1], rfl, by
 intro _
 intro X_ Y_ F_ K_ hK_
 refine sh_ (mm15 w0 Z0 a0 a1 bx0 gm0_1 gm0_2 l4xm0_2 p19 u17 v0_3 v1_0) X_ Y_ ?_
 refine al_val (ov_nilCheck rfl rfl) ?_
 refine al_nil ?_
 exact fr_fin hK_ ()⟩, ⟨_, rfl, [2], rfl, by
 intro _
 intro X_ Y_ F_ K_ hK_
 refine sh_ (mm15 w0 Z0 a0 a1 bx0 gm0_1 gm0_2 l4xm0_2 p19 u17 v0_3 v1_0) X_ Y_ ?_
 refine al_val (ov_fieldA (p := 2) rfl Try.underlying54 rfl sz51 rfl rfl rfl) ?_
 refine al_nil ?_
 exact fr_fin hK_ ()⟩, ⟨_, rfl, [3], rfl, by
 intro _
 intro X_ Y_ F_ K_ hK_
 refine sh_ (mm15 w0 Z0 a0 a1 bx0 gm0_1 gm0_2 l4xm0_2 p19 u17 v0_3 v1_0) X_ Y_ ?_
 refine al_val (ov_load (i := 3) (v := (Value.map (some gm0_2))) rfl rfl Try.underlying51 sz51 rfl rfl rfl rfl) ?_
 refine al_nil ?_
 exact fr_fin hK_ ()⟩, ⟨_, rfl, [0], rfl, by
 intro _
 intro X_ Y_ F_ K_ hK_
 refine sh_ (mm15 w0 Z0 a0 a1 bx0 gm0_1 gm0_2 l4xm0_2 p19 u17 v0_3 v1_0) X_ Y_ ?_
 refine al_val (ov_makeMeth rfl rfl) ?_
 refine al_nil ?_
 exact fr_fin hK_ ()⟩, ⟨_, rfl, [5], rfl, by
 intro _
 intro X_ Y_ F_ K_ hK_
 refine sh_ (mm15 w0 Z0 a0 a1 bx0 gm0_1 gm0_2 l4xm0_2 p19 u17 v0_3 v1_0) X_ Y_ ?_
 refine al_val (ov_nilCheckM me98 Try.underlying98 rfl rfl rfl) ?_
 refine al_nil ?_
 exact fr_fin hK_ ()⟩, ⟨_, rfl, [0, 5, 6], rfl, by
 intro _
 intro _
 intro _
 intro X_ Y_ F_ K_ hK_
 refine sh_ (mm15 w0 Z0 a0 a1 bx0 gm0_1 gm0_2 l4xm0_2 p19 u17 v0_3 v1_0) X_ Y_ ?_
 refine mv_ ?_
 refine al_nil ?_
 exact fr_fin hK_ ()⟩, trivial⟩ ?_
         intro _
         intro _
         intro _
         intro _
         intro _
         intro _
         intro _
         intro _
         intro X_ Y_ F_ K_ hK_
         refine sh_ (mm15 w0 Z0 a0 a1 bx0 gm0_1 gm0_2 l4xm0_2 p19 u17 v0_3 v1_0) X_ Y_ ?_
         obtain ⟨r27, hc26, h⟩ := opt_some h
         refine al_callIX (vs := [(Value.map (some gm0_2)), (iq (65536 : Int))]) (f__disk_rename__apply_ok fu iy25 gm0_2 l4xm0_2 (65536 : Int) hc26) rfl [] [1] [0, 2, 3] pre_nil rfl (by simp) (by decide) rfl (.inl rfl) me98 Try.underlying98 rfl rfl rfl Try.func125 rfl rfl rfl (fun _ => ?_)
         refine al_nil ?_
         refine aq_show (m := Mem.plus (mm17 w0 Z0 a0 a1 bx0 gm0_1 gm0_2 p19 r27 u17 v0_3 v1_0) X_ Y_) ?_
         refine aq_next hK_ [0, 1, 2, 3] [0, 1] [(0, (pq bx0)), (1, v1_0), (9, v0_3), (10, (iq (a0.changes.length : Int))), (11, (iq l4i11))] [] [] rfl rfl (by decide) rfl ⟨rfl, rfl, rfl, rfl, rfl, trivial⟩ trivial ?_
         clear hK_ K_ F_ X_ Y_
         refine ta_show (m := (mm17 w0 Z0 a0 a1 bx0 gm0_1 gm0_2 p19 r27 u17 v0_3 v1_0)) (S := _) ?_
         refine ta_end [] [] rfl rfl (by kernel_rfl) rfl trivial ?_
         refine aq_show (m := (mm17 w0 Z0 a0 a1 bx0 gm0_1 gm0_2 p19 r27 u17 v0_3 v1_0)) (S := (tab [(0, (pq bx0)), (1, v1_0), (9, v0_3), (10, (iq (a0.changes.length : Int))), (11, (iq l4i11))])) ?_
         refine aq_block ?_
         refine aq_block ?_
         exact aq_join r27 h (nm_ [1, 0, 2, 3] [1] (by decide) ⟨rfl, rfl, rfl, rfl, rfl, trivial⟩)
       | t105 iy28 =>
         dsimp only at h
         refine aw_state (m' := (mm15 w0 Z0 a0 a1 bx0 gm0_1 gm0_2 l4xm0_2 p19 u17 v0_3 v1_0)) (S' := (tab [(0, (pq bx0)), (1, v1_0), (4, (iq l4i11)), (5, (Value.iface 105 (ag [(str iy28.name)]))), (9, v0_3), (10, (iq (a0.changes.length : Int))), (11, (iq l4i11)), (30, (bool j14b30)), (42, (bool (u17 == (1 : Int)))), (43, v1_0), (44, (iq l4i11)), (45, p19), (46, (iq u17)), (47, (bool (u17 == (1 : Int))))])) ?_ (nm_ [0, 1, 2, 3] [0, 1] (by decide) ⟨rfl, rfl, rfl, rfl, rfl, rfl, rfl, rfl, rfl, rfl, rfl, rfl, rfl, rfl, trivial⟩)
         refine aw_region_open [(sp_ 0 48 (Value.iface 105 (ag [(str iy28.name)]))), (sp_ 1 49 (pq bx0)), (sp_ 2 50 (pq bx0)), (sp_ 3 51 (ptr bx0 2)), (sp_ 4 52 (Value.map (some gm0_2))), (sp_ 5 53 (Value.func (.method "lumberroom/disk.apply") #[(Value.iface 105 (ag [(str iy28.name)]))] #[])), (sp_ 6 54 (Value.func (.method "lumberroom/disk.apply") #[(Value.iface 105 (ag [(str iy28.name)]))] #[])), (sp_ 7 55 (Value.iface 105 (ag [(str iy28.name)])))] (tab [(0, (pq bx0)), (1, v1_0), (5, (Value.iface 105 (ag [(str iy28.name)]))), (9, v0_3), (10, (iq (a0.changes.length : Int))), (11, (iq l4i11))]) mixed (fun a hs => hs.tab _ (allT_mem ⟨rfl, rfl, rfl, rfl, rfl, rfl, trivial⟩)) ?_
         refine ta_show (m := (mm15 w0 Z0 a0 a1 bx0 gm0_1 gm0_2 l4xm0_2 p19 u17 v0_3 v1_0)) (S := _) ?_
         refine ta_step 8 _ [0, 1, 2, 3, 4, 5, 6, 7] [48, 49, 50, 51, 52, 53, 54, 55] [0, 1, 2, 3, 4, 5, 6, 7] [] [(sp_ 0 48 (Value.iface 105 (ag [(str iy28.name)]))), (sp_ 1 49 (pq bx0)), (sp_ 2 50 (pq bx0)), (sp_ 3 51 (ptr bx0 2)), (sp_ 4 52 (Value.map (some gm0_2))), (sp_ 5 53 (Value.func (.method "lumberroom/disk.apply") #[(Value.iface 105 (ag [(str iy28.name)]))] #[])), (sp_ 6 54 (Value.func (.method "lumberroom/disk.apply") #[(Value.iface 105 (ag [(str iy28.name)]))] #[])), (sp_ 7 55 (Value.iface 105 (ag [(str iy28.name)])))] [] rfl rfl rfl (by kernel_rfl) rfl rfl rfl ⟨⟨_, rfl, [], rfl, by
 intro X_ Y_ F_ K_ hK_
 refine sh_ (mm15 w0 Z0 a0 a1 bx0 gm0_1 gm0_2 l4xm0_2 p19 u17 v0_3 v1_0) X_ Y_ ?_
 refine mv_ ?_
 refine al_nil ?_
 exact fr_fin hK_ ()⟩, ⟨_, rfl, [], rfl, by
 intro X_ Y_ F_ K_ hK_
 refine sh_ (mm15 w0 Z0 a0 a1 bx0 gm0_1 gm0_2 l4xm0_2 p19 u17 v0_3 v1_0) X_ Y_ ?_
 refine mv_ ?_
 refine al_nil ?_
 exact fr_fin hK_ ()⟩, ⟨_, rfl, [1], rfl, by
 intro _
 intro X_ Y_ F_ K_ hK_
 refine sh_ (mm15 w0 Z0 a0 a1 bx0 gm0_1 gm0_2 l4xm0_2 p19 u17 v0_3 v1_0) X_ Y_ ?_
 refine al_val (ov_nilCheck rfl rfl) ?_
 refine al_nil ?_
 exact fr_fin hK_ ()⟩, ⟨_, rfl, [2], rfl, by
 intro _
 intro X_ Y_ F_ K_ hK_
 refine sh_ (mm15 w0 Z0 a0 a1 bx0 gm0_1 gm0_2 l4xm0_2 p19 u17 v0_3 v1_0) X_ Y_ ?_
 refine al_val (ov_fieldA (p := 2) rfl Try.underlying54 rfl sz51 rfl rfl rfl) ?_
 refine al_nil ?_
 exact fr_fin hK_ ()⟩, ⟨_, rfl, [3], rfl, by
 intro _
 intro X_ Y_ F_ K_ hK_
 refine sh_ (mm15 w0 Z0 a0 a1 bx0 gm0_1 gm0_2 l4xm0_2 p19 u17 v0_3 v1_0) X_ Y_ ?_
 refine al_val (ov_load (i := 3) (v := (Value.map (some gm0_2))) rfl rfl Try.underlying51 sz51 rfl rfl rfl rfl) ?_
 refine al_nil ?_
 exact fr_fin hK_ ()⟩, ⟨_, rfl, [0], rfl, by
 intro _
 intro X_ Y_ F_ K_ hK_
 refine sh_ (mm15 w0 Z0 a0 a1 bx0 gm0_1 gm0_2 l4xm0_2 p19 u17 v0_3 v1_0) X_ Y_ ?_
 refine al_val (ov_makeMeth rfl rfl) ?_
 refine al_nil ?_
 exact fr_fin hK_ ()⟩, ⟨_, rfl, [5], rfl, by
 intro _
 intro X_ Y_ F_ K_ hK_
 refine sh_ (mm15 w0 Z0 a0 a1 bx0 gm0_1 gm0_2 l4xm0_2 p19 u17 v0_3 v1_0) X_ Y_ ?_
 refine al_val (ov_nilCheckM me105 Try.underlying105 rfl rfl rfl) ?_
 refine al_nil ?_
 exact fr_fin hK_ ()⟩, ⟨_, rfl, [0, 5, 6], rfl, by
 intro _
 intro _
 intro _
 intro X_ Y_ F_ K_ hK_
 refine sh_ (mm15 w0 Z0 a0 a1 bx0 gm0_1 gm0_2 l4xm0_2 p19 u17 v0_3 v1_0) X_ Y_ ?_
 refine mv_ ?_
 refine al_nil ?_
 exact fr_fin hK_ ()⟩, trivial⟩ ?_
         intro _
         intro _
         intro _
         intro _
         intro _
         intro _
         intro _
         intro _
         intro X_ Y_ F_ K_ hK_
         refine sh_ (mm15 w0 Z0 a0 a1 bx0 gm0_1 gm0_2 l4xm0_2 p19 u17 v0_3 v1_0) X_ Y_ ?_
         obtain ⟨r30, hc29, h⟩ := opt_some h
         refine al_callIX (vs := [(Value.map (some gm0_2)), (iq (65536 : Int))]) (f__disk_remove__apply_ok fu iy28 gm0_2 l4xm0_2 (65536 : Int) hc29) rfl [] [1] [0, 2, 3] pre_nil rfl (by simp) (by decide) rfl (.inl rfl) me105 Try.underlying105 rfl rfl rfl Try.func126 rfl rfl rfl (fun _ => ?_)
         refine al_nil ?_
         refine aq_show (m := Mem.plus (mm18 w0 Z0 a0 a1 bx0 gm0_1 gm0_2 p19 r30 u17 v0_3 v1_0) X_ Y_) ?_
         refine aq_next hK_ [0, 1, 2, 3] [0, 1] [(0, (pq bx0)), (1, v1_0), (9, v0_3), (10, (iq (a0.changes.length : Int))), (11, (iq l4i11))] [] [] rfl rfl (by decide) rfl ⟨rfl, rfl, rfl, rfl, rfl, trivial⟩ trivial ?_
         clear hK_ K_ F_ X_ Y_
         refine ta_show (m := (mm18 w0 Z0 a0 a1 bx0 gm0_1 gm0_2 p19 r30 u17 v0_3 v1_0)) (S := _) ?_
         refine ta_end [] [] rfl rfl (by kernel_rfl) rfl trivial ?_
         refine aq_show (m := (mm18 w0 Z0 a0 a1 bx0 gm0_1 gm0_2 p19 r30 u17 v0_3 v1_0)) (S := (tab [(0, (pq bx0)), (1, v1_0), (9, v0_3), (10, (iq (a0.changes.length : Int))), (11, (iq l4i11))])) ?_
         refine aq_block ?_
         refine aq_block ?_
         exact aq_join r30 h (nm_ [1, 0, 2, 3] [1] (by decide) ⟨rfl, rfl, rfl, rfl, rfl, trivial⟩)
      ·replace h := bif_f hb20 h
       revert h
       generalize u10 = ix31
       intro h
       cases ix31 with
       | nil => cases h
       | t95 iy32 =>
         dsimp only at h
         refine aw_state (m' := (mm15 w0 Z0 a0 a1 bx0 gm0_1 gm0_2 l4xm0_2 p19 u17 v0_3 v1_0)) (S' := (tab [(0, (pq bx0)), (1, v1_0), (4, (iq l4i11)), (5, (Value.iface 95 (ag [(str iy32.name), (str iy32.s)]))), (9, v0_3), (10, (iq (a0.changes.length : Int))), (11, (iq l4i11)), (30, (bool j14b30)), (42, (bool (u17 == (1 : Int)))), (43, v1_0), (44, (iq l4i11)), (45, p19), (46, (iq u17)), (47, (bool (u17 == (1 : Int))))])) ?_ (nm_ [0, 1, 2, 3] [0, 1] (by decide) ⟨rfl, rfl, rfl, rfl, rfl, rfl, rfl, rfl, rfl, rfl, rfl, rfl, rfl, rfl, trivial⟩)
         obtain ⟨u33, hu34, h⟩ := opt_some h
         refine aw_region_open [(sp_ 0 16 (Value.iface 95 (ag [(str iy32.name), (str iy32.s)]))), (sp_ 1 17 (pq bx0)), (sp_ 2 18 (pq bx0)), (sp_ 3 19 (ptr bx0 2)), (sp_ 4 20 (Value.map (some gm0_2))), (sp_ 5 21 v1_0), (sp_ 6 22 (iq l4i11)), ⟨7, 23, Value, fun (i : Value) => { val := i, fz := [(fPtr tq i u33)] }⟩, (sp_ 8 24 (iq u33)), (sp_ 9 25 (iq (wq (u33 - (2 : Int))))), (sp_ 10 26 (Value.func (.method "lumberroom/disk.apply") #[(Value.iface 95 (ag [(str iy32.name), (str iy32.s)]))] #[])), (sp_ 11 27 (Value.func (.method "lumberroom/disk.apply") #[(Value.iface 95 (ag [(str iy32.name), (str iy32.s)]))] #[])), (sp_ 12 28 (Value.iface 95 (ag [(str iy32.name), (str iy32.s)])))] (tab [(0, (pq bx0)), (1, v1_0), (4, (iq l4i11)), (5, (Value.iface 95 (ag [(str iy32.name), (str iy32.s)]))), (9, v0_3), (10, (iq (a0.changes.length : Int))), (11, (iq l4i11))]) mixed (fun a hs => hs.tab _ (allT_mem ⟨rfl, rfl, rfl, rfl, rfl, rfl, rfl, trivial⟩)) ?_
         refine ta_show (m := (mm15 w0 Z0 a0 a1 bx0 gm0_1 gm0_2 l4xm0_2 p19 u17 v0_3 v1_0)) (S := _) ?_
         refine ta_step 13 _ [0, 1, 2, 3, 4, 5, 6, 7, 8, 9, 10, 11, 12] [16, 17, 18, 19, 20, 21, 22, 23, 24, 25, 26, 27, 28] [0, 1, 2, 3, 4, 5, 6, 7, 8, 9, 10, 11, 12] [] [(sp_ 0 16 (Value.iface 95 (ag [(str iy32.name), (str iy32.s)]))), (sp_ 1 17 (pq bx0)), (sp_ 2 18 (pq bx0)), (sp_ 3 19 (ptr bx0 2)), (sp_ 4 20 (Value.map (some gm0_2))), (sp_ 5 21 v1_0), (sp_ 6 22 (iq l4i11)), ⟨7, 23, Value, fun (i : Value) => { val := i, fz := [(fPtr tq i u33)] }⟩, (sp_ 8 24 (iq u33)), (sp_ 9 25 (iq (wq (u33 - (2 : Int))))), (sp_ 10 26 (Value.func (.method "lumberroom/disk.apply") #[(Value.iface 95 (ag [(str iy32.name), (str iy32.s)]))] #[])), (sp_ 11 27 (Value.func (.method "lumberroom/disk.apply") #[(Value.iface 95 (ag [(str iy32.name), (str iy32.s)]))] #[])), (sp_ 12 28 (Value.iface 95 (ag [(str iy32.name), (str iy32.s)])))] [] rfl rfl rfl (by kernel_rfl) rfl rfl rfl ⟨⟨_, rfl, [], rfl, by
 intro X_ Y_ F_ K_ hK_
 refine sh_ (mm15 w0 Z0 a0 a1 bx0 gm0_1 gm0_2 l4xm0_2 p19 u17 v0_3 v1_0) X_ Y_ ?_
 refine mv_ ?_
 refine al_nil ?_
 exact fr_fin hK_ ()⟩, ⟨_, rfl, [], rfl, by
 intro X_ Y_ F_ K_ hK_
 refine sh_ (mm15 w0 Z0 a0 a1 bx0 gm0_1 gm0_2 l4xm0_2 p19 u17 v0_3 v1_0) X_ Y_ ?_
 refine mv_ ?_
 refine al_nil ?_
 exact fr_fin hK_ ()⟩, ⟨_, rfl, [1], rfl, by
 intro _
 intro X_ Y_ F_ K_ hK_
 refine sh_ (mm15 w0 Z0 a0 a1 bx0 gm0_1 gm0_2 l4xm0_2 p19 u17 v0_3 v1_0) X_ Y_ ?_
 refine al_val (ov_nilCheck rfl rfl) ?_
 refine al_nil ?_
 exact fr_fin hK_ ()⟩, ⟨_, rfl, [2], rfl, by
 intro _
 intro X_ Y_ F_ K_ hK_
 refine sh_ (mm15 w0 Z0 a0 a1 bx0 gm0_1 gm0_2 l4xm0_2 p19 u17 v0_3 v1_0) X_ Y_ ?_
 refine al_val (ov_fieldA (p := 2) rfl Try.underlying54 rfl sz51 rfl rfl rfl) ?_
 refine al_nil ?_
 exact fr_fin hK_ ()⟩, ⟨_, rfl, [3], rfl, by
 intro _
 intro X_ Y_ F_ K_ hK_
 refine sh_ (mm15 w0 Z0 a0 a1 bx0 gm0_1 gm0_2 l4xm0_2 p19 u17 v0_3 v1_0) X_ Y_ ?_
 refine al_val (ov_load (i := 3) (v := (Value.map (some gm0_2))) rfl rfl Try.underlying51 sz51 rfl rfl rfl rfl) ?_
 refine al_nil ?_
 exact fr_fin hK_ ()⟩, ⟨_, rfl, [], rfl, by
 intro X_ Y_ F_ K_ hK_
 refine sh_ (mm15 w0 Z0 a0 a1 bx0 gm0_1 gm0_2 l4xm0_2 p19 u17 v0_3 v1_0) X_ Y_ ?_
 refine mv_ ?_
 refine al_nil ?_
 exact fr_fin hK_ ()⟩, ⟨_, rfl, [], rfl, by
 intro X_ Y_ F_ K_ hK_
 refine sh_ (mm15 w0 Z0 a0 a1 bx0 gm0_1 gm0_2 l4xm0_2 p19 u17 v0_3 v1_0) X_ Y_ ?_
 refine mv_ ?_
 refine al_nil ?_
 exact fr_fin hK_ ()⟩, ⟨_, rfl, [5, 6], rfl, by
 intro _
 intro _
 intro X_ Y_ F_ K_ hK_
 refine sh_ (mm15 w0 Z0 a0 a1 bx0 gm0_1 gm0_2 l4xm0_2 p19 u17 v0_3 v1_0) X_ Y_ ?_
 refine al_idxD 1 hu34 rfl rfl rfl Try.underlying30 sz3 rfl (fun p35 => ?_)
 refine al_nil ?_
 exact fr_fin hK_ p35⟩, ⟨_, rfl, [7], rfl, by
 intro p35
 intro X_ Y_ F_ K_ hK_
 refine sh_ (mm19 w0 Z0 a0 a1 bx0 gm0_1 gm0_2 l4xm0_2 p19 p35 u17 u33 v0_3 v1_0) X_ Y_ ?_
 refine al_val (ov_loadP (ds := [(iq u33)]) 0 rfl (fun h => h) rfl Try.underlying3 sz3 rfl rfl rfl) ?_
 refine al_nil ?_
 exact fr_fin hK_ ()⟩, ⟨_, rfl, [8], rfl, by
 intro _
 intro X_ Y_ F_ K_ hK_
 refine sh_ (mm15 w0 Z0 a0 a1 bx0 gm0_1 gm0_2 l4xm0_2 p19 u17 v0_3 v1_0) X_ Y_ ?_
 refine in_ ?_
 refine al_nil ?_
 exact fr_fin hK_ ()⟩, ⟨_, rfl, [0], rfl, by
 intro _
 intro X_ Y_ F_ K_ hK_
 refine sh_ (mm15 w0 Z0 a0 a1 bx0 gm0_1 gm0_2 l4xm0_2 p19 u17 v0_3 v1_0) X_ Y_ ?_
 refine al_val (ov_makeMeth rfl rfl) ?_
 refine al_nil ?_
 exact fr_fin hK_ ()⟩, ⟨_, rfl, [10], rfl, by
 intro _
 intro X_ Y_ F_ K_ hK_
 refine sh_ (mm15 w0 Z0 a0 a1 bx0 gm0_1 gm0_2 l4xm0_2 p19 u17 v0_3 v1_0) X_ Y_ ?_
 refine al_val (ov_nilCheckM me95 Try.underlying95 rfl rfl rfl) ?_
 refine al_nil ?_
 exact fr_fin hK_ ()⟩, ⟨_, rfl, [0, 10, 11], rfl, by
 intro _
 intro _
 intro _
 intro X_ Y_ F_ K_ hK_
 refine sh_ (mm15 w0 Z0 a0 a1 bx0 gm0_1 gm0_2 l4xm0_2 p19 u17 v0_3 v1_0) X_ Y_ ?_
 refine mv_ ?_
 refine al_nil ?_
 exact fr_fin hK_ ()⟩, trivial⟩ ?_
         intro _
         intro _
         intro _
         intro _
         intro _
         intro _
         intro _
         intro p35
         intro _
         intro _
         intro _
         intro _
         intro _
         intro X_ Y_ F_ K_ hK_
         refine sh_ (mm19 w0 Z0 a0 a1 bx0 gm0_1 gm0_2 l4xm0_2 p19 p35 u17 u33 v0_3 v1_0) X_ Y_ ?_
         obtain ⟨r37, hc36, h⟩ := opt_some h
         refine al_callIX (vs := [(Value.map (some gm0_2)), (iq (wq (u33 - (2 : Int))))]) (f__disk_write__apply_ok fu iy32 gm0_2 l4xm0_2 (wq (u33 - (2 : Int))) hc36) rfl [] [1] [0, 2, 3] pre_nil rfl (by simp) (by decide) rfl (.inl rfl) me95 Try.underlying95 rfl rfl rfl Try.func124 rfl rfl rfl (fun _ => ?_)
         refine al_nil ?_
         refine aq_show (m := Mem.plus (memOf w0 Z0 [(oBox bx0 54 [(iq a0.room), (Value.map (some gm0_1)), (Value.map (some gm0_2)), v0_3, (bool a0.fused), (iq a0.left)]), (oMapK Try.prog 9 gm0_1 str str a0.files), (oMapK Try.prog 9 gm0_2 str str a0.durable), (oRow v0_3 114 tyI114 a0.changes)] [(oMapK Try.prog 9 gm0_2 str str r37), (oMapK Try.prog 9 gm0_1 str str a0.files), (oRow v0_3 114 tyI114 a0.changes), (oBox bx0 54 [(iq a0.room), (Value.map (some gm0_1)), (Value.map (some gm0_2)), v0_3, (bool a0.fused), (iq a0.left)])] [(fPtr tq p35 u33), (fPtr tq p19 u17), (fDat (tyList tq) [v1_0] a1)]) X_ Y_) ?_
         refine aq_next hK_ [0, 1, 2, 3] [1, 2] [(0, (pq bx0)), (1, v1_0), (9, v0_3), (10, (iq (a0.changes.length : Int))), (11, (iq l4i11))] [] [] rfl rfl (by decide) rfl ⟨rfl, rfl, rfl, rfl, rfl, trivial⟩ trivial ?_
         clear hK_ K_ F_ X_ Y_
         refine ta_show (m := (mm20 w0 Z0 a0 a1 bx0 gm0_1 gm0_2 p19 r37 u17 v0_3 v1_0)) (S := _) ?_
         refine ta_end [] [] rfl rfl (by kernel_rfl) rfl trivial ?_
         refine aq_show (m := (mm20 w0 Z0 a0 a1 bx0 gm0_1 gm0_2 p19 r37 u17 v0_3 v1_0)) (S := (tab [(0, (pq bx0)), (1, v1_0), (9, v0_3), (10, (iq (a0.changes.length : Int))), (11, (iq l4i11))])) ?_
         refine aq_block ?_
         refine aq_block ?_
         exact aq_join r37 h (nm_ [1, 0, 2, 3] [1] (by decide) ⟨rfl, rfl, rfl, rfl, rfl, trivial⟩)
       | t98 iy38 =>
         dsimp only at h
         refine aw_state (m' := (mm15 w0 Z0 a0 a1 bx0 gm0_1 gm0_2 l4xm0_2 p19 u17 v0_3 v1_0)) (S' := (tab [(0, (pq bx0)), (1, v1_0), (4, (iq l4i11)), (5, (Value.iface 98 (ag [(str iy38.from_), (str iy38.to_)]))), (9, v0_3), (10, (iq (a0.changes.length : Int))), (11, (iq l4i11)), (30, (bool j14b30)), (42, (bool (u17 == (1 : Int)))), (43, v1_0), (44, (iq l4i11)), (45, p19), (46, (iq u17)), (47, (bool (u17 == (1 : Int))))])) ?_ (nm_ [0, 1, 2, 3] [0, 1] (by decide) ⟨rfl, rfl, rfl, rfl, rfl, rfl, rfl, rfl, rfl, rfl, rfl, rfl, rfl, rfl, trivial⟩)
         obtain ⟨u39, hu40, h⟩ := opt_some h
         refine aw_region_open [(sp_ 0 16 (Value.iface 98 (ag [(str iy38.from_), (str iy38.to_)]))), (sp_ 1 17 (pq bx0)), (sp_ 2 18 (pq bx0)), (sp_ 3 19 (ptr bx0 2)), (sp_ 4 20 (Value.map (some gm0_2))), (sp_ 5 21 v1_0), (sp_ 6 22 (iq l4i11)), ⟨7, 23, Value, fun (i : Value) => { val := i, fz := [(fPtr tq i u39)] }⟩, (sp_ 8 24 (iq u39)), (sp_ 9 25 (iq (wq (u39 - (2 : Int))))), (sp_ 10 26 (Value.func (.method "lumberroom/disk.apply") #[(Value.iface 98 (ag [(str iy38.from_), (str iy38.to_)]))] #[])), (sp_ 11 27 (Value.func (.method "lumberroom/disk.apply") #[(Value.iface 98 (ag [(str iy38.from_), (str iy38.to_)]))] #[])), (sp_ 12 28 (Value.iface 98 (ag [(str iy38.from_), (str iy38.to_)])))] (tab [(0, (pq bx0)), (1, v1_0), (4, (iq l4i11)), (5, (Value.iface 98 (ag [(str iy38.from_), (str iy38.to_)]))), (9, v0_3), (10, (iq (a0.changes.length : Int))), (11, (iq l4i11))]) mixed (fun a hs => hs.tab _ (allT_mem ⟨rfl, rfl, rfl, rfl, rfl, rfl, rfl, trivial⟩)) ?_
         refine ta_show (m := (mm15 w0 Z0 a0 a1 bx0 gm0_1 gm0_2 l4xm0_2 p19 u17 v0_3 v1_0)) (S := _) ?_
         refine ta_step 13 _ [0, 1, 2, 3, 4, 5, 6, 7, 8, 9, 10, 11, 12] [16, 17, 18, 19, 20, 21, 22, 23, 24, 25, 26, 27, 28] [0, 1, 2, 3, 4, 5, 6, 7, 8, 9, 10, 11, 12] [] [(sp_ 0 16 (Value.iface 98 (ag [(str iy38.from_), (str iy38.to_)]))), (sp_ 1 17 (pq bx0)), (sp_ 2 18 (pq bx0)), (sp_ 3 19 (ptr bx0 2)), (sp_ 4 20 (Value.map (some gm0_2))), (sp_ 5 21 v1_0), (sp_ 6 22 (iq l4i11)), ⟨7, 23, Value, fun (i : Value) => { val := i, fz := [(fPtr tq i u39)] }⟩, (sp_ 8 24 (iq u39)), (sp_ 9 25 (iq (wq (u39 - (2 : Int))))), (sp_ 10 26 (Value.func (.method "lumberroom/disk.apply") #[(Value.iface 98 (ag [(str iy38.from_), (str iy38.to_)]))] #[])), (sp_ 11 27 (Value.func (.method "lumberroom/disk.apply") #[(Value.iface 98 (ag [(str iy38.from_), (str iy38.to_)]))] #[])), (sp_ 12 28 (Value.iface 98 (ag [(str iy38.from_), (str iy38.to_)])))] [] rfl rfl rfl (by kernel_rfl) rfl rfl rfl ⟨⟨_, rfl, [], rfl, by
 intro X_ Y_ F_ K_ hK_
 refine sh_ (mm15 w0 Z0 a0 a1 bx0 gm0_1 gm0_2 l4xm0_2 p19 u17 v0_3 v1_0) X_ Y_ ?_
 refine mv_ ?_
 refine al_nil ?_
 exact fr_fin hK_ ()⟩, ⟨_, rfl, [], rfl, by
 intro X_ Y_ F_ K_ hK_
 refine sh_ (mm15 w0 Z0 a0 a1 bx0 gm0_1 gm0_2 l4xm0_2 p19 u17 v0_3 v1_0) X_ Y_ ?_
 refine mv_ ?_
 refine al_nil ?_
 exact fr_fin hK_ ()⟩, ⟨_, rfl, [1], rfl, by
 intro _
 intro X_ Y_ F_ K_ hK_
 refine sh_ (mm15 w0 Z0 a0 a1 bx0 gm0_1 gm0_2 l4xm0_2 p19 u17 v0_3 v1_0) X_ Y_ ?_
 refine al_val (ov_nilCheck rfl rfl) ?_
 refine al_nil ?_
 exact fr_fin hK_ ()⟩, ⟨_, rfl, [2], rfl, by
 intro _
 intro X_ Y_ F_ K_ hK_
 refine sh_ (mm15 w0 Z0 a0 a1 bx0 gm0_1 gm0_2 l4xm0_2 p19 u17 v0_3 v1_0) X_ Y_ ?_
 refine al_val (ov_fieldA (p := 2) rfl Try.underlying54 rfl sz51 rfl rfl rfl) ?_
 refine al_nil ?_
 exact fr_fin hK_ ()⟩, ⟨_, rfl, [3], rfl, by
 intro _
 intro X_ Y_ F_ K_ hK_
 refine sh_ (mm15 w0 Z0 a0 a1 bx0 gm0_1 gm0_2 l4xm0_2 p19 u17 v0_3 v1_0) X_ Y_ ?_
 refine al_val (ov_load (i := 3) (v := (Value.map (some gm0_2))) rfl rfl Try.underlying51 sz51 rfl rfl rfl rfl) ?_
 refine al_nil ?_
 exact fr_fin hK_ ()⟩, ⟨_, rfl, [], rfl, by
 intro X_ Y_ F_ K_ hK_
 refine sh_ (mm15 w0 Z0 a0 a1 bx0 gm0_1 gm0_2 l4xm0_2 p19 u17 v0_3 v1_0) X_ Y_ ?_
 refine mv_ ?_
 refine al_nil ?_
 exact fr_fin hK_ ()⟩, ⟨_, rfl, [], rfl, by
 intro X_ Y_ F_ K_ hK_
 refine sh_ (mm15 w0 Z0 a0 a1 bx0 gm0_1 gm0_2 l4xm0_2 p19 u17 v0_3 v1_0) X_ Y_ ?_
 refine mv_ ?_
 refine al_nil ?_
 exact fr_fin hK_ ()⟩, ⟨_, rfl, [5, 6], rfl, by
 intro _
 intro _
 intro X_ Y_ F_ K_ hK_
 refine sh_ (mm15 w0 Z0 a0 a1 bx0 gm0_1 gm0_2 l4xm0_2 p19 u17 v0_3 v1_0) X_ Y_ ?_
 refine al_idxD 1 hu40 rfl rfl rfl Try.underlying30 sz3 rfl (fun p41 => ?_)
 refine al_nil ?_
 exact fr_fin hK_ p41⟩, ⟨_, rfl, [7], rfl, by
 intro p41
 intro X_ Y_ F_ K_ hK_
 refine sh_ (mm21 w0 Z0 a0 a1 bx0 gm0_1 gm0_2 l4xm0_2 p19 p41 u17 u39 v0_3 v1_0) X_ Y_ ?_
 refine al_val (ov_loadP (ds := [(iq u39)]) 0 rfl (fun h => h) rfl Try.underlying3 sz3 rfl rfl rfl) ?_
 refine al_nil ?_
 exact fr_fin hK_ ()⟩, ⟨_, rfl, [8], rfl, by
 intro _
 intro X_ Y_ F_ K_ hK_
 refine sh_ (mm15 w0 Z0 a0 a1 bx0 gm0_1 gm0_2 l4xm0_2 p19 u17 v0_3 v1_0) X_ Y_ ?_
 refine in_ ?_
 refine al_nil ?_
 exact fr_fin hK_ ()⟩, ⟨_, rfl, [0], rfl, by
 intro _
 intro X_ Y_ F_ K_ hK_
 refine sh_ (mm15 w0 Z0 a0 a1 bx0 gm0_1 gm0_2 l4xm0_2 p19 u17 v0_3 v1_0) X_ Y_ ?_
 refine al_val (ov_makeMeth rfl rfl) ?_
 refine al_nil ?_
 exact fr_fin hK_ ()⟩, ⟨_, rfl, [10], rfl, by
 intro _
 intro X_ Y_ F_ K_ hK_
 refine sh_ (mm15 w0 Z0 a0 a1 bx0 gm0_1 gm0_2 l4xm0_2 p19 u17 v0_3 v1_0) X_ Y_ ?_
 refine al_val (ov_nilCheckM me98 Try.underlying98 rfl rfl rfl) ?_
 refine al_nil ?_
 exact fr_fin hK_ ()⟩, ⟨_, rfl, [0, 10, 11], rfl, by
 intro _
 intro _
 intro _
 intro X_ Y_ F_ K_ hK_
 refine sh_ (mm15 w0 Z0 a0 a1 bx0 gm0_1 gm0_2 l4xm0_2 p19 u17 v0_3 v1_0) X_ Y_ ?_
 refine mv_ ?_
 refine al_nil ?_
 exact fr_fin hK_ ()⟩, trivial⟩ ?_
         intro _
         intro _
         intro _
         intro _
         intro _
         intro _
         intro _
         intro p41
         intro _
         intro _
         intro _
         intro _
         intro _
         intro X_ Y_ F_ K_ hK_
         refine sh_ (mm21 w0 Z0 a0 a1 bx0 gm0_1 gm0_2 l4xm0_2 p19 p41 u17 u39 v0_3 v1_0) X_ Y_ ?_
         obtain ⟨r43, hc42, h⟩ := opt_some h
         refine al_callIX (vs := [(Value.map (some gm0_2)), (iq (wq (u39 - (2 : Int))))]) (f__disk_rename__apply_ok fu iy38 gm0_2 l4xm0_2 (wq (u39 - (2 : Int))) hc42) rfl [] [1] [0, 2, 3] pre_nil rfl (by simp) (by decide) rfl (.inl rfl) me98 Try.underlying98 rfl rfl rfl Try.func125 rfl rfl rfl (fun _ => ?_)
         refine al_nil ?_
         refine aq_show (m := Mem.plus (memOf w0 Z0 [(oBox bx0 54 [(iq a0.room), (Value.map (some gm0_1)), (Value.map (some gm0_2)), v0_3, (bool a0.fused), (iq a0.left)]), (oMapK Try.prog 9 gm0_1 str str a0.files), (oMapK Try.prog 9 gm0_2 str str a0.durable), (oRow v0_3 114 tyI114 a0.changes)] [(oMapK Try.prog 9 gm0_2 str str r43), (oMapK Try.prog 9 gm0_1 str str a0.files), (oRow v0_3 114 tyI114 a0.changes), (oBox bx0 54 [(iq a0.room), (Value.map (some gm0_1)), (Value.map (some gm0_2)), v0_3, (bool a0.fused), (iq a0.left)])] [(fPtr tq p41 u39), (fPtr tq p19 u17), (fDat (tyList tq) [v1_0] a1)]) X_ Y_) ?_
         refine aq_next hK_ [0, 1, 2, 3] [1, 2] [(0, (pq bx0)), (1, v1_0), (9, v0_3), (10, (iq (a0.changes.length : Int))), (11, (iq l4i11))] [] [] rfl rfl (by decide) rfl ⟨rfl, rfl, rfl, rfl, rfl, trivial⟩ trivial ?_
         clear hK_ K_ F_ X_ Y_
         refine ta_show (m := (mm22 w0 Z0 a0 a1 bx0 gm0_1 gm0_2 p19 r43 u17 v0_3 v1_0)) (S := _) ?_
         refine ta_end [] [] rfl rfl (by kernel_rfl) rfl trivial ?_
         refine aq_show (m := (mm22 w0 Z0 a0 a1 bx0 gm0_1 gm0_2 p19 r43 u17 v0_3 v1_0)) (S := (tab [(0, (pq bx0)), (1, v1_0), (9, v0_3), (10, (iq (a0.changes.length : Int))), (11, (iq l4i11))])) ?_
         refine aq_block ?_
         refine aq_block ?_
         exact aq_join r43 h (nm_ [1, 0, 2, 3] [1] (by decide) ⟨rfl, rfl, rfl, rfl, rfl, trivial⟩)
       | t105 iy44 =>
         dsimp only at h
         refine aw_state (m' := (mm15 w0 Z0 a0 a1 bx0 gm0_1 gm0_2 l4xm0_2 p19 u17 v0_3 v1_0)) (S' := (tab [(0, (pq bx0)), (1, v1_0), (4, (iq l4i11)), (5, (Value.iface 105 (ag [(str iy44.name)]))), (9, v0_3), (10, (iq (a0.changes.length : Int))), (11, (iq l4i11)), (30, (bool j14b30)), (42, (bool (u17 == (1 : Int)))), (43, v1_0), (44, (iq l4i11)), (45, p19), (46, (iq u17)), (47, (bool (u17 == (1 : Int))))])) ?_ (nm_ [0, 1, 2, 3] [0, 1] (by decide) ⟨rfl, rfl, rfl, rfl, rfl, rfl, rfl, rfl, rfl, rfl, rfl, rfl, rfl, rfl, trivial⟩)
         obtain ⟨u45, hu46, h⟩ := opt_some h
         refine aw_region_open [(sp_ 0 16 (Value.iface 105 (ag [(str iy44.name)]))), (sp_ 1 17 (pq bx0)), (sp_ 2 18 (pq bx0)), (sp_ 3 19 (ptr bx0 2)), (sp_ 4 20 (Value.map (some gm0_2))), (sp_ 5 21 v1_0), (sp_ 6 22 (iq l4i11)), ⟨7, 23, Value, fun (i : Value) => { val := i, fz := [(fPtr tq i u45)] }⟩, (sp_ 8 24 (iq u45)), (sp_ 9 25 (iq (wq (u45 - (2 : Int))))), (sp_ 10 26 (Value.func (.method "lumberroom/disk.apply") #[(Value.iface 105 (ag [(str iy44.name)]))] #[])), (sp_ 11 27 (Value.func (.method "lumberroom/disk.apply") #[(Value.iface 105 (ag [(str iy44.name)]))] #[])), (sp_ 12 28 (Value.iface 105 (ag [(str iy44.name)])))] (tab [(0, (pq bx0)), (1, v1_0), (4, (iq l4i11)), (5, (Value.iface 105 (ag [(str iy44.name)]))), (9, v0_3), (10, (iq (a0.changes.length : Int))), (11, (iq l4i11))]) mixed (fun a hs => hs.tab _ (allT_mem ⟨rfl, rfl, rfl, rfl, rfl, rfl, rfl, trivial⟩)) ?_
         refine ta_show (m := (mm15 w0 Z0 a0 a1 bx0 gm0_1 gm0_2 l4xm0_2 p19 u17 v0_3 v1_0)) (S := _) ?_
         refine ta_step 13 _ [0, 1, 2, 3, 4, 5, 6, 7, 8, 9, 10, 11, 12] [16, 17, 18, 19, 20, 21, 22, 23, 24, 25, 26, 27, 28] [0, 1, 2, 3, 4, 5, 6, 7, 8, 9, 10, 11, 12] [] [(sp_ 0 16 (Value.iface 105 (ag [(str iy44.name)]))), (sp_ 1 17 (pq bx0)), (sp_ 2 18 (pq bx0)), (sp_ 3 19 (ptr bx0 2)), (sp_ 4 20 (Value.map (some gm0_2))), (sp_ 5 21 v1_0), (sp_ 6 22 (iq l4i11)), ⟨7, 23, Value, fun (i : Value) => { val := i, fz := [(fPtr tq i u45)] }⟩, (sp_ 8 24 (iq u45)), (sp_ 9 25 (iq (wq (u45 - (2 : Int))))), (sp_ 10 26 (Value.func (.method "lumberroom/disk.apply") #[(Value.iface 105 (ag [(str iy44.name)]))] #[])), (sp_ 11 27 (Value.func (.method "lumberroom/disk.apply") #[(Value.iface 105 (ag [(str iy44.name)]))] #[])), (sp_ 12 28 (Value.iface 105 (ag [(str iy44.name)])))] [] rfl rfl rfl (by kernel_rfl) rfl rfl rfl ⟨⟨_, rfl, [], rfl, by
 intro X_ Y_ F_ K_ hK_
 refine sh_ (mm15 w0 Z0 a0 a1 bx0 gm0_1 gm0_2 l4xm0_2 p19 u17 v0_3 v1_0) X_ Y_ ?_
 refine mv_ ?_
 refine al_nil ?_
 exact fr_fin hK_ ()⟩, ⟨_, rfl, [], rfl, by
 intro X_ Y_ F_ K_ hK_
 refine sh_ (mm15 w0 Z0 a0 a1 bx0 gm0_1 gm0_2 l4xm0_2 p19 u17 v0_3 v1_0) X_ Y_ ?_
 refine mv_ ?_
 refine al_nil ?_
 exact fr_fin hK_ ()⟩, ⟨_, rfl, [1], rfl, by
 intro _
 intro X_ Y_ F_ K_ hK_
 refine sh_ (mm15 w0 Z0 a0 a1 bx0 gm0_1 gm0_2 l4xm0_2 p19 u17 v0_3 v1_0) X_ Y_ ?_
 refine al_val (ov_nilCheck rfl rfl) ?_
 refine al_nil ?_
 exact fr_fin hK_ ()⟩, ⟨_, rfl, [2], rfl, by
 intro _
 intro X_ Y_ F_ K_ hK_
 refine sh_ (mm15 w0 Z0 a0 a1 bx0 gm0_1 gm0_2 l4xm0_2 p19 u17 v0_3 v1_0) X_ Y_ ?_
 refine al_val (ov_fieldA (p := 2) rfl Try.underlying54 rfl sz51 rfl rfl rfl) ?_
 refine al_nil ?_
 exact fr_fin hK_ ()⟩, ⟨_, rfl, [3], rfl, by
 intro _
 intro X_ Y_ F_ K_ hK_
 refine sh_ (mm15 w0 Z0 a0 a1 bx0 gm0_1 gm0_2 l4xm0_2 p19 u17 v0_3 v1_0) X_ Y_ ?_
 refine al_val (ov_load (i := 3) (v := (Value.map (some gm0_2))) rfl rfl Try.underlying51 sz51 rfl rfl rfl rfl) ?_
 refine al_nil ?_
 exact fr_fin hK_ ()⟩, ⟨_, rfl, [], rfl, by
 intro X_ Y_ F_ K_ hK_
 refine sh_ (mm15 w0 Z0 a0 a1 bx0 gm0_1 gm0_2 l4xm0_2 p19 u17 v0_3 v1_0) X_ Y_ ?_
 refine mv_ ?_
 refine al_nil ?_
 exact fr_fin hK_ ()⟩, ⟨_, rfl, [], rfl, by
 intro X_ Y_ F_ K_ hK_
 refine sh_ (mm15 w0 Z0 a0 a1 bx0 gm0_1 gm0_2 l4xm0_2 p19 u17 v0_3 v1_0) X_ Y_ ?_
 refine mv_ ?_
 refine al_nil ?_
 exact fr_fin hK_ ()⟩, ⟨_, rfl, [5, 6], rfl, by
 intro _
 intro _
 intro X_ Y_ F_ K_ hK_
 refine sh_ (mm15 w0 Z0 a0 a1 bx0 gm0_1 gm0_2 l4xm0_2 p19 u17 v0_3 v1_0) X_ Y_ ?_
 refine al_idxD 1 hu46 rfl rfl rfl Try.underlying30 sz3 rfl (fun p47 => ?_)
 refine al_nil ?_
 exact fr_fin hK_ p47⟩, ⟨_, rfl, [7], rfl, by
 intro p47
 intro X_ Y_ F_ K_ hK_
 refine sh_ (mm23 w0 Z0 a0 a1 bx0 gm0_1 gm0_2 l4xm0_2 p19 p47 u17 u45 v0_3 v1_0) X_ Y_ ?_
 refine al_val (ov_loadP (ds := [(iq u45)]) 0 rfl (fun h => h) rfl Try.underlying3 sz3 rfl rfl rfl) ?_
 refine al_nil ?_
 exact fr_fin hK_ ()⟩, ⟨_, rfl, [8], rfl, by
 intro _
 intro X_ Y_ F_ K_ hK_
 refine sh_ (mm15 w0 Z0 a0 a1 bx0 gm0_1 gm0_2 l4xm0_2 p19 u17 v0_3 v1_0) X_ Y_ ?_
 refine in_ ?_
 refine al_nil ?_
 exact fr_fin hK_ ()⟩, ⟨_, rfl, [0], rfl, by
 intro _
 intro X_ Y_ F_ K_ hK_
 refine sh_ (mm15 w0 Z0 a0 a1 bx0 gm0_1 gm0_2 l4xm0_2 p19 u17 v0_3 v1_0) X_ Y_ ?_
 refine al_val (ov_makeMeth rfl rfl) ?_
 refine al_nil ?_
 exact fr_fin hK_ ()⟩, ⟨_, rfl, [10], rfl, by
 intro _
 intro X_ Y_ F_ K_ hK_
 refine sh_ (mm15 w0 Z0 a0 a1 bx0 gm0_1 gm0_2 l4xm0_2 p19 u17 v0_3 v1_0) X_ Y_ ?_
 refine al_val (ov_nilCheckM me105 Try.underlying105 rfl rfl rfl) ?_
 refine al_nil ?_
 exact fr_fin hK_ ()⟩, ⟨_, rfl, [0, 10, 11], rfl, by
 intro _
 intro _
 intro _
 intro X_ Y_ F_ K_ hK_
 refine sh_ (mm15 w0 Z0 a0 a1 bx0 gm0_1 gm0_2 l4xm0_2 p19 u17 v0_3 v1_0) X_ Y_ ?_
 refine mv_ ?_
 refine al_nil ?_
 exact fr_fin hK_ ()⟩, trivial⟩ ?_
         intro _
         intro _
         intro _
         intro _
         intro _
         intro _
         intro _
         intro p47
         intro _
         intro _
         intro _
         intro _
         intro _
         intro X_ Y_ F_ K_ hK_
         refine sh_ (mm23 w0 Z0 a0 a1 bx0 gm0_1 gm0_2 l4xm0_2 p19 p47 u17 u45 v0_3 v1_0) X_ Y_ ?_
         obtain ⟨r49, hc48, h⟩ := opt_some h
         refine al_callIX (vs := [(Value.map (some gm0_2)), (iq (wq (u45 - (2 : Int))))]) (f__disk_remove__apply_ok fu iy44 gm0_2 l4xm0_2 (wq (u45 - (2 : Int))) hc48) rfl [] [1] [0, 2, 3] pre_nil rfl (by simp) (by decide) rfl (.inl rfl) me105 Try.underlying105 rfl rfl rfl Try.func126 rfl rfl rfl (fun _ => ?_)
         refine al_nil ?_
         refine aq_show (m := Mem.plus (memOf w0 Z0 [(oBox bx0 54 [(iq a0.room), (Value.map (some gm0_1)), (Value.map (some gm0_2)), v0_3, (bool a0.fused), (iq a0.left)]), (oMapK Try.prog 9 gm0_1 str str a0.files), (oMapK Try.prog 9 gm0_2 str str a0.durable), (oRow v0_3 114 tyI114 a0.changes)] [(oMapK Try.prog 9 gm0_2 str str r49), (oMapK Try.prog 9 gm0_1 str str a0.files), (oRow v0_3 114 tyI114 a0.changes), (oBox bx0 54 [(iq a0.room), (Value.map (some gm0_1)), (Value.map (some gm0_2)), v0_3, (bool a0.fused), (iq a0.left)])] [(fPtr tq p47 u45), (fPtr tq p19 u17), (fDat (tyList tq) [v1_0] a1)]) X_ Y_) ?_
         refine aq_next hK_ [0, 1, 2, 3] [1, 2] [(0, (pq bx0)), (1, v1_0), (9, v0_3), (10, (iq (a0.changes.length : Int))), (11, (iq l4i11))] [] [] rfl rfl (by decide) rfl ⟨rfl, rfl, rfl, rfl, rfl, trivial⟩ trivial ?_
         clear hK_ K_ F_ X_ Y_
         refine ta_show (m := (mm24 w0 Z0 a0 a1 bx0 gm0_1 gm0_2 p19 r49 u17 v0_3 v1_0)) (S := _) ?_
         refine ta_end [] [] rfl rfl (by kernel_rfl) rfl trivial ?_
         refine aq_show (m := (mm24 w0 Z0 a0 a1 bx0 gm0_1 gm0_2 p19 r49 u17 v0_3 v1_0)) (S := (tab [(0, (pq bx0)), (1, v1_0), (9, v0_3), (10, (iq (a0.changes.length : Int))), (11, (iq l4i11))])) ?_
         refine aq_block ?_
         refine aq_block ?_
         exact aq_join r49 h (nm_ [1, 0, 2, 3] [1] (by decide) ⟨rfl, rfl, rfl, rfl, rfl, trivial⟩)
    ·clear hkk15
     refine aw_region ?_
     refine mv_ ?_
     refine mv_ ?_
     refine al_val (ov_lenD 0 rfl rfl Try.underlying30 rfl) ?_
     refine in_ ?_
     refine mv_ ?_
     refine al_caseB 35 rfl (fun hb50 => ?_) (fun hb50 => ?_)
     ·replace h := bif_t hb50 h
      iterate 5 refine al_skip ?_
      refine al_val (ov_pick_t rfl rfl rfl) ?_
      refine as_ ?_
      refine al_nil ?_
      exact aq_join true h (nm_ [0, 1, 2, 3] [0] (by decide) ⟨rfl, rfl, rfl, rfl, rfl, rfl, rfl, rfl, trivial⟩)
     ·replace h := bif_f hb50 h
      refine mv_ ?_
      refine mv_ ?_
      obtain ⟨u51, hu52, h⟩ := opt_some h
      refine al_idxD 0 hu52 rfl rfl rfl Try.underlying30 sz3 rfl (fun p53 => ?_)
      refine al_val (ov_loadP (ds := [(iq u51)]) 0 rfl (fun h => h) rfl Try.underlying3 sz3 rfl rfl rfl) ?_
      refine in_ ?_
      refine al_val (ov_pick_f rfl rfl rfl) ?_
      refine as_ ?_
      refine al_nil ?_
      exact aq_join (decide (u51 < (1 : Int))) h (nm_ [0, 1, 2, 3] [1] (by decide) ⟨rfl, rfl, rfl, rfl, rfl, rfl, rfl, rfl, trivial⟩)
  ·replace h := bif_f hb7 h
   refine aw_exit ?_
   refine aq_then_exit ?_
   refine aq_then_exit ?_
   refine aq_block_exit ?_
   exact aq_join l4xm0_2 h (nm_ [0, 1, 2, 3] [0] (by decide) ⟨rfl, trivial⟩)
def f___lumref_Disk__Crash_nilp (fu : Nat) (a1 : (List Int)) : Option Unit := (none : Option Unit)
set_option maxRecDepth 100000 in
theorem f___lumref_Disk__Crash_nilp_ok (fu : Nat) (v1_0 : Value) (a1 : (List Int)) {r : Unit} (h : f___lumref_Disk__Crash_nilp fu a1 = some r) : FnOk Try.prog 32 [(Value.pointer none), v1_0] [(fDat (tyList (tyInt .i64)) [v1_0] a1)] [] (fun (i : Unit) => { val := (Value.tuple #[]) }) := by
 unfold f___lumref_Disk__Crash_nilp at h
 refine fn_enter Try.func32 rfl Try.ntmps32 rfl (fun w0 Z0 => ?_)
 refine aw_sr ?_
 cases h
def f_lumlaw_sameDeed_nilp (fu : Nat) (a0 : D_disk_Disk) (a2 : S_api_Deed) : Option (Bool × D_disk_Disk) := (lt (fun (j2i0_0 : Int) (j2xm0_1 : (List ((List UInt8) × (List UInt8)))) (j2xm0_2 : (List ((List UInt8) × (List UInt8)))) (j2x0_3 : (List I114)) (j2b0_4 : Bool) (j2i0_5 : Int) => (some (true, (D_disk_Disk.mk j2i0_0 j2xm0_1 j2xm0_2 j2x0_3 j2b0_4 j2i0_5)))) fun (kk3 : Int → (List ((List UInt8) × (List UInt8))) → (List ((List UInt8) × (List UInt8))) → (List I114) → Bool → Int → Option (Bool × D_disk_Disk)) => (bif (a2.Kind == (1 : Int)) then (opt (f___disk_Disk__Write fu a0 a2.Name a2.Text) fun (r6 : (Int × D_disk_Disk)) => (opt (f___lumref_Disk__Write_nilp fu a2.Name a2.Text) fun (r11 : Int) => (some ((r6.1 == r11), r6.2)))) else (bif (a2.Kind == (2 : Int)) then (opt (f___disk_Disk__Rename fu a0 a2.Name a2.Text) fun (r14 : (Int × D_disk_Disk)) => (opt (f___lumref_Disk__Change_nilp fu a2) fun (r19 : Int) => (some ((r14.1 == r19), r14.2)))) else (bif (a2.Kind == (3 : Int)) then (opt (f___disk_Disk__Remove fu a0 a2.Name) fun (r22 : (Int × D_disk_Disk)) => (opt (f___lumref_Disk__Change_nilp fu a2) fun (r27 : Int) => (some ((r22.1 == r27), r22.2)))) else (bif (a2.Kind == (4 : Int)) then (opt (f___disk_Disk__Sync fu a0) fun (r30 : (Int × D_disk_Disk)) => (opt (f___lumref_Disk__Sync_nilp fu ) fun (r35 : Int) => (some ((r30.1 == r35), r30.2)))) else (bif (a2.Kind == (5 : Int)) then (opt (f___disk_Disk__Read fu a0 a2.Name) fun (r38 : ((List UInt8) × Int × D_disk_Disk)) => (opt (f___lumref_Disk__Read_nilp fu a2.Name) fun (r43 : ((List UInt8) × Int)) => (lt (fun (j44b6 : Bool) => (some (j44b6, r38.2.2))) fun (kk45 : Bool → Option (Bool × D_disk_Disk)) => (bif (r38.1 == r43.1) then (kk45 (r38.2.1 == r43.2)) else (kk45 false))))) else (bif (a2.Kind == (6 : Int)) then (opt (f___disk_Disk__List fu a0) fun (r49 : ((List (List UInt8)) × Int × D_disk_Disk)) => (opt (f___lumref_Disk__List_nilp fu ) fun (r55 : ((List (List UInt8)) × Int)) => (lt (fun (j57b6 : Bool) => (some (j57b6, r49.2.2))) fun (kk58 : Bool → Option (Bool × D_disk_Disk)) => (opt (f_slices_Equal___string_string_ fu r49.1 r55.1) fun (r60 : Bool) => (bif r60 then (kk58 (r49.2.1 == r55.2)) else (kk58 false)))))) else (bif (a2.Kind == (7 : Int)) then (opt (f___disk_Disk__Fuse fu a0 a2.N) fun (r64 : D_disk_Disk) => (opt (f___lumref_Disk__Fuse_nilp fu a2.N) fun (r69 : Unit) => (kk3 r64.room r64.files r64.durable r64.changes r64.fused r64.left))) else (bif (a2.Kind == (8 : Int)) then (opt (f___disk_Disk__Crash fu a0 a2.Keep) fun (r72 : D_disk_Disk) => (opt (f___lumref_Disk__Crash_nilp fu a2.Keep) fun (r77 : Unit) => (kk3 r72.room r72.files r72.durable r72.changes r72.fused r72.left))) else (kk3 a0.room a0.files a0.durable a0.changes a0.fused a0.left))))))))))
abbrev mm25 (w0 : World) (Z0 : Nat → Prop) (a0 : D_disk_Disk) (a2 : S_api_Deed) (bx0 : Nat) (g1 : Nat) (gm0_1 : Nat) (gm0_2 : Nat) (v0_3 : Value) (v2_4 : Value) : Mem := memOf w0 Z0 [(oBox bx0 54 [(int .i64 a0.room), (Value.map (some gm0_1)), (Value.map (some gm0_2)), v0_3, (bool a0.fused), (int .i64 a0.left)]), (oMapK Try.prog 9 gm0_1 str str a0.files), (oMapK Try.prog 9 gm0_2 str str a0.durable), (oRow v0_3 114 tyI114 a0.changes)] [(oBox g1 32 [(int .i64 a2.Kind), (str a2.Name), (str a2.Text), (int .i64 a2.N), v2_4]), (oBox bx0 54 [(int .i64 a0.room), (Value.map (some gm0_1)), (Value.map (some gm0_2)), v0_3, (bool a0.fused), (int .i64 a0.left)]), (oMapK Try.prog 9 gm0_1 str str a0.files), (oMapK Try.prog 9 gm0_2 str str a0.durable), (oRow v0_3 114 tyI114 a0.changes)] [(fDat (tyList (tyInt .i64)) [v2_4] a2.Keep)]
abbrev mm26 (w0 : World) (Z0 : Nat → Prop) (a0 : D_disk_Disk) (a2 : S_api_Deed) (bx0 : Nat) (g1 : Nat) (g7 : Nat) (g8 : Nat) (gm0_1 : Nat) (gm0_2 : Nat) (r6 : (Int × D_disk_Disk)) (v0_3 : Value) (v2_4 : Value) (v9 : Value) : Mem := memOf w0 Z0 [(oBox bx0 54 [(int .i64 a0.room), (Value.map (some gm0_1)), (Value.map (some gm0_2)), v0_3, (bool a0.fused), (int .i64 a0.left)]), (oMapK Try.prog 9 gm0_1 str str a0.files), (oMapK Try.prog 9 gm0_2 str str a0.durable), (oRow v0_3 114 tyI114 a0.changes)] [(oBox bx0 54 [(int .i64 r6.2.room), (Value.map (some g7)), (Value.map (some g8)), v9, (bool r6.2.fused), (int .i64 r6.2.left)]), (oMapK Try.prog 9 g7 str str r6.2.files), (oMapK Try.prog 9 g8 str str r6.2.durable), (oRow v9 114 tyI114 r6.2.changes), (oBox g1 32 [(int .i64 a2.Kind), (str a2.Name), (str a2.Text), (int .i64 a2.N), v2_4])] [(fDat (tyList (tyInt .i64)) [v2_4] a2.Keep)]
abbrev mm27 (w0 : World) (Z0 : Nat → Prop) (a0 : D_disk_Disk) (a2 : S_api_Deed) (bx0 : Nat) (g1 : Nat) (g15 : Nat) (g16 : Nat) (gm0_1 : Nat) (gm0_2 : Nat) (r14 : (Int × D_disk_Disk)) (v0_3 : Value) (v17 : Value) (v2_4 : Value) : Mem := memOf w0 Z0 [(oBox bx0 54 [(int .i64 a0.room), (Value.map (some gm0_1)), (Value.map (some gm0_2)), v0_3, (bool a0.fused), (int .i64 a0.left)]), (oMapK Try.prog 9 gm0_1 str str a0.files), (oMapK Try.prog 9 gm0_2 str str a0.durable), (oRow v0_3 114 tyI114 a0.changes)] [(oBox bx0 54 [(int .i64 r14.2.room), (Value.map (some g15)), (Value.map (some g16)), v17, (bool r14.2.fused), (int .i64 r14.2.left)]), (oMapK Try.prog 9 g15 str str r14.2.files), (oMapK Try.prog 9 g16 str str r14.2.durable), (oRow v17 114 tyI114 r14.2.changes), (oBox g1 32 [(int .i64 a2.Kind), (str a2.Name), (str a2.Text), (int .i64 a2.N), v2_4])] [(fDat (tyList (tyInt .i64)) [v2_4] a2.Keep)]
abbrev mm28 (w0 : World) (Z0 : Nat → Prop) (a0 : D_disk_Disk) (a2 : S_api_Deed) (bx0 : Nat) (g1 : Nat) (g23 : Nat) (g24 : Nat) (gm0_1 : Nat) (gm0_2 : Nat) (r22 : (Int × D_disk_Disk)) (v0_3 : Value) (v25 : Value) (v2_4 : Value) : Mem := memOf w0 Z0 [(oBox bx0 54 [(int .i64 a0.room), (Value.map (some gm0_1)), (Value.map (some gm0_2)), v0_3, (bool a0.fused), (int .i64 a0.left)]), (oMapK Try.prog 9 gm0_1 str str a0.files), (oMapK Try.prog 9 gm0_2 str str a0.durable), (oRow v0_3 114 tyI114 a0.changes)] [(oBox bx0 54 [(int .i64 r22.2.room), (Value.map (some g23)), (Value.map (some g24)), v25, (bool r22.2.fused), (int .i64 r22.2.left)]), (oMapK Try.prog 9 g23 str str r22.2.files), (oMapK Try.prog 9 g24 str str r22.2.durable), (oRow v25 114 tyI114 r22.2.changes), (oBox g1 32 [(int .i64 a2.Kind), (str a2.Name), (str a2.Text), (int .i64 a2.N), v2_4])] [(fDat (tyList (tyInt .i64)) [v2_4] a2.Keep)]
abbrev mm29 (w0 : World) (Z0 : Nat → Prop) (a0 : D_disk_Disk) (a2 : S_api_Deed) (bx0 : Nat) (g39 : Nat) (g40 : Nat) (gm0_1 : Nat) (gm0_2 : Nat) (r38 : ((List UInt8) × Int × D_disk_Disk)) (v0_3 : Value) (v2_4 : Value) (v41 : Value) : Mem := memOf w0 Z0 [(oBox bx0 54 [(int .i64 a0.room), (Value.map (some gm0_1)), (Value.map (some gm0_2)), v0_3, (bool a0.fused), (int .i64 a0.left)]), (oMapK Try.prog 9 gm0_1 str str a0.files), (oMapK Try.prog 9 gm0_2 str str a0.durable), (oRow v0_3 114 tyI114 a0.changes)] [(oMapK Try.prog 9 g39 str str r38.2.2.files), (oMapK Try.prog 9 g40 str str r38.2.2.durable), (oRow v41 114 tyI114 r38.2.2.changes), (oBox bx0 54 [(int .i64 r38.2.2.room), (Value.map (some g39)), (Value.map (some g40)), v41, (bool r38.2.2.fused), (int .i64 r38.2.2.left)])] [(fDat (tyList (tyInt .i64)) [v2_4] a2.Keep)]
abbrev mm30 (w0 : World) (Z0 : Nat → Prop) (a0 : D_disk_Disk) (a2 : S_api_Deed) (bx0 : Nat) (g51 : Nat) (g52 : Nat) (gm0_1 : Nat) (gm0_2 : Nat) (r49 : ((List (List UInt8)) × Int × D_disk_Disk)) (v0_3 : Value) (v2_4 : Value) (v53 : Value) : Mem := memOf w0 Z0 [(oBox bx0 54 [(int .i64 a0.room), (Value.map (some gm0_1)), (Value.map (some gm0_2)), v0_3, (bool a0.fused), (int .i64 a0.left)]), (oMapK Try.prog 9 gm0_1 str str a0.files), (oMapK Try.prog 9 gm0_2 str str a0.durable), (oRow v0_3 114 tyI114 a0.changes)] [(oMapK Try.prog 9 g51 str str r49.2.2.files), (oMapK Try.prog 9 g52 str str r49.2.2.durable), (oRow v53 114 tyI114 r49.2.2.changes), (oBox bx0 54 [(int .i64 r49.2.2.room), (Value.map (some g51)), (Value.map (some g52)), v53, (bool r49.2.2.fused), (int .i64 r49.2.2.left)])] [(fDat (tyList (tyInt .i64)) [v2_4] a2.Keep)]
set_option maxRecDepth 100000 in
set_option maxHeartbeats 2000000 in
set_option maxHeartbeats 2000000 in
theorem f_lumlaw_sameDeed_nilp_ok (fu : Nat) (bx0 : Nat) (gm0_1 : Nat) (gm0_2 : Nat) (v0_3 : Value) (a0 : D_disk_Disk) (v2_4 : Value) (a2 : S_api_Deed) {r : (Bool × D_disk_Disk)} (h : f_lumlaw_sameDeed_nilp fu a0 a2 = some r) : FnOk Try.prog 7 [(ptr bx0 0), (Value.pointer none), (ag [(int .i64 a2.Kind), (str a2.Name), (str a2.Text), (int .i64 a2.N), v2_4])] [(fDat (tyList (tyInt .i64)) [v2_4] a2.Keep)] [(oBox bx0 54 [(int .i64 a0.room), (Value.map (some gm0_1)), (Value.map (some gm0_2)), v0_3, (bool a0.fused), (int .i64 a0.left)]), (oMapK Try.prog 9 gm0_1 str str a0.files), (oMapK Try.prog 9 gm0_2 str str a0.durable), (oRow v0_3 114 tyI114 a0.changes)] (fun (i : Nat × Nat × Value) => { val := (bool r.1), own := [(oBox bx0 54 [(int .i64 r.2.room), (Value.map (some i.1)), (Value.map (some i.2.1)), i.2.2, (bool r.2.fused), (int .i64 r.2.left)]), (oMapK Try.prog 9 i.1 str str r.2.files), (oMapK Try.prog 9 i.2.1 str str r.2.durable), (oRow i.2.2 114 tyI114 r.2.changes)] }) := by
 unfold f_lumlaw_sameDeed_nilp at h
 refine fn_enter Try.func7 rfl Try.ntmps7 rfl (fun w0 Z0 => ?_)
 refine aw_sr ?_
 refine al_box (vs := [(iq a2.Kind), (str a2.Name), (str a2.Text), (iq a2.N), v2_4]) rfl (cv_rfl rfl) rfl (fun g1 => ?_)
 refine an_ ?_
 obtain ⟨kk3, hkk3, h⟩ := lt_some h
 refine aw_seq_join (ι := Int × Nat × (List ((List UInt8) × (List UInt8))) × Nat × (List ((List UInt8) × (List UInt8))) × Value × (List I114) × Bool × Int) (fun i => (memOf w0 Z0 [(oBox bx0 54 [(iq a0.room), (Value.map (some gm0_1)), (Value.map (some gm0_2)), v0_3, (bool a0.fused), (iq a0.left)]), (oMapK Try.prog 9 gm0_1 str str a0.files), (oMapK Try.prog 9 gm0_2 str str a0.durable), (oRow v0_3 114 tyI114 a0.changes)] [(oMapK Try.prog 9 i.2.1 str str i.2.2.1), (oMapK Try.prog 9 i.2.2.2.1 str str i.2.2.2.2.1), (oRow i.2.2.2.2.2.1 114 tyI114 i.2.2.2.2.2.2.1), (oBox bx0 54 [(iq i.1), (Value.map (some i.2.1)), (Value.map (some i.2.2.2.1)), i.2.2.2.2.2.1, (bool i.2.2.2.2.2.2.2.1), (iq i.2.2.2.2.2.2.2.2)])] [(fDat (tyList tq) [v2_4] a2.Keep)])) (fun i => (tab [(0, (pq bx0))])) (fun i => kk3 i.1 i.2.2.1 i.2.2.2.2.1 i.2.2.2.2.2.2.1 i.2.2.2.2.2.2.2.1 i.2.2.2.2.2.2.2.2 = some r) ?_ ?_
 rintro ⟨j2i0_0, j2g0_1, j2xm0_1, j2g0_2, j2xm0_2, j2v0_3, j2x0_3, j2b0_4, j2i0_5⟩ h
 have h : kk3 j2i0_0 j2xm0_1 j2xm0_2 j2x0_3 j2b0_4 j2i0_5 = some r := h
 rw [hkk3] at h
 dsimp only at h
 clear hkk3
 refine aw_show (m := (memOf w0 Z0 [(oBox bx0 54 [(iq a0.room), (Value.map (some gm0_1)), (Value.map (some gm0_2)), v0_3, (bool a0.fused), (iq a0.left)]), (oMapK Try.prog 9 gm0_1 str str a0.files), (oMapK Try.prog 9 gm0_2 str str a0.durable), (oRow v0_3 114 tyI114 a0.changes)] [(oMapK Try.prog 9 j2g0_1 str str j2xm0_1), (oMapK Try.prog 9 j2g0_2 str str j2xm0_2), (oRow j2v0_3 114 tyI114 j2x0_3), (oBox bx0 54 [(iq j2i0_0), (Value.map (some j2g0_1)), (Value.map (some j2g0_2)), j2v0_3, (bool j2b0_4), (iq j2i0_5)])] [(fDat (tyList tq) [v2_4] a2.Keep)])) (S := _) ?_
 refine aw_sr ?_
 refine an_ ?_
 refine aw_ret ?_
 cases h
 exact fn_ret (j2g0_1, j2g0_2, j2v0_3) [3, 0, 1, 2] [] rfl rfl rfl rfl (res1 rfl rfl) rfl rfl rfl (by decide)
 clear hkk3
 refine aw_sr ?_
 refine al_val (ov_fieldA (p := 0) rfl Try.underlying32 rfl sz3 rfl rfl rfl) ?_
 refine al_val (ov_load (i := 0) (v := (iq a2.Kind)) rfl rfl Try.underlying3 sz3 rfl rfl rfl rfl) ?_
 refine al_nt ?_
 refine aw_block ?_
 refine aw_sr ?_
 refine in_ ?_
 refine an_ ?_
 refine aw_cond rfl (fun hb4 => ?_) (fun hb4 => ?_)
 replace h := bif_t hb4 h
 refine aw_seq ?_
 refine aw_region_open [(sp_ 0 19 (pq bx0)), (sp_ 1 20 (ptr g1 1)), (sp_ 2 21 (str a2.Name)), (sp_ 3 22 (ptr g1 2)), (sp_ 4 23 (str a2.Text)), (sp_ 6 25 (Value.pointer none)), (sp_ 7 26 (ptr g1 1)), (sp_ 8 27 (str a2.Name)), (sp_ 9 28 (ptr g1 2)), (sp_ 10 29 (str a2.Text))] (tab [(0, (pq bx0)), (1, (Value.pointer none)), (5, (pq g1)), (6, (bool false))]) mixed (fun a hs => hs.tab _ (allT_mem ⟨rfl, rfl, rfl, rfl, trivial⟩)) ?_
 refine ta_show (m := (mm25 w0 Z0 a0 a2 bx0 g1 gm0_1 gm0_2 v0_3 v2_4)) (S := _) ?_
 refine ta_step 5 _ [0, 1, 2, 3, 4, 6, 7, 8, 9, 10] [19, 20, 21, 22, 23, 25, 26, 27, 28, 29] [0, 1, 2, 3, 4] [] [(sp_ 0 19 (pq bx0)), (sp_ 1 20 (ptr g1 1)), (sp_ 2 21 (str a2.Name)), (sp_ 3 22 (ptr g1 2)), (sp_ 4 23 (str a2.Text))] [(sp_ 6 25 (Value.pointer none)), (sp_ 7 26 (ptr g1 1)), (sp_ 8 27 (str a2.Name)), (sp_ 9 28 (ptr g1 2)), (sp_ 10 29 (str a2.Text))] rfl rfl rfl (by kernel_rfl) rfl rfl rfl ⟨⟨_, rfl, [], rfl, by
  intro X_ Y_ F_ K_ hK_
  refine sh_ (mm25 w0 Z0 a0 a2 bx0 g1 gm0_1 gm0_2 v0_3 v2_4) X_ Y_ ?_
  refine mv_ ?_
  refine al_nil ?_
  exact fr_fin hK_ ()⟩, ⟨_, rfl, [], rfl, by
  intro X_ Y_ F_ K_ hK_
  refine sh_ (mm25 w0 Z0 a0 a2 bx0 g1 gm0_1 gm0_2 v0_3 v2_4) X_ Y_ ?_
  refine al_val (ov_fieldA (p := 1) rfl Try.underlying32 rfl sz9 rfl rfl rfl) ?_
  refine al_nil ?_
  exact fr_fin hK_ ()⟩, ⟨_, rfl, [1], rfl, by
  intro _
  intro X_ Y_ F_ K_ hK_
  refine sh_ (mm25 w0 Z0 a0 a2 bx0 g1 gm0_1 gm0_2 v0_3 v2_4) X_ Y_ ?_
  refine al_val (ov_load (i := 0) (v := (str a2.Name)) rfl rfl Try.underlying9 sz9 rfl rfl rfl rfl) ?_
  refine al_nil ?_
  exact fr_fin hK_ ()⟩, ⟨_, rfl, [], rfl, by
  intro X_ Y_ F_ K_ hK_
  refine sh_ (mm25 w0 Z0 a0 a2 bx0 g1 gm0_1 gm0_2 v0_3 v2_4) X_ Y_ ?_
  refine al_val (ov_fieldA (p := 2) rfl Try.underlying32 rfl sz9 rfl rfl rfl) ?_
  refine al_nil ?_
  exact fr_fin hK_ ()⟩, ⟨_, rfl, [3], rfl, by
  intro _
  intro X_ Y_ F_ K_ hK_
  refine sh_ (mm25 w0 Z0 a0 a2 bx0 g1 gm0_1 gm0_2 v0_3 v2_4) X_ Y_ ?_
  refine al_val (ov_load (i := 0) (v := (str a2.Text)) rfl rfl Try.underlying9 sz9 rfl rfl rfl rfl) ?_
  refine al_nil ?_
  exact fr_fin hK_ ()⟩, ⟨_, rfl, [], rfl, by
  intro X_ Y_ F_ K_ hK_
  refine sh_ (mm25 w0 Z0 a0 a2 bx0 g1 gm0_1 gm0_2 v0_3 v2_4) X_ Y_ ?_
  refine mv_ ?_
  refine al_nil ?_
  exact fr_fin hK_ ()⟩, ⟨_, rfl, [], rfl, by
  intro X_ Y_ F_ K_ hK_
  refine sh_ (mm25 w0 Z0 a0 a2 bx0 g1 gm0_1 gm0_2 v0_3 v2_4) X_ Y_ ?_
  refine al_val (ov_fieldA (p := 1) rfl Try.underlying32 rfl sz9 rfl rfl rfl) ?_
  refine al_nil ?_
  exact fr_fin hK_ ()⟩, ⟨_, rfl, [6], rfl, by
  intro _
  intro X_ Y_ F_ K_ hK_
  refine sh_ (mm25 w0 Z0 a0 a2 bx0 g1 gm0_1 gm0_2 v0_3 v2_4) X_ Y_ ?_
  refine al_val (ov_load (i := 0) (v := (str a2.Name)) rfl rfl Try.underlying9 sz9 rfl rfl rfl rfl) ?_
  refine al_nil ?_
  exact fr_fin hK_ ()⟩, ⟨_, rfl, [], rfl, by
  intro X_ Y_ F_ K_ hK_
  refine sh_ (mm25 w0 Z0 a0 a2 bx0 g1 gm0_1 gm0_2 v0_3 v2_4) X_ Y_ ?_
  refine al_val (ov_fieldA (p := 2) rfl Try.underlying32 rfl sz9 rfl rfl rfl) ?_
  refine al_nil ?_
  exact fr_fin hK_ ()⟩, ⟨_, rfl, [8], rfl, by
  intro _
  intro X_ Y_ F_ K_ hK_
  refine sh_ (mm25 w0 Z0 a0 a2 bx0 g1 gm0_1 gm0_2 v0_3 v2_4) X_ Y_ ?_
  refine al_val (ov_load (i := 0) (v := (str a2.Text)) rfl rfl Try.underlying9 sz9 rfl rfl rfl rfl) ?_
  refine al_nil ?_
  exact fr_fin hK_ ()⟩, trivial⟩ ?_
 intro _
 intro _
 intro _
 intro _
 intro _
 intro X_ Y_ F_ K_ hK_
 refine sh_ (mm25 w0 Z0 a0 a2 bx0 g1 gm0_1 gm0_2 v0_3 v2_4) X_ Y_ ?_
 obtain ⟨r6, hc5, h⟩ := opt_some h
 refine al_callX (vs := [(pq bx0), (str a2.Name), (str a2.Text)]) (f___disk_Disk__Write_ok fu bx0 gm0_1 gm0_2 v0_3 a0 a2.Name a2.Text hc5) [] [1, 2, 3, 4] [0] pre_nil rfl (by simp) (by decide) rfl (.inl rfl) rfl Try.func17 rfl rfl rfl (fun ⟨g7, g8, v9⟩ => ?_)
 refine al_nil ?_
 refine aq_show (m := Mem.plus (mm26 w0 Z0 a0 a2 bx0 g1 g7 g8 gm0_1 gm0_2 r6 v0_3 v2_4 v9) X_ Y_) ?_
 refine aq_next hK_ [0, 1, 2, 3, 4] [0] [(0, (pq bx0)), (1, (Value.pointer none)), (5, (pq g1)), (6, (bool false)), (24, (iq r6.1))] [25, 26, 27, 28, 29] [] rfl rfl (by decide) rfl ⟨rfl, rfl, rfl, rfl, rfl, trivial⟩ ⟨rfl, rfl, rfl, rfl, rfl, trivial⟩ ?_
 clear hK_ K_ F_ X_ Y_
 refine ta_show (m := (mm26 w0 Z0 a0 a2 bx0 g1 g7 g8 gm0_1 gm0_2 r6 v0_3 v2_4 v9)) (S := _) ?_
 refine ta_step 11 _ [6, 7, 8, 9, 10] [25, 26, 27, 28, 29] [6, 7, 8, 9, 10] [12] [(sp_ 6 25 (Value.pointer none)), (sp_ 7 26 (ptr g1 1)), (sp_ 8 27 (str a2.Name)), (sp_ 9 28 (ptr g1 2)), (sp_ 10 29 (str a2.Text))] [] rfl rfl rfl (by kernel_rfl) rfl rfl rfl ⟨⟨_, rfl, [], rfl, by
  intro X_ Y_ F_ K_ hK_
  refine sh_ (mm26 w0 Z0 a0 a2 bx0 g1 g7 g8 gm0_1 gm0_2 r6 v0_3 v2_4 v9) X_ Y_ ?_
  refine mv_ ?_
  refine al_nil ?_
  exact fr_fin hK_ ()⟩, ⟨_, rfl, [], rfl, by
  intro X_ Y_ F_ K_ hK_
  refine sh_ (mm26 w0 Z0 a0 a2 bx0 g1 g7 g8 gm0_1 gm0_2 r6 v0_3 v2_4 v9) X_ Y_ ?_
  refine al_val (ov_fieldA (p := 1) rfl Try.underlying32 rfl sz9 rfl rfl rfl) ?_
  refine al_nil ?_
  exact fr_fin hK_ ()⟩, ⟨_, rfl, [1], rfl, by
  intro _
  intro X_ Y_ F_ K_ hK_
  refine sh_ (mm26 w0 Z0 a0 a2 bx0 g1 g7 g8 gm0_1 gm0_2 r6 v0_3 v2_4 v9) X_ Y_ ?_
  refine al_val (ov_load (i := 4) (v := (str a2.Name)) rfl rfl Try.underlying9 sz9 rfl rfl rfl rfl) ?_
  refine al_nil ?_
  exact fr_fin hK_ ()⟩, ⟨_, rfl, [], rfl, by
  intro X_ Y_ F_ K_ hK_
  refine sh_ (mm26 w0 Z0 a0 a2 bx0 g1 g7 g8 gm0_1 gm0_2 r6 v0_3 v2_4 v9) X_ Y_ ?_
  refine al_val (ov_fieldA (p := 2) rfl Try.underlying32 rfl sz9 rfl rfl rfl) ?_
  refine al_nil ?_
  exact fr_fin hK_ ()⟩, ⟨_, rfl, [3], rfl, by
  intro _
  intro X_ Y_ F_ K_ hK_
  refine sh_ (mm26 w0 Z0 a0 a2 bx0 g1 g7 g8 gm0_1 gm0_2 r6 v0_3 v2_4 v9) X_ Y_ ?_
  refine al_val (ov_load (i := 4) (v := (str a2.Text)) rfl rfl Try.underlying9 sz9 rfl rfl rfl rfl) ?_
  refine al_nil ?_
  exact fr_fin hK_ ()⟩, trivial⟩ ?_
 intro _
 intro _
 intro _
 intro _
 intro _
 intro X_ Y_ F_ K_ hK_
 refine sh_ (mm26 w0 Z0 a0 a2 bx0 g1 g7 g8 gm0_1 gm0_2 r6 v0_3 v2_4 v9) X_ Y_ ?_
 obtain ⟨r11, hc10, h⟩ := opt_some h
 refine al_callX (vs := [(Value.pointer none), (str a2.Name), (str a2.Text)]) (f___lumref_Disk__Write_nilp_ok fu a2.Name a2.Text hc10) [] [] [0, 1, 2, 3, 4] pre_nil rfl (by simp) (by decide) rfl (.inl rfl) rfl Try.func18 rfl rfl rfl (fun _ => ?_)
 refine al_nil ?_
 refine aq_show (m := Mem.plus (mm26 w0 Z0 a0 a2 bx0 g1 g7 g8 gm0_1 gm0_2 r6 v0_3 v2_4 v9) X_ Y_) ?_
 refine aq_next hK_ [0, 1, 2, 3, 4] [0] [(0, (pq bx0)), (6, (bool false)), (24, (iq r6.1)), (30, (iq r11))] [] [(sp_ 12 31 (bool (r6.1 == r11)))] rfl rfl (by decide) rfl ⟨rfl, rfl, rfl, rfl, trivial⟩ trivial ?_
 clear hK_ K_ F_ X_ Y_
 refine ta_show (m := (mm26 w0 Z0 a0 a2 bx0 g1 g7 g8 gm0_1 gm0_2 r6 v0_3 v2_4 v9)) (S := _) ?_
 refine ta_step 13 _ [12] [31] [12] [] [(sp_ 12 31 (bool (r6.1 == r11)))] [] rfl rfl rfl (by kernel_rfl) rfl rfl rfl ⟨⟨_, rfl, [], rfl, by
  intro X_ Y_ F_ K_ hK_
  refine sh_ (mm26 w0 Z0 a0 a2 bx0 g1 g7 g8 gm0_1 gm0_2 r6 v0_3 v2_4 v9) X_ Y_ ?_
  refine in_ ?_
  refine al_nil ?_
  exact fr_fin hK_ ()⟩, trivial⟩ ?_
 intro _
 intro X_ Y_ F_ K_ hK_
 refine sh_ (mm26 w0 Z0 a0 a2 bx0 g1 g7 g8 gm0_1 gm0_2 r6 v0_3 v2_4 v9) X_ Y_ ?_
 refine as_ ?_
 refine al_nil ?_
 refine aq_show (m := Mem.plus (mm26 w0 Z0 a0 a2 bx0 g1 g7 g8 gm0_1 gm0_2 r6 v0_3 v2_4 v9) X_ Y_) ?_
 refine aq_next hK_ [0, 1, 2, 3, 4] [0] [(0, (pq bx0)), (6, (bool (r6.1 == r11)))] [] [] rfl rfl (by decide) rfl ⟨rfl, rfl, trivial⟩ trivial ?_
 clear hK_ K_ F_ X_ Y_
 refine ta_show (m := (mm26 w0 Z0 a0 a2 bx0 g1 g7 g8 gm0_1 gm0_2 r6 v0_3 v2_4 v9)) (S := _) ?_
 refine ta_end [] [] rfl rfl (by kernel_rfl) rfl trivial ?_
 refine aq_show (m := (mm26 w0 Z0 a0 a2 bx0 g1 g7 g8 gm0_1 gm0_2 r6 v0_3 v2_4 v9)) (S := (tab [(0, (pq bx0)), (6, (bool (r6.1 == r11)))])) ?_
 refine aq_then ?_
 refine aw_ret ?_
 refine aq_block_ret ?_
 refine aq_then_ret ?_
 cases h
 exact fn_ret (g7, g8, v9) [0, 1, 2, 3] [] rfl rfl rfl rfl (res1 rfl rfl) rfl rfl rfl (by decide)
 replace h := bif_f hb4 h
 refine aw_sr ?_
 refine in_ ?_
 refine an_ ?_
 refine aw_cond rfl (fun hb12 => ?_) (fun hb12 => ?_)
 replace h := bif_t hb12 h
 refine aw_seq ?_
 refine aw_region_open [(sp_ 0 34 (pq bx0)), (sp_ 1 35 (ptr g1 1)), (sp_ 2 36 (str a2.Name)), (sp_ 3 37 (ptr g1 2)), (sp_ 4 38 (str a2.Text)), (sp_ 6 40 (Value.pointer none)), (sp_ 7 41 (ag [(iq a2.Kind), (str a2.Name), (str a2.Text), (iq a2.N), v2_4]))] (tab [(0, (pq bx0)), (1, (Value.pointer none)), (5, (pq g1)), (6, (bool false))]) mixed (fun a hs => hs.tab _ (allT_mem ⟨rfl, rfl, rfl, rfl, trivial⟩)) ?_
 refine ta_show (m := (mm25 w0 Z0 a0 a2 bx0 g1 gm0_1 gm0_2 v0_3 v2_4)) (S := _) ?_
 refine ta_step 5 _ [0, 1, 2, 3, 4, 6, 7] [34, 35, 36, 37, 38, 40, 41] [0, 1, 2, 3, 4] [] [(sp_ 0 34 (pq bx0)), (sp_ 1 35 (ptr g1 1)), (sp_ 2 36 (str a2.Name)), (sp_ 3 37 (ptr g1 2)), (sp_ 4 38 (str a2.Text))] [(sp_ 6 40 (Value.pointer none)), (sp_ 7 41 (ag [(iq a2.Kind), (str a2.Name), (str a2.Text), (iq a2.N), v2_4]))] rfl rfl rfl (by kernel_rfl) rfl rfl rfl ⟨⟨_, rfl, [], rfl, by
  intro X_ Y_ F_ K_ hK_
  refine sh_ (mm25 w0 Z0 a0 a2 bx0 g1 gm0_1 gm0_2 v0_3 v2_4) X_ Y_ ?_
  refine mv_ ?_
  refine al_nil ?_
  exact fr_fin hK_ ()⟩, ⟨_, rfl, [], rfl, by
  intro X_ Y_ F_ K_ hK_
  refine sh_ (mm25 w0 Z0 a0 a2 bx0 g1 gm0_1 gm0_2 v0_3 v2_4) X_ Y_ ?_
  refine al_val (ov_fieldA (p := 1) rfl Try.underlying32 rfl sz9 rfl rfl rfl) ?_
  refine al_nil ?_
  exact fr_fin hK_ ()⟩, ⟨_, rfl, [1], rfl, by
  intro _
  intro X_ Y_ F_ K_ hK_
  refine sh_ (mm25 w0 Z0 a0 a2 bx0 g1 gm0_1 gm0_2 v0_3 v2_4) X_ Y_ ?_
  refine al_val (ov_load (i := 0) (v := (str a2.Name)) rfl rfl Try.underlying9 sz9 rfl rfl rfl rfl) ?_
  refine al_nil ?_
  exact fr_fin hK_ ()⟩, ⟨_, rfl, [], rfl, by
  intro X_ Y_ F_ K_ hK_
  refine sh_ (mm25 w0 Z0 a0 a2 bx0 g1 gm0_1 gm0_2 v0_3 v2_4) X_ Y_ ?_
  refine al_val (ov_fieldA (p := 2) rfl Try.underlying32 rfl sz9 rfl rfl rfl) ?_
  refine al_nil ?_
  exact fr_fin hK_ ()⟩, ⟨_, rfl, [3], rfl, by
  intro _
  intro X_ Y_ F_ K_ hK_
  refine sh_ (mm25 w0 Z0 a0 a2 bx0 g1 gm0_1 gm0_2 v0_3 v2_4) X_ Y_ ?_
  refine al_val (ov_load (i := 0) (v := (str a2.Text)) rfl rfl Try.underlying9 sz9 rfl rfl rfl rfl) ?_
  refine al_nil ?_
  exact fr_fin hK_ ()⟩, ⟨_, rfl, [], rfl, by
  intro X_ Y_ F_ K_ hK_
  refine sh_ (mm25 w0 Z0 a0 a2 bx0 g1 gm0_1 gm0_2 v0_3 v2_4) X_ Y_ ?_
  refine mv_ ?_
  refine al_nil ?_
  exact fr_fin hK_ ()⟩, ⟨_, rfl, [], rfl, by
  intro X_ Y_ F_ K_ hK_
  refine sh_ (mm25 w0 Z0 a0 a2 bx0 g1 gm0_1 gm0_2 v0_3 v2_4) X_ Y_ ?_
  refine al_val (ov_load (i := 0) (v := (ag [(iq a2.Kind), (str a2.Name), (str a2.Text), (iq a2.N), v2_4])) rfl rfl Try.underlying32 sz32 rfl rfl rfl rfl) ?_
  refine al_nil ?_
  exact fr_fin hK_ ()⟩, trivial⟩ ?_
 intro _
 intro _
 intro _
 intro _
 intro _
 intro X_ Y_ F_ K_ hK_
 refine sh_ (mm25 w0 Z0 a0 a2 bx0 g1 gm0_1 gm0_2 v0_3 v2_4) X_ Y_ ?_
 obtain ⟨r14, hc13, h⟩ := opt_some h
 refine al_callX (vs := [(pq bx0), (str a2.Name), (str a2.Text)]) (f___disk_Disk__Rename_ok fu bx0 gm0_1 gm0_2 v0_3 a0 a2.Name a2.Text hc13) [] [1, 2, 3, 4] [0] pre_nil rfl (by simp) (by decide) rfl (.inl rfl) rfl Try.func19 rfl rfl rfl (fun ⟨g15, g16, v17⟩ => ?_)
 refine al_nil ?_
 refine aq_show (m := Mem.plus (mm27 w0 Z0 a0 a2 bx0 g1 g15 g16 gm0_1 gm0_2 r14 v0_3 v17 v2_4) X_ Y_) ?_
 refine aq_next hK_ [0, 1, 2, 3, 4] [0] [(0, (pq bx0)), (1, (Value.pointer none)), (5, (pq g1)), (6, (bool false)), (39, (iq r14.1))] [40, 41] [] rfl rfl (by decide) rfl ⟨rfl, rfl, rfl, rfl, rfl, trivial⟩ ⟨rfl, rfl, trivial⟩ ?_
 clear hK_ K_ F_ X_ Y_
 refine ta_show (m := (mm27 w0 Z0 a0 a2 bx0 g1 g15 g16 gm0_1 gm0_2 r14 v0_3 v17 v2_4)) (S := _) ?_
 refine ta_step 8 _ [6, 7] [40, 41] [6, 7] [9] [(sp_ 6 40 (Value.pointer none)), (sp_ 7 41 (ag [(iq a2.Kind), (str a2.Name), (str a2.Text), (iq a2.N), v2_4]))] [] rfl rfl rfl (by kernel_rfl) rfl rfl rfl ⟨⟨_, rfl, [], rfl, by
  intro X_ Y_ F_ K_ hK_
  refine sh_ (mm27 w0 Z0 a0 a2 bx0 g1 g15 g16 gm0_1 gm0_2 r14 v0_3 v17 v2_4) X_ Y_ ?_
  refine mv_ ?_
  refine al_nil ?_
  exact fr_fin hK_ ()⟩, ⟨_, rfl, [], rfl, by
  intro X_ Y_ F_ K_ hK_
  refine sh_ (mm27 w0 Z0 a0 a2 bx0 g1 g15 g16 gm0_1 gm0_2 r14 v0_3 v17 v2_4) X_ Y_ ?_
  refine al_val (ov_load (i := 4) (v := (ag [(iq a2.Kind), (str a2.Name), (str a2.Text), (iq a2.N), v2_4])) rfl rfl Try.underlying32 sz32 rfl rfl rfl rfl) ?_
  refine al_nil ?_
  exact fr_fin hK_ ()⟩, trivial⟩ ?_
 intro _
 intro _
 intro X_ Y_ F_ K_ hK_
 refine sh_ (mm27 w0 Z0 a0 a2 bx0 g1 g15 g16 gm0_1 gm0_2 r14 v0_3 v17 v2_4) X_ Y_ ?_
 obtain ⟨r19, hc18, h⟩ := opt_some h
 refine al_callX (vs := [(Value.pointer none), (ag [(iq a2.Kind), (str a2.Name), (str a2.Text), (iq a2.N), v2_4])]) (f___lumref_Disk__Change_nilp_ok fu v2_4 a2 hc18) [] [] [0, 1, 2, 3, 4] (pre_fz 0 rfl pre_nil) rfl (by simp) (by decide) rfl (.inl rfl) rfl Try.func20 rfl rfl rfl (fun _ => ?_)
 refine al_nil ?_
 refine aq_show (m := Mem.plus (mm27 w0 Z0 a0 a2 bx0 g1 g15 g16 gm0_1 gm0_2 r14 v0_3 v17 v2_4) X_ Y_) ?_
 refine aq_next hK_ [0, 1, 2, 3, 4] [0] [(0, (pq bx0)), (6, (bool false)), (39, (iq r14.1)), (42, (iq r19))] [] [(sp_ 9 43 (bool (r14.1 == r19)))] rfl rfl (by decide) rfl ⟨rfl, rfl, rfl, rfl, trivial⟩ trivial ?_
 clear hK_ K_ F_ X_ Y_
 refine ta_show (m := (mm27 w0 Z0 a0 a2 bx0 g1 g15 g16 gm0_1 gm0_2 r14 v0_3 v17 v2_4)) (S := _) ?_
 refine ta_step 10 _ [9] [43] [9] [] [(sp_ 9 43 (bool (r14.1 == r19)))] [] rfl rfl rfl (by kernel_rfl) rfl rfl rfl ⟨⟨_, rfl, [], rfl, by
  intro X_ Y_ F_ K_ hK_
  refine sh_ (mm27 w0 Z0 a0 a2 bx0 g1 g15 g16 gm0_1 gm0_2 r14 v0_3 v17 v2_4) X_ Y_ ?_
  refine in_ ?_
  refine al_nil ?_
  exact fr_fin hK_ ()⟩, trivial⟩ ?_
 intro _
 intro X_ Y_ F_ K_ hK_
 refine sh_ (mm27 w0 Z0 a0 a2 bx0 g1 g15 g16 gm0_1 gm0_2 r14 v0_3 v17 v2_4) X_ Y_ ?_
 refine as_ ?_
 refine al_nil ?_
 refine aq_show (m := Mem.plus (mm27 w0 Z0 a0 a2 bx0 g1 g15 g16 gm0_1 gm0_2 r14 v0_3 v17 v2_4) X_ Y_) ?_
 refine aq_next hK_ [0, 1, 2, 3, 4] [0] [(0, (pq bx0)), (6, (bool (r14.1 == r19)))] [] [] rfl rfl (by decide) rfl ⟨rfl, rfl, trivial⟩ trivial ?_
 clear hK_ K_ F_ X_ Y_
 refine ta_show (m := (mm27 w0 Z0 a0 a2 bx0 g1 g15 g16 gm0_1 gm0_2 r14 v0_3 v17 v2_4)) (S := _) ?_
 refine ta_end [] [] rfl rfl (by kernel_rfl) rfl trivial ?_
 refine aq_show (m := (mm27 w0 Z0 a0 a2 bx0 g1 g15 g16 gm0_1 gm0_2 r14 v0_3 v17 v2_4)) (S := (tab [(0, (pq bx0)), (6, (bool (r14.1 == r19)))])) ?_
 refine aq_then ?_
 refine aw_ret ?_
 refine aq_block_ret ?_
 refine aq_then_ret ?_
 cases h
 exact fn_ret (g15, g16, v17) [0, 1, 2, 3] [] rfl rfl rfl rfl (res1 rfl rfl) rfl rfl rfl (by decide)
 replace h := bif_f hb12 h
 refine aw_sr ?_
 refine in_ ?_
 refine an_ ?_
 refine aw_cond rfl (fun hb20 => ?_) (fun hb20 => ?_)
 replace h := bif_t hb20 h
 refine aw_seq ?_
 refine aw_region_open [(sp_ 0 46 (pq bx0)), (sp_ 1 47 (ptr g1 1)), (sp_ 2 48 (str a2.Name)), (sp_ 4 50 (Value.pointer none)), (sp_ 5 51 (ag [(iq a2.Kind), (str a2.Name), (str a2.Text), (iq a2.N), v2_4]))] (tab [(0, (pq bx0)), (1, (Value.pointer none)), (5, (pq g1)), (6, (bool false))]) mixed (fun a hs => hs.tab _ (allT_mem ⟨rfl, rfl, rfl, rfl, trivial⟩)) ?_
 refine ta_show (m := (mm25 w0 Z0 a0 a2 bx0 g1 gm0_1 gm0_2 v0_3 v2_4)) (S := _) ?_
 refine ta_step 3 _ [0, 1, 2, 4, 5] [46, 47, 48, 50, 51] [0, 1, 2] [] [(sp_ 0 46 (pq bx0)), (sp_ 1 47 (ptr g1 1)), (sp_ 2 48 (str a2.Name))] [(sp_ 4 50 (Value.pointer none)), (sp_ 5 51 (ag [(iq a2.Kind), (str a2.Name), (str a2.Text), (iq a2.N), v2_4]))] rfl rfl rfl (by kernel_rfl) rfl rfl rfl ⟨⟨_, rfl, [], rfl, by
  intro X_ Y_ F_ K_ hK_
  refine sh_ (mm25 w0 Z0 a0 a2 bx0 g1 gm0_1 gm0_2 v0_3 v2_4) X_ Y_ ?_
  refine mv_ ?_
  refine al_nil ?_
  exact fr_fin hK_ ()⟩, ⟨_, rfl, [], rfl, by
  intro X_ Y_ F_ K_ hK_
  refine sh_ (mm25 w0 Z0 a0 a2 bx0 g1 gm0_1 gm0_2 v0_3 v2_4) X_ Y_ ?_
  refine al_val (ov_fieldA (p := 1) rfl Try.underlying32 rfl sz9 rfl rfl rfl) ?_
  refine al_nil ?_
  exact fr_fin hK_ ()⟩, ⟨_, rfl, [1], rfl, by
  intro _
  intro X_ Y_ F_ K_ hK_
  refine sh_ (mm25 w0 Z0 a0 a2 bx0 g1 gm0_1 gm0_2 v0_3 v2_4) X_ Y_ ?_
  refine al_val (ov_load (i := 0) (v := (str a2.Name)) rfl rfl Try.underlying9 sz9 rfl rfl rfl rfl) ?_
  refine al_nil ?_
  exact fr_fin hK_ ()⟩, ⟨_, rfl, [], rfl, by
  intro X_ Y_ F_ K_ hK_
  refine sh_ (mm25 w0 Z0 a0 a2 bx0 g1 gm0_1 gm0_2 v0_3 v2_4) X_ Y_ ?_
  refine mv_ ?_
  refine al_nil ?_
  exact fr_fin hK_ ()⟩, ⟨_, rfl, [], rfl, by
  intro X_ Y_ F_ K_ hK_
  refine sh_ (mm25 w0 Z0 a0 a2 bx0 g1 gm0_1 gm0_2 v0_3 v2_4) X_ Y_ ?_
  refine al_val (ov_load (i := 0) (v := (ag [(iq a2.Kind), (str a2.Name), (str a2.Text), (iq a2.N), v2_4])) rfl rfl Try.underlying32 sz32 rfl rfl rfl rfl) ?_
  refine al_nil ?_
  exact fr_fin hK_ ()⟩, trivial⟩ ?_
 intro _
 intro _
 intro _
 intro X_ Y_ F_ K_ hK_
 refine sh_ (mm25 w0 Z0 a0 a2 bx0 g1 gm0_1 gm0_2 v0_3 v2_4) X_ Y_ ?_
 obtain ⟨r22, hc21, h⟩ := opt_some h
 refine al_callX (vs := [(pq bx0), (str a2.Name)]) (f___disk_Disk__Remove_ok fu bx0 gm0_1 gm0_2 v0_3 a0 a2.Name hc21) [] [1, 2, 3, 4] [0] pre_nil rfl (by simp) (by decide) rfl (.inl rfl) rfl Try.func21 rfl rfl rfl (fun ⟨g23, g24, v25⟩ => ?_)
 refine al_nil ?_
 refine aq_show (m := Mem.plus (mm28 w0 Z0 a0 a2 bx0 g1 g23 g24 gm0_1 gm0_2 r22 v0_3 v25 v2_4) X_ Y_) ?_
 refine aq_next hK_ [0, 1, 2, 3, 4] [0] [(0, (pq bx0)), (1, (Value.pointer none)), (5, (pq g1)), (6, (bool false)), (49, (iq r22.1))] [50, 51] [] rfl rfl (by decide) rfl ⟨rfl, rfl, rfl, rfl, rfl, trivial⟩ ⟨rfl, rfl, trivial⟩ ?_
 clear hK_ K_ F_ X_ Y_
 refine ta_show (m := (mm28 w0 Z0 a0 a2 bx0 g1 g23 g24 gm0_1 gm0_2 r22 v0_3 v25 v2_4)) (S := _) ?_
 refine ta_step 6 _ [4, 5] [50, 51] [4, 5] [7] [(sp_ 4 50 (Value.pointer none)), (sp_ 5 51 (ag [(iq a2.Kind), (str a2.Name), (str a2.Text), (iq a2.N), v2_4]))] [] rfl rfl rfl (by kernel_rfl) rfl rfl rfl ⟨⟨_, rfl, [], rfl, by
  intro X_ Y_ F_ K_ hK_
  refine sh_ (mm28 w0 Z0 a0 a2 bx0 g1 g23 g24 gm0_1 gm0_2 r22 v0_3 v25 v2_4) X_ Y_ ?_
  refine mv_ ?_
  refine al_nil ?_
  exact fr_fin hK_ ()⟩, ⟨_, rfl, [], rfl, by
  intro X_ Y_ F_ K_ hK_
  refine sh_ (mm28 w0 Z0 a0 a2 bx0 g1 g23 g24 gm0_1 gm0_2 r22 v0_3 v25 v2_4) X_ Y_ ?_
  refine al_val (ov_load (i := 4) (v := (ag [(iq a2.Kind), (str a2.Name), (str a2.Text), (iq a2.N), v2_4])) rfl rfl Try.underlying32 sz32 rfl rfl rfl rfl) ?_
  refine al_nil ?_
  exact fr_fin hK_ ()⟩, trivial⟩ ?_
 intro _
 intro _
 intro X_ Y_ F_ K_ hK_
 refine sh_ (mm28 w0 Z0 a0 a2 bx0 g1 g23 g24 gm0_1 gm0_2 r22 v0_3 v25 v2_4) X_ Y_ ?_
 obtain ⟨r27, hc26, h⟩ := opt_some h
 refine al_callX (vs := [(Value.pointer none), (ag [(iq a2.Kind), (str a2.Name), (str a2.Text), (iq a2.N), v2_4])]) (f___lumref_Disk__Change_nilp_ok fu v2_4 a2 hc26) [] [] [0, 1, 2, 3, 4] (pre_fz 0 rfl pre_nil) rfl (by simp) (by decide) rfl (.inl rfl) rfl Try.func20 rfl rfl rfl (fun _ => ?_)
 refine al_nil ?_
 refine aq_show (m := Mem.plus (mm28 w0 Z0 a0 a2 bx0 g1 g23 g24 gm0_1 gm0_2 r22 v0_3 v25 v2_4) X_ Y_) ?_
 refine aq_next hK_ [0, 1, 2, 3, 4] [0] [(0, (pq bx0)), (6, (bool false)), (49, (iq r22.1)), (52, (iq r27))] [] [(sp_ 7 53 (bool (r22.1 == r27)))] rfl rfl (by decide) rfl ⟨rfl, rfl, rfl, rfl, trivial⟩ trivial ?_
 clear hK_ K_ F_ X_ Y_
 refine ta_show (m := (mm28 w0 Z0 a0 a2 bx0 g1 g23 g24 gm0_1 gm0_2 r22 v0_3 v25 v2_4)) (S := _) ?_
 refine ta_step 8 _ [7] [53] [7] [] [(sp_ 7 53 (bool (r22.1 == r27)))] [] rfl rfl rfl (by kernel_rfl) rfl rfl rfl ⟨⟨_, rfl, [], rfl, by
  intro X_ Y_ F_ K_ hK_
  refine sh_ (mm28 w0 Z0 a0 a2 bx0 g1 g23 g24 gm0_1 gm0_2 r22 v0_3 v25 v2_4) X_ Y_ ?_
  refine in_ ?_
  refine al_nil ?_
  exact fr_fin hK_ ()⟩, trivial⟩ ?_
 intro _
 intro X_ Y_ F_ K_ hK_
 refine sh_ (mm28 w0 Z0 a0 a2 bx0 g1 g23 g24 gm0_1 gm0_2 r22 v0_3 v25 v2_4) X_ Y_ ?_
 refine as_ ?_
 refine al_nil ?_
 refine aq_show (m := Mem.plus (mm28 w0 Z0 a0 a2 bx0 g1 g23 g24 gm0_1 gm0_2 r22 v0_3 v25 v2_4) X_ Y_) ?_
 refine aq_next hK_ [0, 1, 2, 3, 4] [0] [(0, (pq bx0)), (6, (bool (r22.1 == r27)))] [] [] rfl rfl (by decide) rfl ⟨rfl, rfl, trivial⟩ trivial ?_
 clear hK_ K_ F_ X_ Y_
 refine ta_show (m := (mm28 w0 Z0 a0 a2 bx0 g1 g23 g24 gm0_1 gm0_2 r22 v0_3 v25 v2_4)) (S := _) ?_
 refine ta_end [] [] rfl rfl (by kernel_rfl) rfl trivial ?_
 refine aq_show (m := (mm28 w0 Z0 a0 a2 bx0 g1 g23 g24 gm0_1 gm0_2 r22 v0_3 v25 v2_4)) (S := (tab [(0, (pq bx0)), (6, (bool (r22.1 == r27)))])) ?_
 refine aq_then ?_
 refine aw_ret ?_
 refine aq_block_ret ?_
 refine aq_then_ret ?_
 cases h
 exact fn_ret (g23, g24, v25) [0, 1, 2, 3] [] rfl rfl rfl rfl (res1 rfl rfl) rfl rfl rfl (by decide)
 replace h := bif_f hb20 h
 refine aw_sr ?_
 refine in_ ?_
 refine an_ ?_
 refine aw_cond rfl (fun hb28 => ?_) (fun hb28 => ?_)
 replace h := bif_t hb28 h
 refine sm_ ?_
 obtain ⟨r30, hc29, h⟩ := opt_some h
 refine al_call (vs := [(pq bx0)]) (f___disk_Disk__Sync_ok fu bx0 gm0_1 gm0_2 v0_3 a0 hc29) [] [1, 2, 3, 4] [0] pre_nil rfl (by simp) (by decide) (.inl rfl) rfl Try.func22 rfl rfl rfl (fun ⟨g31, g32, v33⟩ => ?_)
 refine mv_ ?_
 obtain ⟨r35, hc34, h⟩ := opt_some h
 refine al_call (vs := [(Value.pointer none)]) (f___lumref_Disk__Sync_nilp_ok fu  hc34) [] [] [0, 1, 2, 3, 4] pre_nil rfl (by simp) (by decide) (.inl rfl) rfl Try.func23 rfl rfl rfl (fun _ => ?_)
 refine in_ ?_
 refine an_ ?_
 refine aw_ret ?_
 refine aq_block_ret ?_
 refine aq_then_ret ?_
 cases h
 exact fn_ret (g31, g32, v33) [0, 1, 2, 3] [] rfl rfl rfl rfl (res1 rfl rfl) rfl rfl rfl (by decide)
 replace h := bif_f hb28 h
 refine aw_sr ?_
 refine in_ ?_
 refine an_ ?_
 refine aw_cond rfl (fun hb36 => ?_) (fun hb36 => ?_)
 replace h := bif_t hb36 h
 refine sm_ ?_
 refine al_val (ov_fieldA (p := 1) rfl Try.underlying32 rfl sz9 rfl rfl rfl) ?_
 refine al_val (ov_load (i := 0) (v := (str a2.Name)) rfl rfl Try.underlying9 sz9 rfl rfl rfl rfl) ?_
 obtain ⟨r38, hc37, h⟩ := opt_some h
 refine al_call (vs := [(pq bx0), (str a2.Name)]) (f___disk_Disk__Read_ok fu bx0 gm0_1 gm0_2 v0_3 a0 a2.Name hc37) [] [1, 2, 3, 4] [0] pre_nil rfl (by simp) (by decide) (.inl rfl) rfl Try.func24 rfl rfl rfl (fun ⟨g39, g40, v41⟩ => ?_)
 refine mv_ ?_
 refine al_ex rfl rfl rfl ?_
 refine al_ex rfl rfl rfl ?_
 refine as_ ?_
 refine an_ ?_
 refine sm_ ?_
 refine al_val (ov_fieldA (p := 1) rfl Try.underlying32 rfl sz9 rfl rfl rfl) ?_
 refine al_val (ov_load (i := 4) (v := (str a2.Name)) rfl rfl Try.underlying9 sz9 rfl rfl rfl rfl) ?_
 obtain ⟨r43, hc42, h⟩ := opt_some h
 refine al_call (vs := [(Value.pointer none), (str a2.Name)]) (f___lumref_Disk__Read_nilp_ok fu a2.Name hc42) [] [] [0, 1, 2, 3, 4] pre_nil rfl (by simp) (by decide) (.inl rfl) rfl Try.func25 rfl rfl rfl (fun _ => ?_)
 refine mv_ ?_
 refine al_ex rfl rfl rfl ?_
 refine al_ex rfl rfl rfl ?_
 refine as_ ?_
 refine an_ ?_
 obtain ⟨kk45, hkk45, h⟩ := lt_some h
 refine aw_seq_join (ι := Bool) (fun i => (mm29 w0 Z0 a0 a2 bx0 g39 g40 gm0_1 gm0_2 r38 v0_3 v2_4 v41)) (fun i => (tab [(0, (pq bx0)), (6, (bool i))])) (fun i => kk45 i = some r) ?_ ?_
 rintro j44b6 h
 have h : kk45 j44b6 = some r := h
 rw [hkk45] at h
 dsimp only at h
 clear hkk45
 refine aw_show (m := (mm29 w0 Z0 a0 a2 bx0 g39 g40 gm0_1 gm0_2 r38 v0_3 v2_4 v41)) (S := _) ?_
 refine aw_ret ?_
 refine aq_block_ret ?_
 refine aq_then_ret ?_
 cases h
 exact fn_ret (g39, g40, v41) [3, 0, 1, 2] [] rfl rfl rfl rfl (res1 rfl rfl) rfl rfl rfl (by decide)
 clear hkk45
 refine aw_region ?_
 refine mv_ ?_
 refine mv_ ?_
 refine al_val (ov_strCmp rfl rfl rfl rfl) ?_
 refine mv_ ?_
 refine al_caseB 80 rfl (fun hb46 => ?_) (fun hb46 => ?_)
 replace h := bif_t hb46 h
 refine mv_ ?_
 refine mv_ ?_
 refine in_ ?_
 refine al_val (ov_pick_t rfl rfl rfl) ?_
 refine as_ ?_
 refine al_nil ?_
 exact aq_join (r38.2.1 == r43.2) h (nm_ [1, 2, 3, 0] [0] (by decide) ⟨rfl, rfl, trivial⟩)
 replace h := bif_f hb46 h
 iterate 3 refine al_skip ?_
 refine al_val (ov_pick_f rfl rfl rfl) ?_
 refine as_ ?_
 refine al_nil ?_
 exact aq_join false h (nm_ [1, 2, 3, 0] [0] (by decide) ⟨rfl, rfl, trivial⟩)
 replace h := bif_f hb36 h
 refine aw_sr ?_
 refine in_ ?_
 refine an_ ?_
 refine aw_cond rfl (fun hb47 => ?_) (fun hb47 => ?_)
 replace h := bif_t hb47 h
 refine sm_ ?_
 obtain ⟨r49, hc48, h⟩ := opt_some h
 refine al_call (vs := [(pq bx0)]) (f___disk_Disk__List_ok fu bx0 gm0_1 gm0_2 v0_3 a0 hc48) [] [1, 2, 3, 4] [0] pre_nil rfl (by simp) (by decide) (.inl rfl) rfl Try.func26 rfl rfl rfl (fun ⟨v50, g51, g52, v53⟩ => ?_)
 refine mv_ ?_
 refine al_ex rfl rfl rfl ?_
 refine al_ex rfl rfl rfl ?_
 refine as_ ?_
 refine an_ ?_
 refine sm_ ?_
 obtain ⟨r55, hc54, h⟩ := opt_some h
 refine al_call (vs := [(Value.pointer none)]) (f___lumref_Disk__List_nilp_ok fu  hc54) [] [] [0, 1, 2, 3, 4, 5] pre_nil rfl (by simp) (by decide) (.inl rfl) rfl Try.func27 rfl rfl rfl (fun v56 => ?_)
 refine mv_ ?_
 refine al_ex rfl rfl rfl ?_
 refine al_ex rfl rfl rfl ?_
 refine as_ ?_
 refine an_ ?_
 obtain ⟨kk58, hkk58, h⟩ := lt_some h
 refine aw_seq_join (ι := Bool) (fun i => (mm30 w0 Z0 a0 a2 bx0 g51 g52 gm0_1 gm0_2 r49 v0_3 v2_4 v53)) (fun i => (tab [(0, (pq bx0)), (6, (bool i))])) (fun i => kk58 i = some r) ?_ ?_
 rintro j57b6 h
 have h : kk58 j57b6 = some r := h
 rw [hkk58] at h
 dsimp only at h
 clear hkk58
 refine aw_show (m := (mm30 w0 Z0 a0 a2 bx0 g51 g52 gm0_1 gm0_2 r49 v0_3 v2_4 v53)) (S := _) ?_
 refine aw_ret ?_
 refine aq_block_ret ?_
 refine aq_then_ret ?_
 cases h
 exact fn_ret (g51, g52, v53) [3, 0, 1, 2] [] rfl rfl rfl rfl (res1 rfl rfl) rfl rfl rfl (by decide)
 clear hkk58
 refine aw_region ?_
 refine mv_ ?_
 refine mv_ ?_
 obtain ⟨r60, hc59, h⟩ := opt_some h
 refine al_call (vs := [v50, v56]) (f_slices_Equal___string_string__ok fu v50 r49.1 v56 r55.1 hc59) [0, 1] [] [0, 1, 2, 3, 4, 5, 6] (pre_own 1 rfl rfl (pre_own 0 rfl rfl pre_nil)) rfl (by simp) (by decide) (.inr flat_res0) rfl Try.func28 rfl rfl rfl (fun _ => ?_)
 refine mv_ ?_
 refine al_caseB 100 rfl (fun hb61 => ?_) (fun hb61 => ?_)
 replace h := bif_t hb61 h
 refine mv_ ?_
 refine mv_ ?_
 refine in_ ?_
 refine al_val (ov_pick_t rfl rfl rfl) ?_
 refine as_ ?_
 refine al_nil ?_
 exact aq_join (r49.2.1 == r55.2) h (nm_ [3, 4, 5, 2] [0] (by decide) ⟨rfl, rfl, trivial⟩)
 replace h := bif_f hb61 h
 iterate 3 refine al_skip ?_
 refine al_val (ov_pick_f rfl rfl rfl) ?_
 refine as_ ?_
 refine al_nil ?_
 exact aq_join false h (nm_ [3, 4, 5, 2] [0] (by decide) ⟨rfl, rfl, trivial⟩)
 replace h := bif_f hb47 h
 refine aw_sr ?_
 refine in_ ?_
 refine an_ ?_
 refine aw_cond rfl (fun hb62 => ?_) (fun hb62 => ?_)
 replace h := bif_t hb62 h
 refine sm_ ?_
 refine al_val (ov_fieldA (p := 3) rfl Try.underlying32 rfl sz3 rfl rfl rfl) ?_
 refine al_val (ov_load (i := 0) (v := (iq a2.N)) rfl rfl Try.underlying3 sz3 rfl rfl rfl rfl) ?_
 obtain ⟨r64, hc63, h⟩ := opt_some h
 refine al_call (vs := [(pq bx0), (iq a2.N)]) (f___disk_Disk__Fuse_ok fu bx0 gm0_1 gm0_2 v0_3 a0 a2.N hc63) [] [1, 2, 3, 4] [0] pre_nil rfl (by simp) (by decide) (.inl rfl) rfl Try.func29 rfl rfl rfl (fun ⟨g65, g66, v67⟩ => ?_)
 refine al_nt ?_
 refine aw_region ?_
 refine mv_ ?_
 refine al_val (ov_fieldA (p := 3) rfl Try.underlying32 rfl sz3 rfl rfl rfl) ?_
 refine al_val (ov_load (i := 4) (v := (iq a2.N)) rfl rfl Try.underlying3 sz3 rfl rfl rfl rfl) ?_
 obtain ⟨r69, hc68, h⟩ := opt_some h
 refine al_call (vs := [(Value.pointer none), (iq a2.N)]) (f___lumref_Disk__Fuse_nilp_ok fu a2.N hc68) [] [] [0, 1, 2, 3, 4] pre_nil rfl (by simp) (by decide) (.inl rfl) rfl Try.func30 rfl rfl rfl (fun _ => ?_)
 refine al_nil ?_
 refine aq_block ?_
 exact aq_join (r64.room, g65, r64.files, g66, r64.durable, v67, r64.changes, r64.fused, r64.left) h (nm_ [1, 2, 3, 0] [0] (by decide) ⟨rfl, trivial⟩)
 replace h := bif_f hb62 h
 refine aw_sr ?_
 refine in_ ?_
 refine an_ ?_
 refine aw_cond rfl (fun hb70 => ?_) (fun hb70 => ?_)
 replace h := bif_t hb70 h
 refine sm_ ?_
 refine al_val (ov_fieldA (p := 4) rfl Try.underlying32 rfl sz30 rfl rfl rfl) ?_
 refine al_val (ov_load (i := 0) (v := v2_4) rfl rfl Try.underlying30 sz30 rfl rfl rfl rfl) ?_
 obtain ⟨r72, hc71, h⟩ := opt_some h
 refine al_call (vs := [(pq bx0), v2_4]) (f___disk_Disk__Crash_ok fu bx0 gm0_1 gm0_2 v0_3 a0 v2_4 a2.Keep hc71) [] [1, 2, 3, 4] [0] (pre_fz 0 rfl pre_nil) rfl (by simp) (by decide) (.inl rfl) rfl Try.func31 rfl rfl rfl (fun ⟨g73, g74, v75⟩ => ?_)
 refine al_nt ?_
 refine aw_region ?_
 refine mv_ ?_
 refine al_val (ov_fieldA (p := 4) rfl Try.underlying32 rfl sz30 rfl rfl rfl) ?_
 refine al_val (ov_load (i := 4) (v := v2_4) rfl rfl Try.underlying30 sz30 rfl rfl rfl rfl) ?_
 obtain ⟨r77, hc76, h⟩ := opt_some h
 refine al_call (vs := [(Value.pointer none), v2_4]) (f___lumref_Disk__Crash_nilp_ok fu v2_4 a2.Keep hc76) [] [] [0, 1, 2, 3, 4] (pre_fz 0 rfl pre_nil) rfl (by simp) (by decide) (.inl rfl) rfl Try.func32 rfl rfl rfl (fun _ => ?_)
 refine al_nil ?_
 refine aq_block ?_
 exact aq_join (r72.room, g73, r72.files, g74, r72.durable, v75, r72.changes, r72.fused, r72.left) h (nm_ [1, 2, 3, 0] [0] (by decide) ⟨rfl, trivial⟩)
 replace h := bif_f hb70 h
 refine aw_skip ?_
 refine aq_block ?_
 exact aq_join (a0.room, gm0_1, a0.files, gm0_2, a0.durable, v0_3, a0.changes, a0.fused, a0.left) h (nm_ [2, 3, 4, 1] [0] (by decide) ⟨rfl, trivial⟩)
def f_lumlaw_SameFiles_nilp_L17 (r2 : ((List (List UInt8)) × Int × D_disk_Disk)) (kk14 : (Int → (List ((List UInt8) × (List UInt8))) → (List ((List UInt8) × (List UInt8))) → (List I114) → Bool → Int → Option (Bool × D_disk_Disk))) (fu : Nat) : Nat → Int → (List ((List UInt8) × (List UInt8))) → (List ((List UInt8) × (List UInt8))) → (List I114) → Bool → Int → Int → Option (Bool × D_disk_Disk)
  | 0, _, _, _, _, _, _, _ => none
  | k16 + 1, l15i0_0, l15xm0_1, l15xm0_2, l15x0_3, l15b0_4, l15i0_5, l15i36 => (bif (decide (l15i36 < (r2.1.length : Int))) then (opt (at? r2.1 l15i36) fun (u19 : (List UInt8)) => (opt (f___disk_Disk__Read fu (D_disk_Disk.mk l15i0_0 l15xm0_1 l15xm0_2 l15x0_3 l15b0_4 l15i0_5) u19) fun (r24 : ((List UInt8) × Int × D_disk_Disk)) => (opt (f___lumref_Disk__Read_nilp fu u19) fun (r29 : ((List UInt8) × Int)) => (lt (fun (j30b59 : Bool) => (bif j30b59 then (some (false, r24.2.2)) else (f_lumlaw_SameFiles_nilp_L17 r2 kk14 fu k16 r24.2.2.room r24.2.2.files r24.2.2.durable r24.2.2.changes r24.2.2.fused r24.2.2.left (IntKind.i64.wrap (l15i36 + (1 : Int)))))) fun (kk31 : Bool → Option (Bool × D_disk_Disk)) => (bif (!(r24.1 == r29.1)) then (kk31 true) else (kk31 (r24.2.1 != r29.2))))))) else (kk14 l15i0_0 l15xm0_1 l15xm0_2 l15x0_3 l15b0_4 l15i0_5))
def f_lumlaw_SameFiles_nilp (fu : Nat) (a0 : D_disk_Disk) : Option (Bool × D_disk_Disk) := (opt (f___disk_Disk__List fu a0) fun (r2 : ((List (List UInt8)) × Int × D_disk_Disk)) => (opt (f___lumref_Disk__List_nilp fu ) fun (r8 : ((List (List UInt8)) × Int)) => (lt (fun (j10b33 : Bool) => (bif j10b33 then (some (false, r2.2.2)) else (lt (fun (j13i0_0 : Int) (j13xm0_1 : (List ((List UInt8) × (List UInt8)))) (j13xm0_2 : (List ((List UInt8) × (List UInt8)))) (j13x0_3 : (List I114)) (j13b0_4 : Bool) (j13i0_5 : Int) => (some (true, (D_disk_Disk.mk j13i0_0 j13xm0_1 j13xm0_2 j13x0_3 j13b0_4 j13i0_5)))) fun (kk14 : Int → (List ((List UInt8) × (List UInt8))) → (List ((List UInt8) × (List UInt8))) → (List I114) → Bool → Int → Option (Bool × D_disk_Disk)) => (f_lumlaw_SameFiles_nilp_L17 r2 kk14 fu fu r2.2.2.room r2.2.2.files r2.2.2.durable r2.2.2.changes r2.2.2.fused r2.2.2.left (0 : Int))))) fun (kk11 : Bool → Option (Bool × D_disk_Disk)) => (bif (r2.2.1 != r8.2) then (kk11 true) else (opt (f_slices_Equal___string_string_ fu r2.1 r8.1) fun (r36 : Bool) => (kk11 (!r36)))))))
abbrev mm31 (w0 : World) (Z0 : Nat → Prop) (a0 : D_disk_Disk) (bx0 : Nat) (g4 : Nat) (g5 : Nat) (gm0_1 : Nat) (gm0_2 : Nat) (r2 : ((List (List UInt8)) × Int × D_disk_Disk)) (v0_3 : Value) (v3 : Value) (v6 : Value) : Mem := memOf w0 Z0 [(oBox bx0 54 [(int .i64 a0.room), (Value.map (some gm0_1)), (Value.map (some gm0_2)), v0_3, (bool a0.fused), (int .i64 a0.left)]), (oMapK Try.prog 9 gm0_1 str str a0.files), (oMapK Try.prog 9 gm0_2 str str a0.durable), (oRow v0_3 114 tyI114 a0.changes)] [(oMapK Try.prog 9 g4 str str r2.2.2.files), (oMapK Try.prog 9 g5 str str r2.2.2.durable), (oRow v6 114 tyI114 r2.2.2.changes), (oBox bx0 54 [(int .i64 r2.2.2.room), (Value.map (some g4)), (Value.map (some g5)), v6, (bool r2.2.2.fused), (int .i64 r2.2.2.left)]), (oRow v3 9 tyStr r2.1)] []
abbrev mm32 (w0 : World) (Z0 : Nat → Prop) (a0 : D_disk_Disk) (bx0 : Nat) (g25 : Nat) (g26 : Nat) (gm0_1 : Nat) (gm0_2 : Nat) (r2 : ((List (List UInt8)) × Int × D_disk_Disk)) (r24 : ((List UInt8) × Int × D_disk_Disk)) (v0_3 : Value) (v27 : Value) (v3 : Value) : Mem := memOf w0 Z0 [(oBox bx0 54 [(int .i64 a0.room), (Value.map (some gm0_1)), (Value.map (some gm0_2)), v0_3, (bool a0.fused), (int .i64 a0.left)]), (oMapK Try.prog 9 gm0_1 str str a0.files), (oMapK Try.prog 9 gm0_2 str str a0.durable), (oRow v0_3 114 tyI114 a0.changes)] [(oMapK Try.prog 9 g25 str str r24.2.2.files), (oMapK Try.prog 9 g26 str str r24.2.2.durable), (oRow v27 114 tyI114 r24.2.2.changes), (oBox bx0 54 [(int .i64 r24.2.2.room), (Value.map (some g25)), (Value.map (some g26)), v27, (bool r24.2.2.fused), (int .i64 r24.2.2.left)]), (oRow v3 9 tyStr r2.1)] []
set_option maxHeartbeats 2000000 in
set_option maxRecDepth 100000 in
theorem f_lumlaw_SameFiles_nilp_ok (fu : Nat) (bx0 : Nat) (gm0_1 : Nat) (gm0_2 : Nat) (v0_3 : Value) (a0 : D_disk_Disk) {r : (Bool × D_disk_Disk)} (h : f_lumlaw_SameFiles_nilp fu a0 = some r) : FnOk Try.prog 8 [(ptr bx0 0), (Value.pointer none)] [] [(oBox bx0 54 [(int .i64 a0.room), (Value.map (some gm0_1)), (Value.map (some gm0_2)), v0_3, (bool a0.fused), (int .i64 a0.left)]), (oMapK Try.prog 9 gm0_1 str str a0.files), (oMapK Try.prog 9 gm0_2 str str a0.durable), (oRow v0_3 114 tyI114 a0.changes)] (fun (i : Nat × Nat × Value) => { val := (bool r.1), own := [(oBox bx0 54 [(int .i64 r.2.room), (Value.map (some i.1)), (Value.map (some i.2.1)), i.2.2, (bool r.2.fused), (int .i64 r.2.left)]), (oMapK Try.prog 9 i.1 str str r.2.files), (oMapK Try.prog 9 i.2.1 str str r.2.durable), (oRow i.2.2 114 tyI114 r.2.changes)] }) := by
 unfold f_lumlaw_SameFiles_nilp at h
 refine fn_enter Try.func8 rfl Try.ntmps8 rfl (fun w0 Z0 => ?_)
 refine aw_sr ?_
 refine an_ ?_
 refine sm_ ?_
 obtain ⟨r2, hc1, h⟩ := opt_some h
 refine al_call (vs := [(pq bx0)]) (f___disk_Disk__List_ok fu bx0 gm0_1 gm0_2 v0_3 a0 hc1) [] [0, 1, 2, 3] [] pre_nil rfl (by simp) (by decide) (.inl rfl) rfl Try.func26 rfl rfl rfl (fun ⟨v3, g4, g5, v6⟩ => ?_)
 refine mv_ ?_
 refine al_ex rfl rfl rfl ?_
 refine al_ex rfl rfl rfl ?_
 refine as_ ?_
 refine an_ ?_
 refine sm_ ?_
 obtain ⟨r8, hc7, h⟩ := opt_some h
 refine al_call (vs := [(Value.pointer none)]) (f___lumref_Disk__List_nilp_ok fu  hc7) [] [] [0, 1, 2, 3, 4] pre_nil rfl (by simp) (by decide) (.inl rfl) rfl Try.func27 rfl rfl rfl (fun v9 => ?_)
 refine mv_ ?_
 refine al_ex rfl rfl rfl ?_
 refine al_ex rfl rfl rfl ?_
 refine as_ ?_
 refine an_ ?_
 refine aw_seq ?_
 obtain ⟨kk11, hkk11, h⟩ := lt_some h
 refine aw_seq_join (ι := Bool) (fun i => (mm31 w0 Z0 a0 bx0 g4 g5 gm0_1 gm0_2 r2 v0_3 v3 v6)) (fun i => (tab [(0, (pq bx0)), (1, (Value.pointer none)), (5, v3), (33, (bool i))])) (fun i => kk11 i = some r) ?_ ?_
 rintro j10b33 h
 have h : kk11 j10b33 = some r := h
 rw [hkk11] at h
 dsimp only at h
 clear hkk11
 refine aw_show (m := (mm31 w0 Z0 a0 bx0 g4 g5 gm0_1 gm0_2 r2 v0_3 v3 v6)) (S := _) ?_
 refine aw_cond rfl (fun hb12 => ?_) (fun hb12 => ?_)
 replace h := bif_t hb12 h
 refine aw_sr ?_
 refine an_ ?_
 refine aw_ret ?_
 refine aq_then_ret ?_
 cases h
 exact fn_ret (g4, g5, v6) [3, 0, 1, 2] [] rfl rfl rfl rfl (res1 rfl rfl) rfl rfl rfl (by decide)
 replace h := bif_f hb12 h
 refine aw_skip ?_
 refine aq_then ?_
 obtain ⟨kk14, hkk14, h⟩ := lt_some h
 refine aw_seq_join (ι := Int × Nat × (List ((List UInt8) × (List UInt8))) × Nat × (List ((List UInt8) × (List UInt8))) × Value × (List I114) × Bool × Int) (fun i => (memOf w0 Z0 [(oBox bx0 54 [(iq a0.room), (Value.map (some gm0_1)), (Value.map (some gm0_2)), v0_3, (bool a0.fused), (iq a0.left)]), (oMapK Try.prog 9 gm0_1 str str a0.files), (oMapK Try.prog 9 gm0_2 str str a0.durable), (oRow v0_3 114 tyI114 a0.changes)] [(oMapK Try.prog 9 i.2.1 str str i.2.2.1), (oMapK Try.prog 9 i.2.2.2.1 str str i.2.2.2.2.1), (oRow i.2.2.2.2.2.1 114 tyI114 i.2.2.2.2.2.2.1), (oBox bx0 54 [(iq i.1), (Value.map (some i.2.1)), (Value.map (some i.2.2.2.1)), i.2.2.2.2.2.1, (bool i.2.2.2.2.2.2.2.1), (iq i.2.2.2.2.2.2.2.2)])] [])) (fun i => (tab [(0, (pq bx0))])) (fun i => kk14 i.1 i.2.2.1 i.2.2.2.2.1 i.2.2.2.2.2.2.1 i.2.2.2.2.2.2.2.1 i.2.2.2.2.2.2.2.2 = some r) ?_ ?_
 rintro ⟨j13i0_0, j13g0_1, j13xm0_1, j13g0_2, j13xm0_2, j13v0_3, j13x0_3, j13b0_4, j13i0_5⟩ h
 have h : kk14 j13i0_0 j13xm0_1 j13xm0_2 j13x0_3 j13b0_4 j13i0_5 = some r := h
 rw [hkk14] at h
 dsimp only at h
 clear hkk14
 refine aw_show (m := (memOf w0 Z0 [(oBox bx0 54 [(iq a0.room), (Value.map (some gm0_1)), (Value.map (some gm0_2)), v0_3, (bool a0.fused), (iq a0.left)]), (oMapK Try.prog 9 gm0_1 str str a0.files), (oMapK Try.prog 9 gm0_2 str str a0.durable), (oRow v0_3 114 tyI114 a0.changes)] [(oMapK Try.prog 9 j13g0_1 str str j13xm0_1), (oMapK Try.prog 9 j13g0_2 str str j13xm0_2), (oRow j13v0_3 114 tyI114 j13x0_3), (oBox bx0 54 [(iq j13i0_0), (Value.map (some j13g0_1)), (Value.map (some j13g0_2)), j13v0_3, (bool j13b0_4), (iq j13i0_5)])] [])) (S := _) ?_
 refine aw_sr ?_
 refine an_ ?_
 refine aw_ret ?_
 cases h
 exact fn_ret (j13g0_1, j13g0_2, j13v0_3) [3, 0, 1, 2] [] rfl rfl rfl rfl (res1 rfl rfl) rfl rfl rfl (by decide)
 clear hkk14
 refine sm_ ?_
 refine al_val (ov_lenR 4 rfl rfl Try.underlying64 rfl) ?_
 refine mv_ ?_
 refine al_nt ?_
 refine aw_block ?_
 refine aw_state (aw_loop (ι := Int × Nat × (List ((List UInt8) × (List UInt8))) × Nat × (List ((List UInt8) × (List UInt8))) × Value × (List I114) × Bool × Int × Int) (fun i => (memOf w0 Z0 [(oBox bx0 54 [(iq a0.room), (Value.map (some gm0_1)), (Value.map (some gm0_2)), v0_3, (bool a0.fused), (iq a0.left)]), (oMapK Try.prog 9 gm0_1 str str a0.files), (oMapK Try.prog 9 gm0_2 str str a0.durable), (oRow v0_3 114 tyI114 a0.changes)] [(oMapK Try.prog 9 i.2.1 str str i.2.2.1), (oMapK Try.prog 9 i.2.2.2.1 str str i.2.2.2.2.1), (oRow i.2.2.2.2.2.1 114 tyI114 i.2.2.2.2.2.2.1), (oBox bx0 54 [(iq i.1), (Value.map (some i.2.1)), (Value.map (some i.2.2.2.1)), i.2.2.2.2.2.1, (bool i.2.2.2.2.2.2.2.1), (iq i.2.2.2.2.2.2.2.2.1)]), (oRow v3 9 tyStr r2.1)] [])) (fun i => (tab [(0, (pq bx0)), (1, (Value.pointer none)), (34, v3), (35, (iq (r2.1.length : Int))), (36, (iq i.2.2.2.2.2.2.2.2.2))])) (fun q i => f_lumlaw_SameFiles_nilp_L17 r2 kk14 fu q i.1 i.2.2.1 i.2.2.2.2.1 i.2.2.2.2.2.2.1 i.2.2.2.2.2.2.2.1 i.2.2.2.2.2.2.2.2.1 i.2.2.2.2.2.2.2.2.2 = some r) ?_ fu (r2.2.2.room, g4, r2.2.2.files, g5, r2.2.2.durable, v6, r2.2.2.changes, r2.2.2.fused, r2.2.2.left, (0 : Int)) h) (nm_ [0, 1, 2, 3, 4] [] (by decide) ⟨rfl, rfl, rfl, rfl, rfl, trivial⟩)
 clear h
 rintro k16 ⟨l15i0_0, l15g0_1, l15xm0_1, l15g0_2, l15xm0_2, l15v0_3, l15x0_3, l15b0_4, l15i0_5, l15i36⟩ h
 have h : f_lumlaw_SameFiles_nilp_L17 r2 kk14 fu k16 l15i0_0 l15xm0_1 l15xm0_2 l15x0_3 l15b0_4 l15i0_5 l15i36 = some r := h
 obtain _ | k16 := k16
 rw [f_lumlaw_SameFiles_nilp_L17] at h; cases h
 rw [f_lumlaw_SameFiles_nilp_L17] at h
 refine aw_show (m := (memOf w0 Z0 [(oBox bx0 54 [(iq a0.room), (Value.map (some gm0_1)), (Value.map (some gm0_2)), v0_3, (bool a0.fused), (iq a0.left)]), (oMapK Try.prog 9 gm0_1 str str a0.files), (oMapK Try.prog 9 gm0_2 str str a0.durable), (oRow v0_3 114 tyI114 a0.changes)] [(oMapK Try.prog 9 l15g0_1 str str l15xm0_1), (oMapK Try.prog 9 l15g0_2 str str l15xm0_2), (oRow l15v0_3 114 tyI114 l15x0_3), (oBox bx0 54 [(iq l15i0_0), (Value.map (some l15g0_1)), (Value.map (some l15g0_2)), l15v0_3, (bool l15b0_4), (iq l15i0_5)]), (oRow v3 9 tyStr r2.1)] [])) (S := _) ?_
 refine aw_sr ?_
 refine im_ ?_
 refine aw_seq ?_
 refine aw_cond rfl (fun hb18 => ?_) (fun hb18 => ?_)
 replace h := bif_t hb18 h
 refine aw_skip ?_
 refine aq_then ?_
 refine aw_seq ?_
 refine aw_block ?_
 refine aw_sr ?_
 obtain ⟨u19, hu20, h⟩ := opt_some h
 refine al_idxR 4 (at_some hu20).1 (at_some hu20).2.1 rfl rfl rfl Try.underlying64 sz9 rfl (fun p21 hp22 => ?_)
 refine al_val (ov_loadR (ds := [(str u19)]) 4 rfl hp22 (at_some hu20).2.2 (fun h => h) rfl Try.underlying9 sz9 rfl rfl rfl) ?_
 refine an_ ?_
 refine sm_ ?_
 refine mv_ ?_
 obtain ⟨r24, hc23, h⟩ := opt_some h
 refine al_call (vs := [(pq bx0), (str u19)]) (f___disk_Disk__Read_ok fu bx0 l15g0_1 l15g0_2 l15v0_3 (D_disk_Disk.mk l15i0_0 l15xm0_1 l15xm0_2 l15x0_3 l15b0_4 l15i0_5) u19 hc23) [] [3, 0, 1, 2] [4] pre_nil rfl (by simp) (by decide) (.inl rfl) rfl Try.func24 rfl rfl rfl (fun ⟨g25, g26, v27⟩ => ?_)
 refine mv_ ?_
 refine al_ex rfl rfl rfl ?_
 refine al_ex rfl rfl rfl ?_
 refine as_ ?_
 refine an_ ?_
 refine sm_ ?_
 refine mv_ ?_
 obtain ⟨r29, hc28, h⟩ := opt_some h
 refine al_call (vs := [(Value.pointer none), (str u19)]) (f___lumref_Disk__Read_nilp_ok fu u19 hc28) [] [] [0, 1, 2, 3, 4] pre_nil rfl (by simp) (by decide) (.inl rfl) rfl Try.func25 rfl rfl rfl (fun _ => ?_)
 refine mv_ ?_
 refine al_ex rfl rfl rfl ?_
 refine al_ex rfl rfl rfl ?_
 refine as_ ?_
 refine an_ ?_
 obtain ⟨kk31, hkk31, h⟩ := lt_some h
 refine aw_seq_join (ι := Bool) (fun i => (mm32 w0 Z0 a0 bx0 g25 g26 gm0_1 gm0_2 r2 r24 v0_3 v27 v3)) (fun i => (tab [(0, (pq bx0)), (1, (Value.pointer none)), (34, v3), (35, (iq (r2.1.length : Int))), (36, (iq l15i36)), (59, (bool i))])) (fun i => kk31 i = some r) ?_ ?_
 rintro j30b59 h
 have h : kk31 j30b59 = some r := h
 rw [hkk31] at h
 dsimp only at h
 clear hkk31
 refine aw_show (m := (mm32 w0 Z0 a0 bx0 g25 g26 gm0_1 gm0_2 r2 r24 v0_3 v27 v3)) (S := _) ?_
 refine aw_cond rfl (fun hb32 => ?_) (fun hb32 => ?_)
 replace h := bif_t hb32 h
 refine aw_sr ?_
 refine an_ ?_
 refine aw_ret ?_
 refine aq_block_ret ?_
 refine aq_then_ret ?_
 refine aq_then_ret ?_
 refine aq_block_ret ?_
 refine aq_then_ret ?_
 cases h
 exact fn_ret (g25, g26, v27) [3, 0, 1, 2] [] rfl rfl rfl rfl (res1 rfl rfl) rfl rfl rfl (by decide)
 replace h := bif_f hb32 h
 refine aw_skip ?_
 refine aq_block ?_
 refine aq_then ?_
 refine aw_region ?_
 refine in_ ?_
 refine mv_ ?_
 refine al_nil ?_
 exact aq_again k16 (r24.2.2.room, g25, r24.2.2.files, g26, r24.2.2.durable, v27, r24.2.2.changes, r24.2.2.fused, r24.2.2.left, (wq (l15i36 + (1 : Int)))) (Nat.lt_succ_self _) h (nm_ [0, 1, 2, 3, 4] [] (by decide) ⟨rfl, rfl, rfl, rfl, rfl, trivial⟩)
 clear hkk31
 refine aw_region ?_
 refine mv_ ?_
 refine mv_ ?_
 refine al_val (ov_strCmp rfl rfl rfl rfl) ?_
 refine mv_ ?_
 refine al_caseB 55 rfl (fun hb33 => ?_) (fun hb33 => ?_)
 replace h := bif_t hb33 h
 iterate 3 refine al_skip ?_
 refine al_val (ov_pick_t rfl rfl rfl) ?_
 refine al_nil ?_
 exact aq_join true h (nm_ [1, 2, 3, 0, 4] [] (by decide) ⟨rfl, rfl, rfl, rfl, rfl, rfl, trivial⟩)
 replace h := bif_f hb33 h
 refine mv_ ?_
 refine mv_ ?_
 refine in_ ?_
 refine al_val (ov_pick_f rfl rfl rfl) ?_
 refine al_nil ?_
 exact aq_join (r24.2.1 != r29.2) h (nm_ [1, 2, 3, 0, 4] [] (by decide) ⟨rfl, rfl, rfl, rfl, rfl, rfl, trivial⟩)
 replace h := bif_f hb18 h
 refine aw_exit ?_
 refine aq_then_exit ?_
 refine aq_then_exit ?_
 refine aq_block_exit ?_
 exact aq_join (l15i0_0, l15g0_1, l15xm0_1, l15g0_2, l15xm0_2, l15v0_3, l15x0_3, l15b0_4, l15i0_5) h (nm_ [0, 1, 2, 3] [] (by decide) ⟨rfl, trivial⟩)
 clear hkk11
 refine aw_region ?_
 refine mv_ ?_
 refine mv_ ?_
 refine in_ ?_
 refine mv_ ?_
 refine al_caseB 28 rfl (fun hb34 => ?_) (fun hb34 => ?_)
 replace h := bif_t hb34 h
 iterate 4 refine al_skip ?_
 refine al_val (ov_pick_t rfl rfl rfl) ?_
 refine al_nil ?_
 exact aq_join true h (nm_ [3, 4, 5, 2, 1] [] (by decide) ⟨rfl, rfl, rfl, rfl, trivial⟩)
 replace h := bif_f hb34 h
 refine mv_ ?_
 refine mv_ ?_
 obtain ⟨r36, hc35, h⟩ := opt_some h
 refine al_call (vs := [v3, v9]) (f_slices_Equal___string_string__ok fu v3 r2.1 v9 r8.1 hc35) [0, 1] [] [0, 1, 2, 3, 4, 5] (pre_own 1 rfl rfl (pre_own 0 rfl rfl pre_nil)) rfl (by simp) (by decide) (.inr flat_res0) rfl Try.func28 rfl rfl rfl (fun _ => ?_)
 refine al_val (ov_not rfl rfl) ?_
 refine al_val (ov_pick_f rfl rfl rfl) ?_
 refine al_nil ?_
 exact aq_join (!r36) h (nm_ [3, 4, 5, 2, 1] [] (by decide) ⟨rfl, rfl, rfl, rfl, trivial⟩)
def f___lumref_Disk__Change_L26 (kk19 : (Int → Option (Int × D_lumref_Disk))) (r22 : (List S_lumref_File)) : Nat → Int → Int → Option (Int × D_lumref_Disk)
  | 0, _, _ => none
  | k25 + 1, l24i5, l24i60 => (bif (decide (l24i60 < (r22.length : Int))) then (opt (at? r22 l24i60) fun (u28 : S_lumref_File) => (f___lumref_Disk__Change_L26 kk19 r22 k25 (IntKind.i64.wrap (l24i5 + (u28.Bytes.length : Int))) (IntKind.i64.wrap (l24i60 + (1 : Int))))) else (kk19 l24i5))
def f___lumref_Disk__Change (fu : Nat) (a0 : D_lumref_Disk) (a1 : S_api_Deed) : Option (Int × D_lumref_Disk) := (bif (a0.Left == (0 : Int)) then (some ((17 : Int), a0)) else (lt (fun (j3i0_4 : Int) => (lt (fun (j5b41 : Bool) => (bif j5b41 then (some ((8 : Int), (D_lumref_Disk.mk a0.Room a0.Seen a0.Safe a0.Ops j3i0_4))) else (lt (fun (_ : Unit) => (opt (f_lumref_after fu a0.Seen a1 (65536 : Int)) fun (r11 : (List S_lumref_File)) => (req (((a0.Ops.length + ([a1]).length) * 72 : Nat) ≤ 140737488355328 ∧ a0.Ops.length + ([a1]).length ≤ 9223372036854775807) (some ((0 : Int), (D_lumref_Disk.mk a0.Room r11 a0.Safe (a0.Ops ++ ([a1])) j3i0_4)))))) fun (kk9 : Unit → Option (Int × D_lumref_Disk)) => (bif (a1.Kind == (1 : Int)) then (bif (decide ((a1.Text.length : Int) > (65536 : Int))) then (some ((2 : Int), (D_lumref_Disk.mk a0.Room a0.Seen a0.Safe a0.Ops j3i0_4))) else (lt (fun (j18i5 : Int) => (bif (decide (j18i5 > a0.Room)) then (some ((12 : Int), (D_lumref_Disk.mk a0.Room a0.Seen a0.Safe a0.Ops j3i0_4))) else (kk9 ()))) fun (kk19 : Int → Option (Int × D_lumref_Disk)) => (opt (f_lumref_gone fu a0.Seen a1.Name) fun (r22 : (List S_lumref_File)) => (f___lumref_Disk__Change_L26 kk19 r22 fu (a1.Text.length : Int) (0 : Int))))) else (opt (f_lumref_look fu a0.Seen a1.Name) fun (r34 : ((List UInt8) × Bool)) => (bif (!r34.2) then (some ((9 : Int), (D_lumref_Disk.mk a0.Room a0.Seen a0.Safe a0.Ops j3i0_4))) else (kk9 ()))))))) fun (kk6 : Bool → Option (Int × D_lumref_Disk)) => (opt (f_lumref_fileErr fu a1.Name) fun (r37 : Int) => (bif (r37 != (0 : Int)) then (kk6 true) else (bif (a1.Kind == (2 : Int)) then (opt (f_lumref_fileErr fu a1.Text) fun (r41 : Int) => (kk6 (r41 != (0 : Int)))) else (kk6 false)))))) fun (kk4 : Int → Option (Int × D_lumref_Disk)) => (bif (decide (a0.Left > (0 : Int))) then (kk4 (IntKind.i64.wrap (a0.Left - (1 : Int)))) else (kk4 a0.Left))))
abbrev mm33 (w0 : World) (Z0 : Nat → Prop) (a0 : D_lumref_Disk) (a1 : S_api_Deed) (bx0 : Nat) (g1 : Nat) (j3i0_4 : Int) (v0_1 : Value) (v0_2 : Value) (v0_3 : Value) (v1_4 : Value) : Mem := memOf w0 Z0 [(oBox bx0 57 [(int .i64 a0.Room), v0_1, v0_2, v0_3, (int .i64 a0.Left)]), (oRow v0_3 32 tyS_api_Deed a0.Ops)] [(oRow v0_3 32 tyS_api_Deed a0.Ops), (oBox bx0 57 [(int .i64 a0.Room), v0_1, v0_2, v0_3, (int .i64 j3i0_4)]), (oBox g1 32 [(int .i64 a1.Kind), (str a1.Name), (str a1.Text), (int .i64 a1.N), v1_4])] [(fDat (tyList tyS_lumref_File) [v0_1] a0.Seen), (fDat (tyList tyS_lumref_File) [v0_2] a0.Safe), (fDat (tyList (tyInt .i64)) [v1_4] a1.Keep)]
abbrev mm34 (w0 : World) (Z0 : Nat → Prop) (a0 : D_lumref_Disk) (a1 : S_api_Deed) (bx0 : Nat) (g1 : Nat) (j3i0_4 : Int) (r11 : (List S_lumref_File)) (v0_1 : Value) (v0_2 : Value) (v0_3 : Value) (v12 : Value) (v1_4 : Value) : Mem := memOf w0 Z0 [(oBox bx0 57 [(int .i64 a0.Room), v0_1, v0_2, v0_3, (int .i64 a0.Left)]), (oRow v0_3 32 tyS_api_Deed a0.Ops)] [(oRow v0_3 32 tyS_api_Deed a0.Ops), (oBox bx0 57 [(int .i64 a0.Room), v0_1, v0_2, v0_3, (int .i64 j3i0_4)]), (oBox g1 32 [(int .i64 a1.Kind), (str a1.Name), (str a1.Text), (int .i64 a1.N), v1_4])] [(fDat (tyList tyS_lumref_File) [v12] r11), (fDat (tyList tyS_lumref_File) [v0_1] a0.Seen), (fDat (tyList tyS_lumref_File) [v0_2] a0.Safe), (fDat (tyList (tyInt .i64)) [v1_4] a1.Keep)]
abbrev mm35 (w0 : World) (Z0 : Nat → Prop) (a0 : D_lumref_Disk) (a1 : S_api_Deed) (bx0 : Nat) (g1 : Nat) (j3i0_4 : Int) (r11 : (List S_lumref_File)) (v0_1 : Value) (v0_2 : Value) (v0_3 : Value) (v12 : Value) (v1_4 : Value) : Mem := memOf w0 Z0 [(oBox bx0 57 [(int .i64 a0.Room), v0_1, v0_2, v0_3, (int .i64 a0.Left)]), (oRow v0_3 32 tyS_api_Deed a0.Ops)] [(oRow v0_3 32 tyS_api_Deed a0.Ops), (oBox bx0 57 [(int .i64 a0.Room), v12, v0_2, v0_3, (int .i64 j3i0_4)]), (oBox g1 32 [(int .i64 a1.Kind), (str a1.Name), (str a1.Text), (int .i64 a1.N), v1_4])] [(fDat (tyList tyS_lumref_File) [v12] r11), (fDat (tyList tyS_lumref_File) [v0_1] a0.Seen), (fDat (tyList tyS_lumref_File) [v0_2] a0.Safe), (fDat (tyList (tyInt .i64)) [v1_4] a1.Keep)]
abbrev mm36 (w0 : World) (Z0 : Nat → Prop) (a0 : D_lumref_Disk) (a1 : S_api_Deed) (bx0 : Nat) (g1 : Nat) (j3i0_4 : Int) (r11 : (List S_lumref_File)) (v0_1 : Value) (v0_2 : Value) (v0_3 : Value) (v12 : Value) (v13 : Value) (v15 : Value) (v1_4 : Value) : Mem := memOf w0 Z0 [(oBox bx0 57 [(int .i64 a0.Room), v0_1, v0_2, v0_3, (int .i64 a0.Left)]), (oRow v0_3 32 tyS_api_Deed a0.Ops)] [(oRow v13 32 tyS_api_Deed [a1]), (oRow v15 32 tyS_api_Deed (a0.Ops ++ ([a1]))), (oBox bx0 57 [(int .i64 a0.Room), v12, v0_2, v0_3, (int .i64 j3i0_4)]), (oBox g1 32 [(int .i64 a1.Kind), (str a1.Name), (str a1.Text), (int .i64 a1.N), v1_4])] [(fDat (tyList tyS_lumref_File) [v12] r11), (fDat (tyList tyS_lumref_File) [v0_1] a0.Seen), (fDat (tyList tyS_lumref_File) [v0_2] a0.Safe), (fDat (tyList (tyInt .i64)) [v1_4] a1.Keep)]
abbrev mm37 (w0 : World) (Z0 : Nat → Prop) (a0 : D_lumref_Disk) (a1 : S_api_Deed) (bx0 : Nat) (g1 : Nat) (j3i0_4 : Int) (r11 : (List S_lumref_File)) (v0_1 : Value) (v0_2 : Value) (v0_3 : Value) (v12 : Value) (v13 : Value) (v15 : Value) (v1_4 : Value) : Mem := memOf w0 Z0 [(oBox bx0 57 [(int .i64 a0.Room), v0_1, v0_2, v0_3, (int .i64 a0.Left)]), (oRow v0_3 32 tyS_api_Deed a0.Ops)] [(oRow v13 32 tyS_api_Deed [a1]), (oRow v15 32 tyS_api_Deed (a0.Ops ++ ([a1]))), (oBox bx0 57 [(int .i64 a0.Room), v12, v0_2, v15, (int .i64 j3i0_4)]), (oBox g1 32 [(int .i64 a1.Kind), (str a1.Name), (str a1.Text), (int .i64 a1.N), v1_4])] [(fDat (tyList tyS_lumref_File) [v12] r11), (fDat (tyList tyS_lumref_File) [v0_1] a0.Seen), (fDat (tyList tyS_lumref_File) [v0_2] a0.Safe), (fDat (tyList (tyInt .i64)) [v1_4] a1.Keep)]
abbrev mm38 (w0 : World) (Z0 : Nat → Prop) (a0 : D_lumref_Disk) (a1 : S_api_Deed) (bx0 : Nat) (g1 : Nat) (j3i0_4 : Int) (r22 : (List S_lumref_File)) (v0_1 : Value) (v0_2 : Value) (v0_3 : Value) (v1_4 : Value) (v23 : Value) : Mem := memOf w0 Z0 [(oBox bx0 57 [(int .i64 a0.Room), v0_1, v0_2, v0_3, (int .i64 a0.Left)]), (oRow v0_3 32 tyS_api_Deed a0.Ops)] [(oRow v23 101 tyS_lumref_File r22), (oRow v0_3 32 tyS_api_Deed a0.Ops), (oBox bx0 57 [(int .i64 a0.Room), v0_1, v0_2, v0_3, (int .i64 j3i0_4)]), (oBox g1 32 [(int .i64 a1.Kind), (str a1.Name), (str a1.Text), (int .i64 a1.N), v1_4])] [(fDat (tyList tyS_lumref_File) [v0_1] a0.Seen), (fDat (tyList tyS_lumref_File) [v0_2] a0.Safe), (fDat (tyList (tyInt .i64)) [v1_4] a1.Keep)]
abbrev mm39 (w0 : World) (Z0 : Nat → Prop) (a0 : D_lumref_Disk) (a1 : S_api_Deed) (bx0 : Nat) (g1 : Nat) (j3i0_4 : Int) (r22 : (List S_lumref_File)) (v0_1 : Value) (v0_2 : Value) (v0_3 : Value) (v1_4 : Value) (v23 : Value) : Mem := memOf w0 Z0 [(oBox bx0 57 [(int .i64 a0.Room), v0_1, v0_2, v0_3, (int .i64 a0.Left)]), (oRow v0_3 32 tyS_api_Deed a0.Ops)] [(oRow v0_3 32 tyS_api_Deed a0.Ops), (oBox bx0 57 [(int .i64 a0.Room), v0_1, v0_2, v0_3, (int .i64 j3i0_4)]), (oBox g1 32 [(int .i64 a1.Kind), (str a1.Name), (str a1.Text), (int .i64 a1.N), v1_4]), (oRow v23 101 tyS_lumref_File r22)] [(fDat (tyList tyS_lumref_File) [v0_1] a0.Seen), (fDat (tyList tyS_lumref_File) [v0_2] a0.Safe), (fDat (tyList (tyInt .i64)) [v1_4] a1.Keep)]
set_option maxRecDepth 100000 in
set_option maxHeartbeats 2000000 in
set_option maxHeartbeats 2000000 in
theorem f___lumref_Disk__Change_ok (fu : Nat) (bx0 : Nat) (v0_1 : Value) (v0_2 : Value) (v0_3 : Value) (a0 : D_lumref_Disk) (v1_4 : Value) (a1 : S_api_Deed) {r : (Int × D_lumref_Disk)} (h : f___lumref_Disk__Change fu a0 a1 = some r) : FnOk Try.prog 20 [(ptr bx0 0), (ag [(int .i64 a1.Kind), (str a1.Name), (str a1.Text), (int .i64 a1.N), v1_4])] [(fDat (tyList tyS_lumref_File) [v0_1] a0.Seen), (fDat (tyList tyS_lumref_File) [v0_2] a0.Safe), (fDat (tyList (tyInt .i64)) [v1_4] a1.Keep)] [(oBox bx0 57 [(int .i64 a0.Room), v0_1, v0_2, v0_3, (int .i64 a0.Left)]), (oRow v0_3 32 tyS_api_Deed a0.Ops)] (fun (i : Value × Value × Value) => { val := (int .i64 r.1), own := [(oBox bx0 57 [(int .i64 r.2.Room), i.1, i.2.1, i.2.2, (int .i64 r.2.Left)]), (oRow i.2.2 32 tyS_api_Deed r.2.Ops)], fz := [(fDat (tyList tyS_lumref_File) [i.1] r.2.Seen), (fDat (tyList tyS_lumref_File) [i.2.1] r.2.Safe)] }) := by
 unfold f___lumref_Disk__Change at h
 refine fn_enter Try.func20 rfl Try.ntmps20 rfl (fun w0 Z0 => ?_)
 refine aw_sr ?_
 refine al_box (vs := [(iq a1.Kind), (str a1.Name), (str a1.Text), (iq a1.N), v1_4]) rfl (cv_rfl rfl) rfl (fun g1 => ?_)
 refine an_ ?_
 refine aw_seq ?_
 refine sm_ ?_
 refine al_val (ov_nilCheck rfl rfl) ?_
 refine al_val (ov_fieldA (p := 4) rfl Try.underlying57 rfl sz3 rfl rfl rfl) ?_
 refine al_val (ov_load (i := 1) (v := (iq a0.Left)) rfl rfl Try.underlying3 sz3 rfl rfl rfl rfl) ?_
 refine im_ ?_
 refine aw_cond rfl (fun hb2 => ?_) (fun hb2 => ?_)
 replace h := bif_t hb2 h
 refine aw_sr ?_
 refine an_ ?_
 refine aw_ret ?_
 refine aq_then_ret ?_
 cases h
 exact fn_ret (v0_1, v0_2, v0_3) [1, 2] [0, 1] rfl rfl rfl rfl (res1 rfl rfl) rfl rfl rfl (by decide)
 replace h := bif_f hb2 h
 refine aw_skip ?_
 refine aq_then ?_
 obtain ⟨kk4, hkk4, h⟩ := lt_some h
 refine aw_seq_join (ι := Int) (fun i => (mm33 w0 Z0 a0 a1 bx0 g1 i v0_1 v0_2 v0_3 v1_4)) (fun i => (tab [(0, (pq bx0)), (3, (pq g1))])) (fun i => kk4 i = some r) ?_ ?_
 rintro j3i0_4 h
 have h : kk4 j3i0_4 = some r := h
 rw [hkk4] at h
 dsimp only at h
 clear hkk4
 refine aw_show (m := (mm33 w0 Z0 a0 a1 bx0 g1 j3i0_4 v0_1 v0_2 v0_3 v1_4)) (S := _) ?_
 refine aw_seq ?_
 obtain ⟨kk6, hkk6, h⟩ := lt_some h
 refine aw_seq_join (ι := Bool) (fun i => (mm33 w0 Z0 a0 a1 bx0 g1 j3i0_4 v0_1 v0_2 v0_3 v1_4)) (fun i => (tab [(0, (pq bx0)), (3, (pq g1)), (41, (bool i))])) (fun i => kk6 i = some r) ?_ ?_
 rintro j5b41 h
 have h : kk6 j5b41 = some r := h
 rw [hkk6] at h
 dsimp only at h
 clear hkk6
 refine aw_show (m := (mm33 w0 Z0 a0 a1 bx0 g1 j3i0_4 v0_1 v0_2 v0_3 v1_4)) (S := _) ?_
 refine aw_cond rfl (fun hb7 => ?_) (fun hb7 => ?_)
 replace h := bif_t hb7 h
 refine aw_sr ?_
 refine an_ ?_
 refine aw_ret ?_
 refine aq_then_ret ?_
 cases h
 exact fn_ret (v0_1, v0_2, v0_3) [1, 0] [0, 1] rfl rfl rfl rfl (res1 rfl rfl) rfl rfl rfl (by decide)
 replace h := bif_f hb7 h
 refine aw_skip ?_
 refine aq_then ?_
 obtain ⟨kk9, hkk9, h⟩ := lt_some h
 refine aw_seq_join (ι := Unit) (fun i => (mm33 w0 Z0 a0 a1 bx0 g1 j3i0_4 v0_1 v0_2 v0_3 v1_4)) (fun i => (tab [(0, (pq bx0)), (3, (pq g1))])) (fun i => kk9 () = some r) ?_ ?_
 rintro _ h
 have h : kk9 () = some r := h
 rw [hkk9] at h
 dsimp only at h
 clear hkk9
 refine aw_show (m := (mm33 w0 Z0 a0 a1 bx0 g1 j3i0_4 v0_1 v0_2 v0_3 v1_4)) (S := _) ?_
 refine aw_seq ?_
 refine aw_region_open [(sp_ 0 88 (pq bx0)), (sp_ 1 89 (pq bx0)), (sp_ 2 90 (pq bx0)), (sp_ 3 91 (ptr bx0 1)), (sp_ 4 92 v0_1), (sp_ 5 93 (ag [(iq a1.Kind), (str a1.Name), (str a1.Text), (iq a1.N), v1_4]))] (tab [(0, (pq bx0)), (3, (pq g1))]) mixed (fun a hs => hs.tab _ (allT_mem ⟨rfl, rfl, trivial⟩)) ?_
 refine ta_show (m := (mm33 w0 Z0 a0 a1 bx0 g1 j3i0_4 v0_1 v0_2 v0_3 v1_4)) (S := _) ?_
 refine ta_step 6 _ [0, 1, 2, 3, 4, 5] [88, 89, 90, 91, 92, 93] [1, 2, 3, 4, 5] [7, 8] [(sp_ 1 89 (pq bx0)), (sp_ 2 90 (pq bx0)), (sp_ 3 91 (ptr bx0 1)), (sp_ 4 92 v0_1), (sp_ 5 93 (ag [(iq a1.Kind), (str a1.Name), (str a1.Text), (iq a1.N), v1_4]))] [(sp_ 0 88 (pq bx0))] rfl rfl rfl (by kernel_rfl) rfl rfl rfl ⟨⟨_, rfl, [], rfl, by
  intro X_ Y_ F_ K_ hK_
  refine sh_ (mm33 w0 Z0 a0 a1 bx0 g1 j3i0_4 v0_1 v0_2 v0_3 v1_4) X_ Y_ ?_
  refine mv_ ?_
  refine al_nil ?_
  exact fr_fin hK_ ()⟩, ⟨_, rfl, [], rfl, by
  intro X_ Y_ F_ K_ hK_
  refine sh_ (mm33 w0 Z0 a0 a1 bx0 g1 j3i0_4 v0_1 v0_2 v0_3 v1_4) X_ Y_ ?_
  refine mv_ ?_
  refine al_nil ?_
  exact fr_fin hK_ ()⟩, ⟨_, rfl, [1], rfl, by
  intro _
  intro X_ Y_ F_ K_ hK_
  refine sh_ (mm33 w0 Z0 a0 a1 bx0 g1 j3i0_4 v0_1 v0_2 v0_3 v1_4) X_ Y_ ?_
  refine al_val (ov_nilCheck rfl rfl) ?_
  refine al_nil ?_
  exact fr_fin hK_ ()⟩, ⟨_, rfl, [2], rfl, by
  intro _
  intro X_ Y_ F_ K_ hK_
  refine sh_ (mm33 w0 Z0 a0 a1 bx0 g1 j3i0_4 v0_1 v0_2 v0_3 v1_4) X_ Y_ ?_
  refine al_val (ov_fieldA (p := 1) rfl Try.underlying57 rfl sz55 rfl rfl rfl) ?_
  refine al_nil ?_
  exact fr_fin hK_ ()⟩, ⟨_, rfl, [3], rfl, by
  intro _
  intro X_ Y_ F_ K_ hK_
  refine sh_ (mm33 w0 Z0 a0 a1 bx0 g1 j3i0_4 v0_1 v0_2 v0_3 v1_4) X_ Y_ ?_
  refine al_val (ov_load (i := 1) (v := v0_1) rfl rfl Try.underlying55 sz55 rfl rfl rfl rfl) ?_
  refine al_nil ?_
  exact fr_fin hK_ ()⟩, ⟨_, rfl, [], rfl, by
  intro X_ Y_ F_ K_ hK_
  refine sh_ (mm33 w0 Z0 a0 a1 bx0 g1 j3i0_4 v0_1 v0_2 v0_3 v1_4) X_ Y_ ?_
  refine al_val (ov_load (i := 2) (v := (ag [(iq a1.Kind), (str a1.Name), (str a1.Text), (iq a1.N), v1_4])) rfl rfl Try.underlying32 sz32 rfl rfl rfl rfl) ?_
  refine al_nil ?_
  exact fr_fin hK_ ()⟩, trivial⟩ ?_
 intro _
 intro _
 intro _
 intro _
 intro _
 intro X_ Y_ F_ K_ hK_
 refine sh_ (mm33 w0 Z0 a0 a1 bx0 g1 j3i0_4 v0_1 v0_2 v0_3 v1_4) X_ Y_ ?_
 obtain ⟨r11, hc10, h⟩ := opt_some h
 refine al_callX (vs := [v0_1, (ag [(iq a1.Kind), (str a1.Name), (str a1.Text), (iq a1.N), v1_4]), (iq (65536 : Int))]) (f_lumref_after_ok fu v0_1 a0.Seen v1_4 a1 (65536 : Int) hc10) [] [] [0, 1, 2] (pre_fz 0 rfl (pre_fz 2 rfl pre_nil)) rfl (by simp) (by decide) rfl (.inl rfl) rfl Try.func58 rfl rfl rfl (fun v12 => ?_)
 refine al_nil ?_
 refine aq_show (m := Mem.plus (mm34 w0 Z0 a0 a1 bx0 g1 j3i0_4 r11 v0_1 v0_2 v0_3 v12 v1_4) X_ Y_) ?_
 refine aq_next hK_ [0, 1, 2] [0, 1, 2, 3] [(0, (pq bx0)), (3, (pq g1)), (94, v12)] [88] [(sp_ 7 95 (pq bx0)), (sp_ 8 96 (ptr bx0 1))] rfl rfl (by decide) rfl ⟨rfl, rfl, rfl, trivial⟩ ⟨rfl, trivial⟩ ?_
 clear hK_ K_ F_ X_ Y_
 refine ta_show (m := (mm34 w0 Z0 a0 a1 bx0 g1 j3i0_4 r11 v0_1 v0_2 v0_3 v12 v1_4)) (S := _) ?_
 refine ta_step 9 _ [0, 7, 8] [88, 95, 96] [0, 7, 8] [] [(sp_ 0 88 (pq bx0)), (sp_ 7 95 (pq bx0)), (sp_ 8 96 (ptr bx0 1))] [] rfl rfl rfl (by kernel_rfl) rfl rfl rfl ⟨⟨_, rfl, [], rfl, by
  intro X_ Y_ F_ K_ hK_
  refine sh_ (mm34 w0 Z0 a0 a1 bx0 g1 j3i0_4 r11 v0_1 v0_2 v0_3 v12 v1_4) X_ Y_ ?_
  refine mv_ ?_
  refine al_nil ?_
  exact fr_fin hK_ ()⟩, ⟨_, rfl, [0], rfl, by
  intro _
  intro X_ Y_ F_ K_ hK_
  refine sh_ (mm34 w0 Z0 a0 a1 bx0 g1 j3i0_4 r11 v0_1 v0_2 v0_3 v12 v1_4) X_ Y_ ?_
  refine al_val (ov_nilCheck rfl rfl) ?_
  refine al_nil ?_
  exact fr_fin hK_ ()⟩, ⟨_, rfl, [0, 1], rfl, by
  intro _
  intro _
  intro X_ Y_ F_ K_ hK_
  refine sh_ (mm34 w0 Z0 a0 a1 bx0 g1 j3i0_4 r11 v0_1 v0_2 v0_3 v12 v1_4) X_ Y_ ?_
  refine al_val (ov_fieldA (p := 1) rfl Try.underlying57 rfl sz55 rfl rfl rfl) ?_
  refine al_nil ?_
  exact fr_fin hK_ ()⟩, trivial⟩ ?_
 intro _
 intro _
 intro _
 intro X_ Y_ F_ K_ hK_
 refine sh_ (mm34 w0 Z0 a0 a1 bx0 g1 j3i0_4 r11 v0_1 v0_2 v0_3 v12 v1_4) X_ Y_ ?_
 refine al_store (i := 1) (vs := [v12]) (cs' := [(iq a0.Room), v12, v0_2, v0_3, (iq j3i0_4)]) rfl rfl rfl sz55 (cv_fz 0 rfl) rfl (co_fz 0 rfl co_nil) (Nat.le_of_ble_eq_true rfl) rfl rfl ?_
 refine al_nil ?_
 refine aq_show (m := Mem.plus (mm35 w0 Z0 a0 a1 bx0 g1 j3i0_4 r11 v0_1 v0_2 v0_3 v12 v1_4) X_ Y_) ?_
 refine aq_next hK_ [0, 1, 2] [0, 1, 2, 3] [(0, (pq bx0)), (3, (pq g1))] [] [] rfl rfl (by decide) rfl ⟨rfl, rfl, trivial⟩ trivial ?_
 clear hK_ K_ F_ X_ Y_
 refine ta_show (m := (mm35 w0 Z0 a0 a1 bx0 g1 j3i0_4 r11 v0_1 v0_2 v0_3 v12 v1_4)) (S := _) ?_
 refine ta_end [] [] rfl rfl (by kernel_rfl) rfl trivial ?_
 refine aq_show (m := (mm35 w0 Z0 a0 a1 bx0 g1 j3i0_4 r11 v0_1 v0_2 v0_3 v12 v1_4)) (S := (tab [(0, (pq bx0)), (3, (pq g1))])) ?_
 refine aq_then ?_
 refine aw_seq ?_
 refine aw_region_open [(sp_ 0 97 (pq bx0)), (sp_ 1 98 (pq bx0)), (sp_ 2 99 (pq bx0)), (sp_ 3 100 (ptr bx0 3)), (sp_ 4 101 v0_3), (sp_ 5 102 (ag [(iq a1.Kind), (str a1.Name), (str a1.Text), (iq a1.N), v1_4])), ⟨6, 103, Value, fun (i : Value) => { val := i, own := [(oRow i 32 tyS_api_Deed [a1])] }⟩] (tab [(0, (pq bx0)), (3, (pq g1))]) mixed (fun a hs => hs.tab _ (allT_mem ⟨rfl, rfl, trivial⟩)) ?_
 refine ta_show (m := (mm35 w0 Z0 a0 a1 bx0 g1 j3i0_4 r11 v0_1 v0_2 v0_3 v12 v1_4)) (S := _) ?_
 refine ta_step 7 _ [0, 1, 2, 3, 4, 5, 6] [97, 98, 99, 100, 101, 102, 103] [1, 2, 3, 4, 5, 6] [8, 9] [(sp_ 1 98 (pq bx0)), (sp_ 2 99 (pq bx0)), (sp_ 3 100 (ptr bx0 3)), (sp_ 4 101 v0_3), (sp_ 5 102 (ag [(iq a1.Kind), (str a1.Name), (str a1.Text), (iq a1.N), v1_4])), ⟨6, 103, Value, fun (i : Value) => { val := i, own := [(oRow i 32 tyS_api_Deed [a1])] }⟩] [(sp_ 0 97 (pq bx0))] rfl rfl rfl (by kernel_rfl) rfl rfl rfl ⟨⟨_, rfl, [], rfl, by
  intro X_ Y_ F_ K_ hK_
  refine sh_ (mm35 w0 Z0 a0 a1 bx0 g1 j3i0_4 r11 v0_1 v0_2 v0_3 v12 v1_4) X_ Y_ ?_
  refine mv_ ?_
  refine al_nil ?_
  exact fr_fin hK_ ()⟩, ⟨_, rfl, [], rfl, by
  intro X_ Y_ F_ K_ hK_
  refine sh_ (mm35 w0 Z0 a0 a1 bx0 g1 j3i0_4 r11 v0_1 v0_2 v0_3 v12 v1_4) X_ Y_ ?_
  refine mv_ ?_
  refine al_nil ?_
  exact fr_fin hK_ ()⟩, ⟨_, rfl, [1], rfl, by
  intro _
  intro X_ Y_ F_ K_ hK_
  refine sh_ (mm35 w0 Z0 a0 a1 bx0 g1 j3i0_4 r11 v0_1 v0_2 v0_3 v12 v1_4) X_ Y_ ?_
  refine al_val (ov_nilCheck rfl rfl) ?_
  refine al_nil ?_
  exact fr_fin hK_ ()⟩, ⟨_, rfl, [2], rfl, by
  intro _
  intro X_ Y_ F_ K_ hK_
  refine sh_ (mm35 w0 Z0 a0 a1 bx0 g1 j3i0_4 r11 v0_1 v0_2 v0_3 v12 v1_4) X_ Y_ ?_
  refine al_val (ov_fieldA (p := 3) rfl Try.underlying57 rfl sz22 rfl rfl rfl) ?_
  refine al_nil ?_
  exact fr_fin hK_ ()⟩, ⟨_, rfl, [3], rfl, by
  intro _
  intro X_ Y_ F_ K_ hK_
  refine sh_ (mm35 w0 Z0 a0 a1 bx0 g1 j3i0_4 r11 v0_1 v0_2 v0_3 v12 v1_4) X_ Y_ ?_
  refine al_val (ov_load (i := 1) (v := v0_3) rfl rfl Try.underlying22 sz22 rfl rfl rfl rfl) ?_
  refine al_nil ?_
  exact fr_fin hK_ ()⟩, ⟨_, rfl, [], rfl, by
  intro X_ Y_ F_ K_ hK_
  refine sh_ (mm35 w0 Z0 a0 a1 bx0 g1 j3i0_4 r11 v0_1 v0_2 v0_3 v12 v1_4) X_ Y_ ?_
  refine al_val (ov_load (i := 2) (v := (ag [(iq a1.Kind), (str a1.Name), (str a1.Text), (iq a1.N), v1_4])) rfl rfl Try.underlying32 sz32 rfl rfl rfl rfl) ?_
  refine al_nil ?_
  exact fr_fin hK_ ()⟩, ⟨_, rfl, [5], rfl, by
  intro _
  intro X_ Y_ F_ K_ hK_
  refine sh_ (mm35 w0 Z0 a0 a1 bx0 g1 j3i0_4 r11 v0_1 v0_2 v0_3 v12 v1_4) X_ Y_ ?_
  refine al_buildSlice (τ := tyS_api_Deed) (e := 32) (k := 1) (sz := 0) (by_ := 0) (z := undef) (cs := [(iq a1.Kind), (str a1.Name), (str a1.Text), (iq a1.N), v1_4]) (xs := [a1]) rfl (by decide) (fun w a hm hs => ⟨([(iq a1.Kind), (str a1.Name), (str a1.Text), (iq a1.N), v1_4]).toArray, rfl, by simp only [List.map_toArray, List.map_cons, List.map_nil, hs.ev (x := .tmp 102) rfl]; exact run_bs [(ag [(iq a1.Kind), (str a1.Name), (str a1.Text), (iq a1.N), v1_4])] [(iq a1.Kind), (str a1.Name), (str a1.Text), (iq a1.N), v1_4] Try.underlying22 to32 rfl rfl (bs_cons (l := [(iq a1.Kind), (str a1.Name), (str a1.Text), (iq a1.N), v1_4]) (cs := []) (cv_rfl rfl) rfl bs_nil) hm⟩) (fun hm => ⟨_, _, rfl, (fun hm => mknS_api_Deed (x := a1) rfl (fz_at (i := 3) hm rfl)) hm, rfl⟩) rfl (fun v13 => ?_)
  refine al_nil ?_
  exact fr_fin hK_ v13⟩, trivial⟩ ?_
 intro _
 intro _
 intro _
 intro _
 intro _
 intro v13
 intro X_ Y_ F_ K_ hK_
 refine sh_ (memOf w0 Z0 [(oBox bx0 57 [(iq a0.Room), v0_1, v0_2, v0_3, (iq a0.Left)]), (oRow v0_3 32 tyS_api_Deed a0.Ops)] [(oRow v13 32 tyS_api_Deed [a1]), (oRow v0_3 32 tyS_api_Deed a0.Ops), (oBox bx0 57 [(iq a0.Room), v12, v0_2, v0_3, (iq j3i0_4)]), (oBox g1 32 [(iq a1.Kind), (str a1.Name), (str a1.Text), (iq a1.N), v1_4])] [(fDat (tyList tyS_lumref_File) [v12] r11), (fDat (tyList tyS_lumref_File) [v0_1] a0.Seen), (fDat (tyList tyS_lumref_File) [v0_2] a0.Safe), (fDat (tyList tq) [v1_4] a1.Keep)]) X_ Y_ ?_
 obtain ⟨hc14, h⟩ := req_some h
 refine al_append 1 hc14.1 hc14.2 rfl (src_own (i := 1) 0 rfl) rfl rfl Try.underlying22 to32 rfl rfl rfl (fun v15 => ?_)
 refine al_nil ?_
 refine aq_show (m := Mem.plus (mm36 w0 Z0 a0 a1 bx0 g1 j3i0_4 r11 v0_1 v0_2 v0_3 v12 v13 v15 v1_4) X_ Y_) ?_
 refine aq_next hK_ [0, 1, 2, 3] [0, 1, 2, 3] [(0, (pq bx0)), (104, v15)] [97] [(sp_ 8 105 (pq bx0)), (sp_ 9 106 (ptr bx0 3))] rfl rfl (by decide) rfl ⟨rfl, rfl, trivial⟩ ⟨rfl, trivial⟩ ?_
 clear hK_ K_ F_ X_ Y_
 refine ta_show (m := (mm36 w0 Z0 a0 a1 bx0 g1 j3i0_4 r11 v0_1 v0_2 v0_3 v12 v13 v15 v1_4)) (S := _) ?_
 refine ta_step 10 _ [0, 8, 9] [97, 105, 106] [0, 8, 9] [] [(sp_ 0 97 (pq bx0)), (sp_ 8 105 (pq bx0)), (sp_ 9 106 (ptr bx0 3))] [] rfl rfl rfl (by kernel_rfl) rfl rfl rfl ⟨⟨_, rfl, [], rfl, by
  intro X_ Y_ F_ K_ hK_
  refine sh_ (mm36 w0 Z0 a0 a1 bx0 g1 j3i0_4 r11 v0_1 v0_2 v0_3 v12 v13 v15 v1_4) X_ Y_ ?_
  refine mv_ ?_
  refine al_nil ?_
  exact fr_fin hK_ ()⟩, ⟨_, rfl, [0], rfl, by
  intro _
  intro X_ Y_ F_ K_ hK_
  refine sh_ (mm36 w0 Z0 a0 a1 bx0 g1 j3i0_4 r11 v0_1 v0_2 v0_3 v12 v13 v15 v1_4) X_ Y_ ?_
  refine al_val (ov_nilCheck rfl rfl) ?_
  refine al_nil ?_
  exact fr_fin hK_ ()⟩, ⟨_, rfl, [0, 1], rfl, by
  intro _
  intro _
  intro X_ Y_ F_ K_ hK_
  refine sh_ (mm36 w0 Z0 a0 a1 bx0 g1 j3i0_4 r11 v0_1 v0_2 v0_3 v12 v13 v15 v1_4) X_ Y_ ?_
  refine al_val (ov_fieldA (p := 3) rfl Try.underlying57 rfl sz22 rfl rfl rfl) ?_
  refine al_nil ?_
  exact fr_fin hK_ ()⟩, trivial⟩ ?_
 intro _
 intro _
 intro _
 intro X_ Y_ F_ K_ hK_
 refine sh_ (mm36 w0 Z0 a0 a1 bx0 g1 j3i0_4 r11 v0_1 v0_2 v0_3 v12 v13 v15 v1_4) X_ Y_ ?_
 refine al_store (i := 2) (vs := [v15]) (cs' := [(iq a0.Room), v12, v0_2, v15, (iq j3i0_4)]) rfl rfl rfl sz22 (cv_own 1 rfl) rfl (co_own 1 rfl co_nil) (Nat.le_of_ble_eq_true rfl) rfl rfl ?_
 refine al_nil ?_
 refine aq_show (m := Mem.plus (mm37 w0 Z0 a0 a1 bx0 g1 j3i0_4 r11 v0_1 v0_2 v0_3 v12 v13 v15 v1_4) X_ Y_) ?_
 refine aq_next hK_ [0, 1, 2, 3] [0, 1, 2, 3] [(0, (pq bx0))] [] [] rfl rfl (by decide) rfl ⟨rfl, trivial⟩ trivial ?_
 clear hK_ K_ F_ X_ Y_
 refine ta_show (m := (mm37 w0 Z0 a0 a1 bx0 g1 j3i0_4 r11 v0_1 v0_2 v0_3 v12 v13 v15 v1_4)) (S := _) ?_
 refine ta_end [] [] rfl rfl (by kernel_rfl) rfl trivial ?_
 refine aq_show (m := (mm37 w0 Z0 a0 a1 bx0 g1 j3i0_4 r11 v0_1 v0_2 v0_3 v12 v13 v15 v1_4)) (S := (tab [(0, (pq bx0))])) ?_
 refine aq_tr ?_
 refine an_ ?_
 refine aw_ret ?_
 cases h
 exact fn_ret (v12, v0_2, v15) [2, 1] [0, 2] rfl rfl rfl rfl (res1 rfl rfl) rfl rfl rfl (by decide)
 clear hkk9
 refine aw_sr ?_
 refine al_val (ov_fieldA (p := 0) rfl Try.underlying32 rfl sz3 rfl rfl rfl) ?_
 refine al_val (ov_load (i := 2) (v := (iq a1.Kind)) rfl rfl Try.underlying3 sz3 rfl rfl rfl rfl) ?_
 refine im_ ?_
 refine aw_cond rfl (fun hb16 => ?_) (fun hb16 => ?_)
 replace h := bif_t hb16 h
 refine aw_seq ?_
 refine aw_sr ?_
 refine al_val (ov_fieldA (p := 2) rfl Try.underlying32 rfl sz9 rfl rfl rfl) ?_
 refine al_val (ov_load (i := 2) (v := (str a1.Text)) rfl rfl Try.underlying9 sz9 rfl rfl rfl rfl) ?_
 refine al_val (ov_strLen Try.underlying9 rfl rfl) ?_
 refine im_ ?_
 refine aw_cond rfl (fun hb17 => ?_) (fun hb17 => ?_)
 replace h := bif_t hb17 h
 refine aw_sr ?_
 refine an_ ?_
 refine aw_ret ?_
 refine aq_then_ret ?_
 refine aq_then_ret ?_
 cases h
 exact fn_ret (v0_1, v0_2, v0_3) [1, 0] [0, 1] rfl rfl rfl rfl (res1 rfl rfl) rfl rfl rfl (by decide)
 replace h := bif_f hb17 h
 refine aw_skip ?_
 refine aq_tr ?_
 refine al_val (ov_fieldA (p := 2) rfl Try.underlying32 rfl sz9 rfl rfl rfl) ?_
 refine al_val (ov_load (i := 2) (v := (str a1.Text)) rfl rfl Try.underlying9 sz9 rfl rfl rfl rfl) ?_
 refine al_val (ov_strLen Try.underlying9 rfl rfl) ?_
 refine an_ ?_
 obtain ⟨kk19, hkk19, h⟩ := lt_some h
 refine aw_seq_join (ι := Int) (fun i => (mm33 w0 Z0 a0 a1 bx0 g1 j3i0_4 v0_1 v0_2 v0_3 v1_4)) (fun i => (tab [(0, (pq bx0)), (3, (pq g1)), (5, (iq i))])) (fun i => kk19 i = some r) ?_ ?_
 rintro j18i5 h
 have h : kk19 j18i5 = some r := h
 rw [hkk19] at h
 dsimp only at h
 clear hkk19
 refine aw_show (m := (mm33 w0 Z0 a0 a1 bx0 g1 j3i0_4 v0_1 v0_2 v0_3 v1_4)) (S := _) ?_
 refine sm_ ?_
 refine mv_ ?_
 refine al_val (ov_nilCheck rfl rfl) ?_
 refine al_val (ov_fieldA (p := 0) rfl Try.underlying57 rfl sz3 rfl rfl rfl) ?_
 refine al_val (ov_load (i := 1) (v := (iq a0.Room)) rfl rfl Try.underlying3 sz3 rfl rfl rfl rfl) ?_
 refine im_ ?_
 refine aw_cond rfl (fun hb20 => ?_) (fun hb20 => ?_)
 replace h := bif_t hb20 h
 refine aw_sr ?_
 refine an_ ?_
 refine aw_ret ?_
 refine aq_then_ret ?_
 cases h
 exact fn_ret (v0_1, v0_2, v0_3) [1, 0] [0, 1] rfl rfl rfl rfl (res1 rfl rfl) rfl rfl rfl (by decide)
 replace h := bif_f hb20 h
 refine aw_skip ?_
 exact aq_join () h (nm_ [0, 1, 2] [0, 1, 2] (by decide) ⟨rfl, rfl, trivial⟩)
 clear hkk19
 refine aw_seq ?_
 refine aw_region_open [(sp_ 0 52 (pq bx0)), (sp_ 1 53 (pq bx0)), (sp_ 2 54 (ptr bx0 1)), (sp_ 3 55 v0_1), (sp_ 4 56 (ptr g1 1)), (sp_ 5 57 (str a1.Name)), (sp_ 8 60 (iq (0 : Int)))] (tab [(0, (pq bx0)), (3, (pq g1)), (5, (iq (a1.Text.length : Int)))]) mixed (fun a hs => hs.tab _ (allT_mem ⟨rfl, rfl, rfl, trivial⟩)) ?_
 refine ta_show (m := (mm33 w0 Z0 a0 a1 bx0 g1 j3i0_4 v0_1 v0_2 v0_3 v1_4)) (S := _) ?_
 refine ta_step 6 _ [0, 1, 2, 3, 4, 5, 8] [52, 53, 54, 55, 56, 57, 60] [0, 1, 2, 3, 4, 5] [7] [(sp_ 0 52 (pq bx0)), (sp_ 1 53 (pq bx0)), (sp_ 2 54 (ptr bx0 1)), (sp_ 3 55 v0_1), (sp_ 4 56 (ptr g1 1)), (sp_ 5 57 (str a1.Name))] [(sp_ 8 60 (iq (0 : Int)))] rfl rfl rfl (by kernel_rfl) rfl rfl rfl ⟨⟨_, rfl, [], rfl, by
  intro X_ Y_ F_ K_ hK_
  refine sh_ (mm33 w0 Z0 a0 a1 bx0 g1 j3i0_4 v0_1 v0_2 v0_3 v1_4) X_ Y_ ?_
  refine mv_ ?_
  refine al_nil ?_
  exact fr_fin hK_ ()⟩, ⟨_, rfl, [0], rfl, by
  intro _
  intro X_ Y_ F_ K_ hK_
  refine sh_ (mm33 w0 Z0 a0 a1 bx0 g1 j3i0_4 v0_1 v0_2 v0_3 v1_4) X_ Y_ ?_
  refine al_val (ov_nilCheck rfl rfl) ?_
  refine al_nil ?_
  exact fr_fin hK_ ()⟩, ⟨_, rfl, [1], rfl, by
  intro _
  intro X_ Y_ F_ K_ hK_
  refine sh_ (mm33 w0 Z0 a0 a1 bx0 g1 j3i0_4 v0_1 v0_2 v0_3 v1_4) X_ Y_ ?_
  refine al_val (ov_fieldA (p := 1) rfl Try.underlying57 rfl sz55 rfl rfl rfl) ?_
  refine al_nil ?_
  exact fr_fin hK_ ()⟩, ⟨_, rfl, [2], rfl, by
  intro _
  intro X_ Y_ F_ K_ hK_
  refine sh_ (mm33 w0 Z0 a0 a1 bx0 g1 j3i0_4 v0_1 v0_2 v0_3 v1_4) X_ Y_ ?_
  refine al_val (ov_load (i := 1) (v := v0_1) rfl rfl Try.underlying55 sz55 rfl rfl rfl rfl) ?_
  refine al_nil ?_
  exact fr_fin hK_ ()⟩, ⟨_, rfl, [], rfl, by
  intro X_ Y_ F_ K_ hK_
  refine sh_ (mm33 w0 Z0 a0 a1 bx0 g1 j3i0_4 v0_1 v0_2 v0_3 v1_4) X_ Y_ ?_
  refine al_val (ov_fieldA (p := 1) rfl Try.underlying32 rfl sz9 rfl rfl rfl) ?_
  refine al_nil ?_
  exact fr_fin hK_ ()⟩, ⟨_, rfl, [4], rfl, by
  intro _
  intro X_ Y_ F_ K_ hK_
  refine sh_ (mm33 w0 Z0 a0 a1 bx0 g1 j3i0_4 v0_1 v0_2 v0_3 v1_4) X_ Y_ ?_
  refine al_val (ov_load (i := 2) (v := (str a1.Name)) rfl rfl Try.underlying9 sz9 rfl rfl rfl rfl) ?_
  refine al_nil ?_
  exact fr_fin hK_ ()⟩, ⟨_, rfl, [], rfl, by
  intro X_ Y_ F_ K_ hK_
  refine sh_ (mm33 w0 Z0 a0 a1 bx0 g1 j3i0_4 v0_1 v0_2 v0_3 v1_4) X_ Y_ ?_
  refine mv_ ?_
  refine al_nil ?_
  exact fr_fin hK_ ()⟩, trivial⟩ ?_
 intro _
 intro _
 intro _
 intro _
 intro _
 intro _
 intro X_ Y_ F_ K_ hK_
 refine sh_ (mm33 w0 Z0 a0 a1 bx0 g1 j3i0_4 v0_1 v0_2 v0_3 v1_4) X_ Y_ ?_
 obtain ⟨r22, hc21, h⟩ := opt_some h
 refine al_callX (vs := [v0_1, (str a1.Name)]) (f_lumref_gone_ok fu v0_1 a0.Seen a1.Name hc21) [] [] [0, 1, 2] (pre_fz 0 rfl pre_nil) rfl (by simp) (by decide) rfl (.inl rfl) rfl Try.func56 rfl rfl rfl (fun v23 => ?_)
 refine al_nil ?_
 refine aq_show (m := Mem.plus (mm38 w0 Z0 a0 a1 bx0 g1 j3i0_4 r22 v0_1 v0_2 v0_3 v1_4 v23) X_ Y_) ?_
 refine aq_next hK_ [0, 1, 2, 3] [0, 1, 2] [(0, (pq bx0)), (3, (pq g1)), (5, (iq (a1.Text.length : Int))), (58, v23)] [60] [(sp_ 7 59 (iq (r22.length : Int)))] rfl rfl (by decide) rfl ⟨rfl, rfl, rfl, rfl, trivial⟩ ⟨rfl, trivial⟩ ?_
 clear hK_ K_ F_ X_ Y_
 refine ta_show (m := (mm38 w0 Z0 a0 a1 bx0 g1 j3i0_4 r22 v0_1 v0_2 v0_3 v1_4 v23)) (S := _) ?_
 refine ta_end [8, 7] [60, 59] rfl rfl (by kernel_rfl) rfl ⟨⟨_, rfl, [], rfl, by
  intro X_ Y_ F_ K_ hK_
  refine sh_ (mm38 w0 Z0 a0 a1 bx0 g1 j3i0_4 r22 v0_1 v0_2 v0_3 v1_4 v23) X_ Y_ ?_
  refine mv_ ?_
  refine al_nil ?_
  exact fr_fin hK_ ()⟩, ⟨_, rfl, [], rfl, by
  intro X_ Y_ F_ K_ hK_
  refine sh_ (mm38 w0 Z0 a0 a1 bx0 g1 j3i0_4 r22 v0_1 v0_2 v0_3 v1_4 v23) X_ Y_ ?_
  refine al_val (ov_lenR 0 rfl rfl Try.underlying55 rfl) ?_
  refine al_nil ?_
  exact fr_fin hK_ ()⟩, trivial⟩ ?_
 intro _
 intro _
 refine aq_show (m := (mm38 w0 Z0 a0 a1 bx0 g1 j3i0_4 r22 v0_1 v0_2 v0_3 v1_4 v23)) (S := (put (put (tab [(0, (pq bx0)), (3, (pq g1)), (5, (iq (a1.Text.length : Int))), (58, v23)]) 60 (iq (0 : Int))) 59 (iq (r22.length : Int)))) ?_
 refine aq_then ?_
 refine aw_block ?_
 refine aw_state (aw_loop (ι := Int × Int) (fun i => (mm39 w0 Z0 a0 a1 bx0 g1 j3i0_4 r22 v0_1 v0_2 v0_3 v1_4 v23)) (fun i => (tab [(0, (pq bx0)), (3, (pq g1)), (5, (iq i.1)), (58, v23), (59, (iq (r22.length : Int))), (60, (iq i.2))])) (fun q i => f___lumref_Disk__Change_L26 kk19 r22 q i.1 i.2 = some r) ?_ fu ((a1.Text.length : Int), (0 : Int)) h) (nm_ [1, 2, 3, 0] [0, 1, 2] (by decide) ⟨rfl, rfl, rfl, rfl, rfl, rfl, trivial⟩)
 clear h
 rintro k25 ⟨l24i5, l24i60⟩ h
 have h : f___lumref_Disk__Change_L26 kk19 r22 k25 l24i5 l24i60 = some r := h
 obtain _ | k25 := k25
 rw [f___lumref_Disk__Change_L26] at h; cases h
 rw [f___lumref_Disk__Change_L26] at h
 refine aw_show (m := (mm39 w0 Z0 a0 a1 bx0 g1 j3i0_4 r22 v0_1 v0_2 v0_3 v1_4 v23)) (S := _) ?_
 refine aw_sr ?_
 refine im_ ?_
 refine aw_seq ?_
 refine aw_cond rfl (fun hb27 => ?_) (fun hb27 => ?_)
 replace h := bif_t hb27 h
 refine aw_skip ?_
 refine aq_then ?_
 refine aw_seq ?_
 refine aw_block ?_
 refine aw_sr ?_
 obtain ⟨u28, hu29, h⟩ := opt_some h
 refine al_idxR 3 (at_some hu29).1 (at_some hu29).2.1 rfl rfl rfl Try.underlying55 sz101 rfl (fun p30 hp31 => ?_)
 refine al_val (ov_loadR (ds := [(str u28.Name), (str u28.Bytes)]) 3 rfl hp31 (at_some hu29).2.2 encS_lumref_File rfl Try.underlying101 sz101 rfl rfl rfl) ?_
 refine al_alloc (zs := [(str ([] : List UInt8)), (str ([] : List UInt8))]) (zeroOf_to to101) rfl rfl (fun g32 => ?_)
 refine al_store (i := 0) (vs := [(str u28.Name), (str u28.Bytes)]) (cs' := [(str u28.Name), (str u28.Bytes)]) rfl rfl rfl sz101 (cv_rfl rfl) rfl (co_val rfl (co_val rfl co_nil)) (Nat.le_of_ble_eq_true rfl) rfl rfl ?_
 refine al_nt ?_
 refine aw_region ?_
 refine mv_ ?_
 refine al_val (ov_fieldA (p := 1) rfl Try.underlying101 rfl sz9 rfl rfl rfl) ?_
 refine al_val (ov_load (i := 0) (v := (str u28.Bytes)) rfl rfl Try.underlying9 sz9 rfl rfl rfl rfl) ?_
 refine al_val (ov_strLen Try.underlying9 rfl rfl) ?_
 refine in_ ?_
 refine as_ ?_
 refine al_nil ?_
 refine aq_block ?_
 refine aq_then ?_
 refine aw_region ?_
 refine in_ ?_
 refine mv_ ?_
 refine al_nil ?_
 exact aq_again k25 ((wq (l24i5 + (u28.Bytes.length : Int))), (wq (l24i60 + (1 : Int)))) (Nat.lt_succ_self _) h (nm_ [1, 2, 3, 4] [0, 1, 2] (by decide) ⟨rfl, rfl, rfl, rfl, rfl, rfl, trivial⟩)
 replace h := bif_f hb27 h
 refine aw_exit ?_
 refine aq_then_exit ?_
 refine aq_then_exit ?_
 refine aq_block_exit ?_
 exact aq_join l24i5 h (nm_ [0, 1, 2] [0, 1, 2] (by decide) ⟨rfl, rfl, rfl, trivial⟩)
 replace h := bif_f hb16 h
 refine aw_seq ?_
 refine aw_region_open [(sp_ 0 77 (pq bx0)), (sp_ 1 78 (pq bx0)), (sp_ 2 79 (ptr bx0 1)), (sp_ 3 80 v0_1), (sp_ 4 81 (ptr g1 1)), (sp_ 5 82 (str a1.Name))] (tab [(0, (pq bx0)), (3, (pq g1))]) mixed (fun a hs => hs.tab _ (allT_mem ⟨rfl, rfl, trivial⟩)) ?_
 refine ta_show (m := (mm33 w0 Z0 a0 a1 bx0 g1 j3i0_4 v0_1 v0_2 v0_3 v1_4)) (S := _) ?_
 refine ta_step 6 _ [0, 1, 2, 3, 4, 5] [77, 78, 79, 80, 81, 82] [0, 1, 2, 3, 4, 5] [7, 8, 9] [(sp_ 0 77 (pq bx0)), (sp_ 1 78 (pq bx0)), (sp_ 2 79 (ptr bx0 1)), (sp_ 3 80 v0_1), (sp_ 4 81 (ptr g1 1)), (sp_ 5 82 (str a1.Name))] [] rfl rfl rfl (by kernel_rfl) rfl rfl rfl ⟨⟨_, rfl, [], rfl, by
  intro X_ Y_ F_ K_ hK_
  refine sh_ (mm33 w0 Z0 a0 a1 bx0 g1 j3i0_4 v0_1 v0_2 v0_3 v1_4) X_ Y_ ?_
  refine mv_ ?_
  refine al_nil ?_
  exact fr_fin hK_ ()⟩, ⟨_, rfl, [0], rfl, by
  intro _
  intro X_ Y_ F_ K_ hK_
  refine sh_ (mm33 w0 Z0 a0 a1 bx0 g1 j3i0_4 v0_1 v0_2 v0_3 v1_4) X_ Y_ ?_
  refine al_val (ov_nilCheck rfl rfl) ?_
  refine al_nil ?_
  exact fr_fin hK_ ()⟩, ⟨_, rfl, [1], rfl, by
  intro _
  intro X_ Y_ F_ K_ hK_
  refine sh_ (mm33 w0 Z0 a0 a1 bx0 g1 j3i0_4 v0_1 v0_2 v0_3 v1_4) X_ Y_ ?_
  refine al_val (ov_fieldA (p := 1) rfl Try.underlying57 rfl sz55 rfl rfl rfl) ?_
  refine al_nil ?_
  exact fr_fin hK_ ()⟩, ⟨_, rfl, [2], rfl, by
  intro _
  intro X_ Y_ F_ K_ hK_
  refine sh_ (mm33 w0 Z0 a0 a1 bx0 g1 j3i0_4 v0_1 v0_2 v0_3 v1_4) X_ Y_ ?_
  refine al_val (ov_load (i := 1) (v := v0_1) rfl rfl Try.underlying55 sz55 rfl rfl rfl rfl) ?_
  refine al_nil ?_
  exact fr_fin hK_ ()⟩, ⟨_, rfl, [], rfl, by
  intro X_ Y_ F_ K_ hK_
  refine sh_ (mm33 w0 Z0 a0 a1 bx0 g1 j3i0_4 v0_1 v0_2 v0_3 v1_4) X_ Y_ ?_
  refine al_val (ov_fieldA (p := 1) rfl Try.underlying32 rfl sz9 rfl rfl rfl) ?_
  refine al_nil ?_
  exact fr_fin hK_ ()⟩, ⟨_, rfl, [4], rfl, by
  intro _
  intro X_ Y_ F_ K_ hK_
  refine sh_ (mm33 w0 Z0 a0 a1 bx0 g1 j3i0_4 v0_1 v0_2 v0_3 v1_4) X_ Y_ ?_
  refine al_val (ov_load (i := 2) (v := (str a1.Name)) rfl rfl Try.underlying9 sz9 rfl rfl rfl rfl) ?_
  refine al_nil ?_
  exact fr_fin hK_ ()⟩, trivial⟩ ?_
 intro _
 intro _
 intro _
 intro _
 intro _
 intro _
 intro X_ Y_ F_ K_ hK_
 refine sh_ (mm33 w0 Z0 a0 a1 bx0 g1 j3i0_4 v0_1 v0_2 v0_3 v1_4) X_ Y_ ?_
 obtain ⟨r34, hc33, h⟩ := opt_some h
 refine al_callX (vs := [v0_1, (str a1.Name)]) (f_lumref_look_ok fu v0_1 a0.Seen a1.Name hc33) [] [] [0, 1, 2] (pre_fz 0 rfl pre_nil) rfl (by simp) (by decide) rfl (.inl rfl) rfl Try.func57 rfl rfl rfl (fun _ => ?_)
 refine al_nil ?_
 refine aq_show (m := Mem.plus (mm33 w0 Z0 a0 a1 bx0 g1 j3i0_4 v0_1 v0_2 v0_3 v1_4) X_ Y_) ?_
 refine aq_next hK_ [0, 1, 2] [0, 1, 2] [(0, (pq bx0)), (3, (pq g1)), (83, (Value.tuple #[(str r34.1), (bool r34.2)]))] [] [(sp_ 7 76 (Value.tuple #[(str r34.1), (bool r34.2)])), (sp_ 8 84 (str r34.1)), (sp_ 9 85 (bool r34.2))] rfl rfl (by decide) rfl ⟨rfl, rfl, rfl, trivial⟩ trivial ?_
 clear hK_ K_ F_ X_ Y_
 refine ta_show (m := (mm33 w0 Z0 a0 a1 bx0 g1 j3i0_4 v0_1 v0_2 v0_3 v1_4)) (S := _) ?_
 refine ta_step 10 _ [7, 8, 9] [76, 84, 85] [7, 8] [] [(sp_ 7 76 (Value.tuple #[(str r34.1), (bool r34.2)])), (sp_ 8 84 (str r34.1))] [(sp_ 9 85 (bool r34.2))] rfl rfl rfl (by kernel_rfl) rfl rfl rfl ⟨⟨_, rfl, [], rfl, by
  intro X_ Y_ F_ K_ hK_
  refine sh_ (mm33 w0 Z0 a0 a1 bx0 g1 j3i0_4 v0_1 v0_2 v0_3 v1_4) X_ Y_ ?_
  refine mv_ ?_
  refine al_nil ?_
  exact fr_fin hK_ ()⟩, ⟨_, rfl, [0], rfl, by
  intro _
  intro X_ Y_ F_ K_ hK_
  refine sh_ (mm33 w0 Z0 a0 a1 bx0 g1 j3i0_4 v0_1 v0_2 v0_3 v1_4) X_ Y_ ?_
  refine al_ex rfl rfl rfl ?_
  refine al_nil ?_
  exact fr_fin hK_ ()⟩, ⟨_, rfl, [0], rfl, by
  intro _
  intro X_ Y_ F_ K_ hK_
  refine sh_ (mm33 w0 Z0 a0 a1 bx0 g1 j3i0_4 v0_1 v0_2 v0_3 v1_4) X_ Y_ ?_
  refine al_ex rfl rfl rfl ?_
  refine al_nil ?_
  exact fr_fin hK_ ()⟩, trivial⟩ ?_
 intro _
 intro _
 intro X_ Y_ F_ K_ hK_
 refine sh_ (mm33 w0 Z0 a0 a1 bx0 g1 j3i0_4 v0_1 v0_2 v0_3 v1_4) X_ Y_ ?_
 refine as_ ?_
 refine al_nil ?_
 refine aq_show (m := Mem.plus (mm33 w0 Z0 a0 a1 bx0 g1 j3i0_4 v0_1 v0_2 v0_3 v1_4) X_ Y_) ?_
 refine aq_next hK_ [0, 1, 2] [0, 1, 2] [(0, (pq bx0)), (3, (pq g1)), (76, (Value.tuple #[(str r34.1), (bool r34.2)]))] [85] [] rfl rfl (by decide) rfl ⟨rfl, rfl, rfl, trivial⟩ ⟨rfl, trivial⟩ ?_
 clear hK_ K_ F_ X_ Y_
 refine ta_show (m := (mm33 w0 Z0 a0 a1 bx0 g1 j3i0_4 v0_1 v0_2 v0_3 v1_4)) (S := _) ?_
 refine ta_step 11 _ [9] [85] [9] [] [(sp_ 9 85 (bool r34.2))] [] rfl rfl rfl (by kernel_rfl) rfl rfl rfl ⟨⟨_, rfl, [], rfl, by
  intro X_ Y_ F_ K_ hK_
  refine sh_ (mm33 w0 Z0 a0 a1 bx0 g1 j3i0_4 v0_1 v0_2 v0_3 v1_4) X_ Y_ ?_
  refine al_ex rfl rfl rfl ?_
  refine al_nil ?_
  exact fr_fin hK_ ()⟩, trivial⟩ ?_
 intro _
 intro X_ Y_ F_ K_ hK_
 refine sh_ (mm33 w0 Z0 a0 a1 bx0 g1 j3i0_4 v0_1 v0_2 v0_3 v1_4) X_ Y_ ?_
 refine as_ ?_
 refine al_nil ?_
 refine aq_show (m := Mem.plus (mm33 w0 Z0 a0 a1 bx0 g1 j3i0_4 v0_1 v0_2 v0_3 v1_4) X_ Y_) ?_
 refine aq_next hK_ [0, 1, 2] [0, 1, 2] [(0, (pq bx0)), (3, (pq g1)), (9, (bool r34.2))] [] [] rfl rfl (by decide) rfl ⟨rfl, rfl, rfl, trivial⟩ trivial ?_
 clear hK_ K_ F_ X_ Y_
 refine ta_show (m := (mm33 w0 Z0 a0 a1 bx0 g1 j3i0_4 v0_1 v0_2 v0_3 v1_4)) (S := _) ?_
 refine ta_end [] [] rfl rfl (by kernel_rfl) rfl trivial ?_
 refine aq_show (m := (mm33 w0 Z0 a0 a1 bx0 g1 j3i0_4 v0_1 v0_2 v0_3 v1_4)) (S := (tab [(0, (pq bx0)), (3, (pq g1)), (9, (bool r34.2))])) ?_
 refine aq_tr ?_
 refine mv_ ?_
 refine al_val (ov_not rfl rfl) ?_
 refine al_nt ?_
 refine aw_cond rfl (fun hb35 => ?_) (fun hb35 => ?_)
 replace h := bif_t hb35 h
 refine aw_sr ?_
 refine an_ ?_
 refine aw_ret ?_
 refine aq_then_ret ?_
 cases h
 exact fn_ret (v0_1, v0_2, v0_3) [1, 0] [0, 1] rfl rfl rfl rfl (res1 rfl rfl) rfl rfl rfl (by decide)
 replace h := bif_f hb35 h
 refine aw_skip ?_
 exact aq_join () h (nm_ [0, 1, 2] [0, 1, 2] (by decide) ⟨rfl, rfl, trivial⟩)
 clear hkk6
 refine aw_region ?_
 refine al_val (ov_fieldA (p := 1) rfl Try.underlying32 rfl sz9 rfl rfl rfl) ?_
 refine al_val (ov_load (i := 2) (v := (str a1.Name)) rfl rfl Try.underlying9 sz9 rfl rfl rfl rfl) ?_
 obtain ⟨r37, hc36, h⟩ := opt_some h
 refine al_call (vs := [(str a1.Name)]) (f_lumref_fileErr_ok fu a1.Name hc36) [] [] [0, 1, 2] pre_nil rfl (by simp) (by decide) (.inl rfl) rfl Try.func55 rfl rfl rfl (fun _ => ?_)
 refine in_ ?_
 refine mv_ ?_
 refine al_caseB 31 rfl (fun hb38 => ?_) (fun hb38 => ?_)
 replace h := bif_t hb38 h
 iterate 9 refine al_skip ?_
 refine al_val (ov_pick_t rfl rfl rfl) ?_
 refine al_nil ?_
 exact aq_join true h (nm_ [0, 1, 2] [0, 1, 2] (by decide) ⟨rfl, rfl, rfl, trivial⟩)
 replace h := bif_f hb38 h
 refine al_val (ov_fieldA (p := 0) rfl Try.underlying32 rfl sz3 rfl rfl rfl) ?_
 refine al_val (ov_load (i := 2) (v := (iq a1.Kind)) rfl rfl Try.underlying3 sz3 rfl rfl rfl rfl) ?_
 refine in_ ?_
 refine mv_ ?_
 refine al_caseB 35 rfl (fun hb39 => ?_) (fun hb39 => ?_)
 replace h := bif_t hb39 h
 refine al_val (ov_fieldA (p := 2) rfl Try.underlying32 rfl sz9 rfl rfl rfl) ?_
 refine al_val (ov_load (i := 2) (v := (str a1.Text)) rfl rfl Try.underlying9 sz9 rfl rfl rfl rfl) ?_
 obtain ⟨r41, hc40, h⟩ := opt_some h
 refine al_call (vs := [(str a1.Text)]) (f_lumref_fileErr_ok fu a1.Text hc40) [] [] [0, 1, 2] pre_nil rfl (by simp) (by decide) (.inl rfl) rfl Try.func55 rfl rfl rfl (fun _ => ?_)
 refine in_ ?_
 refine al_val (ov_pick_t rfl rfl rfl) ?_
 refine al_val (ov_pick_f rfl rfl rfl) ?_
 refine al_nil ?_
 exact aq_join (r41 != (0 : Int)) h (nm_ [0, 1, 2] [0, 1, 2] (by decide) ⟨rfl, rfl, rfl, trivial⟩)
 replace h := bif_f hb39 h
 iterate 4 refine al_skip ?_
 refine al_val (ov_pick_f rfl rfl rfl) ?_
 refine al_val (ov_pick_f rfl rfl rfl) ?_
 refine al_nil ?_
 exact aq_join false h (nm_ [0, 1, 2] [0, 1, 2] (by decide) ⟨rfl, rfl, rfl, trivial⟩)
 clear hkk4
 refine sm_ ?_
 refine al_val (ov_nilCheck rfl rfl) ?_
 refine al_val (ov_fieldA (p := 4) rfl Try.underlying57 rfl sz3 rfl rfl rfl) ?_
 refine al_val (ov_load (i := 1) (v := (iq a0.Left)) rfl rfl Try.underlying3 sz3 rfl rfl rfl rfl) ?_
 refine im_ ?_
 refine aw_cond rfl (fun hb42 => ?_) (fun hb42 => ?_)
 replace h := bif_t hb42 h
 refine aw_region ?_
 refine mv_ ?_
 refine al_val (ov_nilCheck rfl rfl) ?_
 refine al_val (ov_fieldA (p := 4) rfl Try.underlying57 rfl sz3 rfl rfl rfl) ?_
 refine al_val (ov_load (i := 1) (v := (iq a0.Left)) rfl rfl Try.underlying3 sz3 rfl rfl rfl rfl) ?_
 refine in_ ?_
 refine al_val (ov_nilCheck rfl rfl) ?_
 refine al_val (ov_fieldA (p := 4) rfl Try.underlying57 rfl sz3 rfl rfl rfl) ?_
 refine al_store (i := 1) (vs := [(iq (wq (a0.Left - (1 : Int))))]) (cs' := [(iq a0.Room), v0_1, v0_2, v0_3, (iq (wq (a0.Left - (1 : Int))))]) rfl rfl rfl sz3 (cv_rfl rfl) rfl (co_val rfl co_nil) (Nat.le_of_ble_eq_true rfl) rfl rfl ?_
 refine al_nil ?_
 exact aq_join (wq (a0.Left - (1 : Int))) h (nm_ [2, 1, 0] [0, 1, 2] (by decide) ⟨rfl, rfl, trivial⟩)
 replace h := bif_f hb42 h
 refine aw_skip ?_
 exact aq_join a0.Left h (nm_ [2, 1, 0] [0, 1, 2] (by decide) ⟨rfl, rfl, trivial⟩)
def f___lumref_Disk__Write (fu : Nat) (a0 : D_lumref_Disk) (a1 : (List UInt8)) (a2 : (List UInt8)) : Option (Int × D_lumref_Disk) := (opt (f___lumref_Disk__Change fu a0 (S_api_Deed.mk (1 : Int) a1 a2 (0 : Int) ([] : (List Int)))) fun (r2 : (Int × D_lumref_Disk)) => (some (r2.1, r2.2)))
set_option maxRecDepth 100000 in
theorem f___lumref_Disk__Write_ok (fu : Nat) (bx0 : Nat) (v0_1 : Value) (v0_2 : Value) (v0_3 : Value) (a0 : D_lumref_Disk) (a1 : (List UInt8)) (a2 : (List UInt8)) {r : (Int × D_lumref_Disk)} (h : f___lumref_Disk__Write fu a0 a1 a2 = some r) : FnOk Try.prog 18 [(ptr bx0 0), (str a1), (str a2)] [(fDat (tyList tyS_lumref_File) [v0_1] a0.Seen), (fDat (tyList tyS_lumref_File) [v0_2] a0.Safe)] [(oBox bx0 57 [(int .i64 a0.Room), v0_1, v0_2, v0_3, (int .i64 a0.Left)]), (oRow v0_3 32 tyS_api_Deed a0.Ops)] (fun (i : Value × Value × Value) => { val := (int .i64 r.1), own := [(oBox bx0 57 [(int .i64 r.2.Room), i.1, i.2.1, i.2.2, (int .i64 r.2.Left)]), (oRow i.2.2 32 tyS_api_Deed r.2.Ops)], fz := [(fDat (tyList tyS_lumref_File) [i.1] r.2.Seen), (fDat (tyList tyS_lumref_File) [i.2.1] r.2.Safe)] }) := by
 unfold f___lumref_Disk__Write at h
 refine fn_enter Try.func18 rfl Try.ntmps18 rfl (fun w0 Z0 => ?_)
 refine aw_sr ?_
 refine an_ ?_
 refine sm_ ?_
 refine mv_ ?_
 refine mv_ ?_
 refine al_val (ov_build (cells := ([(iq (1 : Int)), (str a1), (str a2), (iq (0 : Int)), nS] : List Value).toArray) (cs := [(iq (1 : Int)), (str a1), (str a2), (iq (0 : Int)), nS]) rfl (fun w a hm hs => by simp only [List.map_toArray, List.map_cons, List.map_nil, List.toList_toArray, hs.ev (x := .const (iq (1 : Int))) rfl, hs.ev (x := .tmp 8) rfl, hs.ev (x := .tmp 9) rfl]; kernel_rfl)) ?_
 obtain ⟨r2, hc1, h⟩ := opt_some h
 refine al_call (vs := [(pq bx0), (ag [(iq (1 : Int)), (str a1), (str a2), (iq (0 : Int)), nS])]) (f___lumref_Disk__Change_ok fu bx0 v0_1 v0_2 v0_3 a0 nS (S_api_Deed.mk (1 : Int) a1 a2 (0 : Int) ([] : (List Int))) hc1) [] [0, 1] [] (pre_fz 0 rfl (pre_fz 1 rfl (pre_nilD pre_nil))) rfl (by simp) (by decide) (.inl rfl) rfl Try.func20 rfl rfl rfl (fun ⟨v3, v4, v5⟩ => ?_)
 refine an_ ?_
 refine aw_ret ?_
 cases h
 exact fn_ret (v3, v4, v5) [0, 1] [0, 1] rfl rfl rfl rfl (res1 rfl rfl) rfl rfl rfl (by decide)
def f___lumref_Disk__Sync (fu : Nat) (a0 : D_lumref_Disk) : Option (Int × D_lumref_Disk) := (bif (a0.Left == (0 : Int)) then (some ((17 : Int), a0)) else (lt (fun (j2i0_4 : Int) => (opt (f_slices_Clone___lumref_File_lumref_File_ fu a0.Seen) fun (r5 : (List S_lumref_File)) => (some ((0 : Int), (D_lumref_Disk.mk a0.Room a0.Seen r5 ([] : List S_api_Deed) j2i0_4))))) fun (kk3 : Int → Option (Int × D_lumref_Disk)) => (bif (decide (a0.Left > (0 : Int))) then (kk3 (IntKind.i64.wrap (a0.Left - (1 : Int)))) else (kk3 a0.Left))))
abbrev mm40 (w0 : World) (Z0 : Nat → Prop) (a0 : D_lumref_Disk) (bx0 : Nat) (j2i0_4 : Int) (v0_1 : Value) (v0_2 : Value) (v0_3 : Value) : Mem := memOf w0 Z0 [(oBox bx0 57 [(int .i64 a0.Room), v0_1, v0_2, v0_3, (int .i64 a0.Left)]), (oRow v0_3 32 tyS_api_Deed a0.Ops)] [(oRow v0_3 32 tyS_api_Deed a0.Ops), (oBox bx0 57 [(int .i64 a0.Room), v0_1, v0_2, v0_3, (int .i64 j2i0_4)])] [(fDat (tyList tyS_lumref_File) [v0_1] a0.Seen), (fDat (tyList tyS_lumref_File) [v0_2] a0.Safe)]
set_option maxHeartbeats 2000000 in
set_option maxRecDepth 100000 in
theorem f___lumref_Disk__Sync_ok (fu : Nat) (bx0 : Nat) (v0_1 : Value) (v0_2 : Value) (v0_3 : Value) (a0 : D_lumref_Disk) {r : (Int × D_lumref_Disk)} (h : f___lumref_Disk__Sync fu a0 = some r) : FnOk Try.prog 23 [(ptr bx0 0)] [(fDat (tyList tyS_lumref_File) [v0_1] a0.Seen), (fDat (tyList tyS_lumref_File) [v0_2] a0.Safe)] [(oBox bx0 57 [(int .i64 a0.Room), v0_1, v0_2, v0_3, (int .i64 a0.Left)]), (oRow v0_3 32 tyS_api_Deed a0.Ops)] (fun (i : Value × Value × Value) => { val := (int .i64 r.1), own := [(oBox bx0 57 [(int .i64 r.2.Room), i.1, i.2.1, i.2.2, (int .i64 r.2.Left)]), (oRow i.2.2 32 tyS_api_Deed r.2.Ops)], fz := [(fDat (tyList tyS_lumref_File) [i.1] r.2.Seen), (fDat (tyList tyS_lumref_File) [i.2.1] r.2.Safe)] }) := by
 unfold f___lumref_Disk__Sync at h
 refine fn_enter Try.func23 rfl Try.ntmps23 rfl (fun w0 Z0 => ?_)
 refine aw_sr ?_
 refine an_ ?_
 refine aw_seq ?_
 refine sm_ ?_
 refine al_val (ov_nilCheck rfl rfl) ?_
 refine al_val (ov_fieldA (p := 4) rfl Try.underlying57 rfl sz3 rfl rfl rfl) ?_
 refine al_val (ov_load (i := 0) (v := (iq a0.Left)) rfl rfl Try.underlying3 sz3 rfl rfl rfl rfl) ?_
 refine im_ ?_
 refine aw_cond rfl (fun hb1 => ?_) (fun hb1 => ?_)
 replace h := bif_t hb1 h
 refine aw_sr ?_
 refine an_ ?_
 refine aw_ret ?_
 refine aq_then_ret ?_
 cases h
 exact fn_ret (v0_1, v0_2, v0_3) [0, 1] [0, 1] rfl rfl rfl rfl (res1 rfl rfl) rfl rfl rfl (by decide)
 replace h := bif_f hb1 h
 refine aw_skip ?_
 refine aq_then ?_
 obtain ⟨kk3, hkk3, h⟩ := lt_some h
 refine aw_seq_join (ι := Int) (fun i => (mm40 w0 Z0 a0 bx0 i v0_1 v0_2 v0_3)) (fun i => (tab [(0, (pq bx0))])) (fun i => kk3 i = some r) ?_ ?_
 rintro j2i0_4 h
 have h : kk3 j2i0_4 = some r := h
 rw [hkk3] at h
 dsimp only at h
 clear hkk3
 refine aw_show (m := (mm40 w0 Z0 a0 bx0 j2i0_4 v0_1 v0_2 v0_3)) (S := _) ?_
 refine sm_ ?_
 refine mv_ ?_
 refine mv_ ?_
 refine al_val (ov_nilCheck rfl rfl) ?_
 refine al_val (ov_fieldA (p := 1) rfl Try.underlying57 rfl sz55 rfl rfl rfl) ?_
 refine al_val (ov_load (i := 1) (v := v0_1) rfl rfl Try.underlying55 sz55 rfl rfl rfl rfl) ?_
 obtain ⟨r5, hc4, h⟩ := opt_some h
 refine al_call (vs := [v0_1]) (f_slices_Clone___lumref_File_lumref_File__ok fu v0_1 a0.Seen hc4) [] [] [0, 1] (pre_fz 0 rfl pre_nil) rfl (by simp) (by decide) (.inl rfl) rfl Try.func60 rfl rfl rfl (fun v6 => ?_)
 refine al_val (ov_nilCheck rfl rfl) ?_
 refine al_val (ov_fieldA (p := 2) rfl Try.underlying57 rfl sz55 rfl rfl rfl) ?_
 refine al_store (i := 2) (vs := [v6]) (cs' := [(iq a0.Room), v0_1, v6, v0_3, (iq j2i0_4)]) rfl rfl rfl sz55 (cv_own 0 rfl) rfl (co_own 0 rfl co_nil) (Nat.le_of_ble_eq_true rfl) rfl rfl ?_
 refine al_val (ov_nilCheck rfl rfl) ?_
 refine al_val (ov_fieldA (p := 3) rfl Try.underlying57 rfl sz22 rfl rfl rfl) ?_
 refine al_store (i := 2) (vs := [nS]) (cs' := [(iq a0.Room), v0_1, v6, nS, (iq j2i0_4)]) rfl rfl rfl sz22 (cv_rfl rfl) rfl (co_val rfl co_nil) (Nat.le_of_ble_eq_true rfl) rfl rfl ?_
 refine al_nt ?_
 refine aw_sr ?_
 refine an_ ?_
 refine aw_ret ?_
 refine aq_freezeX 0 [2, 1] rfl rfl rfl ?_
 refine aq_nilR 32 tyS_api_Deed ?_
 cases h
 exact fn_ret (v0_1, v6, nS) [2, 0] [1, 0] rfl rfl rfl rfl (res1 rfl rfl) rfl rfl rfl (by decide)
 clear hkk3
 refine sm_ ?_
 refine al_val (ov_nilCheck rfl rfl) ?_
 refine al_val (ov_fieldA (p := 4) rfl Try.underlying57 rfl sz3 rfl rfl rfl) ?_
 refine al_val (ov_load (i := 0) (v := (iq a0.Left)) rfl rfl Try.underlying3 sz3 rfl rfl rfl rfl) ?_
 refine im_ ?_
 refine aw_cond rfl (fun hb7 => ?_) (fun hb7 => ?_)
 replace h := bif_t hb7 h
 refine aw_region ?_
 refine mv_ ?_
 refine al_val (ov_nilCheck rfl rfl) ?_
 refine al_val (ov_fieldA (p := 4) rfl Try.underlying57 rfl sz3 rfl rfl rfl) ?_
 refine al_val (ov_load (i := 0) (v := (iq a0.Left)) rfl rfl Try.underlying3 sz3 rfl rfl rfl rfl) ?_
 refine in_ ?_
 refine al_val (ov_nilCheck rfl rfl) ?_
 refine al_val (ov_fieldA (p := 4) rfl Try.underlying57 rfl sz3 rfl rfl rfl) ?_
 refine al_store (i := 0) (vs := [(iq (wq (a0.Left - (1 : Int))))]) (cs' := [(iq a0.Room), v0_1, v0_2, v0_3, (iq (wq (a0.Left - (1 : Int))))]) rfl rfl rfl sz3 (cv_rfl rfl) rfl (co_val rfl co_nil) (Nat.le_of_ble_eq_true rfl) rfl rfl ?_
 refine al_nil ?_
 exact aq_join (wq (a0.Left - (1 : Int))) h (nm_ [1, 0] [0, 1] (by decide) ⟨rfl, trivial⟩)
 replace h := bif_f hb7 h
 refine aw_skip ?_
 exact aq_join a0.Left h (nm_ [1, 0] [0, 1] (by decide) ⟨rfl, trivial⟩)
def f___lumref_Disk__Read (fu : Nat) (a0 : D_lumref_Disk) (a1 : (List UInt8)) : Option ((List UInt8) × Int × D_lumref_Disk) := (bif (a0.Left == (0 : Int)) then (some (([] : List UInt8), (17 : Int), a0)) else (opt (f_lumref_fileErr fu a1) fun (r3 : Int) => (bif (r3 != (0 : Int)) then (some (([] : List UInt8), (8 : Int), a0)) else (opt (f_lumref_look fu a0.Seen a1) fun (r6 : ((List UInt8) × Bool)) => (bif (!r6.2) then (some (([] : List UInt8), (9 : Int), a0)) else (some (r6.1, (0 : Int), a0)))))))
set_option maxHeartbeats 2000000 in
set_option maxRecDepth 100000 in
theorem f___lumref_Disk__Read_ok (fu : Nat) (bx0 : Nat) (v0_1 : Value) (v0_2 : Value) (v0_3 : Value) (a0 : D_lumref_Disk) (a1 : (List UInt8)) {r : ((List UInt8) × Int × D_lumref_Disk)} (h : f___lumref_Disk__Read fu a0 a1 = some r) : FnOk Try.prog 25 [(ptr bx0 0), (str a1)] [(fDat (tyList tyS_lumref_File) [v0_1] a0.Seen), (fDat (tyList tyS_lumref_File) [v0_2] a0.Safe)] [(oBox bx0 57 [(int .i64 a0.Room), v0_1, v0_2, v0_3, (int .i64 a0.Left)]), (oRow v0_3 32 tyS_api_Deed a0.Ops)] (fun (i : Value × Value × Value) => { val := (Value.tuple #[(str r.1), (int .i64 r.2.1)]), own := [(oBox bx0 57 [(int .i64 r.2.2.Room), i.1, i.2.1, i.2.2, (int .i64 r.2.2.Left)]), (oRow i.2.2 32 tyS_api_Deed r.2.2.Ops)], fz := [(fDat (tyList tyS_lumref_File) [i.1] r.2.2.Seen), (fDat (tyList tyS_lumref_File) [i.2.1] r.2.2.Safe)] }) := by
 unfold f___lumref_Disk__Read at h
 refine fn_enter Try.func25 rfl Try.ntmps25 rfl (fun w0 Z0 => ?_)
 refine aw_sr ?_
 refine as_ ?_
 refine an_ ?_
 refine aw_seq ?_
 refine sm_ ?_
 refine al_val (ov_nilCheck rfl rfl) ?_
 refine al_val (ov_fieldA (p := 4) rfl Try.underlying57 rfl sz3 rfl rfl rfl) ?_
 refine al_val (ov_load (i := 0) (v := (iq a0.Left)) rfl rfl Try.underlying3 sz3 rfl rfl rfl rfl) ?_
 refine im_ ?_
 refine aw_cond rfl (fun hb1 => ?_) (fun hb1 => ?_)
 replace h := bif_t hb1 h
 refine aw_sr ?_
 refine as_ ?_
 refine an_ ?_
 refine aw_ret ?_
 refine aq_then_ret ?_
 cases h
 exact fn_ret (v0_1, v0_2, v0_3) [0, 1] [0, 1] rfl rfl rfl rfl (res2 rfl rfl rfl) rfl rfl rfl (by decide)
 replace h := bif_f hb1 h
 refine aw_skip ?_
 refine aq_then ?_
 refine aw_seq ?_
 refine sm_ ?_
 obtain ⟨r3, hc2, h⟩ := opt_some h
 refine al_call (vs := [(str a1)]) (f_lumref_fileErr_ok fu a1 hc2) [] [] [0, 1] pre_nil rfl (by simp) (by decide) (.inl rfl) rfl Try.func55 rfl rfl rfl (fun _ => ?_)
 refine im_ ?_
 refine aw_cond rfl (fun hb4 => ?_) (fun hb4 => ?_)
 replace h := bif_t hb4 h
 refine aw_sr ?_
 refine as_ ?_
 refine an_ ?_
 refine aw_ret ?_
 refine aq_then_ret ?_
 cases h
 exact fn_ret (v0_1, v0_2, v0_3) [0, 1] [0, 1] rfl rfl rfl rfl (res2 rfl rfl rfl) rfl rfl rfl (by decide)
 replace h := bif_f hb4 h
 refine aw_skip ?_
 refine aq_tr ?_
 refine mv_ ?_
 refine al_val (ov_nilCheck rfl rfl) ?_
 refine al_val (ov_fieldA (p := 1) rfl Try.underlying57 rfl sz55 rfl rfl rfl) ?_
 refine al_val (ov_load (i := 0) (v := v0_1) rfl rfl Try.underlying55 sz55 rfl rfl rfl rfl) ?_
 refine mv_ ?_
 obtain ⟨r6, hc5, h⟩ := opt_some h
 refine al_call (vs := [v0_1, (str a1)]) (f_lumref_look_ok fu v0_1 a0.Seen a1 hc5) [] [] [0, 1] (pre_fz 0 rfl pre_nil) rfl (by simp) (by decide) (.inl rfl) rfl Try.func57 rfl rfl rfl (fun _ => ?_)
 refine mv_ ?_
 refine al_ex rfl rfl rfl ?_
 refine al_ex rfl rfl rfl ?_
 refine as_ ?_
 refine an_ ?_
 refine aw_seq ?_
 refine sm_ ?_
 refine al_val (ov_not rfl rfl) ?_
 refine al_nt ?_
 refine aw_cond rfl (fun hb7 => ?_) (fun hb7 => ?_)
 replace h := bif_t hb7 h
 refine aw_sr ?_
 refine as_ ?_
 refine an_ ?_
 refine aw_ret ?_
 refine aq_then_ret ?_
 cases h
 exact fn_ret (v0_1, v0_2, v0_3) [0, 1] [0, 1] rfl rfl rfl rfl (res2 rfl rfl rfl) rfl rfl rfl (by decide)
 replace h := bif_f hb7 h
 refine aw_skip ?_
 refine aq_tr ?_
 refine mv_ ?_
 refine as_ ?_
 refine an_ ?_
 refine aw_ret ?_
 cases h
 exact fn_ret (v0_1, v0_2, v0_3) [0, 1] [0, 1] rfl rfl rfl rfl (res2 rfl rfl rfl) rfl rfl rfl (by decide)
def f___lumref_Disk__List_L6 (a0 : D_lumref_Disk) (kk3 : ((List (List UInt8)) → Option ((List (List UInt8)) × Int × D_lumref_Disk))) : Nat → (List (List UInt8)) → Int → Option ((List (List UInt8)) × Int × D_lumref_Disk)
  | 0, _, _ => none
  | k5 + 1, l4x4, l4i17 => (bif (decide (l4i17 < (a0.Seen.length : Int))) then (opt (at? a0.Seen l4i17) fun (u8 : S_lumref_File) => (req (((l4x4.length + ([u8.Name]).length) * 16 : Nat) ≤ 140737488355328 ∧ l4x4.length + ([u8.Name]).length ≤ 9223372036854775807) (f___lumref_Disk__List_L6 a0 kk3 k5 (l4x4 ++ ([u8.Name])) (IntKind.i64.wrap (l4i17 + (1 : Int)))))) else (kk3 l4x4))
def f___lumref_Disk__List (fu : Nat) (a0 : D_lumref_Disk) : Option ((List (List UInt8)) × Int × D_lumref_Disk) := (bif (a0.Left == (0 : Int)) then (some (([] : List (List UInt8)), (17 : Int), a0)) else (lt (fun (j2x4 : (List (List UInt8))) => (some (j2x4, (0 : Int), a0))) fun (kk3 : (List (List UInt8)) → Option ((List (List UInt8)) × Int × D_lumref_Disk)) => (f___lumref_Disk__List_L6 a0 kk3 fu ([] : List (List UInt8)) (0 : Int))))
abbrev mm41 (w0 : World) (Z0 : Nat → Prop) (a0 : D_lumref_Disk) (bx0 : Nat) (j2v4 : Value) (j2x4 : (List (List UInt8))) (v0_1 : Value) (v0_2 : Value) (v0_3 : Value) : Mem := memOf w0 Z0 [(oBox bx0 57 [(int .i64 a0.Room), v0_1, v0_2, v0_3, (int .i64 a0.Left)]), (oRow v0_3 32 tyS_api_Deed a0.Ops)] [(oRow v0_3 32 tyS_api_Deed a0.Ops), (oBox bx0 57 [(int .i64 a0.Room), v0_1, v0_2, v0_3, (int .i64 a0.Left)]), (oRow j2v4 9 tyStr j2x4)] [(fDat (tyList tyS_lumref_File) [v0_1] a0.Seen), (fDat (tyList tyS_lumref_File) [v0_2] a0.Safe)]
abbrev mm42 (w0 : World) (Z0 : Nat → Prop) (a0 : D_lumref_Disk) (bx0 : Nat) (l4v4 : Value) (l4x4 : (List (List UInt8))) (v0_1 : Value) (v0_2 : Value) (v0_3 : Value) : Mem := memOf w0 Z0 [(oBox bx0 57 [(int .i64 a0.Room), v0_1, v0_2, v0_3, (int .i64 a0.Left)]), (oRow v0_3 32 tyS_api_Deed a0.Ops)] [(oRow v0_3 32 tyS_api_Deed a0.Ops), (oBox bx0 57 [(int .i64 a0.Room), v0_1, v0_2, v0_3, (int .i64 a0.Left)]), (oRow l4v4 9 tyStr l4x4)] [(fDat (tyList tyS_lumref_File) [v0_1] a0.Seen), (fDat (tyList tyS_lumref_File) [v0_2] a0.Safe)]
set_option maxHeartbeats 2000000 in
set_option maxRecDepth 100000 in
theorem f___lumref_Disk__List_ok (fu : Nat) (bx0 : Nat) (v0_1 : Value) (v0_2 : Value) (v0_3 : Value) (a0 : D_lumref_Disk) {r : ((List (List UInt8)) × Int × D_lumref_Disk)} (h : f___lumref_Disk__List fu a0 = some r) : FnOk Try.prog 27 [(ptr bx0 0)] [(fDat (tyList tyS_lumref_File) [v0_1] a0.Seen), (fDat (tyList tyS_lumref_File) [v0_2] a0.Safe)] [(oBox bx0 57 [(int .i64 a0.Room), v0_1, v0_2, v0_3, (int .i64 a0.Left)]), (oRow v0_3 32 tyS_api_Deed a0.Ops)] (fun (i : Value × Value × Value × Value) => { val := (Value.tuple #[i.1, (int .i64 r.2.1)]), own := [(oRow i.1 9 tyStr r.1), (oBox bx0 57 [(int .i64 r.2.2.Room), i.2.1, i.2.2.1, i.2.2.2, (int .i64 r.2.2.Left)]), (oRow i.2.2.2 32 tyS_api_Deed r.2.2.Ops)], fz := [(fDat (tyList tyS_lumref_File) [i.2.1] r.2.2.Seen), (fDat (tyList tyS_lumref_File) [i.2.2.1] r.2.2.Safe)] }) := by
 unfold f___lumref_Disk__List at h
 refine fn_enter Try.func27 rfl Try.ntmps27 rfl (fun w0 Z0 => ?_)
 refine aw_sr ?_
 refine as_ ?_
 refine an_ ?_
 refine aw_seq ?_
 refine sm_ ?_
 refine al_val (ov_nilCheck rfl rfl) ?_
 refine al_val (ov_fieldA (p := 4) rfl Try.underlying57 rfl sz3 rfl rfl rfl) ?_
 refine al_val (ov_load (i := 0) (v := (iq a0.Left)) rfl rfl Try.underlying3 sz3 rfl rfl rfl rfl) ?_
 refine im_ ?_
 refine aw_cond rfl (fun hb1 => ?_) (fun hb1 => ?_)
 replace h := bif_t hb1 h
 refine aw_sr ?_
 refine as_ ?_
 refine an_ ?_
 refine aw_ret ?_
 refine aq_then_ret ?_
 refine aq_nilR 9 tyStr ?_
 cases h
 exact fn_ret (nS, v0_1, v0_2, v0_3) [0, 1, 2] [0, 1] rfl rfl rfl rfl (res2 rfl rfl rfl) rfl rfl rfl (by decide)
 replace h := bif_f hb1 h
 refine aw_skip ?_
 refine aq_tr ?_
 refine an_ ?_
 obtain ⟨kk3, hkk3, h⟩ := lt_some h
 refine aw_seq_join (ι := Value × (List (List UInt8))) (fun i => (mm41 w0 Z0 a0 bx0 i.1 i.2 v0_1 v0_2 v0_3)) (fun i => (tab [(0, (pq bx0)), (4, i.1)])) (fun i => kk3 i.2 = some r) ?_ ?_
 rintro ⟨j2v4, j2x4⟩ h
 have h : kk3 j2x4 = some r := h
 rw [hkk3] at h
 dsimp only at h
 clear hkk3
 refine aw_show (m := (mm41 w0 Z0 a0 bx0 j2v4 j2x4 v0_1 v0_2 v0_3)) (S := _) ?_
 refine sm_ ?_
 refine as_ ?_
 refine an_ ?_
 refine aw_ret ?_
 cases h
 exact fn_ret (j2v4, v0_1, v0_2, v0_3) [2, 1, 0] [0, 1] rfl rfl rfl rfl (res2 rfl rfl rfl) rfl rfl rfl (by decide)
 clear hkk3
 refine sm_ ?_
 refine al_val (ov_nilCheck rfl rfl) ?_
 refine al_val (ov_fieldA (p := 1) rfl Try.underlying57 rfl sz55 rfl rfl rfl) ?_
 refine al_val (ov_load (i := 0) (v := v0_1) rfl rfl Try.underlying55 sz55 rfl rfl rfl rfl) ?_
 refine al_val (ov_lenD 0 rfl rfl Try.underlying55 rfl) ?_
 refine mv_ ?_
 refine al_nt ?_
 refine aw_block ?_
 refine aw_nilR 9 tyStr ?_
 refine aw_state (aw_loop (ι := Value × (List (List UInt8)) × Int) (fun i => (mm42 w0 Z0 a0 bx0 i.1 i.2.1 v0_1 v0_2 v0_3)) (fun i => (tab [(0, (pq bx0)), (4, i.1), (15, v0_1), (16, (iq (a0.Seen.length : Int))), (17, (iq i.2.2))])) (fun q i => f___lumref_Disk__List_L6 a0 kk3 q i.2.1 i.2.2 = some r) ?_ fu (nS, ([] : List (List UInt8)), (0 : Int)) h) (nm_ [2, 1, 0] [0, 1] (by decide) ⟨rfl, rfl, rfl, rfl, rfl, trivial⟩)
 clear h
 rintro k5 ⟨l4v4, l4x4, l4i17⟩ h
 have h : f___lumref_Disk__List_L6 a0 kk3 k5 l4x4 l4i17 = some r := h
 obtain _ | k5 := k5
 rw [f___lumref_Disk__List_L6] at h; cases h
 rw [f___lumref_Disk__List_L6] at h
 refine aw_show (m := (mm42 w0 Z0 a0 bx0 l4v4 l4x4 v0_1 v0_2 v0_3)) (S := _) ?_
 refine aw_sr ?_
 refine im_ ?_
 refine aw_seq ?_
 refine aw_cond rfl (fun hb7 => ?_) (fun hb7 => ?_)
 replace h := bif_t hb7 h
 refine aw_skip ?_
 refine aq_then ?_
 refine aw_seq ?_
 refine aw_block ?_
 refine aw_sr ?_
 obtain ⟨u8, hu9, h⟩ := opt_some h
 refine al_idxD 0 hu9 rfl rfl rfl Try.underlying55 sz101 rfl (fun p10 => ?_)
 refine al_val (ov_loadP (ds := [(str u8.Name), (str u8.Bytes)]) 0 rfl encS_lumref_File rfl Try.underlying101 sz101 rfl rfl rfl) ?_
 refine al_alloc (zs := [(str ([] : List UInt8)), (str ([] : List UInt8))]) (zeroOf_to to101) rfl rfl (fun g11 => ?_)
 refine al_store (i := 0) (vs := [(str u8.Name), (str u8.Bytes)]) (cs' := [(str u8.Name), (str u8.Bytes)]) rfl rfl rfl sz101 (cv_rfl rfl) rfl (co_val rfl (co_val rfl co_nil)) (Nat.le_of_ble_eq_true rfl) rfl rfl ?_
 refine al_nt ?_
 refine aw_region ?_
 refine mv_ ?_
 refine al_val (ov_fieldA (p := 0) rfl Try.underlying101 rfl sz9 rfl rfl rfl) ?_
 refine al_val (ov_load (i := 0) (v := (str u8.Name)) rfl rfl Try.underlying9 sz9 rfl rfl rfl rfl) ?_
 refine al_buildSlice (τ := tyStr) (e := 9) (k := 1) (sz := 0) (by_ := 0) (z := undef) (cs := [(str u8.Name)]) (xs := [u8.Name]) rfl (by decide) (fun w a hm hs => ⟨([(str u8.Name)]).toArray, rfl, by simp only [List.map_toArray, List.map_cons, List.map_nil, hs.ev (x := .tmp 23) rfl]; exact run_bs [(str u8.Name)] [(str u8.Name)] Try.underlying64 to9 rfl rfl (bs_cons (l := [(str u8.Name)]) (cs := []) (cv_rfl rfl) rfl bs_nil) hm⟩) (fun hm => ⟨_, _, rfl, (fun _ => rfl) hm, rfl⟩) rfl (fun v12 => ?_)
 obtain ⟨hc13, h⟩ := req_some h
 refine al_append 4 hc13.1 hc13.2 rfl (src_own (i := 4) 0 rfl) rfl rfl Try.underlying64 to9 rfl rfl rfl (fun v14 => ?_)
 refine as_ ?_
 refine al_nil ?_
 refine aq_block ?_
 refine aq_then ?_
 refine aw_region ?_
 refine in_ ?_
 refine mv_ ?_
 refine al_nil ?_
 exact aq_again k5 (v14, (l4x4 ++ ([u8.Name])), (wq (l4i17 + (1 : Int)))) (Nat.lt_succ_self _) h (nm_ [2, 3, 4] [1, 2] (by decide) ⟨rfl, rfl, rfl, rfl, rfl, trivial⟩)
 replace h := bif_f hb7 h
 refine aw_exit ?_
 refine aq_then_exit ?_
 refine aq_then_exit ?_
 refine aq_block_exit ?_
 exact aq_join (l4v4, l4x4) h (nm_ [0, 1, 2] [0, 1] (by decide) ⟨rfl, rfl, trivial⟩)
def f___lumref_Disk__Fuse (fu : Nat) (a0 : D_lumref_Disk) (a1 : Int) : Option D_lumref_Disk := (bif (decide (a1 ≥ (0 : Int))) then (some (D_lumref_Disk.mk a0.Room a0.Seen a0.Safe a0.Ops a1)) else (some (D_lumref_Disk.mk a0.Room a0.Seen a0.Safe a0.Ops (-1 : Int))))
set_option maxHeartbeats 2000000 in
set_option maxRecDepth 100000 in
theorem f___lumref_Disk__Fuse_ok (fu : Nat) (bx0 : Nat) (v0_1 : Value) (v0_2 : Value) (v0_3 : Value) (a0 : D_lumref_Disk) (a1 : Int) {r : D_lumref_Disk} (h : f___lumref_Disk__Fuse fu a0 a1 = some r) : FnOk Try.prog 30 [(ptr bx0 0), (int .i64 a1)] [(fDat (tyList tyS_lumref_File) [v0_1] a0.Seen), (fDat (tyList tyS_lumref_File) [v0_2] a0.Safe)] [(oBox bx0 57 [(int .i64 a0.Room), v0_1, v0_2, v0_3, (int .i64 a0.Left)]), (oRow v0_3 32 tyS_api_Deed a0.Ops)] (fun (i : Value × Value × Value) => { val := (Value.tuple #[]), own := [(oBox bx0 57 [(int .i64 r.Room), i.1, i.2.1, i.2.2, (int .i64 r.Left)]), (oRow i.2.2 32 tyS_api_Deed r.Ops)], fz := [(fDat (tyList tyS_lumref_File) [i.1] r.Seen), (fDat (tyList tyS_lumref_File) [i.2.1] r.Safe)] }) := by
 unfold f___lumref_Disk__Fuse at h
 refine fn_enter Try.func30 rfl Try.ntmps30 rfl (fun w0 Z0 => ?_)
 refine sm_ ?_
 refine al_val (ov_nilCheck rfl rfl) ?_
 refine al_val (ov_fieldA (p := 4) rfl Try.underlying57 rfl sz3 rfl rfl rfl) ?_
 refine al_store (i := 0) (vs := [(iq (-1 : Int))]) (cs' := [(iq a0.Room), v0_1, v0_2, v0_3, (iq (-1 : Int))]) rfl rfl rfl sz3 (cv_rfl rfl) rfl (co_val rfl co_nil) (Nat.le_of_ble_eq_true rfl) rfl rfl ?_
 refine al_nt ?_
 refine sm_ ?_
 refine im_ ?_
 refine aw_cond rfl (fun hb1 => ?_) (fun hb1 => ?_)
 replace h := bif_t hb1 h
 refine aw_region ?_
 refine mv_ ?_
 refine mv_ ?_
 refine al_val (ov_nilCheck rfl rfl) ?_
 refine al_val (ov_fieldA (p := 4) rfl Try.underlying57 rfl sz3 rfl rfl rfl) ?_
 refine al_store (i := 0) (vs := [(iq a1)]) (cs' := [(iq a0.Room), v0_1, v0_2, v0_3, (iq a1)]) rfl rfl rfl sz3 (cv_rfl rfl) rfl (co_val rfl co_nil) (Nat.le_of_ble_eq_true rfl) rfl rfl ?_
 refine al_nil ?_
 refine fn_end ?_
 cases h
 exact fn_ret (v0_1, v0_2, v0_3) [0, 1] [0, 1] rfl rfl rfl rfl (resC rfl (resN) rfl) rfl rfl rfl (by decide)
 replace h := bif_f hb1 h
 refine aw_skip ?_
 refine fn_end ?_
 cases h
 exact fn_ret (v0_1, v0_2, v0_3) [0, 1] [0, 1] rfl rfl rfl rfl (resC rfl (resN) rfl) rfl rfl rfl (by decide)
def f___lumref_Disk__Crash_L11 (a0 : D_lumref_Disk) (a1 : (List Int)) (kk2 : ((List S_lumref_File) → Option D_lumref_Disk)) (fu : Nat) : Nat → (List S_lumref_File) → Int → Option D_lumref_Disk
  | 0, _, _ => none
  | k10 + 1, l9x4, l9i17 => (bif (decide (l9i17 < (a0.Ops.length : Int))) then (lt (fun (j13x4 : (List S_lumref_File)) => (f___lumref_Disk__Crash_L11 a0 a1 kk2 fu k10 j13x4 (IntKind.i64.wrap (l9i17 + (1 : Int))))) fun (kk14 : (List S_lumref_File) → Option D_lumref_Disk) => (opt (at? a0.Ops l9i17) fun (u15 : S_api_Deed) => (lt (fun (j22i7 : Int) => (bif (j22i7 == (1 : Int)) then (opt (f_lumref_after fu l9x4 u15 (65536 : Int)) fun (r26 : (List S_lumref_File)) => (kk14 r26)) else (bif (decide (j22i7 > (1 : Int))) then (opt (f_lumref_after fu l9x4 u15 (IntKind.i64.wrap (j22i7 - (2 : Int)))) fun (r30 : (List S_lumref_File)) => (kk14 r30)) else (kk14 l9x4)))) fun (kk23 : Int → Option D_lumref_Disk) => (bif (decide (l9i17 < (a1.length : Int))) then (opt (at? a1 l9i17) fun (u33 : Int) => (kk23 u33)) else (kk23 (0 : Int)))))) else (kk2 l9x4))
def f___lumref_Disk__Crash (fu : Nat) (a0 : D_lumref_Disk) (a1 : (List Int)) : Option D_lumref_Disk := (lt (fun (j1x4 : (List S_lumref_File)) => (opt (f_slices_Clone___lumref_File_lumref_File_ fu j1x4) fun (r4 : (List S_lumref_File)) => (opt (f_slices_Clone___lumref_File_lumref_File_ fu j1x4) fun (r7 : (List S_lumref_File)) => (some (D_lumref_Disk.mk a0.Room r7 r4 ([] : List S_api_Deed) (-1 : Int)))))) fun (kk2 : (List S_lumref_File) → Option D_lumref_Disk) => (f___lumref_Disk__Crash_L11 a0 a1 kk2 fu fu a0.Safe (0 : Int)))
abbrev mm43 (w0 : World) (Z0 : Nat → Prop) (a0 : D_lumref_Disk) (a1 : (List Int)) (bx0 : Nat) (j1v4 : Value) (j1x4 : (List S_lumref_File)) (v0_1 : Value) (v0_2 : Value) (v0_3 : Value) (v1_0 : Value) : Mem := memOf w0 Z0 [(oBox bx0 57 [(int .i64 a0.Room), v0_1, v0_2, v0_3, (int .i64 a0.Left)]), (oRow v0_3 32 tyS_api_Deed a0.Ops)] [(oRow v0_3 32 tyS_api_Deed a0.Ops), (oBox bx0 57 [(int .i64 a0.Room), v0_1, v0_2, v0_3, (int .i64 a0.Left)])] [(fDat (tyList tyS_lumref_File) [v0_1] a0.Seen), (fDat (tyList tyS_lumref_File) [v0_2] a0.Safe), (fDat (tyList tyS_lumref_File) [j1v4] j1x4), (fDat (tyList (tyInt .i64)) [v1_0] a1)]
abbrev mm44 (w0 : World) (Z0 : Nat → Prop) (a0 : D_lumref_Disk) (a1 : (List Int)) (bx0 : Nat) (l9v4 : Value) (l9x4 : (List S_lumref_File)) (v0_1 : Value) (v0_2 : Value) (v0_3 : Value) (v1_0 : Value) : Mem := memOf w0 Z0 [(oBox bx0 57 [(int .i64 a0.Room), v0_1, v0_2, v0_3, (int .i64 a0.Left)]), (oRow v0_3 32 tyS_api_Deed a0.Ops)] [(oRow v0_3 32 tyS_api_Deed a0.Ops), (oBox bx0 57 [(int .i64 a0.Room), v0_1, v0_2, v0_3, (int .i64 a0.Left)])] [(fDat (tyList tyS_lumref_File) [v0_1] a0.Seen), (fDat (tyList tyS_lumref_File) [v0_2] a0.Safe), (fDat (tyList (tyInt .i64)) [v1_0] a1), (fDat (tyList tyS_lumref_File) [l9v4] l9x4)]
abbrev mm45 (w0 : World) (Z0 : Nat → Prop) (a0 : D_lumref_Disk) (a1 : (List Int)) (bx0 : Nat) (j13v4 : Value) (j13x4 : (List S_lumref_File)) (l9v4 : Value) (l9x4 : (List S_lumref_File)) (v0_1 : Value) (v0_2 : Value) (v0_3 : Value) (v1_0 : Value) : Mem := memOf w0 Z0 [(oBox bx0 57 [(int .i64 a0.Room), v0_1, v0_2, v0_3, (int .i64 a0.Left)]), (oRow v0_3 32 tyS_api_Deed a0.Ops)] [(oRow v0_3 32 tyS_api_Deed a0.Ops), (oBox bx0 57 [(int .i64 a0.Room), v0_1, v0_2, v0_3, (int .i64 a0.Left)])] [(fDat (tyList tyS_lumref_File) [v0_1] a0.Seen), (fDat (tyList tyS_lumref_File) [v0_2] a0.Safe), (fDat (tyList (tyInt .i64)) [v1_0] a1), (fDat (tyList tyS_lumref_File) [j13v4] j13x4), (fDat (tyList tyS_lumref_File) [l9v4] l9x4)]
abbrev mm46 (w0 : World) (Z0 : Nat → Prop) (a0 : D_lumref_Disk) (a1 : (List Int)) (bx0 : Nat) (g21 : Nat) (l9v4 : Value) (l9x4 : (List S_lumref_File)) (s19 : Value) (u15 : S_api_Deed) (v0_1 : Value) (v0_2 : Value) (v0_3 : Value) (v1_0 : Value) : Mem := memOf w0 Z0 [(oBox bx0 57 [(int .i64 a0.Room), v0_1, v0_2, v0_3, (int .i64 a0.Left)]), (oRow v0_3 32 tyS_api_Deed a0.Ops)] [(oRow v0_3 32 tyS_api_Deed a0.Ops), (oBox bx0 57 [(int .i64 a0.Room), v0_1, v0_2, v0_3, (int .i64 a0.Left)]), (oBox g21 32 [(int .i64 u15.Kind), (str u15.Name), (str u15.Text), (int .i64 u15.N), s19])] [(fDat (tyList tyS_lumref_File) [v0_1] a0.Seen), (fDat (tyList tyS_lumref_File) [v0_2] a0.Safe), (fDat (tyList (tyInt .i64)) [v1_0] a1), (fDat (tyList tyS_lumref_File) [l9v4] l9x4), (fDat (tyList (tyInt .i64)) [s19] u15.Keep), (fDat tyS_api_Deed [(int .i64 u15.Kind), (str u15.Name), (str u15.Text), (int .i64 u15.N), s19] u15)]
set_option maxHeartbeats 2000000 in
set_option maxRecDepth 100000 in
theorem f___lumref_Disk__Crash_ok (fu : Nat) (bx0 : Nat) (v0_1 : Value) (v0_2 : Value) (v0_3 : Value) (a0 : D_lumref_Disk) (v1_0 : Value) (a1 : (List Int)) {r : D_lumref_Disk} (h : f___lumref_Disk__Crash fu a0 a1 = some r) : FnOk Try.prog 32 [(ptr bx0 0), v1_0] [(fDat (tyList tyS_lumref_File) [v0_1] a0.Seen), (fDat (tyList tyS_lumref_File) [v0_2] a0.Safe), (fDat (tyList (tyInt .i64)) [v1_0] a1)] [(oBox bx0 57 [(int .i64 a0.Room), v0_1, v0_2, v0_3, (int .i64 a0.Left)]), (oRow v0_3 32 tyS_api_Deed a0.Ops)] (fun (i : Value × Value × Value) => { val := (Value.tuple #[]), own := [(oBox bx0 57 [(int .i64 r.Room), i.1, i.2.1, i.2.2, (int .i64 r.Left)]), (oRow i.2.2 32 tyS_api_Deed r.Ops)], fz := [(fDat (tyList tyS_lumref_File) [i.1] r.Seen), (fDat (tyList tyS_lumref_File) [i.2.1] r.Safe)] }) := by
 unfold f___lumref_Disk__Crash at h
 refine fn_enter Try.func32 rfl Try.ntmps32 rfl (fun w0 Z0 => ?_)
 refine sm_ ?_
 refine al_val (ov_nilCheck rfl rfl) ?_
 refine al_val (ov_fieldA (p := 2) rfl Try.underlying57 rfl sz55 rfl rfl rfl) ?_
 refine al_val (ov_load (i := 0) (v := v0_2) rfl rfl Try.underlying55 sz55 rfl rfl rfl rfl) ?_
 refine an_ ?_
 obtain ⟨kk2, hkk2, h⟩ := lt_some h
 refine aw_seq_join (ι := Value × (List S_lumref_File)) (fun i => (mm43 w0 Z0 a0 a1 bx0 i.1 i.2 v0_1 v0_2 v0_3 v1_0)) (fun i => (tab [(0, (pq bx0)), (4, i.1)])) (fun i => kk2 i.2 = some r) ?_ ?_
 rintro ⟨j1v4, j1x4⟩ h
 have h : kk2 j1x4 = some r := h
 rw [hkk2] at h
 dsimp only at h
 clear hkk2
 refine aw_show (m := (mm43 w0 Z0 a0 a1 bx0 j1v4 j1x4 v0_1 v0_2 v0_3 v1_0)) (S := _) ?_
 refine aw_region ?_
 refine mv_ ?_
 refine mv_ ?_
 refine mv_ ?_
 refine mv_ ?_
 refine mv_ ?_
 obtain ⟨r4, hc3, h⟩ := opt_some h
 refine al_call (vs := [j1v4]) (f_slices_Clone___lumref_File_lumref_File__ok fu j1v4 j1x4 hc3) [] [] [0, 1] (pre_fz 2 rfl pre_nil) rfl (by simp) (by decide) (.inl rfl) rfl Try.func60 rfl rfl rfl (fun v5 => ?_)
 refine mv_ ?_
 obtain ⟨r7, hc6, h⟩ := opt_some h
 refine al_call (vs := [j1v4]) (f_slices_Clone___lumref_File_lumref_File__ok fu j1v4 j1x4 hc6) [] [] [0, 1, 2] (pre_fz 2 rfl pre_nil) rfl (by simp) (by decide) (.inl rfl) rfl Try.func60 rfl rfl rfl (fun v8 => ?_)
 refine al_val (ov_nilCheck rfl rfl) ?_
 refine al_val (ov_fieldA (p := 2) rfl Try.underlying57 rfl sz55 rfl rfl rfl) ?_
 refine al_store (i := 3) (vs := [v5]) (cs' := [(iq a0.Room), v0_1, v5, v0_3, (iq a0.Left)]) rfl rfl rfl sz55 (cv_own 1 rfl) rfl (co_own 1 rfl co_nil) (Nat.le_of_ble_eq_true rfl) rfl rfl ?_
 refine al_val (ov_nilCheck rfl rfl) ?_
 refine al_val (ov_fieldA (p := 1) rfl Try.underlying57 rfl sz55 rfl rfl rfl) ?_
 refine al_store (i := 3) (vs := [v8]) (cs' := [(iq a0.Room), v8, v5, v0_3, (iq a0.Left)]) rfl rfl rfl sz55 (cv_own 0 rfl) rfl (co_own 0 rfl co_nil) (Nat.le_of_ble_eq_true rfl) rfl rfl ?_
 refine al_val (ov_nilCheck rfl rfl) ?_
 refine al_val (ov_fieldA (p := 3) rfl Try.underlying57 rfl sz22 rfl rfl rfl) ?_
 refine al_store (i := 3) (vs := [nS]) (cs' := [(iq a0.Room), v8, v5, nS, (iq a0.Left)]) rfl rfl rfl sz22 (cv_rfl rfl) rfl (co_val rfl co_nil) (Nat.le_of_ble_eq_true rfl) rfl rfl ?_
 refine al_val (ov_nilCheck rfl rfl) ?_
 refine al_val (ov_fieldA (p := 4) rfl Try.underlying57 rfl sz3 rfl rfl rfl) ?_
 refine al_store (i := 3) (vs := [(iq (-1 : Int))]) (cs' := [(iq a0.Room), v8, v5, nS, (iq (-1 : Int))]) rfl rfl rfl sz3 (cv_rfl rfl) rfl (co_val rfl co_nil) (Nat.le_of_ble_eq_true rfl) rfl rfl ?_
 refine al_nil ?_
 refine aq_freezeX 0 [3, 2] rfl rfl rfl ?_
 refine aq_freezeX 0 [2, 1] rfl rfl rfl ?_
 refine aq_nilR 32 tyS_api_Deed ?_
 refine fn_end ?_
 cases h
 exact fn_ret (v8, v5, nS) [2, 0] [1, 0] rfl rfl rfl rfl (resC rfl (resN) rfl) rfl rfl rfl (by decide)
 clear hkk2
 refine sm_ ?_
 refine al_val (ov_nilCheck rfl rfl) ?_
 refine al_val (ov_fieldA (p := 3) rfl Try.underlying57 rfl sz22 rfl rfl rfl) ?_
 refine al_val (ov_load (i := 0) (v := v0_3) rfl rfl Try.underlying22 sz22 rfl rfl rfl rfl) ?_
 refine al_val (ov_lenR 1 rfl rfl Try.underlying22 rfl) ?_
 refine mv_ ?_
 refine al_nt ?_
 refine aw_block ?_
 refine aw_state (aw_loop (ι := Value × (List S_lumref_File) × Int) (fun i => (mm44 w0 Z0 a0 a1 bx0 i.1 i.2.1 v0_1 v0_2 v0_3 v1_0)) (fun i => (tab [(0, (pq bx0)), (1, v1_0), (4, i.1), (15, v0_3), (16, (iq (a0.Ops.length : Int))), (17, (iq i.2.2))])) (fun q i => f___lumref_Disk__Crash_L11 a0 a1 kk2 fu q i.2.1 i.2.2 = some r) ?_ fu (v0_2, a0.Safe, (0 : Int)) h) (nm_ [1, 0] [0, 1, 2, 1] (by decide) ⟨rfl, rfl, rfl, rfl, rfl, rfl, trivial⟩)
 clear h
 rintro k10 ⟨l9v4, l9x4, l9i17⟩ h
 have h : f___lumref_Disk__Crash_L11 a0 a1 kk2 fu k10 l9x4 l9i17 = some r := h
 obtain _ | k10 := k10
 rw [f___lumref_Disk__Crash_L11] at h; cases h
 rw [f___lumref_Disk__Crash_L11] at h
 refine aw_show (m := (mm44 w0 Z0 a0 a1 bx0 l9v4 l9x4 v0_1 v0_2 v0_3 v1_0)) (S := _) ?_
 refine aw_sr ?_
 refine im_ ?_
 refine aw_seq ?_
 refine aw_cond rfl (fun hb12 => ?_) (fun hb12 => ?_)
 replace h := bif_t hb12 h
 refine aw_skip ?_
 refine aq_then ?_
 obtain ⟨kk14, hkk14, h⟩ := lt_some h
 refine aw_seq_join (ι := Value × (List S_lumref_File)) (fun i => (mm45 w0 Z0 a0 a1 bx0 i.1 i.2 l9v4 l9x4 v0_1 v0_2 v0_3 v1_0)) (fun i => (tab [(0, (pq bx0)), (1, v1_0), (4, i.1), (15, v0_3), (16, (iq (a0.Ops.length : Int))), (17, (iq l9i17))])) (fun i => kk14 i.2 = some r) ?_ ?_
 rintro ⟨j13v4, j13x4⟩ h
 have h : kk14 j13x4 = some r := h
 rw [hkk14] at h
 dsimp only at h
 clear hkk14
 refine aw_show (m := (mm45 w0 Z0 a0 a1 bx0 j13v4 j13x4 l9v4 l9x4 v0_1 v0_2 v0_3 v1_0)) (S := _) ?_
 refine aw_region ?_
 refine in_ ?_
 refine mv_ ?_
 refine al_nil ?_
 exact aq_again k10 (j13v4, j13x4, (wq (l9i17 + (1 : Int)))) (Nat.lt_succ_self _) h (nm_ [0, 1] [0, 1, 2, 3] (by decide) ⟨rfl, rfl, rfl, rfl, rfl, rfl, trivial⟩)
 clear hkk14
 refine aw_block ?_
 refine sm_ ?_
 obtain ⟨u15, hu16, h⟩ := opt_some h
 refine al_idxR 0 (at_some hu16).1 (at_some hu16).2.1 rfl rfl rfl Try.underlying22 sz32 rfl (fun p17 hp18 => ?_)
 refine al_loadRA 0 rfl hp18 (at_some hu16).2.2 rfl Try.underlying32 sz32 rfl rfl (fun cs20 => ?_)
 refine al_use (ι := Value) 0 rfl (fun j => cs20 = [(iq u15.Kind), (str u15.Name), (str u15.Text), (iq u15.N), j]) (fun j => [(fDat (tyList tq) [j] u15.Keep)]) encnS_api_Deed (fun s19 hq => ?_)
 subst hq
 refine al_alloc (zs := [(iq (0 : Int)), (str ([] : List UInt8)), (str ([] : List UInt8)), (iq (0 : Int)), nS]) (zeroOf_to to32) rfl rfl (fun g21 => ?_)
 refine as_ ?_
 refine al_store (i := 0) (vs := [(iq u15.Kind), (str u15.Name), (str u15.Text), (iq u15.N), s19]) (cs' := [(iq u15.Kind), (str u15.Name), (str u15.Text), (iq u15.N), s19]) rfl rfl rfl sz32 (cv_rfl rfl) rfl (co_val rfl (co_val rfl (co_val rfl (co_val rfl (co_fz 0 rfl co_nil))))) (Nat.le_of_ble_eq_true rfl) rfl rfl ?_
 refine al_nt ?_
 refine aw_sr ?_
 refine an_ ?_
 obtain ⟨kk23, hkk23, h⟩ := lt_some h
 refine aw_seq_join (ι := Int) (fun i => (mm46 w0 Z0 a0 a1 bx0 g21 l9v4 l9x4 s19 u15 v0_1 v0_2 v0_3 v1_0)) (fun i => (tab [(0, (pq bx0)), (1, v1_0), (4, l9v4), (6, (pq g21)), (7, (iq i)), (15, v0_3), (16, (iq (a0.Ops.length : Int))), (17, (iq l9i17))])) (fun i => kk23 i = some r) ?_ ?_
 rintro j22i7 h
 have h : kk23 j22i7 = some r := h
 rw [hkk23] at h
 dsimp only at h
 clear hkk23
 refine aw_show (m := (mm46 w0 Z0 a0 a1 bx0 g21 l9v4 l9x4 s19 u15 v0_1 v0_2 v0_3 v1_0)) (S := _) ?_
 refine aw_block ?_
 refine sm_ ?_
 refine in_ ?_
 refine an_ ?_
 refine aw_cond rfl (fun hb24 => ?_) (fun hb24 => ?_)
 replace h := bif_t hb24 h
 refine aw_region ?_
 refine mv_ ?_
 refine al_val (ov_load (i := 2) (v := (ag [(iq u15.Kind), (str u15.Name), (str u15.Text), (iq u15.N), s19])) rfl rfl Try.underlying32 sz32 rfl rfl rfl rfl) ?_
 obtain ⟨r26, hc25, h⟩ := opt_some h
 refine al_call (vs := [l9v4, (ag [(iq u15.Kind), (str u15.Name), (str u15.Text), (iq u15.N), s19]), (iq (65536 : Int))]) (f_lumref_after_ok fu l9v4 l9x4 s19 u15 (65536 : Int) hc25) [] [] [0, 1, 2] (pre_fz 3 rfl (pre_fz 4 rfl pre_nil)) rfl (by simp) (by decide) (.inl rfl) rfl Try.func58 rfl rfl rfl (fun v27 => ?_)
 refine as_ ?_
 refine al_nil ?_
 refine aq_block ?_
 refine aq_block ?_
 exact aq_join (v27, r26) h (nm_ [0, 1] [1, 2, 3, 0, 4] (by decide) ⟨rfl, rfl, rfl, rfl, rfl, rfl, trivial⟩)
 replace h := bif_f hb24 h
 refine sm_ ?_
 refine in_ ?_
 refine an_ ?_
 refine aw_cond rfl (fun hb28 => ?_) (fun hb28 => ?_)
 replace h := bif_t hb28 h
 refine aw_region ?_
 refine mv_ ?_
 refine al_val (ov_load (i := 2) (v := (ag [(iq u15.Kind), (str u15.Name), (str u15.Text), (iq u15.N), s19])) rfl rfl Try.underlying32 sz32 rfl rfl rfl rfl) ?_
 refine mv_ ?_
 refine in_ ?_
 obtain ⟨r30, hc29, h⟩ := opt_some h
 refine al_call (vs := [l9v4, (ag [(iq u15.Kind), (str u15.Name), (str u15.Text), (iq u15.N), s19]), (iq (wq (j22i7 - (2 : Int))))]) (f_lumref_after_ok fu l9v4 l9x4 s19 u15 (wq (j22i7 - (2 : Int))) hc29) [] [] [0, 1, 2] (pre_fz 3 rfl (pre_fz 4 rfl pre_nil)) rfl (by simp) (by decide) (.inl rfl) rfl Try.func58 rfl rfl rfl (fun v31 => ?_)
 refine as_ ?_
 refine al_nil ?_
 refine aq_block ?_
 refine aq_block ?_
 exact aq_join (v31, r30) h (nm_ [0, 1] [1, 2, 3, 0, 4] (by decide) ⟨rfl, rfl, rfl, rfl, rfl, rfl, trivial⟩)
 replace h := bif_f hb28 h
 refine aw_skip ?_
 refine aq_block ?_
 refine aq_block ?_
 exact aq_join (l9v4, l9x4) h (nm_ [0, 1] [0, 1, 2, 3, 3] (by decide) ⟨rfl, rfl, rfl, rfl, rfl, rfl, trivial⟩)
 clear hkk23
 refine sm_ ?_
 refine mv_ ?_
 refine al_val (ov_lenD 4 rfl rfl Try.underlying30 rfl) ?_
 refine im_ ?_
 refine aw_cond rfl (fun hb32 => ?_) (fun hb32 => ?_)
 replace h := bif_t hb32 h
 refine aw_region ?_
 refine mv_ ?_
 refine mv_ ?_
 obtain ⟨u33, hu34, h⟩ := opt_some h
 refine al_idxD 4 hu34 rfl rfl rfl Try.underlying30 sz3 rfl (fun p35 => ?_)
 refine al_val (ov_loadP (ds := [(iq u33)]) 0 rfl (fun h => h) rfl Try.underlying3 sz3 rfl rfl rfl) ?_
 refine as_ ?_
 refine al_nil ?_
 exact aq_join u33 h (nm_ [1, 2, 0] [3, 4, 5, 6, 1, 2] (by decide) ⟨rfl, rfl, rfl, rfl, rfl, rfl, rfl, rfl, trivial⟩)
 replace h := bif_f hb32 h
 refine aw_skip ?_
 exact aq_join (0 : Int) h (nm_ [1, 2, 0] [2, 3, 4, 5, 0, 1] (by decide) ⟨rfl, rfl, rfl, rfl, rfl, rfl, rfl, rfl, trivial⟩)
 replace h := bif_f hb12 h
 refine aw_exit ?_
 refine aq_then_exit ?_
 refine aq_then_exit ?_
 refine aq_block_exit ?_
 exact aq_join (l9v4, l9x4) h (nm_ [0, 1] [0, 1, 3, 2] (by decide) ⟨rfl, rfl, trivial⟩)
def f_lumlaw_sameDeed (fu : Nat) (a0 : D_disk_Disk) (a1 : D_lumref_Disk) (a2 : S_api_Deed) : Option (Bool × D_disk_Disk × D_lumref_Disk) := (lt (fun (j2i0_0 : Int) (j2xm0_1 : (List ((List UInt8) × (List UInt8)))) (j2xm0_2 : (List ((List UInt8) × (List UInt8)))) (j2x0_3 : (List I114)) (j2b0_4 : Bool) (j2i0_5 : Int) (j2i1_0 : Int) (j2x1_1 : (List S_lumref_File)) (j2x1_2 : (List S_lumref_File)) (j2x1_3 : (List S_api_Deed)) (j2i1_4 : Int) => (some (true, (D_disk_Disk.mk j2i0_0 j2xm0_1 j2xm0_2 j2x0_3 j2b0_4 j2i0_5), (D_lumref_Disk.mk j2i1_0 j2x1_1 j2x1_2 j2x1_3 j2i1_4)))) fun (kk3 : Int → (List ((List UInt8) × (List UInt8))) → (List ((List UInt8) × (List UInt8))) → (List I114) → Bool → Int → Int → (List S_lumref_File) → (List S_lumref_File) → (List S_api_Deed) → Int → Option (Bool × D_disk_Disk × D_lumref_Disk)) => (bif (a2.Kind == (1 : Int)) then (opt (f___disk_Disk__Write fu a0 a2.Name a2.Text) fun (r6 : (Int × D_disk_Disk)) => (opt (f___lumref_Disk__Write fu a1 a2.Name a2.Text) fun (r11 : (Int × D_lumref_Disk)) => (some ((r6.1 == r11.1), r6.2, r11.2)))) else (bif (a2.Kind == (2 : Int)) then (opt (f___disk_Disk__Rename fu a0 a2.Name a2.Text) fun (r17 : (Int × D_disk_Disk)) => (opt (f___lumref_Disk__Change fu a1 a2) fun (r22 : (Int × D_lumref_Disk)) => (some ((r17.1 == r22.1), r17.2, r22.2)))) else (bif (a2.Kind == (3 : Int)) then (opt (f___disk_Disk__Remove fu a0 a2.Name) fun (r28 : (Int × D_disk_Disk)) => (opt (f___lumref_Disk__Change fu a1 a2) fun (r33 : (Int × D_lumref_Disk)) => (some ((r28.1 == r33.1), r28.2, r33.2)))) else (bif (a2.Kind == (4 : Int)) then (opt (f___disk_Disk__Sync fu a0) fun (r39 : (Int × D_disk_Disk)) => (opt (f___lumref_Disk__Sync fu a1) fun (r44 : (Int × D_lumref_Disk)) => (some ((r39.1 == r44.1), r39.2, r44.2)))) else (bif (a2.Kind == (5 : Int)) then (opt (f___disk_Disk__Read fu a0 a2.Name) fun (r50 : ((List UInt8) × Int × D_disk_Disk)) => (opt (f___lumref_Disk__Read fu a1 a2.Name) fun (r55 : ((List UInt8) × Int × D_lumref_Disk)) => (lt (fun (j59b6 : Bool) => (some (j59b6, r50.2.2, r55.2.2))) fun (kk60 : Bool → Option (Bool × D_disk_Disk × D_lumref_Disk)) => (bif (r50.1 == r55.1) then (kk60 (r50.2.1 == r55.2.1)) else (kk60 false))))) else (bif (a2.Kind == (6 : Int)) then (opt (f___disk_Disk__List fu a0) fun (r64 : ((List (List UInt8)) × Int × D_disk_Disk)) => (opt (f___lumref_Disk__List fu a1) fun (r70 : ((List (List UInt8)) × Int × D_lumref_Disk)) => (lt (fun (j75b6 : Bool) => (some (j75b6, r64.2.2, r70.2.2))) fun (kk76 : Bool → Option (Bool × D_disk_Disk × D_lumref_Disk)) => (opt (f_slices_Equal___string_string_ fu r64.1 r70.1) fun (r78 : Bool) => (bif r78 then (kk76 (r64.2.1 == r70.2.1)) else (kk76 false)))))) else (bif (a2.Kind == (7 : Int)) then (opt (f___disk_Disk__Fuse fu a0 a2.N) fun (r82 : D_disk_Disk) => (opt (f___lumref_Disk__Fuse fu a1 a2.N) fun (r87 : D_lumref_Disk) => (kk3 r82.room r82.files r82.durable r82.changes r82.fused r82.left r87.Room r87.Seen r87.Safe r87.Ops r87.Left))) else (bif (a2.Kind == (8 : Int)) then (opt (f___disk_Disk__Crash fu a0 a2.Keep) fun (r93 : D_disk_Disk) => (opt (f___lumref_Disk__Crash fu a1 a2.Keep) fun (r98 : D_lumref_Disk) => (kk3 r93.room r93.files r93.durable r93.changes r93.fused r93.left r98.Room r98.Seen r98.Safe r98.Ops r98.Left))) else (kk3 a0.room a0.files a0.durable a0.changes a0.fused a0.left a1.Room a1.Seen a1.Safe a1.Ops a1.Left))))))))))
abbrev mm47 (w0 : World) (Z0 : Nat → Prop) (a0 : D_disk_Disk) (a1 : D_lumref_Disk) (a2 : S_api_Deed) (bx0 : Nat) (bx1 : Nat) (g1 : Nat) (gm0_1 : Nat) (gm0_2 : Nat) (v0_3 : Value) (v1_1 : Value) (v1_2 : Value) (v1_3 : Value) (v2_4 : Value) : Mem := memOf w0 Z0 [(oBox bx0 54 [(int .i64 a0.room), (Value.map (some gm0_1)), (Value.map (some gm0_2)), v0_3, (bool a0.fused), (int .i64 a0.left)]), (oMapK Try.prog 9 gm0_1 str str a0.files), (oMapK Try.prog 9 gm0_2 str str a0.durable), (oRow v0_3 114 tyI114 a0.changes), (oBox bx1 57 [(int .i64 a1.Room), v1_1, v1_2, v1_3, (int .i64 a1.Left)]), (oRow v1_3 32 tyS_api_Deed a1.Ops)] [(oBox g1 32 [(int .i64 a2.Kind), (str a2.Name), (str a2.Text), (int .i64 a2.N), v2_4]), (oBox bx0 54 [(int .i64 a0.room), (Value.map (some gm0_1)), (Value.map (some gm0_2)), v0_3, (bool a0.fused), (int .i64 a0.left)]), (oMapK Try.prog 9 gm0_1 str str a0.files), (oMapK Try.prog 9 gm0_2 str str a0.durable), (oRow v0_3 114 tyI114 a0.changes), (oBox bx1 57 [(int .i64 a1.Room), v1_1, v1_2, v1_3, (int .i64 a1.Left)]), (oRow v1_3 32 tyS_api_Deed a1.Ops)] [(fDat (tyList tyS_lumref_File) [v1_1] a1.Seen), (fDat (tyList tyS_lumref_File) [v1_2] a1.Safe), (fDat (tyList (tyInt .i64)) [v2_4] a2.Keep)]
abbrev mm48 (w0 : World) (Z0 : Nat → Prop) (a0 : D_disk_Disk) (a1 : D_lumref_Disk) (a2 : S_api_Deed) (bx0 : Nat) (bx1 : Nat) (g1 : Nat) (g7 : Nat) (g8 : Nat) (gm0_1 : Nat) (gm0_2 : Nat) (r6 : (Int × D_disk_Disk)) (v0_3 : Value) (v1_1 : Value) (v1_2 : Value) (v1_3 : Value) (v2_4 : Value) (v9 : Value) : Mem := memOf w0 Z0 [(oBox bx0 54 [(int .i64 a0.room), (Value.map (some gm0_1)), (Value.map (some gm0_2)), v0_3, (bool a0.fused), (int .i64 a0.left)]), (oMapK Try.prog 9 gm0_1 str str a0.files), (oMapK Try.prog 9 gm0_2 str str a0.durable), (oRow v0_3 114 tyI114 a0.changes), (oBox bx1 57 [(int .i64 a1.Room), v1_1, v1_2, v1_3, (int .i64 a1.Left)]), (oRow v1_3 32 tyS_api_Deed a1.Ops)] [(oBox bx0 54 [(int .i64 r6.2.room), (Value.map (some g7)), (Value.map (some g8)), v9, (bool r6.2.fused), (int .i64 r6.2.left)]), (oMapK Try.prog 9 g7 str str r6.2.files), (oMapK Try.prog 9 g8 str str r6.2.durable), (oRow v9 114 tyI114 r6.2.changes), (oBox g1 32 [(int .i64 a2.Kind), (str a2.Name), (str a2.Text), (int .i64 a2.N), v2_4]), (oBox bx1 57 [(int .i64 a1.Room), v1_1, v1_2, v1_3, (int .i64 a1.Left)]), (oRow v1_3 32 tyS_api_Deed a1.Ops)] [(fDat (tyList tyS_lumref_File) [v1_1] a1.Seen), (fDat (tyList tyS_lumref_File) [v1_2] a1.Safe), (fDat (tyList (tyInt .i64)) [v2_4] a2.Keep)]
abbrev mm49 (w0 : World) (Z0 : Nat → Prop) (a0 : D_disk_Disk) (a1 : D_lumref_Disk) (a2 : S_api_Deed) (bx0 : Nat) (bx1 : Nat) (g1 : Nat) (g7 : Nat) (g8 : Nat) (gm0_1 : Nat) (gm0_2 : Nat) (r11 : (Int × D_lumref_Disk)) (r6 : (Int × D_disk_Disk)) (v0_3 : Value) (v12 : Value) (v13 : Value) (v14 : Value) (v1_1 : Value) (v1_2 : Value) (v1_3 : Value) (v2_4 : Value) (v9 : Value) : Mem := memOf w0 Z0 [(oBox bx0 54 [(int .i64 a0.room), (Value.map (some gm0_1)), (Value.map (some gm0_2)), v0_3, (bool a0.fused), (int .i64 a0.left)]), (oMapK Try.prog 9 gm0_1 str str a0.files), (oMapK Try.prog 9 gm0_2 str str a0.durable), (oRow v0_3 114 tyI114 a0.changes), (oBox bx1 57 [(int .i64 a1.Room), v1_1, v1_2, v1_3, (int .i64 a1.Left)]), (oRow v1_3 32 tyS_api_Deed a1.Ops)] [(oBox bx1 57 [(int .i64 r11.2.Room), v12, v13, v14, (int .i64 r11.2.Left)]), (oRow v14 32 tyS_api_Deed r11.2.Ops), (oBox bx0 54 [(int .i64 r6.2.room), (Value.map (some g7)), (Value.map (some g8)), v9, (bool r6.2.fused), (int .i64 r6.2.left)]), (oMapK Try.prog 9 g7 str str r6.2.files), (oMapK Try.prog 9 g8 str str r6.2.durable), (oRow v9 114 tyI114 r6.2.changes), (oBox g1 32 [(int .i64 a2.Kind), (str a2.Name), (str a2.Text), (int .i64 a2.N), v2_4])] [(fDat (tyList tyS_lumref_File) [v12] r11.2.Seen), (fDat (tyList tyS_lumref_File) [v13] r11.2.Safe), (fDat (tyList tyS_lumref_File) [v1_1] a1.Seen), (fDat (tyList tyS_lumref_File) [v1_2] a1.Safe), (fDat (tyList (tyInt .i64)) [v2_4] a2.Keep)]
abbrev mm50 (w0 : World) (Z0 : Nat → Prop) (a0 : D_disk_Disk) (a1 : D_lumref_Disk) (a2 : S_api_Deed) (bx0 : Nat) (bx1 : Nat) (g1 : Nat) (g18 : Nat) (g19 : Nat) (gm0_1 : Nat) (gm0_2 : Nat) (r17 : (Int × D_disk_Disk)) (v0_3 : Value) (v1_1 : Value) (v1_2 : Value) (v1_3 : Value) (v20 : Value) (v2_4 : Value) : Mem := memOf w0 Z0 [(oBox bx0 54 [(int .i64 a0.room), (Value.map (some gm0_1)), (Value.map (some gm0_2)), v0_3, (bool a0.fused), (int .i64 a0.left)]), (oMapK Try.prog 9 gm0_1 str str a0.files), (oMapK Try.prog 9 gm0_2 str str a0.durable), (oRow v0_3 114 tyI114 a0.changes), (oBox bx1 57 [(int .i64 a1.Room), v1_1, v1_2, v1_3, (int .i64 a1.Left)]), (oRow v1_3 32 tyS_api_Deed a1.Ops)] [(oBox bx0 54 [(int .i64 r17.2.room), (Value.map (some g18)), (Value.map (some g19)), v20, (bool r17.2.fused), (int .i64 r17.2.left)]), (oMapK Try.prog 9 g18 str str r17.2.files), (oMapK Try.prog 9 g19 str str r17.2.durable), (oRow v20 114 tyI114 r17.2.changes), (oBox g1 32 [(int .i64 a2.Kind), (str a2.Name), (str a2.Text), (int .i64 a2.N), v2_4]), (oBox bx1 57 [(int .i64 a1.Room), v1_1, v1_2, v1_3, (int .i64 a1.Left)]), (oRow v1_3 32 tyS_api_Deed a1.Ops)] [(fDat (tyList tyS_lumref_File) [v1_1] a1.Seen), (fDat (tyList tyS_lumref_File) [v1_2] a1.Safe), (fDat (tyList (tyInt .i64)) [v2_4] a2.Keep)]
abbrev mm51 (w0 : World) (Z0 : Nat → Prop) (a0 : D_disk_Disk) (a1 : D_lumref_Disk) (a2 : S_api_Deed) (bx0 : Nat) (bx1 : Nat) (g1 : Nat) (g18 : Nat) (g19 : Nat) (gm0_1 : Nat) (gm0_2 : Nat) (r17 : (Int × D_disk_Disk)) (r22 : (Int × D_lumref_Disk)) (v0_3 : Value) (v1_1 : Value) (v1_2 : Value) (v1_3 : Value) (v20 : Value) (v23 : Value) (v24 : Value) (v25 : Value) (v2_4 : Value) : Mem := memOf w0 Z0 [(oBox bx0 54 [(int .i64 a0.room), (Value.map (some gm0_1)), (Value.map (some gm0_2)), v0_3, (bool a0.fused), (int .i64 a0.left)]), (oMapK Try.prog 9 gm0_1 str str a0.files), (oMapK Try.prog 9 gm0_2 str str a0.durable), (oRow v0_3 114 tyI114 a0.changes), (oBox bx1 57 [(int .i64 a1.Room), v1_1, v1_2, v1_3, (int .i64 a1.Left)]), (oRow v1_3 32 tyS_api_Deed a1.Ops)] [(oBox bx1 57 [(int .i64 r22.2.Room), v23, v24, v25, (int .i64 r22.2.Left)]), (oRow v25 32 tyS_api_Deed r22.2.Ops), (oBox bx0 54 [(int .i64 r17.2.room), (Value.map (some g18)), (Value.map (some g19)), v20, (bool r17.2.fused), (int .i64 r17.2.left)]), (oMapK Try.prog 9 g18 str str r17.2.files), (oMapK Try.prog 9 g19 str str r17.2.durable), (oRow v20 114 tyI114 r17.2.changes), (oBox g1 32 [(int .i64 a2.Kind), (str a2.Name), (str a2.Text), (int .i64 a2.N), v2_4])] [(fDat (tyList tyS_lumref_File) [v23] r22.2.Seen), (fDat (tyList tyS_lumref_File) [v24] r22.2.Safe), (fDat (tyList tyS_lumref_File) [v1_1] a1.Seen), (fDat (tyList tyS_lumref_File) [v1_2] a1.Safe), (fDat (tyList (tyInt .i64)) [v2_4] a2.Keep)]
abbrev mm52 (w0 : World) (Z0 : Nat → Prop) (a0 : D_disk_Disk) (a1 : D_lumref_Disk) (a2 : S_api_Deed) (bx0 : Nat) (bx1 : Nat) (g1 : Nat) (g29 : Nat) (g30 : Nat) (gm0_1 : Nat) (gm0_2 : Nat) (r28 : (Int × D_disk_Disk)) (v0_3 : Value) (v1_1 : Value) (v1_2 : Value) (v1_3 : Value) (v2_4 : Value) (v31 : Value) : Mem := memOf w0 Z0 [(oBox bx0 54 [(int .i64 a0.room), (Value.map (some gm0_1)), (Value.map (some gm0_2)), v0_3, (bool a0.fused), (int .i64 a0.left)]), (oMapK Try.prog 9 gm0_1 str str a0.files), (oMapK Try.prog 9 gm0_2 str str a0.durable), (oRow v0_3 114 tyI114 a0.changes), (oBox bx1 57 [(int .i64 a1.Room), v1_1, v1_2, v1_3, (int .i64 a1.Left)]), (oRow v1_3 32 tyS_api_Deed a1.Ops)] [(oBox bx0 54 [(int .i64 r28.2.room), (Value.map (some g29)), (Value.map (some g30)), v31, (bool r28.2.fused), (int .i64 r28.2.left)]), (oMapK Try.prog 9 g29 str str r28.2.files), (oMapK Try.prog 9 g30 str str r28.2.durable), (oRow v31 114 tyI114 r28.2.changes), (oBox g1 32 [(int .i64 a2.Kind), (str a2.Name), (str a2.Text), (int .i64 a2.N), v2_4]), (oBox bx1 57 [(int .i64 a1.Room), v1_1, v1_2, v1_3, (int .i64 a1.Left)]), (oRow v1_3 32 tyS_api_Deed a1.Ops)] [(fDat (tyList tyS_lumref_File) [v1_1] a1.Seen), (fDat (tyList tyS_lumref_File) [v1_2] a1.Safe), (fDat (tyList (tyInt .i64)) [v2_4] a2.Keep)]
abbrev mm53 (w0 : World) (Z0 : Nat → Prop) (a0 : D_disk_Disk) (a1 : D_lumref_Disk) (a2 : S_api_Deed) (bx0 : Nat) (bx1 : Nat) (g1 : Nat) (g29 : Nat) (g30 : Nat) (gm0_1 : Nat) (gm0_2 : Nat) (r28 : (Int × D_disk_Disk)) (r33 : (Int × D_lumref_Disk)) (v0_3 : Value) (v1_1 : Value) (v1_2 : Value) (v1_3 : Value) (v2_4 : Value) (v31 : Value) (v34 : Value) (v35 : Value) (v36 : Value) : Mem := memOf w0 Z0 [(oBox bx0 54 [(int .i64 a0.room), (Value.map (some gm0_1)), (Value.map (some gm0_2)), v0_3, (bool a0.fused), (int .i64 a0.left)]), (oMapK Try.prog 9 gm0_1 str str a0.files), (oMapK Try.prog 9 gm0_2 str str a0.durable), (oRow v0_3 114 tyI114 a0.changes), (oBox bx1 57 [(int .i64 a1.Room), v1_1, v1_2, v1_3, (int .i64 a1.Left)]), (oRow v1_3 32 tyS_api_Deed a1.Ops)] [(oBox bx1 57 [(int .i64 r33.2.Room), v34, v35, v36, (int .i64 r33.2.Left)]), (oRow v36 32 tyS_api_Deed r33.2.Ops), (oBox bx0 54 [(int .i64 r28.2.room), (Value.map (some g29)), (Value.map (some g30)), v31, (bool r28.2.fused), (int .i64 r28.2.left)]), (oMapK Try.prog 9 g29 str str r28.2.files), (oMapK Try.prog 9 g30 str str r28.2.durable), (oRow v31 114 tyI114 r28.2.changes), (oBox g1 32 [(int .i64 a2.Kind), (str a2.Name), (str a2.Text), (int .i64 a2.N), v2_4])] [(fDat (tyList tyS_lumref_File) [v34] r33.2.Seen), (fDat (tyList tyS_lumref_File) [v35] r33.2.Safe), (fDat (tyList tyS_lumref_File) [v1_1] a1.Seen), (fDat (tyList tyS_lumref_File) [v1_2] a1.Safe), (fDat (tyList (tyInt .i64)) [v2_4] a2.Keep)]
abbrev mm54 (w0 : World) (Z0 : Nat → Prop) (a0 : D_disk_Disk) (a1 : D_lumref_Disk) (a2 : S_api_Deed) (bx0 : Nat) (bx1 : Nat) (g51 : Nat) (g52 : Nat) (gm0_1 : Nat) (gm0_2 : Nat) (r50 : ((List UInt8) × Int × D_disk_Disk)) (r55 : ((List UInt8) × Int × D_lumref_Disk)) (v0_3 : Value) (v1_1 : Value) (v1_2 : Value) (v1_3 : Value) (v2_4 : Value) (v53 : Value) (v56 : Value) (v57 : Value) (v58 : Value) : Mem := memOf w0 Z0 [(oBox bx0 54 [(int .i64 a0.room), (Value.map (some gm0_1)), (Value.map (some gm0_2)), v0_3, (bool a0.fused), (int .i64 a0.left)]), (oMapK Try.prog 9 gm0_1 str str a0.files), (oMapK Try.prog 9 gm0_2 str str a0.durable), (oRow v0_3 114 tyI114 a0.changes), (oBox bx1 57 [(int .i64 a1.Room), v1_1, v1_2, v1_3, (int .i64 a1.Left)]), (oRow v1_3 32 tyS_api_Deed a1.Ops)] [(oMapK Try.prog 9 g51 str str r50.2.2.files), (oMapK Try.prog 9 g52 str str r50.2.2.durable), (oRow v53 114 tyI114 r50.2.2.changes), (oBox bx0 54 [(int .i64 r50.2.2.room), (Value.map (some g51)), (Value.map (some g52)), v53, (bool r50.2.2.fused), (int .i64 r50.2.2.left)]), (oRow v58 32 tyS_api_Deed r55.2.2.Ops), (oBox bx1 57 [(int .i64 r55.2.2.Room), v56, v57, v58, (int .i64 r55.2.2.Left)])] [(fDat (tyList tyS_lumref_File) [v56] r55.2.2.Seen), (fDat (tyList tyS_lumref_File) [v57] r55.2.2.Safe), (fDat (tyList tyS_lumref_File) [v1_1] a1.Seen), (fDat (tyList tyS_lumref_File) [v1_2] a1.Safe), (fDat (tyList (tyInt .i64)) [v2_4] a2.Keep)]
abbrev mm55 (w0 : World) (Z0 : Nat → Prop) (a0 : D_disk_Disk) (a1 : D_lumref_Disk) (a2 : S_api_Deed) (bx0 : Nat) (bx1 : Nat) (g66 : Nat) (g67 : Nat) (gm0_1 : Nat) (gm0_2 : Nat) (r64 : ((List (List UInt8)) × Int × D_disk_Disk)) (r70 : ((List (List UInt8)) × Int × D_lumref_Disk)) (v0_3 : Value) (v1_1 : Value) (v1_2 : Value) (v1_3 : Value) (v2_4 : Value) (v68 : Value) (v72 : Value) (v73 : Value) (v74 : Value) : Mem := memOf w0 Z0 [(oBox bx0 54 [(int .i64 a0.room), (Value.map (some gm0_1)), (Value.map (some gm0_2)), v0_3, (bool a0.fused), (int .i64 a0.left)]), (oMapK Try.prog 9 gm0_1 str str a0.files), (oMapK Try.prog 9 gm0_2 str str a0.durable), (oRow v0_3 114 tyI114 a0.changes), (oBox bx1 57 [(int .i64 a1.Room), v1_1, v1_2, v1_3, (int .i64 a1.Left)]), (oRow v1_3 32 tyS_api_Deed a1.Ops)] [(oMapK Try.prog 9 g66 str str r64.2.2.files), (oMapK Try.prog 9 g67 str str r64.2.2.durable), (oRow v68 114 tyI114 r64.2.2.changes), (oBox bx0 54 [(int .i64 r64.2.2.room), (Value.map (some g66)), (Value.map (some g67)), v68, (bool r64.2.2.fused), (int .i64 r64.2.2.left)]), (oRow v74 32 tyS_api_Deed r70.2.2.Ops), (oBox bx1 57 [(int .i64 r70.2.2.Room), v72, v73, v74, (int .i64 r70.2.2.Left)])] [(fDat (tyList tyS_lumref_File) [v72] r70.2.2.Seen), (fDat (tyList tyS_lumref_File) [v73] r70.2.2.Safe), (fDat (tyList tyS_lumref_File) [v1_1] a1.Seen), (fDat (tyList tyS_lumref_File) [v1_2] a1.Safe), (fDat (tyList (tyInt .i64)) [v2_4] a2.Keep)]
end Go.Proofs.Ytiioclkiapbjnaa
