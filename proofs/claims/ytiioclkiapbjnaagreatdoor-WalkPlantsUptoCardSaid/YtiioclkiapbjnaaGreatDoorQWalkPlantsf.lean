/- What WalkPlants leans on, part 6. No condition. -/
import Derived.Test.YtiioclkiapbjnaaGreatDoorQWalkPlantse
import Derived.Test.YtiioclkiapbjnaaGreatDoorChecked
import Derived.WalkKit
import Derived.Lib.Hide
import Derived.IntWalk
import Derived.Lib.MapLaws
import Derived.Lib.ValidU
namespace Go.Proofs.YtiioclkiapbjnaaGreatDoor
open Go.RowKit YtiioclkiapbjnaaGreatDoor.En
set_option linter.unusedVariables false
set_option linter.unusedSimpArgs false
open Go.Value (int bool)
set_option maxHeartbeats 2000000 in
set_option maxRecDepth 100000 in
theorem f_lumref_Pieces_ok (fu : Nat) (a0 : S_api_Cut) (a1 : (List UInt8)) {r : ((List (List UInt8)) × (List UInt8))} (h : f_lumref_Pieces fu a0 a1 = some r) : FnOk Tryz.prog 68 [(ag [(int .i64 a0.Min), (int .i64 a0.Max), (int .i64 a0.Bits)]), (str a1)] [] [] (fun (i : Value) => { val := (Value.tuple #[i, (str r.2)]), own := [(oRow i 9 tyStr r.1)] }) := by
 unfold f_lumref_Pieces at h
 refine fn_enter Tryz.func68 rfl Tryz.ntmps68 rfl (fun w0 Z0 => ?_)
 refine aw_sr ?_
 refine al_box (vs := [(iq a0.Min), (iq a0.Max), (iq a0.Bits)]) rfl (cv_rfl rfl) rfl (fun g1 => ?_)
 refine as_ ?_
 refine an_ ?_
 refine aw_sr ?_
 refine an_ ?_
 refine aw_sr ?_
 refine an_ ?_
 obtain ⟨kk3, hkk3, h⟩ := lt_some h
 refine aw_seq_join (ι := Value × (List (List UInt8)) × Int) (fun i => (memOf w0 Z0 [] [(oRow i.1 9 tyStr i.2.1)] [])) (fun i => (tab [(1, (str a1)), (6, i.1), (7, (iq i.2.2))])) (fun i => kk3 i.2.1 i.2.2 = some r) ?_ ?_
 rintro ⟨j2v6, j2x6, j2i7⟩ h
 have h : kk3 j2x6 j2i7 = some r := h
 rw [hkk3] at h
 dsimp only at h
 clear hkk3
 refine aw_show (m := (memOf w0 Z0 [] [(oRow j2v6 9 tyStr j2x6)] [])) (S := _) ?_
 refine aw_seq ?_
 obtain ⟨hc4, h⟩ := req_some h
 refine aw_region_draw 5 [(32, (fE j2v6)), (33, (fE (str a1))), (34, (fE (iq j2i7))), (35, (fE (str (a1.drop (j2i7).toNat)))), (4, (fE j2v6))] (tab [(1, (str a1)), (6, j2v6), (7, (iq j2i7))]) mixed (by kernel_rfl) rfl rfl rfl (fun a hs => hs.tab _ (allT_mem ⟨rfl, rfl, rfl, trivial⟩)) ⟨⟨rfl, ld_val (ov_move rfl rfl)⟩, ⟨rfl, ld_val (ov_move rfl rfl)⟩, ⟨rfl, ld_val (ov_move rfl rfl)⟩, ⟨rfl, ld_eq (j := 1) rfl rfl (ld_eq (j := 2) rfl rfl (ld_val (ov_strFrom hc4.1 hc4.2 Tryz.underlying9 rfl rfl rfl)))⟩, ⟨rfl, ld_eq (j := 0) rfl rfl (ld_val (ov_assign rfl rfl))⟩, trivial⟩ ?_
 refine tl_eq 3 rfl ?_
 refine tl_eq 4 rfl ?_
 refine tl_done ?_
 refine an_ ?_
 refine aw_ret ?_
 cases h
 exact fn_ret j2v6 [0] [] rfl rfl rfl rfl (res2 rfl rfl rfl) rfl rfl rfl (by decide)
 clear hkk3
 refine sm_ ?_
 refine al_val (ov_strLen Tryz.underlying9 rfl rfl) ?_
 refine mv_ ?_
 refine al_nt ?_
 refine aw_block ?_
 refine aw_nilR 9 tyStr ?_
 refine aw_state (aw_loop (ι := Value × (List (List UInt8)) × Int × Int) (fun i => (memOf w0 Z0 [] [(oBox g1 23 [(iq a0.Min), (iq a0.Max), (iq a0.Bits)]), (oRow i.1 9 tyStr i.2.1)] [])) (fun i => (tab [(1, (str a1)), (2, (pq g1)), (6, i.1), (7, (iq i.2.2.1)), (10, (iq (a1.length : Int))), (11, (iq i.2.2.2))])) (fun q i => f_lumref_Pieces_L7 a0 a1 kk3 fu q i.2.1 i.2.2.1 i.2.2.2 = some r) ?_ fu (nS, ([] : List (List UInt8)), (0 : Int), (0 : Int)) h) (nm_ [1, 0] [] (by decide) ⟨rfl, rfl, rfl, rfl, rfl, rfl, trivial⟩)
 clear h
 rintro k6 ⟨l5v6, l5x6, l5i7, l5i11⟩ h
 have h : f_lumref_Pieces_L7 a0 a1 kk3 fu k6 l5x6 l5i7 l5i11 = some r := h
 obtain _ | k6 := k6
 rw [f_lumref_Pieces_L7] at h; cases h
 rw [f_lumref_Pieces_L7] at h
 refine aw_show (m := (memOf w0 Z0 [] [(oBox g1 23 [(iq a0.Min), (iq a0.Max), (iq a0.Bits)]), (oRow l5v6 9 tyStr l5x6)] [])) (S := _) ?_
 refine aw_sr ?_
 refine im_ ?_
 refine aw_seq ?_
 refine aw_cond rfl (fun hb8 => ?_) (fun hb8 => ?_)
 replace h := bif_t hb8 h
 refine aw_skip ?_
 refine aq_then ?_
 obtain ⟨kk10, hkk10, h⟩ := lt_some h
 refine aw_seq_join (ι := Value × (List (List UInt8)) × Int) (fun i => (memOf w0 Z0 [] [(oBox g1 23 [(iq a0.Min), (iq a0.Max), (iq a0.Bits)]), (oRow i.1 9 tyStr i.2.1)] [])) (fun i => (tab [(1, (str a1)), (2, (pq g1)), (6, i.1), (7, (iq i.2.2)), (10, (iq (a1.length : Int))), (11, (iq l5i11))])) (fun i => kk10 i.2.1 i.2.2 = some r) ?_ ?_
 rintro ⟨j9v6, j9x6, j9i7⟩ h
 have h : kk10 j9x6 j9i7 = some r := h
 rw [hkk10] at h
 dsimp only at h
 clear hkk10
 refine aw_show (m := (memOf w0 Z0 [] [(oBox g1 23 [(iq a0.Min), (iq a0.Max), (iq a0.Bits)]), (oRow j9v6 9 tyStr j9x6)] [])) (S := _) ?_
 refine aw_region ?_
 refine in_ ?_
 refine mv_ ?_
 refine al_nil ?_
 exact aq_again k6 (j9v6, j9x6, j9i7, (wq (l5i11 + (1 : Int)))) (Nat.lt_succ_self _) h (nm_ [0, 1] [] (by decide) ⟨rfl, rfl, rfl, rfl, rfl, rfl, trivial⟩)
 clear hkk10
 refine aw_block ?_
 refine sm_ ?_
 refine an_ ?_
 refine aw_seq ?_
 obtain ⟨hc11, h⟩ := req_some h
 refine aw_region_draw 6 [(14, (fE (ag [(iq a0.Min), (iq a0.Max), (iq a0.Bits)]))), (15, (fE (str a1))), (16, (fE (iq l5i7))), (17, (fE (iq l5i11))), (18, (fE (iq (wq (l5i11 + (1 : Int)))))), (19, (fE (str (cut a1 l5i7 (wq (l5i11 + (1 : Int)))))))] (tab [(1, (str a1)), (2, (pq g1)), (6, l5v6), (7, (iq l5i7)), (8, (iq l5i11)), (10, (iq (a1.length : Int))), (11, (iq l5i11))]) mixed (by kernel_rfl) rfl rfl rfl (fun a hs => hs.tab _ (allT_mem ⟨rfl, rfl, rfl, rfl, rfl, rfl, rfl, trivial⟩)) ⟨⟨rfl, ld_val (ov_load (i := 0) (v := (ag [(iq a0.Min), (iq a0.Max), (iq a0.Bits)])) rfl rfl Tryz.underlying23 sz23 rfl rfl rfl rfl)⟩, ⟨rfl, ld_val (ov_move rfl rfl)⟩, ⟨rfl, ld_val (ov_move rfl rfl)⟩, ⟨rfl, ld_val (ov_move rfl rfl)⟩, ⟨rfl, ld_eq (j := 3) rfl rfl (ld_val (ov_int rfl rfl rfl rfl))⟩, ⟨rfl, ld_eq (j := 1) rfl rfl (ld_eq (j := 2) rfl rfl (ld_eq (j := 4) rfl rfl (ld_val (ov_strCut hc11.1 hc11.2.1 hc11.2.2 Tryz.underlying9 rfl rfl rfl rfl))))⟩, trivial⟩ ?_
 refine tl_eq 0 rfl ?_
 refine tl_eq 5 rfl ?_
 refine tl_done ?_
 obtain ⟨r13, hc12, h⟩ := opt_some h
 refine al_call (vs := [(ag [(iq a0.Min), (iq a0.Max), (iq a0.Bits)]), (str (cut a1 l5i7 (wq (l5i11 + (1 : Int)))))]) (f_lumref_ends_ok fu a0 (cut a1 l5i7 (wq (l5i11 + (1 : Int)))) hc12) [] [] [0, 1] pre_nil rfl (by simp) (by decide) (.inl rfl) rfl Tryz.func86 rfl rfl rfl (fun _ => ?_)
 refine al_nt ?_
 refine aw_cond rfl (fun hb14 => ?_) (fun hb14 => ?_)
 replace h := bif_t hb14 h
 refine sm_ ?_
 refine mv_ ?_
 refine mv_ ?_
 refine mv_ ?_
 refine in_ ?_
 obtain ⟨hc15, h⟩ := req_some h
 refine al_val (ov_strCut hc15.1 hc15.2.1 hc15.2.2 Tryz.underlying9 rfl rfl rfl rfl) ?_
 refine al_buildSlice (τ := tyStr) (e := 9) (k := 1) (sz := 0) (by_ := 0) (z := undef) (cs := [(str (cut a1 l5i7 (wq (l5i11 + (1 : Int)))))]) (xs := [(cut a1 l5i7 (wq (l5i11 + (1 : Int))))]) rfl (by decide) (fun w a hm hs => ⟨([(str (cut a1 l5i7 (wq (l5i11 + (1 : Int)))))]).toArray, rfl, by simp only [List.map_toArray, List.map_cons, List.map_nil, hs.ev (x := .tmp 26) rfl]; exact run_bs [(str (cut a1 l5i7 (wq (l5i11 + (1 : Int)))))] [(str (cut a1 l5i7 (wq (l5i11 + (1 : Int)))))] Tryz.underlying54 to9 rfl rfl (bs_cons (l := [(str (cut a1 l5i7 (wq (l5i11 + (1 : Int)))))]) (cs := []) (cv_rfl rfl) rfl bs_nil) hm⟩) (fun hm => ⟨_, _, rfl, (fun _ => rfl) hm, rfl⟩) rfl (fun v16 => ?_)
 obtain ⟨hc17, h⟩ := req_some h
 refine al_append 2 hc17.1 hc17.2 rfl (src_own (i := 2) 0 rfl) rfl rfl Tryz.underlying54 to9 rfl rfl rfl (fun v18 => ?_)
 refine an_ ?_
 refine aw_region ?_
 refine mv_ ?_
 refine in_ ?_
 refine as_ ?_
 refine al_nil ?_
 refine aq_block ?_
 exact aq_join (v18, (l5x6 ++ ([(cut a1 l5i7 (wq (l5i11 + (1 : Int))))])), (wq (l5i11 + (1 : Int)))) h (nm_ [1, 2] [] (by decide) ⟨rfl, rfl, rfl, rfl, rfl, rfl, trivial⟩)
 replace h := bif_f hb14 h
 refine aw_skip ?_
 refine aq_block ?_
 exact aq_join (l5v6, l5x6, l5i7) h (nm_ [0, 1] [] (by decide) ⟨rfl, rfl, rfl, rfl, rfl, rfl, trivial⟩)
 replace h := bif_f hb8 h
 refine aw_exit ?_
 refine aq_then_exit ?_
 refine aq_then_exit ?_
 refine aq_block_exit ?_
 exact aq_join (l5v6, l5x6, l5i7) h (nm_ [1] [] (by decide) ⟨rfl, rfl, rfl, trivial⟩)
def f_lumref_Cut (fu : Nat) (a0 : S_api_Cut) (a1 : (List UInt8)) : Option ((List (List UInt8)) × Int) := (opt (f_lumref_CutOK fu a0) fun (r3 : Int) => (bif (r3 != (0 : Int)) then (some (([] : List (List UInt8)), (1 : Int))) else (bif (decide ((a1.length : Int) > (4096 : Int))) then (some (([] : List (List UInt8)), (2 : Int))) else (opt (f_lumref_Pieces fu a0 a1) fun (r7 : ((List (List UInt8)) × (List UInt8))) => (lt (fun (j9x6 : (List (List UInt8))) => (some (j9x6, (0 : Int)))) fun (kk10 : (List (List UInt8)) → Option ((List (List UInt8)) × Int)) => (bif (!(r7.2 == ([] : List UInt8))) then (req (((r7.1.length + ([r7.2]).length) * 16 : Nat) ≤ 140737488355328 ∧ r7.1.length + ([r7.2]).length ≤ 9223372036854775807) (kk10 (r7.1 ++ ([r7.2])))) else (kk10 r7.1)))))))
set_option maxHeartbeats 2000000 in
set_option maxRecDepth 100000 in
theorem f_lumref_Cut_ok (fu : Nat) (a0 : S_api_Cut) (a1 : (List UInt8)) {r : ((List (List UInt8)) × Int)} (h : f_lumref_Cut fu a0 a1 = some r) : FnOk Tryz.prog 46 [(ag [(int .i64 a0.Min), (int .i64 a0.Max), (int .i64 a0.Bits)]), (str a1)] [] [] (fun (i : Value) => { val := (Value.tuple #[i, (int .i64 r.2)]), own := [(oRow i 9 tyStr r.1)] }) := by
 unfold f_lumref_Cut at h
 refine fn_enter Tryz.func46 rfl Tryz.ntmps46 rfl (fun w0 Z0 => ?_)
 refine aw_sr ?_
 refine al_box (vs := [(iq a0.Min), (iq a0.Max), (iq a0.Bits)]) rfl (cv_rfl rfl) rfl (fun g1 => ?_)
 refine as_ ?_
 refine an_ ?_
 refine aw_seq ?_
 refine aw_sr ?_
 refine al_val (ov_load (i := 0) (v := (ag [(iq a0.Min), (iq a0.Max), (iq a0.Bits)])) rfl rfl Tryz.underlying23 sz23 rfl rfl rfl rfl) ?_
 obtain ⟨r3, hc2, h⟩ := opt_some h
 refine al_call (vs := [(ag [(iq a0.Min), (iq a0.Max), (iq a0.Bits)])]) (f_lumref_CutOK_ok fu a0 hc2) [] [] [0] pre_nil rfl (by simp) (by decide) (.inl rfl) rfl Tryz.func21 rfl rfl rfl (fun _ => ?_)
 refine im_ ?_
 refine aw_cond rfl (fun hb4 => ?_) (fun hb4 => ?_)
 replace h := bif_t hb4 h
 refine aw_sr ?_
 refine as_ ?_
 refine an_ ?_
 refine aw_ret ?_
 refine aq_then_ret ?_
 refine aq_nilR 9 tyStr ?_
 cases h
 exact fn_ret nS [0] [] rfl rfl rfl rfl (res2 rfl rfl rfl) rfl rfl rfl (by decide)
 replace h := bif_f hb4 h
 refine aw_skip ?_
 refine aq_then ?_
 refine aw_seq ?_
 refine sm_ ?_
 refine al_val (ov_strLen Tryz.underlying9 rfl rfl) ?_
 refine im_ ?_
 refine aw_cond rfl (fun hb5 => ?_) (fun hb5 => ?_)
 replace h := bif_t hb5 h
 refine aw_sr ?_
 refine as_ ?_
 refine an_ ?_
 refine aw_ret ?_
 refine aq_then_ret ?_
 refine aq_nilR 9 tyStr ?_
 cases h
 exact fn_ret nS [0] [] rfl rfl rfl rfl (res2 rfl rfl rfl) rfl rfl rfl (by decide)
 replace h := bif_f hb5 h
 refine aw_skip ?_
 refine aq_tr ?_
 refine al_val (ov_load (i := 0) (v := (ag [(iq a0.Min), (iq a0.Max), (iq a0.Bits)])) rfl rfl Tryz.underlying23 sz23 rfl rfl rfl rfl) ?_
 refine mv_ ?_
 obtain ⟨r7, hc6, h⟩ := opt_some h
 refine al_call (vs := [(ag [(iq a0.Min), (iq a0.Max), (iq a0.Bits)]), (str a1)]) (f_lumref_Pieces_ok fu a0 a1 hc6) [] [] [0] pre_nil rfl (by simp) (by decide) (.inl rfl) rfl Tryz.func68 rfl rfl rfl (fun v8 => ?_)
 refine mv_ ?_
 refine al_ex rfl rfl rfl ?_
 refine al_ex rfl rfl rfl ?_
 refine as_ ?_
 refine an_ ?_
 obtain ⟨kk10, hkk10, h⟩ := lt_some h
 refine aw_seq_join (ι := Value × (List (List UInt8))) (fun i => (memOf w0 Z0 [] [(oRow i.1 9 tyStr i.2)] [])) (fun i => (tab [(6, i.1)])) (fun i => kk10 i.2 = some r) ?_ ?_
 rintro ⟨j9v6, j9x6⟩ h
 have h : kk10 j9x6 = some r := h
 rw [hkk10] at h
 dsimp only at h
 clear hkk10
 refine aw_show (m := (memOf w0 Z0 [] [(oRow j9v6 9 tyStr j9x6)] [])) (S := _) ?_
 refine sm_ ?_
 refine as_ ?_
 refine an_ ?_
 refine aw_ret ?_
 cases h
 exact fn_ret j9v6 [0] [] rfl rfl rfl rfl (res2 rfl rfl rfl) rfl rfl rfl (by decide)
 clear hkk10
 refine sm_ ?_
 refine al_val (ov_strCmp rfl rfl rfl rfl) ?_
 refine al_nt ?_
 refine aw_cond rfl (fun hb11 => ?_) (fun hb11 => ?_)
 replace h := bif_t hb11 h
 refine aw_region ?_
 refine mv_ ?_
 refine mv_ ?_
 refine al_buildSlice (τ := tyStr) (e := 9) (k := 1) (sz := 0) (by_ := 0) (z := undef) (cs := [(str r7.2)]) (xs := [r7.2]) rfl (by decide) (fun w a hm hs => ⟨([(str r7.2)]).toArray, rfl, by simp only [List.map_toArray, List.map_cons, List.map_nil, hs.ev (x := .tmp 23) rfl]; exact run_bs [(str r7.2)] [(str r7.2)] Tryz.underlying54 to9 rfl rfl (bs_cons (l := [(str r7.2)]) (cs := []) (cv_rfl rfl) rfl bs_nil) hm⟩) (fun hm => ⟨_, _, rfl, (fun _ => rfl) hm, rfl⟩) rfl (fun v12 => ?_)
 obtain ⟨hc13, h⟩ := req_some h
 refine al_append 1 hc13.1 hc13.2 rfl (src_own (i := 1) 0 rfl) rfl rfl Tryz.underlying54 to9 rfl rfl rfl (fun v14 => ?_)
 refine as_ ?_
 refine al_nil ?_
 exact aq_join (v14, (r7.1 ++ ([r7.2]))) h (nm_ [1] [] (by decide) ⟨rfl, trivial⟩)
 replace h := bif_f hb11 h
 refine aw_skip ?_
 exact aq_join (v8, r7.1) h (nm_ [0] [] (by decide) ⟨rfl, trivial⟩)
def f_lumref_Fixed_L9 (a0 : Int) (a1 : (List UInt8)) (kk6 : ((List (List UInt8)) → Option ((List (List UInt8)) × Int))) : Nat → (List (List UInt8)) → Int → Option ((List (List UInt8)) × Int)
  | 0, _, _ => none
  | k8 + 1, l7x6, l7i7 => (bif (decide (l7i7 < (a1.length : Int))) then (req (0 ≤ l7i7 ∧ l7i7 ≤ (if (a1.length : Int) < (IntKind.i64.wrap (l7i7 + a0)) then (a1.length : Int) else (IntKind.i64.wrap (l7i7 + a0))) ∧ (if (a1.length : Int) < (IntKind.i64.wrap (l7i7 + a0)) then (a1.length : Int) else (IntKind.i64.wrap (l7i7 + a0))) ≤ (a1.length : Int)) (req (((l7x6.length + ([(cut a1 l7i7 (if (a1.length : Int) < (IntKind.i64.wrap (l7i7 + a0)) then (a1.length : Int) else (IntKind.i64.wrap (l7i7 + a0))))]).length) * 16 : Nat) ≤ 140737488355328 ∧ l7x6.length + ([(cut a1 l7i7 (if (a1.length : Int) < (IntKind.i64.wrap (l7i7 + a0)) then (a1.length : Int) else (IntKind.i64.wrap (l7i7 + a0))))]).length ≤ 9223372036854775807) (f_lumref_Fixed_L9 a0 a1 kk6 k8 (l7x6 ++ ([(cut a1 l7i7 (if (a1.length : Int) < (IntKind.i64.wrap (l7i7 + a0)) then (a1.length : Int) else (IntKind.i64.wrap (l7i7 + a0))))])) (IntKind.i64.wrap (l7i7 + a0))))) else (kk6 l7x6))
def f_lumref_Fixed (fu : Nat) (a0 : Int) (a1 : (List UInt8)) : Option ((List (List UInt8)) × Int) := (lt (fun (j1b13 : Bool) => (bif j1b13 then (some (([] : List (List UInt8)), (1 : Int))) else (bif (decide ((a1.length : Int) > (4096 : Int))) then (some (([] : List (List UInt8)), (2 : Int))) else (lt (fun (j5x6 : (List (List UInt8))) => (some (j5x6, (0 : Int)))) fun (kk6 : (List (List UInt8)) → Option ((List (List UInt8)) × Int)) => (f_lumref_Fixed_L9 a0 a1 kk6 fu ([] : List (List UInt8)) (0 : Int)))))) fun (kk2 : Bool → Option ((List (List UInt8)) × Int)) => (bif (decide (a0 < (1 : Int))) then (kk2 true) else (kk2 (decide (a0 > (1024 : Int))))))
set_option maxHeartbeats 2000000 in
set_option maxRecDepth 100000 in
theorem f_lumref_Fixed_ok (fu : Nat) (a0 : Int) (a1 : (List UInt8)) {r : ((List (List UInt8)) × Int)} (h : f_lumref_Fixed fu a0 a1 = some r) : FnOk Tryz.prog 47 [(int .i64 a0), (str a1)] [] [] (fun (i : Value) => { val := (Value.tuple #[i, (int .i64 r.2)]), own := [(oRow i 9 tyStr r.1)] }) := by
 unfold f_lumref_Fixed at h
 refine fn_enter Tryz.func47 rfl Tryz.ntmps47 rfl (fun w0 Z0 => ?_)
 refine aw_sr ?_
 refine as_ ?_
 refine an_ ?_
 refine aw_seq ?_
 obtain ⟨kk2, hkk2, h⟩ := lt_some h
 refine aw_seq_join (ι := Bool) (fun i => (memOf w0 Z0 [] [] [])) (fun i => (tab [(0, (iq a0)), (1, (str a1)), (13, (bool i))])) (fun i => kk2 i = some r) ?_ ?_
 rintro j1b13 h
 have h : kk2 j1b13 = some r := h
 rw [hkk2] at h
 dsimp only at h
 clear hkk2
 refine aw_show (m := (memOf w0 Z0 [] [] [])) (S := _) ?_
 refine aw_cond rfl (fun hb3 => ?_) (fun hb3 => ?_)
 replace h := bif_t hb3 h
 refine aw_sr ?_
 refine as_ ?_
 refine an_ ?_
 refine aw_ret ?_
 refine aq_then_ret ?_
 refine aq_nilR 9 tyStr ?_
 cases h
 exact fn_ret nS [0] [] rfl rfl rfl rfl (res2 rfl rfl rfl) rfl rfl rfl (by decide)
 replace h := bif_f hb3 h
 refine aw_skip ?_
 refine aq_then ?_
 refine aw_seq ?_
 refine sm_ ?_
 refine al_val (ov_strLen Tryz.underlying9 rfl rfl) ?_
 refine im_ ?_
 refine aw_cond rfl (fun hb4 => ?_) (fun hb4 => ?_)
 replace h := bif_t hb4 h
 refine aw_sr ?_
 refine as_ ?_
 refine an_ ?_
 refine aw_ret ?_
 refine aq_then_ret ?_
 refine aq_nilR 9 tyStr ?_
 cases h
 exact fn_ret nS [0] [] rfl rfl rfl rfl (res2 rfl rfl rfl) rfl rfl rfl (by decide)
 replace h := bif_f hb4 h
 refine aw_skip ?_
 refine aq_tr ?_
 refine an_ ?_
 obtain ⟨kk6, hkk6, h⟩ := lt_some h
 refine aw_seq_join (ι := Value × (List (List UInt8))) (fun i => (memOf w0 Z0 [] [(oRow i.1 9 tyStr i.2)] [])) (fun i => (tab [(6, i.1)])) (fun i => kk6 i.2 = some r) ?_ ?_
 rintro ⟨j5v6, j5x6⟩ h
 have h : kk6 j5x6 = some r := h
 rw [hkk6] at h
 dsimp only at h
 clear hkk6
 refine aw_show (m := (memOf w0 Z0 [] [(oRow j5v6 9 tyStr j5x6)] [])) (S := _) ?_
 refine sm_ ?_
 refine as_ ?_
 refine an_ ?_
 refine aw_ret ?_
 cases h
 exact fn_ret j5v6 [0] [] rfl rfl rfl rfl (res2 rfl rfl rfl) rfl rfl rfl (by decide)
 clear hkk6
 refine aw_sr ?_
 refine an_ ?_
 refine aw_block ?_
 refine aw_nilR 9 tyStr ?_
 refine aw_state (aw_loop (ι := Value × (List (List UInt8)) × Int) (fun i => (memOf w0 Z0 [] [(oRow i.1 9 tyStr i.2.1)] [])) (fun i => (tab [(0, (iq a0)), (1, (str a1)), (6, i.1), (7, (iq i.2.2))])) (fun q i => f_lumref_Fixed_L9 a0 a1 kk6 q i.2.1 i.2.2 = some r) ?_ fu (nS, ([] : List (List UInt8)), (0 : Int)) h) (nm_ [0] [] (by decide) ⟨rfl, rfl, rfl, rfl, trivial⟩)
 clear h
 rintro k8 ⟨l7v6, l7x6, l7i7⟩ h
 have h : f_lumref_Fixed_L9 a0 a1 kk6 k8 l7x6 l7i7 = some r := h
 obtain _ | k8 := k8
 rw [f_lumref_Fixed_L9] at h; cases h
 rw [f_lumref_Fixed_L9] at h
 refine aw_show (m := (memOf w0 Z0 [] [(oRow l7v6 9 tyStr l7x6)] [])) (S := _) ?_
 refine aw_seq ?_
 refine sm_ ?_
 refine mv_ ?_
 refine al_val (ov_strLen Tryz.underlying9 rfl rfl) ?_
 refine im_ ?_
 refine aw_cond rfl (fun hb10 => ?_) (fun hb10 => ?_)
 replace h := bif_t hb10 h
 refine aw_skip ?_
 refine aq_then ?_
 refine aw_seq ?_
 refine aw_block ?_
 refine aw_region ?_
 refine mv_ ?_
 refine mv_ ?_
 refine mv_ ?_
 refine mv_ ?_
 refine mv_ ?_
 refine in_ ?_
 refine mv_ ?_
 refine al_val (ov_strLen Tryz.underlying9 rfl rfl) ?_
 refine al_val (ov_min rfl rfl rfl) ?_
 obtain ⟨hc11, h⟩ := req_some h
 refine al_val (ov_strCut hc11.1 hc11.2.1 hc11.2.2 Tryz.underlying9 rfl rfl rfl rfl) ?_
 refine al_buildSlice (τ := tyStr) (e := 9) (k := 1) (sz := 0) (by_ := 0) (z := undef) (cs := [(str (cut a1 l7i7 (if (a1.length : Int) < (wq (l7i7 + a0)) then (a1.length : Int) else (wq (l7i7 + a0)))))]) (xs := [(cut a1 l7i7 (if (a1.length : Int) < (wq (l7i7 + a0)) then (a1.length : Int) else (wq (l7i7 + a0))))]) rfl (by decide) (fun w a hm hs => ⟨([(str (cut a1 l7i7 (if (a1.length : Int) < (wq (l7i7 + a0)) then (a1.length : Int) else (wq (l7i7 + a0)))))]).toArray, rfl, by simp only [List.map_toArray, List.map_cons, List.map_nil, hs.ev (x := .tmp 33) rfl]; exact run_bs [(str (cut a1 l7i7 (if (a1.length : Int) < (wq (l7i7 + a0)) then (a1.length : Int) else (wq (l7i7 + a0)))))] [(str (cut a1 l7i7 (if (a1.length : Int) < (wq (l7i7 + a0)) then (a1.length : Int) else (wq (l7i7 + a0)))))] Tryz.underlying54 to9 rfl rfl (bs_cons (l := [(str (cut a1 l7i7 (if (a1.length : Int) < (wq (l7i7 + a0)) then (a1.length : Int) else (wq (l7i7 + a0)))))]) (cs := []) (cv_rfl rfl) rfl bs_nil) hm⟩) (fun hm => ⟨_, _, rfl, (fun _ => rfl) hm, rfl⟩) rfl (fun v12 => ?_)
 obtain ⟨hc13, h⟩ := req_some h
 refine al_append 1 hc13.1 hc13.2 rfl (src_own (i := 1) 0 rfl) rfl rfl Tryz.underlying54 to9 rfl rfl rfl (fun v14 => ?_)
 refine as_ ?_
 refine al_nil ?_
 refine aq_block ?_
 refine aq_then ?_
 refine aw_region ?_
 refine mv_ ?_
 refine mv_ ?_
 refine in_ ?_
 refine as_ ?_
 refine al_nil ?_
 exact aq_again k8 (v14, (l7x6 ++ ([(cut a1 l7i7 (if (a1.length : Int) < (wq (l7i7 + a0)) then (a1.length : Int) else (wq (l7i7 + a0))))])), (wq (l7i7 + a0))) (Nat.lt_succ_self _) h (nm_ [1] [] (by decide) ⟨rfl, rfl, rfl, rfl, trivial⟩)
 replace h := bif_f hb10 h
 refine aw_exit ?_
 refine aq_then_exit ?_
 refine aq_then_exit ?_
 refine aq_block_exit ?_
 exact aq_join (l7v6, l7x6) h (nm_ [0] [] (by decide) ⟨rfl, trivial⟩)
 clear hkk2
 refine aw_region ?_
 refine mv_ ?_
 refine in_ ?_
 refine mv_ ?_
 refine al_caseB 10 rfl (fun hb15 => ?_) (fun hb15 => ?_)
 replace h := bif_t hb15 h
 refine al_skip ?_
 refine al_skip ?_
 refine al_val (ov_pick_t rfl rfl rfl) ?_
 refine al_nil ?_
 exact aq_join true h (nm_ [] [] (by decide) ⟨rfl, rfl, rfl, trivial⟩)
 replace h := bif_f hb15 h
 refine mv_ ?_
 refine in_ ?_
 refine al_val (ov_pick_f rfl rfl rfl) ?_
 refine al_nil ?_
 exact aq_join (decide (a0 > (1024 : Int))) h (nm_ [] [] (by decide) ⟨rfl, rfl, rfl, trivial⟩)
def f_lumref_PiecesOf (fu : Nat) (a0 : S_api_Way) (a1 : (List UInt8)) : Option (List (List UInt8)) := (bif (a0.Fixed == (0 : Int)) then (opt (f_lumref_Cut fu a0.Cut a1) fun (r4 : ((List (List UInt8)) × Int)) => (some r4.1)) else (opt (f_lumref_Fixed fu a0.Fixed a1) fun (r7 : ((List (List UInt8)) × Int)) => (some r7.1)))
set_option maxHeartbeats 2000000 in
set_option maxRecDepth 100000 in
theorem f_lumref_PiecesOf_ok (fu : Nat) (a0 : S_api_Way) (a1 : (List UInt8)) {r : (List (List UInt8))} (h : f_lumref_PiecesOf fu a0 a1 = some r) : FnOk Tryz.prog 27 [(ag [(int .i64 a0.Fixed), (int .i64 a0.Cut.Min), (int .i64 a0.Cut.Max), (int .i64 a0.Cut.Bits)]), (str a1)] [] [] (fun (i : Value) => { val := i, own := [(oRow i 9 tyStr r)] }) := by
 unfold f_lumref_PiecesOf at h
 refine fn_enter Tryz.func27 rfl Tryz.ntmps27 rfl (fun w0 Z0 => ?_)
 refine aw_sr ?_
 refine al_box (vs := [(iq a0.Fixed), (iq a0.Cut.Min), (iq a0.Cut.Max), (iq a0.Cut.Bits)]) rfl (cv_rfl rfl) rfl (fun g1 => ?_)
 refine an_ ?_
 refine aw_seq ?_
 refine aw_sr ?_
 refine al_val (ov_fieldA (p := 0) rfl Tryz.underlying25 rfl sz3 rfl rfl rfl) ?_
 refine al_val (ov_load (i := 0) (v := (iq a0.Fixed)) rfl rfl Tryz.underlying3 sz3 rfl rfl rfl rfl) ?_
 refine im_ ?_
 refine aw_cond rfl (fun hb2 => ?_) (fun hb2 => ?_)
 replace h := bif_t hb2 h
 refine aw_sr ?_
 refine al_val (ov_fieldA (p := 1) rfl Tryz.underlying25 rfl sz23 rfl rfl rfl) ?_
 refine al_val (ov_load (i := 0) (v := (ag [(iq a0.Cut.Min), (iq a0.Cut.Max), (iq a0.Cut.Bits)])) rfl rfl Tryz.underlying23 sz23 rfl rfl rfl rfl) ?_
 refine mv_ ?_
 obtain ⟨r4, hc3, h⟩ := opt_some h
 refine al_call (vs := [(ag [(iq a0.Cut.Min), (iq a0.Cut.Max), (iq a0.Cut.Bits)]), (str a1)]) (f_lumref_Cut_ok fu a0.Cut a1 hc3) [] [] [0] pre_nil rfl (by simp) (by decide) (.inl rfl) rfl Tryz.func46 rfl rfl rfl (fun v5 => ?_)
 refine mv_ ?_
 refine al_ex rfl rfl rfl ?_
 refine al_ex rfl rfl rfl ?_
 refine as_ ?_
 refine an_ ?_
 refine sm_ ?_
 refine an_ ?_
 refine aw_ret ?_
 refine aq_then_ret ?_
 cases h
 exact fn_ret v5 [0] [] rfl rfl rfl rfl (res1 rfl rfl) rfl rfl rfl (by decide)
 replace h := bif_f hb2 h
 refine aw_skip ?_
 refine aq_tr ?_
 refine al_val (ov_fieldA (p := 0) rfl Tryz.underlying25 rfl sz3 rfl rfl rfl) ?_
 refine al_val (ov_load (i := 0) (v := (iq a0.Fixed)) rfl rfl Tryz.underlying3 sz3 rfl rfl rfl rfl) ?_
 refine mv_ ?_
 obtain ⟨r7, hc6, h⟩ := opt_some h
 refine al_call (vs := [(iq a0.Fixed), (str a1)]) (f_lumref_Fixed_ok fu a0.Fixed a1 hc6) [] [] [0] pre_nil rfl (by simp) (by decide) (.inl rfl) rfl Tryz.func47 rfl rfl rfl (fun v8 => ?_)
 refine mv_ ?_
 refine al_ex rfl rfl rfl ?_
 refine al_ex rfl rfl rfl ?_
 refine as_ ?_
 refine an_ ?_
 refine sm_ ?_
 refine an_ ?_
 refine aw_ret ?_
 cases h
 exact fn_ret v8 [0] [] rfl rfl rfl rfl (res1 rfl rfl) rfl rfl rfl (by decide)
def f_lumref_kindOK (fu : Nat) (a0 : Int) : Option Bool := (lt (fun (j1b2 : Bool) => (some j1b2)) fun (kk2 : Bool → Option Bool) => (bif (a0 == (1 : Int)) then (kk2 true) else (bif (a0 == (2 : Int)) then (kk2 true) else (kk2 (a0 == (3 : Int))))))
set_option maxHeartbeats 2000000 in
set_option maxRecDepth 100000 in
theorem f_lumref_kindOK_ok (fu : Nat) (a0 : Int) {r : Bool} (h : f_lumref_kindOK fu a0 = some r) : FnOk Tryz.prog 69 [(int .i64 a0)] [] [] (fun (i : Unit) => { val := (bool r) }) := by
 unfold f_lumref_kindOK at h
 refine fn_enter Tryz.func69 rfl Tryz.ntmps69 rfl (fun w0 Z0 => ?_)
 refine aw_sr ?_
 refine an_ ?_
 obtain ⟨kk2, hkk2, h⟩ := lt_some h
 refine aw_seq_join (ι := Bool) (fun i => (memOf w0 Z0 [] [] [])) (fun i => (tab [(2, (bool i))])) (fun i => kk2 i = some r) ?_ ?_
 rintro j1b2 h
 have h : kk2 j1b2 = some r := h
 rw [hkk2] at h
 dsimp only at h
 clear hkk2
 refine aw_show (m := (memOf w0 Z0 [] [] [])) (S := _) ?_
 refine aw_ret ?_
 cases h
 exact fr1_
 clear hkk2
 refine aw_region ?_
 refine mv_ ?_
 refine in_ ?_
 refine mv_ ?_
 refine al_caseB 5 rfl (fun hb3 => ?_) (fun hb3 => ?_)
 replace h := bif_t hb3 h
 refine al_skip ?_
 refine al_skip ?_
 refine al_val (ov_pick_t rfl rfl rfl) ?_
 refine mv_ ?_
 refine al_skip ?_
 refine al_skip ?_
 refine al_val (ov_pick_t rfl rfl rfl) ?_
 refine as_ ?_
 refine al_nil ?_
 exact aq_join true h (nm_ [] [] (by decide) ⟨rfl, trivial⟩)
 replace h := bif_f hb3 h
 refine mv_ ?_
 refine in_ ?_
 refine al_val (ov_pick_f rfl rfl rfl) ?_
 refine mv_ ?_
 refine al_caseB 9 rfl (fun hb4 => ?_) (fun hb4 => ?_)
 replace h := bif_t hb4 h
 refine al_skip ?_
 refine al_skip ?_
 refine al_val (ov_pick_t rfl rfl rfl) ?_
 refine as_ ?_
 refine al_nil ?_
 exact aq_join true h (nm_ [] [] (by decide) ⟨rfl, trivial⟩)
 replace h := bif_f hb4 h
 refine mv_ ?_
 refine in_ ?_
 refine al_val (ov_pick_f rfl rfl rfl) ?_
 refine as_ ?_
 refine al_nil ?_
 exact aq_join (a0 == (3 : Int)) h (nm_ [] [] (by decide) ⟨rfl, trivial⟩)
def f_lumref_Narrow_1 (fu : Nat) (a0 : Int) (a1 : Int) : Option Int := (bif (a1 == (64 : Int)) then (some a0) else (req (0 ≤ a1) (req ((IntKind.u64.wrap ((1 : Int) * 2 ^ min (a1).toNat (IntKind.bits .u64))) ≠ 0) (some ((a0).tmod (IntKind.u64.wrap ((1 : Int) * 2 ^ min (a1).toNat (IntKind.bits .u64))))))))
set_option maxHeartbeats 2000000 in
set_option maxRecDepth 100000 in
theorem f_lumref_Narrow_1_ok (fu : Nat) (a0 : Int) (c1 : Value) (a1 : Int) {r : Int} (h : f_lumref_Narrow_1 fu a0 a1 = some r) : FnOk Tryz.prog 108 [(int .u64 a0), c1] [(fPtr (tyInt .i64) c1 a1)] [] (fun (i : Unit) => { val := (int .u64 r) }) := by
 unfold f_lumref_Narrow_1 at h
 refine fn_enter Tryz.func108 rfl Tryz.ntmps108 rfl (fun w0 Z0 => ?_)
 refine aw_sr ?_
 refine an_ ?_
 refine aw_seq ?_
 refine aw_sr ?_
 refine al_val (ov_loadP (ds := [(iq a1)]) 0 rfl (fun h => h) rfl Tryz.underlying3 sz3 rfl rfl rfl) ?_
 refine im_ ?_
 refine aw_cond rfl (fun hb1 => ?_) (fun hb1 => ?_)
 replace h := bif_t hb1 h
 refine sm_ ?_
 refine an_ ?_
 refine aw_ret ?_
 refine aq_then_ret ?_
 cases h
 exact fr1_
 replace h := bif_f hb1 h
 refine aw_skip ?_
 refine aq_tr ?_
 refine mv_ ?_
 refine al_val (ov_loadP (ds := [(iq a1)]) 0 rfl (fun h => h) rfl Tryz.underlying3 sz3 rfl rfl rfl) ?_
 obtain ⟨hc2, h⟩ := req_some h
 refine al_val (ov_shl hc2 rfl rfl rfl) ?_
 obtain ⟨hc3, h⟩ := req_some h
 refine al_val (ov_rem hc3 rfl rfl rfl) ?_
 refine an_ ?_
 refine aw_ret ?_
 cases h
 exact fr1_
def f_strings_Repeat (fu : Nat) (a0 : List UInt8) (a1 : Int) : Option (List UInt8) := req (0 ≤ a1 ∧ a1 ≤ 9223372036854775807 ∧ a0.length * a1.toNat ≤ 140737488355328) (some (Lib.repeatL a0 a1.toNat))
theorem f_strings_Repeat_ok (fu : Nat) (a0 : List UInt8) (a1 : Int) {r : List UInt8} (h : f_strings_Repeat fu a0 a1 = some r) : FnOk Tryz.prog 107 [(str a0), (int .i64 a1)] [] [] (fun (i : Unit) => { val := (str r) }) := by
  unfold f_strings_Repeat at h
  obtain ⟨hc, h⟩ := req_some h
  obtain rfl := Option.some.inj h
  obtain ⟨n, rfl⟩ : ∃ n : Nat, a1 = n := ⟨a1.toNat, by omega⟩
  refine fnok_pure fun w => ?_
  exact (Tryz.strings_Repeat ⟨a0.toArray⟩ n w (by omega) (by simpa [ByteArray.size] using hc.2.2)).mono fun e w' h9 => by simpa [str] using h9
def f_lumref_product_L5 (a0 : Int) (a1 : Int) (kk2 : (Int → Option Int)) : Nat → Int → Int → Option Int
  | 0, _, _ => none
  | k4 + 1, l3i5, l3i7 => (bif (decide (l3i7 < (64 : Int))) then (lt (fun (j7i5 : Int) => (f_lumref_product_L5 a0 a1 kk2 k4 j7i5 (IntKind.i64.wrap (l3i7 + (1 : Int))))) fun (kk8 : Int → Option Int) => (req (0 ≤ l3i7) (bif ((bits .and .u64 ((a1).fdiv (2 ^ min (l3i7).toNat (IntKind.bits .u64))) (1 : Int)) == (1 : Int)) then (req (0 ≤ l3i7) (kk8 (IntKind.u64.wrap (l3i5 + (IntKind.u64.wrap (a0 * 2 ^ min (l3i7).toNat (IntKind.bits .u64))))))) else (kk8 l3i5)))) else (kk2 l3i5))
def f_lumref_product (fu : Nat) (a0 : Int) (a1 : Int) : Option Int := (lt (fun (j1i5 : Int) => (some j1i5)) fun (kk2 : Int → Option Int) => (f_lumref_product_L5 a0 a1 kk2 fu (0 : Int) (0 : Int)))
set_option maxHeartbeats 2000000 in
set_option maxRecDepth 100000 in
theorem f_lumref_product_ok (fu : Nat) (a0 : Int) (a1 : Int) {r : Int} (h : f_lumref_product fu a0 a1 = some r) : FnOk Tryz.prog 125 [(int .u64 a0), (int .u64 a1)] [] [] (fun (i : Unit) => { val := (int .u64 r) }) := by
 unfold f_lumref_product at h
 refine fn_enter Tryz.func125 rfl Tryz.ntmps125 rfl (fun w0 Z0 => ?_)
 refine aw_sr ?_
 refine an_ ?_
 refine aw_sr ?_
 refine an_ ?_
 obtain ⟨kk2, hkk2, h⟩ := lt_some h
 refine aw_seq_join (ι := Int) (fun i => (memOf w0 Z0 [] [] [])) (fun i => (tab [(5, (uq i))])) (fun i => kk2 i = some r) ?_ ?_
 rintro j1i5 h
 have h : kk2 j1i5 = some r := h
 rw [hkk2] at h
 dsimp only at h
 clear hkk2
 refine aw_show (m := (memOf w0 Z0 [] [] [])) (S := _) ?_
 refine sm_ ?_
 refine an_ ?_
 refine aw_ret ?_
 cases h
 exact fr1_
 clear hkk2
 refine sm_ ?_
 refine al_nt ?_
 refine aw_block ?_
 refine aw_state (aw_loop (ι := Int × Int) (fun i => (memOf w0 Z0 [] [] [])) (fun i => (tab [(0, (uq a0)), (1, (uq a1)), (5, (uq i.1)), (7, (iq i.2))])) (fun q i => f_lumref_product_L5 a0 a1 kk2 q i.1 i.2 = some r) ?_ fu ((0 : Int), (0 : Int)) h) (nm_ [] [] (by decide) ⟨rfl, rfl, rfl, rfl, trivial⟩)
 clear h
 rintro k4 ⟨l3i5, l3i7⟩ h
 have h : f_lumref_product_L5 a0 a1 kk2 k4 l3i5 l3i7 = some r := h
 obtain _ | k4 := k4
 rw [f_lumref_product_L5] at h; cases h
 rw [f_lumref_product_L5] at h
 refine aw_show (m := (memOf w0 Z0 [] [] [])) (S := _) ?_
 refine aw_sr ?_
 refine im_ ?_
 refine aw_seq ?_
 refine aw_cond rfl (fun hb6 => ?_) (fun hb6 => ?_)
 replace h := bif_t hb6 h
 refine aw_skip ?_
 refine aq_then ?_
 obtain ⟨kk8, hkk8, h⟩ := lt_some h
 refine aw_seq_join (ι := Int) (fun i => (memOf w0 Z0 [] [] [])) (fun i => (tab [(0, (uq a0)), (1, (uq a1)), (5, (uq i)), (7, (iq l3i7))])) (fun i => kk8 i = some r) ?_ ?_
 rintro j7i5 h
 have h : kk8 j7i5 = some r := h
 rw [hkk8] at h
 dsimp only at h
 clear hkk8
 refine aw_show (m := (memOf w0 Z0 [] [] [])) (S := _) ?_
 refine aw_region ?_
 refine in_ ?_
 refine mv_ ?_
 refine al_nil ?_
 exact aq_again k4 (j7i5, (wq (l3i7 + (1 : Int)))) (Nat.lt_succ_self _) h (nm_ [] [] (by decide) ⟨rfl, rfl, rfl, rfl, trivial⟩)
 clear hkk8
 refine aw_block ?_
 refine sm_ ?_
 refine an_ ?_
 refine sm_ ?_
 refine mv_ ?_
 obtain ⟨hc9, h⟩ := req_some h
 refine al_val (ov_shr hc9 rfl rfl rfl) ?_
 refine in_ ?_
 refine im_ ?_
 refine aw_cond rfl (fun hb10 => ?_) (fun hb10 => ?_)
 replace h := bif_t hb10 h
 refine aw_region ?_
 refine mv_ ?_
 refine mv_ ?_
 refine mv_ ?_
 obtain ⟨hc11, h⟩ := req_some h
 refine al_val (ov_shl hc11 rfl rfl rfl) ?_
 refine in_ ?_
 refine as_ ?_
 refine al_nil ?_
 refine aq_block ?_
 exact aq_join (wu (l3i5 + (wu (a0 * 2 ^ min (l3i7).toNat (IntKind.bits .u64))))) h (nm_ [] [] (by decide) ⟨rfl, rfl, rfl, rfl, trivial⟩)
 replace h := bif_f hb10 h
 refine aw_skip ?_
 refine aq_block ?_
 exact aq_join l3i5 h (nm_ [] [] (by decide) ⟨rfl, rfl, rfl, rfl, trivial⟩)
 replace h := bif_f hb6 h
 refine aw_exit ?_
 refine aq_then_exit ?_
 refine aq_then_exit ?_
 refine aq_block_exit ?_
 exact aq_join l3i5 h (nm_ [] [] (by decide) ⟨rfl, trivial⟩)
def f_lumref_Step (fu : Nat) (a0 : Int) (a1 : Int) : Option Int := (opt (f_lumref_product fu (bits .xor .u64 a0 a1) (11400714819323198485 : Int)) fun (r2 : Int) => (opt (f_lumref_product fu (bits .xor .u64 r2 (IntKind.u64.wrap ((r2).tdiv (536870912 : Int)))) (13787848793156543929 : Int)) fun (r4 : Int) => (some (bits .xor .u64 r4 (IntKind.u64.wrap ((r4).tdiv (4294967296 : Int)))))))
set_option maxHeartbeats 2000000 in
set_option maxRecDepth 100000 in
theorem f_lumref_Step_ok (fu : Nat) (a0 : Int) (a1 : Int) {r : Int} (h : f_lumref_Step fu a0 a1 = some r) : FnOk Tryz.prog 109 [(int .u64 a0), (int .u64 a1)] [] [] (fun (i : Unit) => { val := (int .u64 r) }) := by
 unfold f_lumref_Step at h
 refine fn_enter Tryz.func109 rfl Tryz.ntmps109 rfl (fun w0 Z0 => ?_)
 refine aw_sr ?_
 refine an_ ?_
 refine sm_ ?_
 refine mv_ ?_
 refine in_ ?_
 obtain ⟨r2, hc1, h⟩ := opt_some h
 refine al_call (vs := [(uq (bits .xor .u64 a0 a1)), (uq (11400714819323198485 : Int))]) (f_lumref_product_ok fu (bits .xor .u64 a0 a1) (11400714819323198485 : Int) hc1) [] [] [] pre_nil rfl (by simp) (by decide) (.inl rfl) rfl Tryz.func125 rfl rfl rfl (fun _ => ?_)
 refine an_ ?_
 refine sm_ ?_
 refine mv_ ?_
 refine al_val (ov_quo (by decide) rfl rfl rfl) ?_
 refine in_ ?_
 refine an_ ?_
 refine sm_ ?_
 obtain ⟨r4, hc3, h⟩ := opt_some h
 refine al_call (vs := [(uq (bits .xor .u64 r2 (wu ((r2).tdiv (536870912 : Int))))), (uq (13787848793156543929 : Int))]) (f_lumref_product_ok fu (bits .xor .u64 r2 (wu ((r2).tdiv (536870912 : Int)))) (13787848793156543929 : Int) hc3) [] [] [] pre_nil rfl (by simp) (by decide) (.inl rfl) rfl Tryz.func125 rfl rfl rfl (fun _ => ?_)
 refine an_ ?_
 refine sm_ ?_
 refine mv_ ?_
 refine al_val (ov_quo (by decide) rfl rfl rfl) ?_
 refine in_ ?_
 refine an_ ?_
 refine aw_ret ?_
 cases h
 exact fr1_
def f_lumref_Narrow_L27 (l11s7 : (List UInt8)) (kk20 : (Int → Option Int)) : Nat → Int → Int → Option Int
  | 0, _, _ => none
  | k26 + 1, l25i8, l25i9 => (bif (decide (l25i9 ≥ (0 : Int))) then (req (0 ≤ l25i9 ∧ l25i9 < (l11s7.length : Int)) (f_lumref_Narrow_L27 l11s7 kk20 k26 (IntKind.u64.wrap ((IntKind.u64.wrap ((256 : Int) * l25i8)) + (IntKind.u64.wrap (En.bAt l11s7 l25i9)))) (IntKind.i64.wrap (l25i9 - (1 : Int))))) else (kk20 l25i8))
def f_lumref_Narrow_L13 (a0 : Int) (kk6 : (Int → Option Int)) (fu : Nat) : Nat → Int → (List UInt8) → Option Int
  | 0, _, _ => none
  | k12 + 1, l11i5, l11s7 => (lt (fun (l11i5 : Int) (l11s7 : (List UInt8)) => (f_lumref_Narrow_L13 a0 kk6 fu k12 l11i5 l11s7)) fun (kk14 : Int → (List UInt8) → Option Int) => (bif (!(l11s7 == ([] : List UInt8))) then (lt (fun (j16i5 : Int) => (req (0 ≤ (8 : Int) ∧ (8 : Int) ≤ (l11s7.length : Int)) (kk14 j16i5 (l11s7.drop ((8 : Int)).toNat)))) fun (kk17 : Int → Option Int) => (lt (fun (j19i8 : Int) => (opt (f_lumref_Step fu l11i5 j19i8) fun (r22 : Int) => (opt (f_lumref_Narrow_1 fu r22 a0) fun (r24 : Int) => (kk17 r24)))) fun (kk20 : Int → Option Int) => (f_lumref_Narrow_L27 l11s7 kk20 fu (0 : Int) (7 : Int)))) else (kk6 l11i5)))
def f_lumref_Narrow (fu : Nat) (a0 : Int) (a1 : (List UInt8)) : Option Int := (opt (f_strings_Repeat fu ([0] : List UInt8) (((IntKind.i64.wrap ((8 : Int) - (((a1.length : Int)).tmod (8 : Int))))).tmod (8 : Int))) fun (r3 : (List UInt8)) => (req (a1.length + r3.length ≤ 9223372036854775807) (lt (fun (j5i5 : Int) => (opt (f_lumref_Step fu j5i5 (IntKind.u64.wrap (a1.length : Int))) fun (r8 : Int) => (opt (f_lumref_Narrow_1 fu r8 a0) fun (r10 : Int) => (some r10)))) fun (kk6 : Int → Option Int) => (f_lumref_Narrow_L13 a0 kk6 fu fu (0 : Int) (a1 ++ r3)))))
set_option maxHeartbeats 2000000 in
set_option maxRecDepth 100000 in
theorem f_lumref_Narrow_ok (fu : Nat) (a0 : Int) (a1 : (List UInt8)) {r : Int} (h : f_lumref_Narrow fu a0 a1 = some r) : FnOk Tryz.prog 88 [(int .i64 a0), (str a1)] [] [] (fun (i : Unit) => { val := (int .u64 r) }) := by
 unfold f_lumref_Narrow at h
 refine fn_enter Tryz.func88 rfl Tryz.ntmps88 rfl (fun w0 Z0 => ?_)
 refine aw_sr ?_
 refine al_box (vs := [(iq a0)]) rfl (cv_rfl rfl) rfl (fun g1 => ?_)
 refine an_ ?_
 refine aw_sr ?_
 refine an_ ?_
 refine aw_sr ?_
 refine al_val (ov_makeFunc2 (vs := [(pq g1)]) rfl rfl) ?_
 refine an_ ?_
 refine sm_ ?_
 refine mv_ ?_
 refine al_val (ov_strLen Tryz.underlying9 rfl rfl) ?_
 refine al_val (ov_rem (by decide) rfl rfl rfl) ?_
 refine in_ ?_
 refine al_val (ov_rem (by decide) rfl rfl rfl) ?_
 obtain ⟨r3, hc2, h⟩ := opt_some h
 refine al_call (vs := [(str ([0] : List UInt8)), (iq (((wq ((8 : Int) - (((a1.length : Int)).tmod (8 : Int))))).tmod (8 : Int)))]) (f_strings_Repeat_ok fu ([0] : List UInt8) (((wq ((8 : Int) - (((a1.length : Int)).tmod (8 : Int))))).tmod (8 : Int)) hc2) [] [] [0] pre_nil rfl (by simp) (by decide) (.inl rfl) rfl Tryz.func107 rfl rfl rfl (fun _ => ?_)
 obtain ⟨hc4, h⟩ := req_some h
 refine al_val (ov_strAdd hc4 rfl rfl rfl) ?_
 refine an_ ?_
 obtain ⟨kk6, hkk6, h⟩ := lt_some h
 refine aw_seq_join (ι := Int) (fun i => (memOf w0 Z0 [] [(oBox g1 3 [(iq a0)])] [])) (fun i => (tab [(1, (str a1)), (5, (uq i)), (6, (Value.func (.func 108) #[] #[(pq g1)]))])) (fun i => kk6 i = some r) ?_ ?_
 rintro j5i5 h
 have h : kk6 j5i5 = some r := h
 rw [hkk6] at h
 dsimp only at h
 clear hkk6
 refine aw_show (m := (memOf w0 Z0 [] [(oBox g1 3 [(iq a0)])] [])) (S := _) ?_
 refine sm_ ?_
 refine mv_ ?_
 refine mv_ ?_
 refine al_val (ov_strLen Tryz.underlying9 rfl rfl) ?_
 refine al_val (ov_convInt (by rw [Tryz.underlying3]; rfl) Tryz.underlying81 rfl rfl) ?_
 obtain ⟨r8, hc7, h⟩ := opt_some h
 refine al_call (vs := [(uq j5i5), (uq (wu (a1.length : Int)))]) (f_lumref_Step_ok fu j5i5 (wu (a1.length : Int)) hc7) [] [] [0] pre_nil rfl (by simp) (by decide) (.inl rfl) rfl Tryz.func109 rfl rfl rfl (fun _ => ?_)
 obtain ⟨r10, hc9, h⟩ := opt_some h
 refine al_callF (vs := [(uq r8)]) (caps := [(pq g1)]) (f_lumref_Narrow_1_ok fu r8 (pq g1) a0 hc9) rfl [0] [] [0] (pre_boxP (x := a0) 0 rfl rfl (fun _ _ => rfl) pre_nil) rfl (by simp) (by decide) (.inr flat_res0) rfl rfl Tryz.func108 rfl rfl rfl (fun _ => ?_)
 refine an_ ?_
 refine aw_ret ?_
 cases h
 exact fr1_
 clear hkk6
 refine aw_block ?_
 refine aw_state (aw_loop (ι := Int × (List UInt8)) (fun i => (memOf w0 Z0 [] [(oBox g1 3 [(iq a0)])] [])) (fun i => (tab [(1, (str a1)), (5, (uq i.1)), (6, (Value.func (.func 108) #[] #[(pq g1)])), (7, (str i.2))])) (fun q i => f_lumref_Narrow_L13 a0 kk6 fu q i.1 i.2 = some r) ?_ fu ((0 : Int), (a1 ++ r3)) h) (nm_ [0] [] (by decide) ⟨rfl, rfl, rfl, rfl, trivial⟩)
 clear h
 rintro k12 ⟨l11i5, l11s7⟩ h
 have h : f_lumref_Narrow_L13 a0 kk6 fu k12 l11i5 l11s7 = some r := h
 obtain _ | k12 := k12
 rw [f_lumref_Narrow_L13] at h; cases h
 rw [f_lumref_Narrow_L13] at h
 refine aw_show (m := (memOf w0 Z0 [] [(oBox g1 3 [(iq a0)])] [])) (S := _) ?_
 obtain ⟨kk14, hkk14, h⟩ := lt_some h
 refine aw_body_join (ι := Int × (List UInt8)) (fun i => (memOf w0 Z0 [] [(oBox g1 3 [(iq a0)])] [])) (fun i => (tab [(1, (str a1)), (5, (uq i.1)), (6, (Value.func (.func 108) #[] #[(pq g1)])), (7, (str i.2))])) (fun i => kk14 i.1 i.2 = some r) (fun i h => aq_again k12 i (Nat.lt_succ_self _) (by rw [hkk14] at h; exact h) (fun w a hm hs => ⟨hm, hs⟩)) ?_
 clear hkk14
 refine aw_seq ?_
 refine sm_ ?_
 refine al_val (ov_strCmp rfl rfl rfl rfl) ?_
 refine al_nt ?_
 refine aw_cond rfl (fun hb15 => ?_) (fun hb15 => ?_)
 replace h := bif_t hb15 h
 refine aw_skip ?_
 refine aq_then ?_
 obtain ⟨kk17, hkk17, h⟩ := lt_some h
 refine aw_seq_join (ι := Int) (fun i => (memOf w0 Z0 [] [(oBox g1 3 [(iq a0)])] [])) (fun i => (tab [(1, (str a1)), (5, (uq i)), (6, (Value.func (.func 108) #[] #[(pq g1)])), (7, (str l11s7))])) (fun i => kk17 i = some r) ?_ ?_
 rintro j16i5 h
 have h : kk17 j16i5 = some r := h
 rw [hkk17] at h
 dsimp only at h
 clear hkk17
 refine aw_show (m := (memOf w0 Z0 [] [(oBox g1 3 [(iq a0)])] [])) (S := _) ?_
 refine aw_region ?_
 refine mv_ ?_
 obtain ⟨hc18, h⟩ := req_some h
 refine al_val (ov_strFrom hc18.1 hc18.2 Tryz.underlying9 rfl rfl rfl) ?_
 refine as_ ?_
 refine al_nil ?_
 exact aq_join (j16i5, (l11s7.drop ((8 : Int)).toNat)) h (nm_ [0] [] (by decide) ⟨rfl, rfl, rfl, rfl, trivial⟩)
 clear hkk17
 refine aw_block ?_
 refine aw_sr ?_
 refine an_ ?_
 obtain ⟨kk20, hkk20, h⟩ := lt_some h
 refine aw_seq_join (ι := Int) (fun i => (memOf w0 Z0 [] [(oBox g1 3 [(iq a0)])] [])) (fun i => (tab [(1, (str a1)), (5, (uq l11i5)), (6, (Value.func (.func 108) #[] #[(pq g1)])), (7, (str l11s7)), (8, (uq i))])) (fun i => kk20 i = some r) ?_ ?_
 rintro j19i8 h
 have h : kk20 j19i8 = some r := h
 rw [hkk20] at h
 dsimp only at h
 clear hkk20
 refine aw_show (m := (memOf w0 Z0 [] [(oBox g1 3 [(iq a0)])] [])) (S := _) ?_
 refine aw_region ?_
 refine mv_ ?_
 refine mv_ ?_
 refine mv_ ?_
 obtain ⟨r22, hc21, h⟩ := opt_some h
 refine al_call (vs := [(uq l11i5), (uq j19i8)]) (f_lumref_Step_ok fu l11i5 j19i8 hc21) [] [] [0] pre_nil rfl (by simp) (by decide) (.inl rfl) rfl Tryz.func109 rfl rfl rfl (fun _ => ?_)
 obtain ⟨r24, hc23, h⟩ := opt_some h
 refine al_callF (vs := [(uq r22)]) (caps := [(pq g1)]) (f_lumref_Narrow_1_ok fu r22 (pq g1) a0 hc23) rfl [0] [] [0] (pre_boxP (x := a0) 0 rfl rfl (fun _ _ => rfl) pre_nil) rfl (by simp) (by decide) (.inr flat_res0) rfl rfl Tryz.func108 rfl rfl rfl (fun _ => ?_)
 refine as_ ?_
 refine al_nil ?_
 refine aq_block ?_
 exact aq_join r24 h (nm_ [0] [] (by decide) ⟨rfl, rfl, rfl, rfl, trivial⟩)
 clear hkk20
 refine aw_sr ?_
 refine an_ ?_
 refine aw_block ?_
 refine aw_state (aw_loop (ι := Int × Int) (fun i => (memOf w0 Z0 [] [(oBox g1 3 [(iq a0)])] [])) (fun i => (tab [(1, (str a1)), (5, (uq l11i5)), (6, (Value.func (.func 108) #[] #[(pq g1)])), (7, (str l11s7)), (8, (uq i.1)), (9, (iq i.2))])) (fun q i => f_lumref_Narrow_L27 l11s7 kk20 q i.1 i.2 = some r) ?_ fu ((0 : Int), (7 : Int)) h) (nm_ [0] [] (by decide) ⟨rfl, rfl, rfl, rfl, rfl, rfl, trivial⟩)
 clear h
 rintro k26 ⟨l25i8, l25i9⟩ h
 have h : f_lumref_Narrow_L27 l11s7 kk20 k26 l25i8 l25i9 = some r := h
 obtain _ | k26 := k26
 rw [f_lumref_Narrow_L27] at h; cases h
 rw [f_lumref_Narrow_L27] at h
 refine aw_show (m := (memOf w0 Z0 [] [(oBox g1 3 [(iq a0)])] [])) (S := _) ?_
 refine aw_seq ?_
 refine sm_ ?_
 refine im_ ?_
 refine aw_cond rfl (fun hb28 => ?_) (fun hb28 => ?_)
 replace h := bif_t hb28 h
 refine aw_skip ?_
 refine aq_then ?_
 refine aw_seq ?_
 refine aw_block ?_
 refine aw_region ?_
 refine mv_ ?_
 refine in_ ?_
 refine mv_ ?_
 refine mv_ ?_
 obtain ⟨hc29, h⟩ := req_some h
 refine al_val (ov_strIdx hc29.1 hc29.2 Tryz.underlying9 rfl rfl rfl) ?_
 refine al_val (ov_convInt (by rw [Tryz.underlying5]; rfl) Tryz.underlying81 rfl rfl) ?_
 refine in_ ?_
 refine as_ ?_
 refine al_nil ?_
 refine aq_block ?_
 refine aq_then ?_
 refine aw_region ?_
 refine mv_ ?_
 refine in_ ?_
 refine as_ ?_
 refine al_nil ?_
 exact aq_again k26 ((wu ((wu ((256 : Int) * l25i8)) + (wu (En.bAt l11s7 l25i9)))), (wq (l25i9 - (1 : Int)))) (Nat.lt_succ_self _) h (nm_ [0] [] (by decide) ⟨rfl, rfl, rfl, rfl, rfl, rfl, trivial⟩)
 replace h := bif_f hb28 h
 refine aw_exit ?_
 refine aq_then_exit ?_
 refine aq_then_exit ?_
 refine aq_block_exit ?_
 exact aq_join l25i8 h (nm_ [0] [] (by decide) ⟨rfl, rfl, rfl, rfl, rfl, trivial⟩)
 replace h := bif_f hb15 h
 refine aw_exit ?_
 refine aq_then_exit ?_
 refine aq_then_exit ?_
 refine aq_block_exit ?_
 exact aq_join l11i5 h (nm_ [0] [] (by decide) ⟨rfl, rfl, rfl, trivial⟩)
def f_lumref_digits : Nat → Int → Option (List UInt8)
  | 0, _ => none
  | fu + 1, a0 => (bif (a0 == (0 : Int)) then (some ([] : List UInt8)) else (opt (f_lumref_digits fu (IntKind.u64.wrap ((a0).tdiv (256 : Int)))) fun (r3 : (List UInt8)) => (req (0 ≤ (IntKind.u8.wrap ((a0).tmod (256 : Int))) ∧ (IntKind.u8.wrap ((a0).tmod (256 : Int))) ≤ 255) (req (r3.length + ([(UInt8.ofNat ((IntKind.u8.wrap ((a0).tmod (256 : Int)))).toNat)]).length ≤ 9223372036854775807) (some (r3 ++ ([(UInt8.ofNat ((IntKind.u8.wrap ((a0).tmod (256 : Int)))).toNat)])))))))
set_option maxHeartbeats 2000000 in
set_option maxRecDepth 100000 in
theorem f_lumref_digits_ok (fu : Nat) (a0 : Int) {r : (List UInt8)} (h : f_lumref_digits fu a0 = some r) : FnOk Tryz.prog 72 [(int .u64 a0)] [] [] (fun (i : Unit) => { val := (str r) }) := by
 cases fu with
 | zero => rw [f_lumref_digits] at h; cases h
 | succ fu =>
  rw [f_lumref_digits] at h
  refine fn_enter Tryz.func72 rfl Tryz.ntmps72 rfl (fun w0 Z0 => ?_)
  refine aw_sr ?_
  refine an_ ?_
  refine aw_seq ?_
  refine sm_ ?_
  refine im_ ?_
  refine aw_cond rfl (fun hb1 => ?_) (fun hb1 => ?_)
  replace h := bif_t hb1 h
  refine aw_sr ?_
  refine an_ ?_
  refine aw_ret ?_
  refine aq_then_ret ?_
  cases h
  exact fr1_
  replace h := bif_f hb1 h
  refine aw_skip ?_
  refine aq_then ?_
  refine aw_seq ?_
  obtain ⟨r3, hc2, h⟩ := opt_some h
  obtain ⟨hc5, h⟩ := req_some h
  obtain ⟨hc6, h⟩ := req_some h
  refine aw_region_draw 9 [(5, (fE (uq a0))), (6, (fE (uq (wu ((a0).tdiv (256 : Int)))))), (7, (fE (str r3))), (8, (fE (uq a0))), (9, (fE (uq ((a0).tmod (256 : Int))))), (10, (fE (i8 (w8 ((a0).tmod (256 : Int)))))), (11, (fun v4 => (fDat (tyList tyU8) [v4] [(UInt8.ofNat ((w8 ((a0).tmod (256 : Int)))).toNat)]))), (12, (fE (str [(UInt8.ofNat ((w8 ((a0).tmod (256 : Int)))).toNat)]))), (13, (fE (str (r3 ++ ([(UInt8.ofNat ((w8 ((a0).tmod (256 : Int)))).toNat)])))))] (tab [(0, (uq a0)), (2, (str ([] : List UInt8)))]) mixed (by kernel_rfl) rfl rfl rfl (fun a hs => hs.tab _ (allT_mem ⟨rfl, rfl, trivial⟩)) ⟨⟨rfl, ld_val (ov_move rfl rfl)⟩, ⟨rfl, ld_eq (j := 0) rfl rfl (ld_val (ov_quo (by decide) rfl rfl rfl))⟩, ⟨rfl, ld_eq (j := 1) rfl rfl (ld_callV (vs := [(uq (wu ((a0).tdiv (256 : Int))))]) (f_lumref_digits_ok fu (wu ((a0).tdiv (256 : Int))) hc2) [] pre_nil rfl Tryz.func72 rfl rfl rfl)⟩, ⟨rfl, ld_val (ov_move rfl rfl)⟩, ⟨rfl, ld_eq (j := 3) rfl rfl (ld_val (ov_rem (by decide) rfl rfl rfl))⟩, ⟨rfl, ld_eq (j := 4) rfl rfl (ld_val (ov_convInt (by rw [Tryz.underlying81]; rfl) Tryz.underlying5 rfl rfl))⟩, ⟨rfl, ld_eq (j := 5) rfl rfl (ld_buildSlice (τ := tyU8) (e := 5) (k := 1) (cs := [(i8 (w8 ((a0).tmod (256 : Int))))]) (xs := [(UInt8.ofNat ((w8 ((a0).tmod (256 : Int)))).toNat)]) rfl (by decide) rfl (fun w a hm hs => ⟨([(i8 (w8 ((a0).tmod (256 : Int))))]).toArray, rfl, by simp only [List.map_toArray, List.map_cons, List.map_nil, hs.ev (x := .tmp 10) rfl]; exact run_bs [(i8 (w8 ((a0).tmod (256 : Int))))] [(i8 (w8 ((a0).tmod (256 : Int))))] Tryz.underlying84 to5 rfl rfl (bs_cons (l := [(i8 (w8 ((a0).tmod (256 : Int))))]) (cs := []) (cv_rfl rfl) rfl bs_nil) hm⟩) (fun hm => ⟨_, _, rfl, (fun _ => u8_rep hc5) hm, rfl⟩) rfl)⟩, ⟨rfl, ld_fact (j := 6) rfl rfl (fun v4 => ld_val (ov_toStr 0 rfl rfl Tryz.underlying84 Tryz.underlying5 Tryz.underlying9 rfl))⟩, ⟨rfl, ld_eq (j := 2) rfl rfl (ld_eq (j := 7) rfl rfl (ld_val (ov_strAdd hc6 rfl rfl rfl)))⟩, trivial⟩ ?_
  refine tl_eq 8 rfl ?_
  refine tl_done ?_
  refine an_ ?_
  refine aw_ret ?_
  cases h
  exact fr1_
def f_lumref_wide (fu : Nat) (a0 : Int) : Option (List UInt8) := (opt (f_lumref_digits fu a0) fun (r2 : (List UInt8)) => (opt (f_strings_Repeat fu ([0] : List UInt8) (IntKind.i64.wrap ((8 : Int) - (r2.length : Int)))) fun (r4 : (List UInt8)) => (req (r4.length + r2.length ≤ 9223372036854775807) (some (r4 ++ r2)))))
set_option maxRecDepth 100000 in
theorem f_lumref_wide_ok (fu : Nat) (a0 : Int) {r : (List UInt8)} (h : f_lumref_wide fu a0 = some r) : FnOk Tryz.prog 87 [(int .u64 a0)] [] [] (fun (i : Unit) => { val := (str r) }) := by
 unfold f_lumref_wide at h
 refine fn_enter Tryz.func87 rfl Tryz.ntmps87 rfl (fun w0 Z0 => ?_)
 refine aw_sr ?_
 refine an_ ?_
 refine sm_ ?_
 obtain ⟨r2, hc1, h⟩ := opt_some h
 refine al_call (vs := [(uq a0)]) (f_lumref_digits_ok fu a0 hc1) [] [] [] pre_nil rfl (by simp) (by decide) (.inl rfl) rfl Tryz.func72 rfl rfl rfl (fun _ => ?_)
 refine an_ ?_
 refine sm_ ?_
 refine al_val (ov_strLen Tryz.underlying9 rfl rfl) ?_
 refine in_ ?_
 obtain ⟨r4, hc3, h⟩ := opt_some h
 refine al_call (vs := [(str ([0] : List UInt8)), (iq (wq ((8 : Int) - (r2.length : Int))))]) (f_strings_Repeat_ok fu ([0] : List UInt8) (wq ((8 : Int) - (r2.length : Int))) hc3) [] [] [] pre_nil rfl (by simp) (by decide) (.inl rfl) rfl Tryz.func107 rfl rfl rfl (fun _ => ?_)
 refine mv_ ?_
 obtain ⟨hc5, h⟩ := req_some h
 refine al_val (ov_strAdd hc5 rfl rfl rfl) ?_
 refine an_ ?_
 refine aw_ret ?_
 cases h
 exact fr1_
def f_lumref_ID (fu : Nat) (a0 : (List UInt8)) : Option A8u8 := (opt (f_lumref_Narrow fu (64 : Int) a0) fun (r3 : Int) => (opt (f_lumref_wide fu r3) fun (r5 : (List UInt8)) => (req (r5.length ≤ 9223372036854775807) (req (8 ≤ r5.length) (some (ofA8u8 r5))))))
set_option maxRecDepth 100000 in
theorem f_lumref_ID_ok (fu : Nat) (a0 : (List UInt8)) {r : A8u8} (h : f_lumref_ID fu a0 = some r) : FnOk Tryz.prog 70 [(str a0)] [] [] (fun (i : Unit) => { val := (ag (cA8u8 r)) }) := by
 unfold f_lumref_ID at h
 refine fn_enter Tryz.func70 rfl Tryz.ntmps70 rfl (fun w0 Z0 => ?_)
 refine aw_sr ?_
 refine al_alloc (zs := (cA8u8 zA8u8)) (zeroOf_to to29) rfl rfl (fun g1 => ?_)
 refine al_nt ?_
 refine sm_ ?_
 obtain ⟨r3, hc2, h⟩ := opt_some h
 refine al_call (vs := [(iq (64 : Int)), (str a0)]) (f_lumref_Narrow_ok fu (64 : Int) a0 hc2) [] [] [0] pre_nil rfl (by simp) (by decide) (.inl rfl) rfl Tryz.func88 rfl rfl rfl (fun _ => ?_)
 obtain ⟨r5, hc4, h⟩ := opt_some h
 refine al_call (vs := [(uq r3)]) (f_lumref_wide_ok fu r3 hc4) [] [] [0] pre_nil rfl (by simp) (by decide) (.inl rfl) rfl Tryz.func87 rfl rfl rfl (fun _ => ?_)
 obtain ⟨hc6, h⟩ := req_some h
 refine al_bytes hc6 rfl Tryz.underlying9 Tryz.underlying84 Tryz.underlying5 rfl (fun s7 => ?_)
 obtain ⟨hc9, h⟩ := req_some h
 refine al_s2ap (τA := tyA8u8) (x := (ofA8u8 r5)) 0 8 hc9 rfl (fun h9 => oflA8u8 hc9 h9) rfl rfl Tryz.underlying29 rfl (fun p8 => ?_)
 refine al_val (ov_loadP (ds := (cA8u8 (ofA8u8 r5))) 0 rfl encA8u8 rfl Tryz.underlying29 sz29 rfl rfl rfl) ?_
 refine al_store (i := 0) (vs := (cA8u8 (ofA8u8 r5))) (cs' := (cA8u8 (ofA8u8 r5))) rfl rfl rfl sz29 (cv_rfl rfl) rfl (co_all (oneA8u8 (ofA8u8 r5))) (Nat.le_of_ble_eq_true rfl) rfl rfl ?_
 refine nr_ ?_
 cases h
 exact fn_ret () [] [] rfl rfl rfl rfl (resC rfl (resB (i := 0) rfl rfl Tryz.underlying29 sz29 rfl rfl rfl (resN)) rfl) rfl rfl rfl (by decide)
def f_lumref_BlobID (fu : Nat) (a0 : S_api_Blob) : Option (A8u8 × Int) := (opt (f_lumref_kindOK fu a0.Kind) fun (r4 : Bool) => (bif (!r4) then (some (zA8u8, (5 : Int))) else (bif (decide ((a0.Bytes.length : Int) > (4096 : Int))) then (some (zA8u8, (2 : Int))) else (req (0 ≤ (IntKind.u8.wrap a0.Kind) ∧ (IntKind.u8.wrap a0.Kind) ≤ 255) (req (([(UInt8.ofNat ((IntKind.u8.wrap a0.Kind)).toNat)]).length + a0.Bytes.length ≤ 9223372036854775807) (opt (f_lumref_ID fu (([(UInt8.ofNat ((IntKind.u8.wrap a0.Kind)).toNat)]) ++ a0.Bytes)) fun (r11 : A8u8) => (some (r11, (0 : Int)))))))))
set_option maxHeartbeats 2000000 in
set_option maxRecDepth 100000 in
theorem f_lumref_BlobID_ok (fu : Nat) (a0 : S_api_Blob) {r : (A8u8 × Int)} (h : f_lumref_BlobID fu a0 = some r) : FnOk Tryz.prog 48 [(ag [(int .i64 a0.Kind), (str a0.Bytes)])] [] [] (fun (i : Unit) => { val := (Value.tuple #[(ag (cA8u8 r.1)), (int .i64 r.2)]) }) := by
 unfold f_lumref_BlobID at h
 refine fn_enter Tryz.func48 rfl Tryz.ntmps48 rfl (fun w0 Z0 => ?_)
 refine aw_sr ?_
 refine al_box (vs := [(iq a0.Kind), (str a0.Bytes)]) rfl (cv_rfl rfl) rfl (fun g1 => ?_)
 refine al_alloc (zs := (cA8u8 zA8u8)) (zeroOf_to to29) rfl rfl (fun g2 => ?_)
 refine an_ ?_
 refine aw_seq ?_
 refine aw_sr ?_
 refine al_val (ov_fieldA (p := 0) rfl Tryz.underlying37 rfl sz3 rfl rfl rfl) ?_
 refine al_val (ov_load (i := 1) (v := (iq a0.Kind)) rfl rfl Tryz.underlying3 sz3 rfl rfl rfl rfl) ?_
 obtain ⟨r4, hc3, h⟩ := opt_some h
 refine al_call (vs := [(iq a0.Kind)]) (f_lumref_kindOK_ok fu a0.Kind hc3) [] [] [0, 1] pre_nil rfl (by simp) (by decide) (.inl rfl) rfl Tryz.func69 rfl rfl rfl (fun _ => ?_)
 refine al_val (ov_not rfl rfl) ?_
 refine al_nt ?_
 refine aw_cond rfl (fun hb5 => ?_) (fun hb5 => ?_)
 replace h := bif_t hb5 h
 refine aw_sr ?_
 refine al_val (ov_build (cells := ((cA8u8 zA8u8) : List Value).toArray) (cs := (cA8u8 zA8u8)) rfl (fun w a hm hs => by simp only [List.map_toArray, List.map_cons, List.map_nil, List.toList_toArray]; kernel_rfl)) ?_
 refine al_store (i := 0) (vs := (cA8u8 zA8u8)) (cs' := (cA8u8 zA8u8)) rfl rfl rfl sz29 (cv_rfl rfl) rfl (co_all (oneA8u8 zA8u8)) (Nat.le_of_ble_eq_true rfl) rfl rfl ?_
 refine an_ ?_
 refine aw_ret ?_
 refine aq_then_ret ?_
 cases h
 exact fn_ret () [] [] rfl rfl rfl rfl (resC rfl (resB (i := 0) rfl rfl Tryz.underlying29 sz29 rfl rfl rfl (resT rfl (resN))) rfl) rfl rfl rfl (by decide)
 replace h := bif_f hb5 h
 refine aw_skip ?_
 refine aq_then ?_
 refine aw_seq ?_
 refine aw_sr ?_
 refine al_val (ov_fieldA (p := 1) rfl Tryz.underlying37 rfl sz9 rfl rfl rfl) ?_
 refine al_val (ov_load (i := 1) (v := (str a0.Bytes)) rfl rfl Tryz.underlying9 sz9 rfl rfl rfl rfl) ?_
 refine al_val (ov_strLen Tryz.underlying9 rfl rfl) ?_
 refine im_ ?_
 refine aw_cond rfl (fun hb6 => ?_) (fun hb6 => ?_)
 replace h := bif_t hb6 h
 refine aw_sr ?_
 refine al_val (ov_build (cells := ((cA8u8 zA8u8) : List Value).toArray) (cs := (cA8u8 zA8u8)) rfl (fun w a hm hs => by simp only [List.map_toArray, List.map_cons, List.map_nil, List.toList_toArray]; kernel_rfl)) ?_
 refine al_store (i := 0) (vs := (cA8u8 zA8u8)) (cs' := (cA8u8 zA8u8)) rfl rfl rfl sz29 (cv_rfl rfl) rfl (co_all (oneA8u8 zA8u8)) (Nat.le_of_ble_eq_true rfl) rfl rfl ?_
 refine an_ ?_
 refine aw_ret ?_
 refine aq_then_ret ?_
 cases h
 exact fn_ret () [] [] rfl rfl rfl rfl (resC rfl (resB (i := 0) rfl rfl Tryz.underlying29 sz29 rfl rfl rfl (resT rfl (resN))) rfl) rfl rfl rfl (by decide)
 replace h := bif_f hb6 h
 refine aw_skip ?_
 refine aq_tr ?_
 refine al_val (ov_fieldA (p := 0) rfl Tryz.underlying37 rfl sz3 rfl rfl rfl) ?_
 refine al_val (ov_load (i := 1) (v := (iq a0.Kind)) rfl rfl Tryz.underlying3 sz3 rfl rfl rfl rfl) ?_
 refine al_val (ov_convInt (by rw [Tryz.underlying3]; rfl) Tryz.underlying5 rfl rfl) ?_
 obtain ⟨hc8, h⟩ := req_some h
 refine al_buildSlice (τ := tyU8) (e := 5) (k := 1) (sz := 0) (by_ := 0) (z := undef) (cs := [(i8 (w8 a0.Kind))]) (xs := [(UInt8.ofNat ((w8 a0.Kind)).toNat)]) rfl (by decide) (fun w a hm hs => ⟨([(i8 (w8 a0.Kind))]).toArray, rfl, by simp only [List.map_toArray, List.map_cons, List.map_nil, hs.ev (x := .tmp 16) rfl]; exact run_bs [(i8 (w8 a0.Kind))] [(i8 (w8 a0.Kind))] Tryz.underlying84 to5 rfl rfl (bs_cons (l := [(i8 (w8 a0.Kind))]) (cs := []) (cv_rfl rfl) rfl bs_nil) hm⟩) (fun hm => ⟨_, _, rfl, (fun _ => u8_rep hc8) hm, rfl⟩) rfl (fun v7 => ?_)
 refine al_val (ov_toStrR 0 rfl rfl Tryz.underlying84 Tryz.underlying5 Tryz.underlying9 rfl) ?_
 refine al_val (ov_fieldA (p := 1) rfl Tryz.underlying37 rfl sz9 rfl rfl rfl) ?_
 refine al_val (ov_load (i := 2) (v := (str a0.Bytes)) rfl rfl Tryz.underlying9 sz9 rfl rfl rfl rfl) ?_
 obtain ⟨hc9, h⟩ := req_some h
 refine al_val (ov_strAdd hc9 rfl rfl rfl) ?_
 obtain ⟨r11, hc10, h⟩ := opt_some h
 refine al_call (vs := [(str (([(UInt8.ofNat ((w8 a0.Kind)).toNat)]) ++ a0.Bytes))]) (f_lumref_ID_ok fu (([(UInt8.ofNat ((w8 a0.Kind)).toNat)]) ++ a0.Bytes) hc10) [] [] [0, 1, 2] pre_nil rfl (by simp) (by decide) (.inl rfl) rfl Tryz.func70 rfl rfl rfl (fun _ => ?_)
 refine al_store (i := 1) (vs := (cA8u8 r11)) (cs' := (cA8u8 r11)) rfl rfl rfl sz29 (cv_rfl rfl) rfl (co_all (oneA8u8 r11)) (Nat.le_of_ble_eq_true rfl) rfl rfl ?_
 refine an_ ?_
 refine aw_ret ?_
 cases h
 exact fn_ret () [] [] rfl rfl rfl rfl (resC rfl (resB (i := 1) rfl rfl Tryz.underlying29 sz29 rfl rfl rfl (resT rfl (resN))) rfl) rfl rfl rfl (by decide)
 -- STUCK lumberroom/lumref.into: a region that draws: no head: world.go:232 [open: world.go:232: call: append to data]
def f_lumref_nodeErr (fu : Nat) (a0 : S_api_Node) : Option Int := (opt (f_lumref_Name fu a0.Name) fun (r3 : Int) => (bif (r3 != (0 : Int)) then (some r3) else (lt (fun (j5b33 : Bool) => (bif j5b33 then (some (1 : Int)) else (lt (fun (j8b34 : Bool) => (bif j8b34 then (some (5 : Int)) else (lt (fun (j11b43 : Bool) => (bif j11b43 then (some (4 : Int)) else (bif (decide ((a0.Link.length : Int) > (1024 : Int))) then (some (2 : Int)) else (some (0 : Int))))) fun (kk12 : Bool → Option Int) => (lt (fun (j15b43 : Bool) => (bif j15b43 then (kk12 j15b43) else (lt (fun (j18b43 : Bool) => (bif j18b43 then (kk12 j18b43) else (lt (fun (j21b43 : Bool) => (bif j21b43 then (kk12 j21b43) else (bif (a0.Kind == (3 : Int)) then (bif ((a0.Parts.length : Int) != (0 : Int)) then (kk12 true) else (kk12 (a0.Link == ([] : List UInt8)))) else (kk12 false)))) fun (kk22 : Bool → Option Int) => (bif (a0.Kind == (2 : Int)) then (bif ((a0.Parts.length : Int) != (1 : Int)) then (kk22 true) else (kk22 (!(a0.Link == ([] : List UInt8))))) else (kk22 false))))) fun (kk19 : Bool → Option Int) => (bif (decide (a0.Kind > (1 : Int))) then (kk19 (a0.Size != (0 : Int))) else (kk19 false))))) fun (kk16 : Bool → Option Int) => (bif (a0.Kind == (1 : Int)) then (kk16 (!(a0.Link == ([] : List UInt8)))) else (kk16 false)))))) fun (kk9 : Bool → Option Int) => (bif (decide (a0.Kind < (1 : Int))) then (kk9 true) else (kk9 (decide (a0.Kind > (3 : Int)))))))) fun (kk6 : Bool → Option Int) => (bif (decide (a0.Mode < (0 : Int))) then (kk6 true) else (bif (decide (a0.Mode > (511 : Int))) then (kk6 true) else (bif (decide (a0.Size < (0 : Int))) then (kk6 true) else (bif (decide (a0.Size > (4096 : Int))) then (kk6 true) else (kk6 (decide ((a0.Parts.length : Int) > (300 : Int)))))))))))
abbrev mm33 (w0 : World) (Z0 : Nat → Prop) (a0 : S_api_Node) (g1 : Nat) (v0_5 : Value) : Mem := memOf w0 Z0 [] [(oBox g1 64 [(str a0.Name), (int .i64 a0.Kind), (int .i64 a0.Mode), (int .i64 a0.Time), (int .i64 a0.Size), v0_5, (str a0.Link)])] [(fDat (tyList tyA8u8) [v0_5] a0.Parts)]
set_option maxRecDepth 100000 in
set_option maxHeartbeats 2000000 in
set_option maxHeartbeats 2000000 in
theorem f_lumref_nodeErr_ok (fu : Nat) (v0_5 : Value) (a0 : S_api_Node) {r : Int} (h : f_lumref_nodeErr fu a0 = some r) : FnOk Tryz.prog 71 [(ag [(str a0.Name), (int .i64 a0.Kind), (int .i64 a0.Mode), (int .i64 a0.Time), (int .i64 a0.Size), v0_5, (str a0.Link)])] [(fDat (tyList tyA8u8) [v0_5] a0.Parts)] [] (fun (i : Unit) => { val := (int .i64 r) }) := by
 unfold f_lumref_nodeErr at h
 refine fn_enter Tryz.func71 rfl Tryz.ntmps71 rfl (fun w0 Z0 => ?_)
 refine aw_sr ?_
 refine al_box (vs := [(str a0.Name), (iq a0.Kind), (iq a0.Mode), (iq a0.Time), (iq a0.Size), v0_5, (str a0.Link)]) rfl (cv_rfl rfl) rfl (fun g1 => ?_)
 refine an_ ?_
 refine aw_seq ?_
 refine aw_sr ?_
 refine al_val (ov_fieldA (p := 0) rfl Tryz.underlying64 rfl sz9 rfl rfl rfl) ?_
 refine al_val (ov_load (i := 0) (v := (str a0.Name)) rfl rfl Tryz.underlying9 sz9 rfl rfl rfl rfl) ?_
 obtain ⟨r3, hc2, h⟩ := opt_some h
 refine al_call (vs := [(str a0.Name)]) (f_lumref_Name_ok fu a0.Name hc2) [] [] [0] pre_nil rfl (by simp) (by decide) (.inl rfl) rfl Tryz.func58 rfl rfl rfl (fun _ => ?_)
 refine an_ ?_
 refine sm_ ?_
 refine im_ ?_
 refine aw_cond rfl (fun hb4 => ?_) (fun hb4 => ?_)
 replace h := bif_t hb4 h
 refine sm_ ?_
 refine an_ ?_
 refine aw_ret ?_
 refine aq_then_ret ?_
 cases h
 exact fr1_
 replace h := bif_f hb4 h
 refine aw_skip ?_
 refine aq_then ?_
 refine aw_seq ?_
 obtain ⟨kk6, hkk6, h⟩ := lt_some h
 refine aw_seq_join (ι := Bool) (fun i => (mm33 w0 Z0 a0 g1 v0_5)) (fun i => (tab [(1, (pq g1)), (33, (bool i))])) (fun i => kk6 i = some r) ?_ ?_
 rintro j5b33 h
 have h : kk6 j5b33 = some r := h
 rw [hkk6] at h
 dsimp only at h
 clear hkk6
 refine aw_show (m := (mm33 w0 Z0 a0 g1 v0_5)) (S := _) ?_
 refine aw_cond rfl (fun hb7 => ?_) (fun hb7 => ?_)
 replace h := bif_t hb7 h
 refine aw_sr ?_
 refine an_ ?_
 refine aw_ret ?_
 refine aq_then_ret ?_
 cases h
 exact fr1_
 replace h := bif_f hb7 h
 refine aw_skip ?_
 refine aq_then ?_
 refine aw_seq ?_
 refine aw_block ?_
 obtain ⟨kk9, hkk9, h⟩ := lt_some h
 refine aw_seq_join (ι := Bool) (fun i => (mm33 w0 Z0 a0 g1 v0_5)) (fun i => (tab [(1, (pq g1)), (34, (bool i))])) (fun i => kk9 i = some r) ?_ ?_
 rintro j8b34 h
 have h : kk9 j8b34 = some r := h
 rw [hkk9] at h
 dsimp only at h
 clear hkk9
 refine aw_show (m := (mm33 w0 Z0 a0 g1 v0_5)) (S := _) ?_
 refine aw_cond rfl (fun hb10 => ?_) (fun hb10 => ?_)
 replace h := bif_t hb10 h
 refine aw_sr ?_
 refine an_ ?_
 refine aw_ret ?_
 refine aq_block_ret ?_
 refine aq_then_ret ?_
 cases h
 exact fr1_
 replace h := bif_f hb10 h
 obtain ⟨kk12, hkk12, h⟩ := lt_some h
 refine aw_seq_join (ι := Bool) (fun i => (mm33 w0 Z0 a0 g1 v0_5)) (fun i => (tab [(1, (pq g1)), (43, (bool i))])) (fun i => kk12 i = some r) ?_ ?_
 rintro j11b43 h
 have h : kk12 j11b43 = some r := h
 rw [hkk12] at h
 dsimp only at h
 clear hkk12
 refine aw_show (m := (mm33 w0 Z0 a0 g1 v0_5)) (S := _) ?_
 refine aw_cond rfl (fun hb13 => ?_) (fun hb13 => ?_)
 replace h := bif_t hb13 h
 refine aw_sr ?_
 refine an_ ?_
 refine aw_ret ?_
 refine aq_block_ret ?_
 refine aq_then_ret ?_
 cases h
 exact fr1_
 replace h := bif_f hb13 h
 refine aw_sr ?_
 refine al_val (ov_fieldA (p := 6) rfl Tryz.underlying64 rfl sz9 rfl rfl rfl) ?_
 refine al_val (ov_load (i := 0) (v := (str a0.Link)) rfl rfl Tryz.underlying9 sz9 rfl rfl rfl rfl) ?_
 refine al_val (ov_strLen Tryz.underlying9 rfl rfl) ?_
 refine in_ ?_
 refine an_ ?_
 refine aw_cond rfl (fun hb14 => ?_) (fun hb14 => ?_)
 replace h := bif_t hb14 h
 refine aw_sr ?_
 refine an_ ?_
 refine aw_ret ?_
 refine aq_block_ret ?_
 refine aq_then_ret ?_
 cases h
 exact fr1_
 replace h := bif_f hb14 h
 refine aw_skip ?_
 refine aq_block ?_
 refine aq_tr ?_
 refine an_ ?_
 refine aw_ret ?_
 cases h
 exact fr1_
 clear hkk12
 obtain ⟨kk16, hkk16, h⟩ := lt_some h
 refine aw_seq_join (ι := Bool) (fun i => (mm33 w0 Z0 a0 g1 v0_5)) (fun i => (tab [(1, (pq g1)), (43, (bool i))])) (fun i => kk16 i = some r) ?_ ?_
 rintro j15b43 h
 have h : kk16 j15b43 = some r := h
 rw [hkk16] at h
 dsimp only at h
 clear hkk16
 refine aw_show (m := (mm33 w0 Z0 a0 g1 v0_5)) (S := _) ?_
 refine aw_cond rfl (fun hb17 => ?_) (fun hb17 => ?_)
 replace h := bif_t hb17 h
 refine aw_skip ?_
 exact aq_join j15b43 h (nm_ [0] [0] (by decide) ⟨rfl, rfl, trivial⟩)
 replace h := bif_f hb17 h
 obtain ⟨kk19, hkk19, h⟩ := lt_some h
 refine aw_seq_join (ι := Bool) (fun i => (mm33 w0 Z0 a0 g1 v0_5)) (fun i => (tab [(1, (pq g1)), (43, (bool i))])) (fun i => kk19 i = some r) ?_ ?_
 rintro j18b43 h
 have h : kk19 j18b43 = some r := h
 rw [hkk19] at h
 dsimp only at h
 clear hkk19
 refine aw_show (m := (mm33 w0 Z0 a0 g1 v0_5)) (S := _) ?_
 refine aw_cond rfl (fun hb20 => ?_) (fun hb20 => ?_)
 replace h := bif_t hb20 h
 refine aw_skip ?_
 exact aq_join j18b43 h (nm_ [0] [0] (by decide) ⟨rfl, rfl, trivial⟩)
 replace h := bif_f hb20 h
 obtain ⟨kk22, hkk22, h⟩ := lt_some h
 refine aw_seq_join (ι := Bool) (fun i => (mm33 w0 Z0 a0 g1 v0_5)) (fun i => (tab [(1, (pq g1)), (43, (bool i))])) (fun i => kk22 i = some r) ?_ ?_
 rintro j21b43 h
 have h : kk22 j21b43 = some r := h
 rw [hkk22] at h
 dsimp only at h
 clear hkk22
 refine aw_show (m := (mm33 w0 Z0 a0 g1 v0_5)) (S := _) ?_
 refine aw_cond rfl (fun hb23 => ?_) (fun hb23 => ?_)
 replace h := bif_t hb23 h
 refine aw_skip ?_
 exact aq_join j21b43 h (nm_ [0] [0] (by decide) ⟨rfl, rfl, trivial⟩)
 replace h := bif_f hb23 h
 refine aw_region ?_
 refine al_val (ov_fieldA (p := 1) rfl Tryz.underlying64 rfl sz3 rfl rfl rfl) ?_
 refine al_val (ov_load (i := 0) (v := (iq a0.Kind)) rfl rfl Tryz.underlying3 sz3 rfl rfl rfl rfl) ?_
 refine in_ ?_
 refine mv_ ?_
 refine al_caseB 77 rfl (fun hb24 => ?_) (fun hb24 => ?_)
 replace h := bif_t hb24 h
 refine al_val (ov_fieldA (p := 5) rfl Tryz.underlying64 rfl sz62 rfl rfl rfl) ?_
 refine al_val (ov_load (i := 0) (v := v0_5) rfl rfl Tryz.underlying62 sz62 rfl rfl rfl rfl) ?_
 refine al_val (ov_lenD 0 rfl rfl Tryz.underlying62 rfl) ?_
 refine in_ ?_
 refine mv_ ?_
 refine al_caseB 82 rfl (fun hb25 => ?_) (fun hb25 => ?_)
 replace h := bif_t hb25 h
 iterate 3 refine al_skip ?_
 refine al_val (ov_pick_t rfl rfl rfl) ?_
 refine al_val (ov_pick_t rfl rfl rfl) ?_
 refine as_ ?_
 refine al_nil ?_
 exact aq_join true h (nm_ [0] [0] (by decide) ⟨rfl, rfl, trivial⟩)
 replace h := bif_f hb25 h
 refine al_val (ov_fieldA (p := 6) rfl Tryz.underlying64 rfl sz9 rfl rfl rfl) ?_
 refine al_val (ov_load (i := 0) (v := (str a0.Link)) rfl rfl Tryz.underlying9 sz9 rfl rfl rfl rfl) ?_
 refine al_val (ov_strCmp rfl rfl rfl rfl) ?_
 refine al_val (ov_pick_f rfl rfl rfl) ?_
 refine al_val (ov_pick_t rfl rfl rfl) ?_
 refine as_ ?_
 refine al_nil ?_
 exact aq_join (a0.Link == ([] : List UInt8)) h (nm_ [0] [0] (by decide) ⟨rfl, rfl, trivial⟩)
 replace h := bif_f hb24 h
 iterate 9 refine al_skip ?_
 refine al_val (ov_pick_f rfl rfl rfl) ?_
 refine as_ ?_
 refine al_nil ?_
 exact aq_join false h (nm_ [0] [0] (by decide) ⟨rfl, rfl, trivial⟩)
 clear hkk22
 refine aw_region ?_
 refine al_val (ov_fieldA (p := 1) rfl Tryz.underlying64 rfl sz3 rfl rfl rfl) ?_
 refine al_val (ov_load (i := 0) (v := (iq a0.Kind)) rfl rfl Tryz.underlying3 sz3 rfl rfl rfl rfl) ?_
 refine in_ ?_
 refine mv_ ?_
 refine al_caseB 63 rfl (fun hb26 => ?_) (fun hb26 => ?_)
 replace h := bif_t hb26 h
 refine al_val (ov_fieldA (p := 5) rfl Tryz.underlying64 rfl sz62 rfl rfl rfl) ?_
 refine al_val (ov_load (i := 0) (v := v0_5) rfl rfl Tryz.underlying62 sz62 rfl rfl rfl rfl) ?_
 refine al_val (ov_lenD 0 rfl rfl Tryz.underlying62 rfl) ?_
 refine in_ ?_
 refine mv_ ?_
 refine al_caseB 68 rfl (fun hb27 => ?_) (fun hb27 => ?_)
 replace h := bif_t hb27 h
 iterate 3 refine al_skip ?_
 refine al_val (ov_pick_t rfl rfl rfl) ?_
 refine al_val (ov_pick_t rfl rfl rfl) ?_
 refine as_ ?_
 refine al_nil ?_
 exact aq_join true h (nm_ [0] [0] (by decide) ⟨rfl, rfl, trivial⟩)
 replace h := bif_f hb27 h
 refine al_val (ov_fieldA (p := 6) rfl Tryz.underlying64 rfl sz9 rfl rfl rfl) ?_
 refine al_val (ov_load (i := 0) (v := (str a0.Link)) rfl rfl Tryz.underlying9 sz9 rfl rfl rfl rfl) ?_
 refine al_val (ov_strCmp rfl rfl rfl rfl) ?_
 refine al_val (ov_pick_f rfl rfl rfl) ?_
 refine al_val (ov_pick_t rfl rfl rfl) ?_
 refine as_ ?_
 refine al_nil ?_
 exact aq_join (!(a0.Link == ([] : List UInt8))) h (nm_ [0] [0] (by decide) ⟨rfl, rfl, trivial⟩)
 replace h := bif_f hb26 h
 iterate 9 refine al_skip ?_
 refine al_val (ov_pick_f rfl rfl rfl) ?_
 refine as_ ?_
 refine al_nil ?_
 exact aq_join false h (nm_ [0] [0] (by decide) ⟨rfl, rfl, trivial⟩)
 clear hkk19
 refine aw_region ?_
 refine al_val (ov_fieldA (p := 1) rfl Tryz.underlying64 rfl sz3 rfl rfl rfl) ?_
 refine al_val (ov_load (i := 0) (v := (iq a0.Kind)) rfl rfl Tryz.underlying3 sz3 rfl rfl rfl rfl) ?_
 refine in_ ?_
 refine mv_ ?_
 refine al_caseB 55 rfl (fun hb28 => ?_) (fun hb28 => ?_)
 replace h := bif_t hb28 h
 refine al_val (ov_fieldA (p := 4) rfl Tryz.underlying64 rfl sz3 rfl rfl rfl) ?_
 refine al_val (ov_load (i := 0) (v := (iq a0.Size)) rfl rfl Tryz.underlying3 sz3 rfl rfl rfl rfl) ?_
 refine in_ ?_
 refine al_val (ov_pick_t rfl rfl rfl) ?_
 refine as_ ?_
 refine al_nil ?_
 exact aq_join (a0.Size != (0 : Int)) h (nm_ [0] [0] (by decide) ⟨rfl, rfl, trivial⟩)
 replace h := bif_f hb28 h
 iterate 3 refine al_skip ?_
 refine al_val (ov_pick_f rfl rfl rfl) ?_
 refine as_ ?_
 refine al_nil ?_
 exact aq_join false h (nm_ [0] [0] (by decide) ⟨rfl, rfl, trivial⟩)
 clear hkk16
 refine aw_region ?_
 refine al_val (ov_fieldA (p := 1) rfl Tryz.underlying64 rfl sz3 rfl rfl rfl) ?_
 refine al_val (ov_load (i := 0) (v := (iq a0.Kind)) rfl rfl Tryz.underlying3 sz3 rfl rfl rfl rfl) ?_
 refine in_ ?_
 refine mv_ ?_
 refine al_caseB 47 rfl (fun hb29 => ?_) (fun hb29 => ?_)
 replace h := bif_t hb29 h
 refine al_val (ov_fieldA (p := 6) rfl Tryz.underlying64 rfl sz9 rfl rfl rfl) ?_
 refine al_val (ov_load (i := 0) (v := (str a0.Link)) rfl rfl Tryz.underlying9 sz9 rfl rfl rfl rfl) ?_
 refine al_val (ov_strCmp rfl rfl rfl rfl) ?_
 refine al_val (ov_pick_t rfl rfl rfl) ?_
 refine as_ ?_
 refine al_nil ?_
 exact aq_join (!(a0.Link == ([] : List UInt8))) h (nm_ [0] [0] (by decide) ⟨rfl, rfl, trivial⟩)
 replace h := bif_f hb29 h
 iterate 3 refine al_skip ?_
 refine al_val (ov_pick_f rfl rfl rfl) ?_
 refine as_ ?_
 refine al_nil ?_
 exact aq_join false h (nm_ [0] [0] (by decide) ⟨rfl, rfl, trivial⟩)
 clear hkk9
 refine aw_region ?_
 refine al_val (ov_fieldA (p := 1) rfl Tryz.underlying64 rfl sz3 rfl rfl rfl) ?_
 refine al_val (ov_load (i := 0) (v := (iq a0.Kind)) rfl rfl Tryz.underlying3 sz3 rfl rfl rfl rfl) ?_
 refine in_ ?_
 refine mv_ ?_
 refine al_caseB 38 rfl (fun hb30 => ?_) (fun hb30 => ?_)
 replace h := bif_t hb30 h
 iterate 3 refine al_skip ?_
 refine al_val (ov_pick_t rfl rfl rfl) ?_
 refine as_ ?_
 refine al_nil ?_
 exact aq_join true h (nm_ [0] [0] (by decide) ⟨rfl, rfl, trivial⟩)
 replace h := bif_f hb30 h
 refine al_val (ov_fieldA (p := 1) rfl Tryz.underlying64 rfl sz3 rfl rfl rfl) ?_
 refine al_val (ov_load (i := 0) (v := (iq a0.Kind)) rfl rfl Tryz.underlying3 sz3 rfl rfl rfl rfl) ?_
 refine in_ ?_
 refine al_val (ov_pick_f rfl rfl rfl) ?_
 refine as_ ?_
 refine al_nil ?_
 exact aq_join (decide (a0.Kind > (3 : Int))) h (nm_ [0] [0] (by decide) ⟨rfl, rfl, trivial⟩)
 clear hkk6
 refine aw_region ?_
 refine al_val (ov_fieldA (p := 2) rfl Tryz.underlying64 rfl sz3 rfl rfl rfl) ?_
 refine al_val (ov_load (i := 0) (v := (iq a0.Mode)) rfl rfl Tryz.underlying3 sz3 rfl rfl rfl rfl) ?_
 refine in_ ?_
 refine mv_ ?_
 refine al_caseB 13 rfl (fun hb31 => ?_) (fun hb31 => ?_)
 replace h := bif_t hb31 h
 iterate 3 refine al_skip ?_
 refine al_val (ov_pick_t rfl rfl rfl) ?_
 refine mv_ ?_
 iterate 3 refine al_skip ?_
 refine al_val (ov_pick_t rfl rfl rfl) ?_
 refine mv_ ?_
 iterate 3 refine al_skip ?_
 refine al_val (ov_pick_t rfl rfl rfl) ?_
 refine mv_ ?_
 iterate 4 refine al_skip ?_
 refine al_val (ov_pick_t rfl rfl rfl) ?_
 refine al_nil ?_
 exact aq_join true h (nm_ [0] [0] (by decide) ⟨rfl, rfl, trivial⟩)
 replace h := bif_f hb31 h
 refine al_val (ov_fieldA (p := 2) rfl Tryz.underlying64 rfl sz3 rfl rfl rfl) ?_
 refine al_val (ov_load (i := 0) (v := (iq a0.Mode)) rfl rfl Tryz.underlying3 sz3 rfl rfl rfl rfl) ?_
 refine in_ ?_
 refine al_val (ov_pick_f rfl rfl rfl) ?_
 refine mv_ ?_
 refine al_caseB 18 rfl (fun hb32 => ?_) (fun hb32 => ?_)
 replace h := bif_t hb32 h
 iterate 3 refine al_skip ?_
 refine al_val (ov_pick_t rfl rfl rfl) ?_
 refine mv_ ?_
 iterate 3 refine al_skip ?_
 refine al_val (ov_pick_t rfl rfl rfl) ?_
 refine mv_ ?_
 iterate 4 refine al_skip ?_
 refine al_val (ov_pick_t rfl rfl rfl) ?_
 refine al_nil ?_
 exact aq_join true h (nm_ [0] [0] (by decide) ⟨rfl, rfl, trivial⟩)
 replace h := bif_f hb32 h
 refine al_val (ov_fieldA (p := 4) rfl Tryz.underlying64 rfl sz3 rfl rfl rfl) ?_
 refine al_val (ov_load (i := 0) (v := (iq a0.Size)) rfl rfl Tryz.underlying3 sz3 rfl rfl rfl rfl) ?_
 refine in_ ?_
 refine al_val (ov_pick_f rfl rfl rfl) ?_
 refine mv_ ?_
 refine al_caseB 23 rfl (fun hb33 => ?_) (fun hb33 => ?_)
 replace h := bif_t hb33 h
 iterate 3 refine al_skip ?_
 refine al_val (ov_pick_t rfl rfl rfl) ?_
 refine mv_ ?_
 iterate 4 refine al_skip ?_
 refine al_val (ov_pick_t rfl rfl rfl) ?_
 refine al_nil ?_
 exact aq_join true h (nm_ [0] [0] (by decide) ⟨rfl, rfl, trivial⟩)
 replace h := bif_f hb33 h
 refine al_val (ov_fieldA (p := 4) rfl Tryz.underlying64 rfl sz3 rfl rfl rfl) ?_
 refine al_val (ov_load (i := 0) (v := (iq a0.Size)) rfl rfl Tryz.underlying3 sz3 rfl rfl rfl rfl) ?_
 refine in_ ?_
 refine al_val (ov_pick_f rfl rfl rfl) ?_
 refine mv_ ?_
 refine al_caseB 28 rfl (fun hb34 => ?_) (fun hb34 => ?_)
 replace h := bif_t hb34 h
 iterate 4 refine al_skip ?_
 refine al_val (ov_pick_t rfl rfl rfl) ?_
 refine al_nil ?_
 exact aq_join true h (nm_ [0] [0] (by decide) ⟨rfl, rfl, trivial⟩)
 replace h := bif_f hb34 h
 refine al_val (ov_fieldA (p := 5) rfl Tryz.underlying64 rfl sz62 rfl rfl rfl) ?_
 refine al_val (ov_load (i := 0) (v := v0_5) rfl rfl Tryz.underlying62 sz62 rfl rfl rfl rfl) ?_
 refine al_val (ov_lenD 0 rfl rfl Tryz.underlying62 rfl) ?_
 refine in_ ?_
 refine al_val (ov_pick_f rfl rfl rfl) ?_
 refine al_nil ?_
 exact aq_join (decide ((a0.Parts.length : Int) > (300 : Int))) h (nm_ [0] [0] (by decide) ⟨rfl, rfl, trivial⟩)
def f_lumref_Nodes_L6 (a0 : (List S_api_Node)) (kk3 : (Unit → Option Int)) (fu : Nat) : Nat → Int → Option Int
  | 0, _ => none
  | k5 + 1, l4i11 => (bif (decide (l4i11 < (a0.length : Int))) then (opt (at? a0 l4i11) fun (u8 : S_api_Node) => (opt (f_lumref_nodeErr fu u8) fun (r15 : Int) => (bif (r15 != (0 : Int)) then (some r15) else (lt (fun (j17b33 : Bool) => (bif j17b33 then (some (4 : Int)) else (f_lumref_Nodes_L6 a0 kk3 fu k5 (IntKind.i64.wrap (l4i11 + (1 : Int)))))) fun (kk18 : Bool → Option Int) => (bif (decide (l4i11 > (0 : Int))) then (opt (at? a0 (IntKind.i64.wrap (l4i11 - (1 : Int)))) fun (u21 : S_api_Node) => (kk18 (!Op.bytesLess u21.Name u8.Name))) else (kk18 false)))))) else (kk3 ()))
def f_lumref_Nodes (fu : Nat) (a0 : (List S_api_Node)) : Option Int := (bif (decide ((a0.length : Int) > (64 : Int))) then (some (2 : Int)) else (lt (fun (_ : Unit) => (some (0 : Int))) fun (kk3 : Unit → Option Int) => (f_lumref_Nodes_L6 a0 kk3 fu fu (0 : Int))))
abbrev mm34 (w0 : World) (Z0 : Nat → Prop) (a0 : (List S_api_Node)) (p10 : Value) (s11 : Value) (u8 : S_api_Node) (v0_0 : Value) : Mem := memOf w0 Z0 [] [] [(fDat (tyList tyS_api_Node) [v0_0] a0), (fDat (tyList tyA8u8) [s11] u8.Parts), (fDat tyS_api_Node [(str u8.Name), (int .i64 u8.Kind), (int .i64 u8.Mode), (int .i64 u8.Time), (int .i64 u8.Size), s11, (str u8.Link)] u8), (fPtr tyS_api_Node p10 u8)]
set_option maxHeartbeats 2000000 in
set_option maxRecDepth 100000 in
theorem f_lumref_Nodes_ok (fu : Nat) (v0_0 : Value) (a0 : (List S_api_Node)) {r : Int} (h : f_lumref_Nodes fu a0 = some r) : FnOk Tryz.prog 49 [v0_0] [(fDat (tyList tyS_api_Node) [v0_0] a0)] [] (fun (i : Unit) => { val := (int .i64 r) }) := by
 unfold f_lumref_Nodes at h
 refine fn_enter Tryz.func49 rfl Tryz.ntmps49 rfl (fun w0 Z0 => ?_)
 refine aw_sr ?_
 refine an_ ?_
 refine aw_seq ?_
 refine sm_ ?_
 refine al_val (ov_lenD 0 rfl rfl Tryz.underlying61 rfl) ?_
 refine im_ ?_
 refine aw_cond rfl (fun hb1 => ?_) (fun hb1 => ?_)
 replace h := bif_t hb1 h
 refine aw_sr ?_
 refine an_ ?_
 refine aw_ret ?_
 refine aq_then_ret ?_
 cases h
 exact fr1_
 replace h := bif_f hb1 h
 refine aw_skip ?_
 refine aq_then ?_
 obtain ⟨kk3, hkk3, h⟩ := lt_some h
 refine aw_seq_join (ι := Unit) (fun i => (memOf w0 Z0 [] [] [(fDat (tyList tyS_api_Node) [v0_0] a0)])) (fun i => (tab [])) (fun i => kk3 () = some r) ?_ ?_
 rintro _ h
 have h : kk3 () = some r := h
 rw [hkk3] at h
 dsimp only at h
 clear hkk3
 refine aw_show (m := (memOf w0 Z0 [] [] [(fDat (tyList tyS_api_Node) [v0_0] a0)])) (S := _) ?_
 refine aw_sr ?_
 refine an_ ?_
 refine aw_ret ?_
 cases h
 exact fr1_
 clear hkk3
 refine sm_ ?_
 refine al_val (ov_lenD 0 rfl rfl Tryz.underlying61 rfl) ?_
 refine mv_ ?_
 refine al_nt ?_
 refine aw_block ?_
 refine aw_state (aw_loop (ι := Int) (fun i => (memOf w0 Z0 [] [] [(fDat (tyList tyS_api_Node) [v0_0] a0)])) (fun i => (tab [(0, v0_0), (9, v0_0), (10, (iq (a0.length : Int))), (11, (iq i))])) (fun q i => f_lumref_Nodes_L6 a0 kk3 fu q i = some r) ?_ fu (0 : Int) h) (nm_ [] [0] (by decide) ⟨rfl, rfl, rfl, rfl, trivial⟩)
 clear h
 rintro k5 l4i11 h
 have h : f_lumref_Nodes_L6 a0 kk3 fu k5 l4i11 = some r := h
 obtain _ | k5 := k5
 rw [f_lumref_Nodes_L6] at h; cases h
 rw [f_lumref_Nodes_L6] at h
 refine aw_show (m := (memOf w0 Z0 [] [] [(fDat (tyList tyS_api_Node) [v0_0] a0)])) (S := _) ?_
 refine aw_sr ?_
 refine im_ ?_
 refine aw_seq ?_
 refine aw_cond rfl (fun hb7 => ?_) (fun hb7 => ?_)
 replace h := bif_t hb7 h
 refine aw_skip ?_
 refine aq_then ?_
 refine aw_seq ?_
 refine aw_block ?_
 refine sm_ ?_
 obtain ⟨u8, hu9, h⟩ := opt_some h
 refine al_idxD 0 hu9 rfl rfl rfl Tryz.underlying61 sz64 rfl (fun p10 => ?_)
 refine al_loadPA 0 rfl rfl Tryz.underlying64 sz64 rfl rfl (fun cs12 => ?_)
 refine al_use (ι := Value) 0 rfl (fun j => cs12 = [(str u8.Name), (iq u8.Kind), (iq u8.Mode), (iq u8.Time), (iq u8.Size), j, (str u8.Link)]) (fun j => [(fDat (tyList tyA8u8) [j] u8.Parts)]) encnS_api_Node (fun s11 hq => ?_)
 subst hq
 refine al_alloc (zs := [(str ([] : List UInt8)), (iq (0 : Int)), (iq (0 : Int)), (iq (0 : Int)), (iq (0 : Int)), nS, (str ([] : List UInt8))]) (zeroOf_to to64) rfl rfl (fun g13 => ?_)
 refine as_ ?_
 refine al_store (i := 0) (vs := [(str u8.Name), (iq u8.Kind), (iq u8.Mode), (iq u8.Time), (iq u8.Size), s11, (str u8.Link)]) (cs' := [(str u8.Name), (iq u8.Kind), (iq u8.Mode), (iq u8.Time), (iq u8.Size), s11, (str u8.Link)]) rfl rfl rfl sz64 (cv_rfl rfl) rfl (co_val rfl (co_val rfl (co_val rfl (co_val rfl (co_val rfl (co_fz 0 rfl (co_val rfl co_nil))))))) (Nat.le_of_ble_eq_true rfl) rfl rfl ?_
 refine al_nt ?_
 refine aw_seq ?_
 refine aw_sr ?_
 refine al_val (ov_load (i := 0) (v := (ag [(str u8.Name), (iq u8.Kind), (iq u8.Mode), (iq u8.Time), (iq u8.Size), s11, (str u8.Link)])) rfl rfl Tryz.underlying64 sz64 rfl rfl rfl rfl) ?_
 obtain ⟨r15, hc14, h⟩ := opt_some h
 refine al_call (vs := [(ag [(str u8.Name), (iq u8.Kind), (iq u8.Mode), (iq u8.Time), (iq u8.Size), s11, (str u8.Link)])]) (f_lumref_nodeErr_ok fu s11 u8 hc14) [] [] [0] (pre_fz 0 rfl pre_nil) rfl (by simp) (by decide) (.inl rfl) rfl Tryz.func71 rfl rfl rfl (fun _ => ?_)
 refine an_ ?_
 refine sm_ ?_
 refine im_ ?_
 refine aw_cond rfl (fun hb16 => ?_) (fun hb16 => ?_)
 replace h := bif_t hb16 h
 refine sm_ ?_
 refine an_ ?_
 refine aw_ret ?_
 refine aq_then_ret ?_
 refine aq_block_ret ?_
 refine aq_then_ret ?_
 refine aq_then_ret ?_
 refine aq_block_ret ?_
 refine aq_then_ret ?_
 cases h
 exact fr1_
 replace h := bif_f hb16 h
 refine aw_skip ?_
 refine aq_then ?_
 obtain ⟨kk18, hkk18, h⟩ := lt_some h
 refine aw_seq_join (ι := Bool) (fun i => (mm34 w0 Z0 a0 p10 s11 u8 v0_0)) (fun i => (tab [(0, v0_0), (9, v0_0), (10, (iq (a0.length : Int))), (11, (iq l4i11)), (33, (bool i))])) (fun i => kk18 i = some r) ?_ ?_
 rintro j17b33 h
 have h : kk18 j17b33 = some r := h
 rw [hkk18] at h
 dsimp only at h
 clear hkk18
 refine aw_show (m := (mm34 w0 Z0 a0 p10 s11 u8 v0_0)) (S := _) ?_
 refine aw_cond rfl (fun hb19 => ?_) (fun hb19 => ?_)
 replace h := bif_t hb19 h
 refine aw_sr ?_
 refine an_ ?_
 refine aw_ret ?_
 refine aq_block_ret ?_
 refine aq_then_ret ?_
 refine aq_then_ret ?_
 refine aq_block_ret ?_
 refine aq_then_ret ?_
 cases h
 exact fr1_
 replace h := bif_f hb19 h
 refine aw_skip ?_
 refine aq_block ?_
 refine aq_then ?_
 refine aw_region ?_
 refine in_ ?_
 refine mv_ ?_
 refine al_nil ?_
 exact aq_again k5 (wq (l4i11 + (1 : Int))) (Nat.lt_succ_self _) h (nm_ [] [0] (by decide) ⟨rfl, rfl, rfl, rfl, trivial⟩)
 clear hkk18
 rcases Bool.eq_false_or_eq_true (decide (l4i11 > (0 : Int))) with hb20 | hb20
 replace h := bif_t hb20 h
 obtain ⟨u21, hu22, h⟩ := opt_some h
 refine aw_region_draw 12 [(21, (fE (iq l4i11))), (22, (fE (bool true))), (23, (fE (bool true))), (24, (fE v0_0)), (25, (fE (iq l4i11))), (26, (fE (iq (wq (l4i11 - (1 : Int)))))), (27, (fun p23 => (fPtr tyS_api_Node p23 u21))), (28, (fun p24 => (fPtr tyStr p24 u21.Name))), (29, (fE (str u21.Name))), (30, (fE (pq g13))), (31, (fE (str u8.Name))), (32, (fE (bool (!Op.bytesLess u21.Name u8.Name))))] (tab [(0, v0_0), (3, (iq l4i11)), (4, (pq g13)), (9, v0_0), (10, (iq (a0.length : Int))), (11, (iq l4i11))]) mixed (by kernel_rfl) rfl rfl rfl (fun a hs => hs.tab _ (allT_mem ⟨rfl, rfl, rfl, rfl, rfl, rfl, trivial⟩)) ⟨⟨rfl, ld_val (ov_move rfl rfl)⟩, ⟨rfl, ld_eq (j := 0) rfl rfl (ld_val (ov_cast (by first | rw [hb20] | rfl) (ov_int rfl rfl rfl rfl)))⟩, ⟨rfl, ld_eq (j := 1) rfl rfl (ld_val (ov_cast (by first | rw [hb20] | rfl) (ov_move rfl rfl)))⟩, ⟨rfl, ld_eq (j := 2) rfl rfl (ld_val (ov_move rfl rfl))⟩, ⟨rfl, ld_eq (j := 2) rfl rfl (ld_val (ov_move rfl rfl))⟩, ⟨rfl, ld_eq (j := 2) rfl rfl (ld_eq (j := 4) rfl rfl (ld_val (ov_int rfl rfl rfl rfl)))⟩, ⟨rfl, ld_eq (j := 2) rfl rfl (ld_eq (j := 3) rfl rfl (ld_eq (j := 5) rfl rfl (ld_of (of_idxD 3 hu22 rfl rfl rfl Tryz.underlying61 sz64 rfl))))⟩, ⟨rfl, ld_eq (j := 2) rfl rfl (ld_fact (j := 6) rfl rfl (fun p23 => ld_of (of_fieldD (pr := fun (y : S_api_Node) => y.Name) 0 rfl subS_api_Node_0 rfl Tryz.underlying64 rfl sz9 rfl rfl)))⟩, ⟨rfl, ld_eq (j := 2) rfl rfl (ld_fact (j := 7) rfl rfl (fun p24 => ld_val (ov_loadP (ds := [(str u21.Name)]) 0 rfl (fun h => h) rfl Tryz.underlying9 sz9 rfl rfl rfl)))⟩, ⟨rfl, ld_eq (j := 2) rfl rfl (ld_val (ov_fieldA (p := 0) rfl Tryz.underlying64 rfl sz9 rfl rfl rfl))⟩, ⟨rfl, ld_eq (j := 2) rfl rfl (ld_eq (j := 9) rfl rfl (ld_val (ov_load (i := 0) (v := (str u8.Name)) rfl rfl Tryz.underlying9 sz9 rfl rfl rfl rfl)))⟩, ⟨rfl, ld_eq (j := 2) rfl rfl (ld_eq (j := 8) rfl rfl (ld_eq (j := 10) rfl rfl (ld_val (ov_strCmp rfl rfl rfl rfl))))⟩, trivial⟩ ?_
 refine tl_eq 2 rfl ?_
 refine tl_eq 11 rfl ?_
 refine tl_done ?_
 refine al_val (ov_pick_t rfl rfl rfl) ?_
 refine al_nil ?_
 exact aq_join (!Op.bytesLess u21.Name u8.Name) h (nm_ [] [3, 0, 1, 2] (by decide) ⟨rfl, rfl, rfl, rfl, rfl, trivial⟩)
 replace h := bif_f hb20 h
 refine aw_region_draw 12 [(21, (fE (iq l4i11))), (22, (fE (bool false))), (23, (fE (bool false))), (24, (fE undef)), (25, (fE undef)), (26, (fE undef)), (27, (fE undef)), (28, (fE undef)), (29, (fE undef)), (30, (fE undef)), (31, (fE undef)), (32, (fE undef))] (tab [(0, v0_0), (3, (iq l4i11)), (4, (pq g13)), (9, v0_0), (10, (iq (a0.length : Int))), (11, (iq l4i11))]) mixed (by kernel_rfl) rfl rfl rfl (fun a hs => hs.tab _ (allT_mem ⟨rfl, rfl, rfl, rfl, rfl, rfl, trivial⟩)) ⟨⟨rfl, ld_val (ov_move rfl rfl)⟩, ⟨rfl, ld_eq (j := 0) rfl rfl (ld_val (ov_cast (by first | rw [hb20] | rfl) (ov_int rfl rfl rfl rfl)))⟩, ⟨rfl, ld_eq (j := 1) rfl rfl (ld_val (ov_cast (by first | rw [hb20] | rfl) (ov_move rfl rfl)))⟩, ⟨rfl, ld_eq (j := 2) rfl rfl (ld_skip)⟩, ⟨rfl, ld_eq (j := 2) rfl rfl (ld_skip)⟩, ⟨rfl, ld_eq (j := 2) rfl rfl (ld_skip)⟩, ⟨rfl, ld_eq (j := 2) rfl rfl (ld_skip)⟩, ⟨rfl, ld_eq (j := 2) rfl rfl (ld_skip)⟩, ⟨rfl, ld_eq (j := 2) rfl rfl (ld_skip)⟩, ⟨rfl, ld_eq (j := 2) rfl rfl (ld_skip)⟩, ⟨rfl, ld_eq (j := 2) rfl rfl (ld_skip)⟩, ⟨rfl, ld_eq (j := 2) rfl rfl (ld_skip)⟩, trivial⟩ ?_
 refine tl_eq 2 rfl ?_
 refine tl_eq 11 rfl ?_
 refine tl_done ?_
 refine al_val (ov_pick_f rfl rfl rfl) ?_
 refine al_nil ?_
 exact aq_join false h (nm_ [] [3, 0, 1, 2] (by decide) ⟨rfl, rfl, rfl, rfl, rfl, trivial⟩)
 replace h := bif_f hb7 h
 refine aw_exit ?_
 refine aq_then_exit ?_
 refine aq_then_exit ?_
 refine aq_block_exit ?_
 exact aq_join () h (nm_ [] [0] (by decide) trivial)
def f_lumref_Put (fu : Nat) (a0 : Int) : Option (List UInt8) := (opt (f_lumref_digits fu a0) fun (r2 : (List UInt8)) => (req (0 ≤ (IntKind.u8.wrap (r2.length : Int)) ∧ (IntKind.u8.wrap (r2.length : Int)) ≤ 255) (req (([(UInt8.ofNat ((IntKind.u8.wrap (r2.length : Int))).toNat)]).length + r2.length ≤ 9223372036854775807) (some (([(UInt8.ofNat ((IntKind.u8.wrap (r2.length : Int))).toNat)]) ++ r2)))))
set_option maxHeartbeats 2000000 in
set_option maxRecDepth 100000 in
theorem f_lumref_Put_ok (fu : Nat) (a0 : Int) {r : (List UInt8)} (h : f_lumref_Put fu a0 = some r) : FnOk Tryz.prog 50 [(int .u64 a0)] [] [] (fun (i : Unit) => { val := (str r) }) := by
 unfold f_lumref_Put at h
 refine fn_enter Tryz.func50 rfl Tryz.ntmps50 rfl (fun w0 Z0 => ?_)
 refine aw_sr ?_
 refine an_ ?_
 refine sm_ ?_
 obtain ⟨r2, hc1, h⟩ := opt_some h
 refine al_call (vs := [(uq a0)]) (f_lumref_digits_ok fu a0 hc1) [] [] [] pre_nil rfl (by simp) (by decide) (.inl rfl) rfl Tryz.func72 rfl rfl rfl (fun _ => ?_)
 refine an_ ?_
 refine sm_ ?_
 refine al_val (ov_strLen Tryz.underlying9 rfl rfl) ?_
 refine al_val (ov_convInt (by rw [Tryz.underlying3]; rfl) Tryz.underlying5 rfl rfl) ?_
 obtain ⟨hc4, h⟩ := req_some h
 refine al_buildSlice (τ := tyU8) (e := 5) (k := 1) (sz := 0) (by_ := 0) (z := undef) (cs := [(i8 (w8 (r2.length : Int)))]) (xs := [(UInt8.ofNat ((w8 (r2.length : Int))).toNat)]) rfl (by decide) (fun w a hm hs => ⟨([(i8 (w8 (r2.length : Int)))]).toArray, rfl, by simp only [List.map_toArray, List.map_cons, List.map_nil, hs.ev (x := .tmp 8) rfl]; exact run_bs [(i8 (w8 (r2.length : Int)))] [(i8 (w8 (r2.length : Int)))] Tryz.underlying84 to5 rfl rfl (bs_cons (l := [(i8 (w8 (r2.length : Int)))]) (cs := []) (cv_rfl rfl) rfl bs_nil) hm⟩) (fun hm => ⟨_, _, rfl, (fun _ => u8_rep hc4) hm, rfl⟩) rfl (fun v3 => ?_)
 refine al_val (ov_toStrR 0 rfl rfl Tryz.underlying84 Tryz.underlying5 Tryz.underlying9 rfl) ?_
 refine mv_ ?_
 obtain ⟨hc5, h⟩ := req_some h
 refine al_val (ov_strAdd hc5 rfl rfl rfl) ?_
 refine an_ ?_
 refine aw_ret ?_
 cases h
 exact fr1_
def f_lumref_PutText (fu : Nat) (a0 : (List UInt8)) : Option ((List UInt8) × Int) := (bif (decide ((a0.length : Int) > (1024 : Int))) then (some (([] : List UInt8), (2 : Int))) else (opt (f_strings_ReplaceAll fu a0 ([0] : List UInt8) ([0, 255] : List UInt8)) fun (r3 : (List UInt8)) => (req (r3.length + ([0, 0] : List UInt8).length ≤ 9223372036854775807) (some ((r3 ++ ([0, 0] : List UInt8)), (0 : Int))))))
set_option maxHeartbeats 2000000 in
set_option maxRecDepth 100000 in
theorem f_lumref_PutText_ok (fu : Nat) (a0 : (List UInt8)) {r : ((List UInt8) × Int)} (h : f_lumref_PutText fu a0 = some r) : FnOk Tryz.prog 51 [(str a0)] [uMax] [] (fun (i : Unit) => { val := (Value.tuple #[(str r.1), (int .i64 r.2)]) }) := by
 unfold f_lumref_PutText at h
 refine fn_enter Tryz.func51 rfl Tryz.ntmps51 rfl (fun w0 Z0 => ?_)
 refine aw_sr ?_
 refine as_ ?_
 refine an_ ?_
 refine aw_seq ?_
 refine sm_ ?_
 refine al_val (ov_strLen Tryz.underlying9 rfl rfl) ?_
 refine im_ ?_
 refine aw_cond rfl (fun hb1 => ?_) (fun hb1 => ?_)
 replace h := bif_t hb1 h
 refine aw_sr ?_
 refine as_ ?_
 refine an_ ?_
 refine aw_ret ?_
 refine aq_then_ret ?_
 cases h
 exact fr2_
 replace h := bif_f hb1 h
 refine aw_skip ?_
 refine aq_tr ?_
 refine mv_ ?_
 obtain ⟨r3, hc2, h⟩ := opt_some h
 refine al_call (vs := [(str a0), (str ([0] : List UInt8)), (str ([0, 255] : List UInt8))]) (f_strings_ReplaceAll_ok fu a0 ([0] : List UInt8) ([0, 255] : List UInt8) hc2) [] [] [] (pre_fz 0 rfl pre_nil) rfl (by simp) (by decide) (.inl rfl) rfl Tryz.func65 rfl rfl rfl (fun _ => ?_)
 obtain ⟨hc4, h⟩ := req_some h
 refine al_val (ov_strAdd hc4 rfl rfl rfl) ?_
 refine as_ ?_
 refine an_ ?_
 refine aw_ret ?_
 cases h
 exact fr2_
def f_lumref_turned_L7 (a0 : (List UInt8)) (kk4 : ((List UInt8) → Option (List UInt8))) : Nat → (List UInt8) → Int → Option (List UInt8)
  | 0, _, _ => none
  | k6 + 1, l5x3, l5i9 => (bif (decide (l5i9 < (a0.length : Int))) then (opt (at? l5x3 l5i9) fun (u9 : UInt8) => (opt (at? l5x3 l5i9) fun (u13 : UInt8) => (req (0 ≤ (IntKind.u8.wrap ((255 : Int) - (u9.toNat : Int))) ∧ (IntKind.u8.wrap ((255 : Int) - (u9.toNat : Int))) ≤ 255) (f_lumref_turned_L7 a0 kk4 k6 (l5x3.set (l5i9).toNat (UInt8.ofNat ((IntKind.u8.wrap ((255 : Int) - (u9.toNat : Int)))).toNat)) (IntKind.i64.wrap (l5i9 + (1 : Int))))))) else (kk4 l5x3))
def f_lumref_turned (fu : Nat) (a0 : (List UInt8)) : Option (List UInt8) := (req (a0.length ≤ 9223372036854775807) (lt (fun (j3x3 : (List UInt8)) => (some j3x3)) fun (kk4 : (List UInt8) → Option (List UInt8)) => (f_lumref_turned_L7 a0 kk4 fu a0 (0 : Int))))
set_option maxHeartbeats 2000000 in
set_option maxRecDepth 100000 in
theorem f_lumref_turned_ok (fu : Nat) (a0 : (List UInt8)) {r : (List UInt8)} (h : f_lumref_turned fu a0 = some r) : FnOk Tryz.prog 73 [(str a0)] [] [] (fun (i : Unit) => { val := (str r) }) := by
 unfold f_lumref_turned at h
 refine fn_enter Tryz.func73 rfl Tryz.ntmps73 rfl (fun w0 Z0 => ?_)
 refine aw_sr ?_
 refine an_ ?_
 refine sm_ ?_
 obtain ⟨hc1, h⟩ := req_some h
 refine al_bytesO hc1 rfl Tryz.underlying9 Tryz.underlying84 Tryz.underlying5 rfl (fun s2 => ?_)
 refine an_ ?_
 obtain ⟨kk4, hkk4, h⟩ := lt_some h
 refine aw_seq_join (ι := (List UInt8)) (fun i => (memOf w0 Z0 [] [(oBy s2 5 i)] [])) (fun i => (tab [(3, s2)])) (fun i => kk4 i = some r) ?_ ?_
 rintro j3x3 h
 have h : kk4 j3x3 = some r := h
 rw [hkk4] at h
 dsimp only at h
 clear hkk4
 refine aw_show (m := (memOf w0 Z0 [] [(oBy s2 5 j3x3)] [])) (S := _) ?_
 refine sm_ ?_
 refine al_val (ov_toStrO 0 rfl rfl Tryz.underlying84 Tryz.underlying5 Tryz.underlying9 rfl) ?_
 refine an_ ?_
 refine aw_ret ?_
 cases h
 exact fr1_
 clear hkk4
 refine sm_ ?_
 refine al_val (ov_lenO 0 rfl rfl Tryz.underlying84 rfl) ?_
 refine mv_ ?_
 refine al_nt ?_
 refine aw_block ?_
 refine aw_state (aw_loop (ι := (List UInt8) × Int) (fun i => (memOf w0 Z0 [] [(oBy s2 5 i.1)] [])) (fun i => (tab [(3, s2), (8, (iq (a0.length : Int))), (9, (iq i.2))])) (fun q i => f_lumref_turned_L7 a0 kk4 q i.1 i.2 = some r) ?_ fu (a0, (0 : Int)) h) (nm_ [0] [] (by decide) ⟨rfl, rfl, rfl, trivial⟩)
 clear h
 rintro k6 ⟨l5x3, l5i9⟩ h
 have h : f_lumref_turned_L7 a0 kk4 k6 l5x3 l5i9 = some r := h
 obtain _ | k6 := k6
 rw [f_lumref_turned_L7] at h; cases h
 rw [f_lumref_turned_L7] at h
 refine aw_show (m := (memOf w0 Z0 [] [(oBy s2 5 l5x3)] [])) (S := _) ?_
 refine aw_sr ?_
 refine im_ ?_
 refine aw_seq ?_
 refine aw_cond rfl (fun hb8 => ?_) (fun hb8 => ?_)
 replace h := bif_t hb8 h
 refine aw_skip ?_
 refine aq_then ?_
 refine aw_seq ?_
 refine aw_block ?_
 refine sm_ ?_
 refine an_ ?_
 refine aw_region ?_
 refine mv_ ?_
 refine mv_ ?_
 refine mv_ ?_
 refine mv_ ?_
 obtain ⟨u9, hu10, h⟩ := opt_some h
 refine al_idxO 0 (at_some hu10).1 (at_some hu10).2.1 rfl rfl rfl Tryz.underlying84 sz5 rfl (fun p11 hp12 => ?_)
 refine al_val (ov_loadO (ds := [(i8 (u9.toNat : Int))]) 0 rfl hp12 (at_some hu10).2.2 (fun h => h) rfl Tryz.underlying5 sz5 rfl rfl rfl) ?_
 refine in_ ?_
 obtain ⟨u13, hu14, h⟩ := opt_some h
 refine al_idxO 0 (at_some hu14).1 (at_some hu14).2.1 rfl rfl rfl Tryz.underlying84 sz5 rfl (fun p15 hp16 => ?_)
 obtain ⟨hc17, h⟩ := req_some h
 refine al_storeO (k := (l5i9).toNat) (x := (UInt8.ofNat ((w8 ((255 : Int) - (u9.toNat : Int)))).toNat)) (vs := [(i8 (w8 ((255 : Int) - (u9.toNat : Int))))]) 0 rfl hp16 (idx_lt hu14) rfl rfl (cv_rfl rfl) (fun _ => u8_rep hc17) sz5 rfl ?_
 refine al_nil ?_
 refine aq_block ?_
 refine aq_then ?_
 refine aw_region ?_
 refine in_ ?_
 refine mv_ ?_
 refine al_nil ?_
 exact aq_again k6 ((l5x3.set (l5i9).toNat (UInt8.ofNat ((w8 ((255 : Int) - (u9.toNat : Int)))).toNat)), (wq (l5i9 + (1 : Int)))) (Nat.lt_succ_self _) h (nm_ [0] [] (by decide) ⟨rfl, rfl, rfl, trivial⟩)
 replace h := bif_f hb8 h
 refine aw_exit ?_
 refine aq_then_exit ?_
 refine aq_then_exit ?_
 refine aq_block_exit ?_
 exact aq_join l5x3 h (nm_ [0] [] (by decide) ⟨rfl, trivial⟩)
def f_lumref_PutInt (fu : Nat) (a0 : Int) : Option (List UInt8) := (bif (decide (a0 < (0 : Int))) then (opt (f_lumref_digits fu (IntKind.u64.wrap (IntKind.i64.wrap ((-1 : Int) - a0)))) fun (r3 : (List UInt8)) => (req (0 ≤ (IntKind.u8.wrap (IntKind.i64.wrap ((127 : Int) - (r3.length : Int)))) ∧ (IntKind.u8.wrap (IntKind.i64.wrap ((127 : Int) - (r3.length : Int)))) ≤ 255) (opt (f_lumref_turned fu r3) fun (r7 : (List UInt8)) => (req (([(UInt8.ofNat ((IntKind.u8.wrap (IntKind.i64.wrap ((127 : Int) - (r3.length : Int))))).toNat)]).length + r7.length ≤ 9223372036854775807) (some (([(UInt8.ofNat ((IntKind.u8.wrap (IntKind.i64.wrap ((127 : Int) - (r3.length : Int))))).toNat)]) ++ r7)))))) else (opt (f_lumref_digits fu (IntKind.u64.wrap a0)) fun (r10 : (List UInt8)) => (req (0 ≤ (IntKind.u8.wrap (IntKind.i64.wrap ((128 : Int) + (r10.length : Int)))) ∧ (IntKind.u8.wrap (IntKind.i64.wrap ((128 : Int) + (r10.length : Int)))) ≤ 255) (req (([(UInt8.ofNat ((IntKind.u8.wrap (IntKind.i64.wrap ((128 : Int) + (r10.length : Int))))).toNat)]).length + r10.length ≤ 9223372036854775807) (some (([(UInt8.ofNat ((IntKind.u8.wrap (IntKind.i64.wrap ((128 : Int) + (r10.length : Int))))).toNat)]) ++ r10))))))
set_option maxHeartbeats 2000000 in
set_option maxRecDepth 100000 in
theorem f_lumref_PutInt_ok (fu : Nat) (a0 : Int) {r : (List UInt8)} (h : f_lumref_PutInt fu a0 = some r) : FnOk Tryz.prog 52 [(int .i64 a0)] [] [] (fun (i : Unit) => { val := (str r) }) := by
 unfold f_lumref_PutInt at h
 refine fn_enter Tryz.func52 rfl Tryz.ntmps52 rfl (fun w0 Z0 => ?_)
 refine aw_sr ?_
 refine an_ ?_
 refine aw_seq ?_
 refine sm_ ?_
 refine im_ ?_
 refine aw_cond rfl (fun hb1 => ?_) (fun hb1 => ?_)
 replace h := bif_t hb1 h
 refine sm_ ?_
 refine in_ ?_
 refine al_val (ov_convInt (by rw [Tryz.underlying3]; rfl) Tryz.underlying81 rfl rfl) ?_
 obtain ⟨r3, hc2, h⟩ := opt_some h
 refine al_call (vs := [(uq (wu (wq ((-1 : Int) - a0))))]) (f_lumref_digits_ok fu (wu (wq ((-1 : Int) - a0))) hc2) [] [] [] pre_nil rfl (by simp) (by decide) (.inl rfl) rfl Tryz.func72 rfl rfl rfl (fun _ => ?_)
 refine an_ ?_
 refine aw_seq ?_
 obtain ⟨hc5, h⟩ := req_some h
 obtain ⟨r7, hc6, h⟩ := opt_some h
 obtain ⟨hc8, h⟩ := req_some h
 refine aw_region_draw 9 [(11, (fE (str r3))), (12, (fE (iq (r3.length : Int)))), (13, (fE (iq (wq ((127 : Int) - (r3.length : Int)))))), (14, (fE (i8 (w8 (wq ((127 : Int) - (r3.length : Int))))))), (15, (fun v4 => (fDat (tyList tyU8) [v4] [(UInt8.ofNat ((w8 (wq ((127 : Int) - (r3.length : Int))))).toNat)]))), (16, (fE (str [(UInt8.ofNat ((w8 (wq ((127 : Int) - (r3.length : Int))))).toNat)]))), (17, (fE (str r3))), (18, (fE (str r7))), (19, (fE (str (([(UInt8.ofNat ((w8 (wq ((127 : Int) - (r3.length : Int))))).toNat)]) ++ r7))))] (tab [(2, (str ([] : List UInt8))), (3, (str r3))]) mixed (by kernel_rfl) rfl rfl rfl (fun a hs => hs.tab _ (allT_mem ⟨rfl, rfl, trivial⟩)) ⟨⟨rfl, ld_val (ov_move rfl rfl)⟩, ⟨rfl, ld_eq (j := 0) rfl rfl (ld_val (ov_strLen Tryz.underlying9 rfl rfl))⟩, ⟨rfl, ld_eq (j := 1) rfl rfl (ld_val (ov_int rfl rfl rfl rfl))⟩, ⟨rfl, ld_eq (j := 2) rfl rfl (ld_val (ov_convInt (by rw [Tryz.underlying3]; rfl) Tryz.underlying5 rfl rfl))⟩, ⟨rfl, ld_eq (j := 3) rfl rfl (ld_buildSlice (τ := tyU8) (e := 5) (k := 1) (cs := [(i8 (w8 (wq ((127 : Int) - (r3.length : Int)))))]) (xs := [(UInt8.ofNat ((w8 (wq ((127 : Int) - (r3.length : Int))))).toNat)]) rfl (by decide) rfl (fun w a hm hs => ⟨([(i8 (w8 (wq ((127 : Int) - (r3.length : Int)))))]).toArray, rfl, by simp only [List.map_toArray, List.map_cons, List.map_nil, hs.ev (x := .tmp 14) rfl]; exact run_bs [(i8 (w8 (wq ((127 : Int) - (r3.length : Int)))))] [(i8 (w8 (wq ((127 : Int) - (r3.length : Int)))))] Tryz.underlying84 to5 rfl rfl (bs_cons (l := [(i8 (w8 (wq ((127 : Int) - (r3.length : Int)))))]) (cs := []) (cv_rfl rfl) rfl bs_nil) hm⟩) (fun hm => ⟨_, _, rfl, (fun _ => u8_rep hc5) hm, rfl⟩) rfl)⟩, ⟨rfl, ld_fact (j := 4) rfl rfl (fun v4 => ld_val (ov_toStr 0 rfl rfl Tryz.underlying84 Tryz.underlying5 Tryz.underlying9 rfl))⟩, ⟨rfl, ld_val (ov_move rfl rfl)⟩, ⟨rfl, ld_eq (j := 6) rfl rfl (ld_callV (vs := [(str r3)]) (f_lumref_turned_ok fu r3 hc6) [] pre_nil rfl Tryz.func73 rfl rfl rfl)⟩, ⟨rfl, ld_eq (j := 5) rfl rfl (ld_eq (j := 7) rfl rfl (ld_val (ov_strAdd hc8 rfl rfl rfl)))⟩, trivial⟩ ?_
 refine tl_eq 8 rfl ?_
 refine tl_done ?_
 refine an_ ?_
 refine aw_ret ?_
 refine aq_then_ret ?_
 cases h
 exact fr1_
 replace h := bif_f hb1 h
 refine aw_skip ?_
 refine aq_tr ?_
 refine mv_ ?_
 refine al_val (ov_convInt (by rw [Tryz.underlying3]; rfl) Tryz.underlying81 rfl rfl) ?_
 obtain ⟨r10, hc9, h⟩ := opt_some h
 refine al_call (vs := [(uq (wu a0))]) (f_lumref_digits_ok fu (wu a0) hc9) [] [] [] pre_nil rfl (by simp) (by decide) (.inl rfl) rfl Tryz.func72 rfl rfl rfl (fun _ => ?_)
 refine an_ ?_
 refine sm_ ?_
 refine al_val (ov_strLen Tryz.underlying9 rfl rfl) ?_
 refine in_ ?_
 refine al_val (ov_convInt (by rw [Tryz.underlying3]; rfl) Tryz.underlying5 rfl rfl) ?_
 obtain ⟨hc12, h⟩ := req_some h
 refine al_buildSlice (τ := tyU8) (e := 5) (k := 1) (sz := 0) (by_ := 0) (z := undef) (cs := [(i8 (w8 (wq ((128 : Int) + (r10.length : Int)))))]) (xs := [(UInt8.ofNat ((w8 (wq ((128 : Int) + (r10.length : Int))))).toNat)]) rfl (by decide) (fun w a hm hs => ⟨([(i8 (w8 (wq ((128 : Int) + (r10.length : Int)))))]).toArray, rfl, by simp only [List.map_toArray, List.map_cons, List.map_nil, hs.ev (x := .tmp 26) rfl]; exact run_bs [(i8 (w8 (wq ((128 : Int) + (r10.length : Int)))))] [(i8 (w8 (wq ((128 : Int) + (r10.length : Int)))))] Tryz.underlying84 to5 rfl rfl (bs_cons (l := [(i8 (w8 (wq ((128 : Int) + (r10.length : Int)))))]) (cs := []) (cv_rfl rfl) rfl bs_nil) hm⟩) (fun hm => ⟨_, _, rfl, (fun _ => u8_rep hc12) hm, rfl⟩) rfl (fun v11 => ?_)
 refine al_val (ov_toStrR 0 rfl rfl Tryz.underlying84 Tryz.underlying5 Tryz.underlying9 rfl) ?_
 refine mv_ ?_
 obtain ⟨hc13, h⟩ := req_some h
 refine al_val (ov_strAdd hc13 rfl rfl rfl) ?_
 refine an_ ?_
 refine aw_ret ?_
 cases h
 exact fr1_
def f_lumref_TreeWrite_L47 (u16 : S_api_Node) (kk43 : ((List UInt8) → Option ((List UInt8) × Int))) : Nat → (List UInt8) → Int → Option ((List UInt8) × Int)
  | 0, _, _ => none
  | k46 + 1, l45s5, l45i73 => (bif (decide (l45i73 < (u16.Parts.length : Int))) then (opt (at? u16.Parts l45i73) fun (u49 : A8u8) => (req (l45s5.length + (lA8u8 u49).length ≤ 9223372036854775807) (f_lumref_TreeWrite_L47 u16 kk43 k46 (l45s5 ++ (lA8u8 u49)) (IntKind.i64.wrap (l45i73 + (1 : Int)))))) else (kk43 l45s5))
def f_lumref_TreeWrite_L11 (a0 : (List S_api_Node)) (kk7 : ((List UInt8) → Option ((List UInt8) × Int))) (fu : Nat) : Nat → (List UInt8) → Int → Option ((List UInt8) × Int)
  | 0, _, _ => none
  | k10 + 1, l9s5, l9i25 => (lt (fun (l9s5 : (List UInt8)) (l9i25 : Int) => (f_lumref_TreeWrite_L11 a0 kk7 fu k10 l9s5 l9i25)) fun (kk12 : (List UInt8) → Int → Option ((List UInt8) × Int)) => (bif (decide (l9i25 < (a0.length : Int))) then (lt (fun (j14s5 : (List UInt8)) => (kk12 j14s5 (IntKind.i64.wrap (l9i25 + (1 : Int))))) fun (kk15 : (List UInt8) → Option ((List UInt8) × Int)) => (opt (at? a0 l9i25) fun (u16 : S_api_Node) => (opt (f_lumref_PutText fu u16.Name) fun (r23 : ((List UInt8) × Int)) => (opt (f_lumref_PutText fu u16.Link) fun (r25 : ((List UInt8) × Int)) => (req (0 ≤ (IntKind.u8.wrap u16.Kind) ∧ (IntKind.u8.wrap u16.Kind) ≤ 255) (req (r23.1.length + ([(UInt8.ofNat ((IntKind.u8.wrap u16.Kind)).toNat)]).length ≤ 9223372036854775807) (opt (f_lumref_Put fu (IntKind.u64.wrap u16.Mode)) fun (r30 : (List UInt8)) => (req ((r23.1 ++ ([(UInt8.ofNat ((IntKind.u8.wrap u16.Kind)).toNat)])).length + r30.length ≤ 9223372036854775807) (opt (f_lumref_PutInt fu u16.Time) fun (r33 : (List UInt8)) => (req (((r23.1 ++ ([(UInt8.ofNat ((IntKind.u8.wrap u16.Kind)).toNat)])) ++ r30).length + r33.length ≤ 9223372036854775807) (opt (f_lumref_Put fu (IntKind.u64.wrap u16.Size)) fun (r36 : (List UInt8)) => (req ((((r23.1 ++ ([(UInt8.ofNat ((IntKind.u8.wrap u16.Kind)).toNat)])) ++ r30) ++ r33).length + r36.length ≤ 9223372036854775807) (opt (f_lumref_Put fu (IntKind.u64.wrap (u16.Parts.length : Int))) fun (r39 : (List UInt8)) => (req (((((r23.1 ++ ([(UInt8.ofNat ((IntKind.u8.wrap u16.Kind)).toNat)])) ++ r30) ++ r33) ++ r36).length + r39.length ≤ 9223372036854775807) (req (l9s5.length + (((((r23.1 ++ ([(UInt8.ofNat ((IntKind.u8.wrap u16.Kind)).toNat)])) ++ r30) ++ r33) ++ r36) ++ r39).length ≤ 9223372036854775807) (lt (fun (j42s5 : (List UInt8)) => (req (j42s5.length + r25.1.length ≤ 9223372036854775807) (kk15 (j42s5 ++ r25.1)))) fun (kk43 : (List UInt8) → Option ((List UInt8) × Int)) => (f_lumref_TreeWrite_L47 u16 kk43 fu (l9s5 ++ (((((r23.1 ++ ([(UInt8.ofNat ((IntKind.u8.wrap u16.Kind)).toNat)])) ++ r30) ++ r33) ++ r36) ++ r39)) (0 : Int)))))))))))))))))) else (kk7 l9s5)))
def f_lumref_TreeWrite (fu : Nat) (a0 : (List S_api_Node)) : Option ((List UInt8) × Int) := (opt (f_lumref_Nodes fu a0) fun (r2 : Int) => (bif (r2 != (0 : Int)) then (some (([] : List UInt8), r2)) else (opt (f_lumref_Put fu (IntKind.u64.wrap (a0.length : Int))) fun (r5 : (List UInt8)) => (lt (fun (j6s5 : (List UInt8)) => (bif (decide ((j6s5.length : Int) > (4096 : Int))) then (some (([] : List UInt8), (2 : Int))) else (some (j6s5, (0 : Int))))) fun (kk7 : (List UInt8) → Option ((List UInt8) × Int)) => (f_lumref_TreeWrite_L11 a0 kk7 fu fu r5 (0 : Int))))))
abbrev mm35 (w0 : World) (Z0 : Nat → Prop) (a0 : (List S_api_Node)) (p18 : Value) (s19 : Value) (u16 : S_api_Node) (v0_0 : Value) : Mem := memOf w0 Z0 [] [] [(fDat (tyList tyS_api_Node) [v0_0] a0), (fDat (tyList tyA8u8) [s19] u16.Parts), (fDat tyS_api_Node [(str u16.Name), (int .i64 u16.Kind), (int .i64 u16.Mode), (int .i64 u16.Time), (int .i64 u16.Size), s19, (str u16.Link)] u16), (fPtr tyS_api_Node p18 u16), uMax]
set_option maxRecDepth 100000 in
set_option maxHeartbeats 2000000 in
set_option maxHeartbeats 2000000 in
theorem f_lumref_TreeWrite_ok (fu : Nat) (v0_0 : Value) (a0 : (List S_api_Node)) {r : ((List UInt8) × Int)} (h : f_lumref_TreeWrite fu a0 = some r) : FnOk Tryz.prog 29 [v0_0] [(fDat (tyList tyS_api_Node) [v0_0] a0), uMax] [] (fun (i : Unit) => { val := (Value.tuple #[(str r.1), (int .i64 r.2)]) }) := by
 unfold f_lumref_TreeWrite at h
 refine fn_enter Tryz.func29 rfl Tryz.ntmps29 rfl (fun w0 Z0 => ?_)
 refine aw_sr ?_
 refine as_ ?_
 refine an_ ?_
 refine aw_seq ?_
 refine sm_ ?_
 obtain ⟨r2, hc1, h⟩ := opt_some h
 refine al_call (vs := [v0_0]) (f_lumref_Nodes_ok fu v0_0 a0 hc1) [] [] [] (pre_fz 0 rfl pre_nil) rfl (by simp) (by decide) (.inl rfl) rfl Tryz.func49 rfl rfl rfl (fun _ => ?_)
 refine an_ ?_
 refine sm_ ?_
 refine im_ ?_
 refine aw_cond rfl (fun hb3 => ?_) (fun hb3 => ?_)
 replace h := bif_t hb3 h
 refine sm_ ?_
 refine as_ ?_
 refine an_ ?_
 refine aw_ret ?_
 refine aq_then_ret ?_
 cases h
 exact fr2_
 replace h := bif_f hb3 h
 refine aw_skip ?_
 refine aq_tr ?_
 refine mv_ ?_
 refine al_val (ov_lenD 0 rfl rfl Tryz.underlying61 rfl) ?_
 refine al_val (ov_convInt (by rw [Tryz.underlying3]; rfl) Tryz.underlying81 rfl rfl) ?_
 obtain ⟨r5, hc4, h⟩ := opt_some h
 refine al_call (vs := [(uq (wu (a0.length : Int)))]) (f_lumref_Put_ok fu (wu (a0.length : Int)) hc4) [] [] [] pre_nil rfl (by simp) (by decide) (.inl rfl) rfl Tryz.func50 rfl rfl rfl (fun _ => ?_)
 refine an_ ?_
 obtain ⟨kk7, hkk7, h⟩ := lt_some h
 refine aw_seq_join (ι := (List UInt8)) (fun i => (memOf w0 Z0 [] [] [(fDat (tyList tyS_api_Node) [v0_0] a0), uMax])) (fun i => (tab [(5, (str i))])) (fun i => kk7 i = some r) ?_ ?_
 rintro j6s5 h
 have h : kk7 j6s5 = some r := h
 rw [hkk7] at h
 dsimp only at h
 clear hkk7
 refine aw_show (m := (memOf w0 Z0 [] [] [(fDat (tyList tyS_api_Node) [v0_0] a0), uMax])) (S := _) ?_
 refine aw_seq ?_
 refine sm_ ?_
 refine al_val (ov_strLen Tryz.underlying9 rfl rfl) ?_
 refine im_ ?_
 refine aw_cond rfl (fun hb8 => ?_) (fun hb8 => ?_)
 replace h := bif_t hb8 h
 refine aw_sr ?_
 refine as_ ?_
 refine an_ ?_
 refine aw_ret ?_
 refine aq_then_ret ?_
 cases h
 exact fr2_
 replace h := bif_f hb8 h
 refine aw_skip ?_
 refine aq_tr ?_
 refine mv_ ?_
 refine as_ ?_
 refine an_ ?_
 refine aw_ret ?_
 cases h
 exact fr2_
 clear hkk7
 refine sm_ ?_
 refine al_val (ov_lenD 0 rfl rfl Tryz.underlying61 rfl) ?_
 refine mv_ ?_
 refine al_nt ?_
 refine aw_block ?_
 refine aw_state (aw_loop (ι := (List UInt8) × Int) (fun i => (memOf w0 Z0 [] [] [(fDat (tyList tyS_api_Node) [v0_0] a0), uMax])) (fun i => (tab [(5, (str i.1)), (23, v0_0), (24, (iq (a0.length : Int))), (25, (iq i.2))])) (fun q i => f_lumref_TreeWrite_L11 a0 kk7 fu q i.1 i.2 = some r) ?_ fu (r5, (0 : Int)) h) (nm_ [] [0, 1] (by decide) ⟨rfl, rfl, rfl, rfl, trivial⟩)
 clear h
 rintro k10 ⟨l9s5, l9i25⟩ h
 have h : f_lumref_TreeWrite_L11 a0 kk7 fu k10 l9s5 l9i25 = some r := h
 obtain _ | k10 := k10
 rw [f_lumref_TreeWrite_L11] at h; cases h
 rw [f_lumref_TreeWrite_L11] at h
 refine aw_show (m := (memOf w0 Z0 [] [] [(fDat (tyList tyS_api_Node) [v0_0] a0), uMax])) (S := _) ?_
 obtain ⟨kk12, hkk12, h⟩ := lt_some h
 refine aw_body_join (ι := (List UInt8) × Int) (fun i => (memOf w0 Z0 [] [] [(fDat (tyList tyS_api_Node) [v0_0] a0), uMax])) (fun i => (tab [(5, (str i.1)), (23, v0_0), (24, (iq (a0.length : Int))), (25, (iq i.2))])) (fun i => kk12 i.1 i.2 = some r) (fun i h => aq_again k10 i (Nat.lt_succ_self _) (by rw [hkk12] at h; exact h) (fun w a hm hs => ⟨hm, hs⟩)) ?_
 clear hkk12
 refine aw_sr ?_
 refine im_ ?_
 refine aw_seq ?_
 refine aw_cond rfl (fun hb13 => ?_) (fun hb13 => ?_)
 replace h := bif_t hb13 h
 refine aw_skip ?_
 refine aq_then ?_
 obtain ⟨kk15, hkk15, h⟩ := lt_some h
 refine aw_seq_join (ι := (List UInt8)) (fun i => (memOf w0 Z0 [] [] [(fDat (tyList tyS_api_Node) [v0_0] a0), uMax])) (fun i => (tab [(5, (str i)), (23, v0_0), (24, (iq (a0.length : Int))), (25, (iq l9i25))])) (fun i => kk15 i = some r) ?_ ?_
 rintro j14s5 h
 have h : kk15 j14s5 = some r := h
 rw [hkk15] at h
 dsimp only at h
 clear hkk15
 refine aw_show (m := (memOf w0 Z0 [] [] [(fDat (tyList tyS_api_Node) [v0_0] a0), uMax])) (S := _) ?_
 refine aw_region ?_
 refine in_ ?_
 refine mv_ ?_
 refine al_nil ?_
 exact aq_join (j14s5, (wq (l9i25 + (1 : Int)))) h (nm_ [] [0, 1] (by decide) ⟨rfl, rfl, rfl, rfl, trivial⟩)
 clear hkk15
 refine aw_block ?_
 refine aw_sr ?_
 obtain ⟨u16, hu17, h⟩ := opt_some h
 refine al_idxD 0 hu17 rfl rfl rfl Tryz.underlying61 sz64 rfl (fun p18 => ?_)
 refine al_loadPA 0 rfl rfl Tryz.underlying64 sz64 rfl rfl (fun cs20 => ?_)
 refine al_use (ι := Value) 0 rfl (fun j => cs20 = [(str u16.Name), (iq u16.Kind), (iq u16.Mode), (iq u16.Time), (iq u16.Size), j, (str u16.Link)]) (fun j => [(fDat (tyList tyA8u8) [j] u16.Parts)]) encnS_api_Node (fun s19 hq => ?_)
 subst hq
 refine al_alloc (zs := [(str ([] : List UInt8)), (iq (0 : Int)), (iq (0 : Int)), (iq (0 : Int)), (iq (0 : Int)), nS, (str ([] : List UInt8))]) (zeroOf_to to64) rfl rfl (fun g21 => ?_)
 refine al_store (i := 0) (vs := [(str u16.Name), (iq u16.Kind), (iq u16.Mode), (iq u16.Time), (iq u16.Size), s19, (str u16.Link)]) (cs' := [(str u16.Name), (iq u16.Kind), (iq u16.Mode), (iq u16.Time), (iq u16.Size), s19, (str u16.Link)]) rfl rfl rfl sz64 (cv_rfl rfl) rfl (co_val rfl (co_val rfl (co_val rfl (co_val rfl (co_val rfl (co_fz 0 rfl (co_val rfl co_nil))))))) (Nat.le_of_ble_eq_true rfl) rfl rfl ?_
 refine al_nt ?_
 refine aw_sr ?_
 refine al_val (ov_fieldA (p := 0) rfl Tryz.underlying64 rfl sz9 rfl rfl rfl) ?_
 refine al_val (ov_load (i := 0) (v := (str u16.Name)) rfl rfl Tryz.underlying9 sz9 rfl rfl rfl rfl) ?_
 obtain ⟨r23, hc22, h⟩ := opt_some h
 refine al_call (vs := [(str u16.Name)]) (f_lumref_PutText_ok fu u16.Name hc22) [] [] [0] (pre_fz 4 rfl pre_nil) rfl (by simp) (by decide) (.inl rfl) rfl Tryz.func51 rfl rfl rfl (fun _ => ?_)
 refine mv_ ?_
 refine al_ex rfl rfl rfl ?_
 refine al_ex rfl rfl rfl ?_
 refine as_ ?_
 refine an_ ?_
 refine aw_sr ?_
 refine al_val (ov_fieldA (p := 6) rfl Tryz.underlying64 rfl sz9 rfl rfl rfl) ?_
 refine al_val (ov_load (i := 0) (v := (str u16.Link)) rfl rfl Tryz.underlying9 sz9 rfl rfl rfl rfl) ?_
 obtain ⟨r25, hc24, h⟩ := opt_some h
 refine al_call (vs := [(str u16.Link)]) (f_lumref_PutText_ok fu u16.Link hc24) [] [] [0] (pre_fz 4 rfl pre_nil) rfl (by simp) (by decide) (.inl rfl) rfl Tryz.func51 rfl rfl rfl (fun _ => ?_)
 refine mv_ ?_
 refine al_ex rfl rfl rfl ?_
 refine al_ex rfl rfl rfl ?_
 refine as_ ?_
 refine an_ ?_
 refine aw_seq ?_
 obtain ⟨hc27, h⟩ := req_some h
 obtain ⟨hc28, h⟩ := req_some h
 obtain ⟨r30, hc29, h⟩ := opt_some h
 obtain ⟨hc31, h⟩ := req_some h
 obtain ⟨r33, hc32, h⟩ := opt_some h
 obtain ⟨hc34, h⟩ := req_some h
 obtain ⟨r36, hc35, h⟩ := opt_some h
 obtain ⟨hc37, h⟩ := req_some h
 obtain ⟨r39, hc38, h⟩ := opt_some h
 obtain ⟨hc40, h⟩ := req_some h
 obtain ⟨hc41, h⟩ := req_some h
 refine aw_region_draw 29 [(41, (fE (str l9s5))), (42, (fE (str r23.1))), (43, (fE (ptr g21 1))), (44, (fE (iq u16.Kind))), (45, (fE (i8 (w8 u16.Kind)))), (46, (fun v26 => (fDat (tyList tyU8) [v26] [(UInt8.ofNat ((w8 u16.Kind)).toNat)]))), (47, (fE (str [(UInt8.ofNat ((w8 u16.Kind)).toNat)]))), (48, (fE (str (r23.1 ++ ([(UInt8.ofNat ((w8 u16.Kind)).toNat)]))))), (49, (fE (ptr g21 2))), (50, (fE (iq u16.Mode))), (51, (fE (uq (wu u16.Mode)))), (52, (fE (str r30))), (53, (fE (str ((r23.1 ++ ([(UInt8.ofNat ((w8 u16.Kind)).toNat)])) ++ r30)))), (54, (fE (ptr g21 3))), (55, (fE (iq u16.Time))), (56, (fE (str r33))), (57, (fE (str (((r23.1 ++ ([(UInt8.ofNat ((w8 u16.Kind)).toNat)])) ++ r30) ++ r33)))), (58, (fE (ptr g21 4))), (59, (fE (iq u16.Size))), (60, (fE (uq (wu u16.Size)))), (61, (fE (str r36))), (62, (fE (str ((((r23.1 ++ ([(UInt8.ofNat ((w8 u16.Kind)).toNat)])) ++ r30) ++ r33) ++ r36)))), (63, (fE (ptr g21 5))), (64, (fE s19)), (65, (fE (iq (u16.Parts.length : Int)))), (66, (fE (uq (wu (u16.Parts.length : Int))))), (67, (fE (str r39))), (68, (fE (str (((((r23.1 ++ ([(UInt8.ofNat ((w8 u16.Kind)).toNat)])) ++ r30) ++ r33) ++ r36) ++ r39)))), (69, (fE (str (l9s5 ++ (((((r23.1 ++ ([(UInt8.ofNat ((w8 u16.Kind)).toNat)])) ++ r30) ++ r33) ++ r36) ++ r39)))))] (tab [(5, (str l9s5)), (7, (pq g21)), (8, (str r23.1)), (10, (str r25.1)), (23, v0_0), (24, (iq (a0.length : Int))), (25, (iq l9i25))]) mixed (by kernel_rfl) rfl rfl rfl (fun a hs => hs.tab _ (allT_mem ⟨rfl, rfl, rfl, rfl, rfl, rfl, rfl, trivial⟩)) ⟨⟨rfl, ld_val (ov_move rfl rfl)⟩, ⟨rfl, ld_val (ov_move rfl rfl)⟩, ⟨rfl, ld_val (ov_fieldA (p := 1) rfl Tryz.underlying64 rfl sz3 rfl rfl rfl)⟩, ⟨rfl, ld_eq (j := 2) rfl rfl (ld_val (ov_load (i := 0) (v := (iq u16.Kind)) rfl rfl Tryz.underlying3 sz3 rfl rfl rfl rfl))⟩, ⟨rfl, ld_eq (j := 3) rfl rfl (ld_val (ov_convInt (by rw [Tryz.underlying3]; rfl) Tryz.underlying5 rfl rfl))⟩, ⟨rfl, ld_eq (j := 4) rfl rfl (ld_buildSlice (τ := tyU8) (e := 5) (k := 1) (cs := [(i8 (w8 u16.Kind))]) (xs := [(UInt8.ofNat ((w8 u16.Kind)).toNat)]) rfl (by decide) rfl (fun w a hm hs => ⟨([(i8 (w8 u16.Kind))]).toArray, rfl, by simp only [List.map_toArray, List.map_cons, List.map_nil, hs.ev (x := .tmp 45) rfl]; exact run_bs [(i8 (w8 u16.Kind))] [(i8 (w8 u16.Kind))] Tryz.underlying84 to5 rfl rfl (bs_cons (l := [(i8 (w8 u16.Kind))]) (cs := []) (cv_rfl rfl) rfl bs_nil) hm⟩) (fun hm => ⟨_, _, rfl, (fun _ => u8_rep hc27) hm, rfl⟩) rfl)⟩, ⟨rfl, ld_fact (j := 5) rfl rfl (fun v26 => ld_val (ov_toStr 0 rfl rfl Tryz.underlying84 Tryz.underlying5 Tryz.underlying9 rfl))⟩, ⟨rfl, ld_eq (j := 1) rfl rfl (ld_eq (j := 6) rfl rfl (ld_val (ov_strAdd hc28 rfl rfl rfl)))⟩, ⟨rfl, ld_val (ov_fieldA (p := 2) rfl Tryz.underlying64 rfl sz3 rfl rfl rfl)⟩, ⟨rfl, ld_eq (j := 8) rfl rfl (ld_val (ov_load (i := 0) (v := (iq u16.Mode)) rfl rfl Tryz.underlying3 sz3 rfl rfl rfl rfl))⟩, ⟨rfl, ld_eq (j := 9) rfl rfl (ld_val (ov_convInt (by rw [Tryz.underlying3]; rfl) Tryz.underlying81 rfl rfl))⟩, ⟨rfl, ld_eq (j := 10) rfl rfl (ld_callV (vs := [(uq (wu u16.Mode))]) (f_lumref_Put_ok fu (wu u16.Mode) hc29) [] pre_nil rfl Tryz.func50 rfl rfl rfl)⟩, ⟨rfl, ld_eq (j := 7) rfl rfl (ld_eq (j := 11) rfl rfl (ld_val (ov_strAdd hc31 rfl rfl rfl)))⟩, ⟨rfl, ld_val (ov_fieldA (p := 3) rfl Tryz.underlying64 rfl sz3 rfl rfl rfl)⟩, ⟨rfl, ld_eq (j := 13) rfl rfl (ld_val (ov_load (i := 0) (v := (iq u16.Time)) rfl rfl Tryz.underlying3 sz3 rfl rfl rfl rfl))⟩, ⟨rfl, ld_eq (j := 14) rfl rfl (ld_callV (vs := [(iq u16.Time)]) (f_lumref_PutInt_ok fu u16.Time hc32) [] pre_nil rfl Tryz.func52 rfl rfl rfl)⟩, ⟨rfl, ld_eq (j := 12) rfl rfl (ld_eq (j := 15) rfl rfl (ld_val (ov_strAdd hc34 rfl rfl rfl)))⟩, ⟨rfl, ld_val (ov_fieldA (p := 4) rfl Tryz.underlying64 rfl sz3 rfl rfl rfl)⟩, ⟨rfl, ld_eq (j := 17) rfl rfl (ld_val (ov_load (i := 0) (v := (iq u16.Size)) rfl rfl Tryz.underlying3 sz3 rfl rfl rfl rfl))⟩, ⟨rfl, ld_eq (j := 18) rfl rfl (ld_val (ov_convInt (by rw [Tryz.underlying3]; rfl) Tryz.underlying81 rfl rfl))⟩, ⟨rfl, ld_eq (j := 19) rfl rfl (ld_callV (vs := [(uq (wu u16.Size))]) (f_lumref_Put_ok fu (wu u16.Size) hc35) [] pre_nil rfl Tryz.func50 rfl rfl rfl)⟩, ⟨rfl, ld_eq (j := 16) rfl rfl (ld_eq (j := 20) rfl rfl (ld_val (ov_strAdd hc37 rfl rfl rfl)))⟩, ⟨rfl, ld_val (ov_fieldA (p := 5) rfl Tryz.underlying64 rfl sz62 rfl rfl rfl)⟩, ⟨rfl, ld_eq (j := 22) rfl rfl (ld_val (ov_load (i := 0) (v := s19) rfl rfl Tryz.underlying62 sz62 rfl rfl rfl rfl))⟩, ⟨rfl, ld_eq (j := 23) rfl rfl (ld_val (ov_lenD 0 rfl rfl Tryz.underlying62 rfl))⟩, ⟨rfl, ld_eq (j := 24) rfl rfl (ld_val (ov_convInt (by rw [Tryz.underlying3]; rfl) Tryz.underlying81 rfl rfl))⟩, ⟨rfl, ld_eq (j := 25) rfl rfl (ld_callV (vs := [(uq (wu (u16.Parts.length : Int)))]) (f_lumref_Put_ok fu (wu (u16.Parts.length : Int)) hc38) [] pre_nil rfl Tryz.func50 rfl rfl rfl)⟩, ⟨rfl, ld_eq (j := 21) rfl rfl (ld_eq (j := 26) rfl rfl (ld_val (ov_strAdd hc40 rfl rfl rfl)))⟩, ⟨rfl, ld_eq (j := 0) rfl rfl (ld_eq (j := 27) rfl rfl (ld_val (ov_strAdd hc41 rfl rfl rfl)))⟩, trivial⟩ ?_
 refine tl_eq 28 rfl ?_
 refine tl_done ?_
 refine an_ ?_
 obtain ⟨kk43, hkk43, h⟩ := lt_some h
 refine aw_seq_join (ι := (List UInt8)) (fun i => (mm35 w0 Z0 a0 p18 s19 u16 v0_0)) (fun i => (tab [(5, (str i)), (10, (str r25.1)), (23, v0_0), (24, (iq (a0.length : Int))), (25, (iq l9i25))])) (fun i => kk43 i = some r) ?_ ?_
 rintro j42s5 h
 have h : kk43 j42s5 = some r := h
 rw [hkk43] at h
 dsimp only at h
 clear hkk43
 refine aw_show (m := (mm35 w0 Z0 a0 p18 s19 u16 v0_0)) (S := _) ?_
 refine aw_region ?_
 refine mv_ ?_
 refine mv_ ?_
 obtain ⟨hc44, h⟩ := req_some h
 refine al_val (ov_strAdd hc44 rfl rfl rfl) ?_
 refine as_ ?_
 refine al_nil ?_
 refine aq_block ?_
 exact aq_join (j42s5 ++ r25.1) h (nm_ [] [0, 4] (by decide) ⟨rfl, rfl, rfl, rfl, trivial⟩)
 clear hkk43
 refine aw_sr ?_
 refine al_val (ov_fieldA (p := 5) rfl Tryz.underlying64 rfl sz62 rfl rfl rfl) ?_
 refine al_val (ov_load (i := 0) (v := s19) rfl rfl Tryz.underlying62 sz62 rfl rfl rfl rfl) ?_
 refine al_val (ov_lenD 0 rfl rfl Tryz.underlying62 rfl) ?_
 refine mv_ ?_
 refine al_nt ?_
 refine aw_block ?_
 refine aw_state (aw_loop (ι := (List UInt8) × Int) (fun i => (mm35 w0 Z0 a0 p18 s19 u16 v0_0)) (fun i => (tab [(5, (str i.1)), (10, (str r25.1)), (23, v0_0), (24, (iq (a0.length : Int))), (25, (iq l9i25)), (71, s19), (72, (iq (u16.Parts.length : Int))), (73, (iq i.2))])) (fun q i => f_lumref_TreeWrite_L47 u16 kk43 q i.1 i.2 = some r) ?_ fu ((l9s5 ++ (((((r23.1 ++ ([(UInt8.ofNat ((w8 u16.Kind)).toNat)])) ++ r30) ++ r33) ++ r36) ++ r39)), (0 : Int)) h) (nm_ [] [3, 0, 1, 2, 4] (by decide) ⟨rfl, rfl, rfl, rfl, rfl, rfl, rfl, rfl, trivial⟩)
 clear h
 rintro k46 ⟨l45s5, l45i73⟩ h
 have h : f_lumref_TreeWrite_L47 u16 kk43 k46 l45s5 l45i73 = some r := h
 obtain _ | k46 := k46
 rw [f_lumref_TreeWrite_L47] at h; cases h
 rw [f_lumref_TreeWrite_L47] at h
 refine aw_show (m := (mm35 w0 Z0 a0 p18 s19 u16 v0_0)) (S := _) ?_
 refine aw_sr ?_
 refine im_ ?_
 refine aw_seq ?_
 refine aw_cond rfl (fun hb48 => ?_) (fun hb48 => ?_)
 replace h := bif_t hb48 h
 refine aw_skip ?_
 refine aq_then ?_
 refine aw_seq ?_
 refine aw_block ?_
 refine aw_sr ?_
 obtain ⟨u49, hu50, h⟩ := opt_some h
 refine al_idxD 1 hu50 rfl rfl rfl Tryz.underlying62 sz29 rfl (fun p51 => ?_)
 refine al_val (ov_loadP (ds := (cA8u8 u49)) 0 rfl encA8u8 rfl Tryz.underlying29 sz29 rfl rfl rfl) ?_
 refine al_alloc (zs := (cA8u8 zA8u8)) (zeroOf_to to29) rfl rfl (fun g52 => ?_)
 refine al_store (i := 0) (vs := (cA8u8 u49)) (cs' := (cA8u8 u49)) rfl rfl rfl sz29 (cv_rfl rfl) rfl (co_all (oneA8u8 u49)) (Nat.le_of_ble_eq_true rfl) rfl rfl ?_
 refine al_nt ?_
 refine aw_freezeB (τ := tyA8u8) 0 (u49) rfl rfl (fun _ _ => mkA8u8 rfl) ?_
 refine aw_region ?_
 refine mv_ ?_
 refine al_of (of_sliceP 0 lrepA8u8 rfl rfl rfl rfl Tryz.underlying29 sz5 rfl) (fun s53 => ?_)
 refine al_val (ov_toStr 0 rfl rfl Tryz.underlying84 Tryz.underlying5 Tryz.underlying9 rfl) ?_
 obtain ⟨hc54, h⟩ := req_some h
 refine al_val (ov_strAdd hc54 rfl rfl rfl) ?_
 refine as_ ?_
 refine al_nil ?_
 refine aq_block ?_
 refine aq_then ?_
 refine aw_region ?_
 refine in_ ?_
 refine mv_ ?_
 refine al_nil ?_
 exact aq_again k46 ((l45s5 ++ (lA8u8 u49)), (wq (l45i73 + (1 : Int)))) (Nat.lt_succ_self _) h (nm_ [] [3, 4, 5, 6, 7] (by decide) ⟨rfl, rfl, rfl, rfl, rfl, rfl, rfl, rfl, trivial⟩)
 replace h := bif_f hb48 h
 refine aw_exit ?_
 refine aq_then_exit ?_
 refine aq_then_exit ?_
 refine aq_block_exit ?_
 exact aq_join l45s5 h (nm_ [] [0, 1, 2, 3, 4] (by decide) ⟨rfl, rfl, rfl, rfl, rfl, trivial⟩)
 replace h := bif_f hb13 h
 refine aw_exit ?_
 refine aq_then_exit ?_
 refine aq_then_exit ?_
 refine aq_block_exit ?_
 exact aq_join l9s5 h (nm_ [] [0, 1] (by decide) ⟨rfl, trivial⟩)
def f_lumref_into_own_L14 (a0 : (List S_api_Blob)) (a1 : S_api_Blob) (r4 : (A8u8 × Int)) (kk8 : (Unit → Option ((List S_api_Blob) × A8u8 × Int))) (fu : Nat) : Nat → Int → Option ((List S_api_Blob) × A8u8 × Int)
  | 0, _ => none
  | k13 + 1, l12i25 => (bif (decide (l12i25 < (a0.length : Int))) then (opt (at? a0 l12i25) fun (u16 : S_api_Blob) => (req ((Lit.int .i64 u16.Kind).wf = true) (req (u16.Bytes.length ≤ 9223372036854775807) (req ((Lit.int .i64 a1.Kind).wf = true) (req (a1.Bytes.length ≤ 9223372036854775807) (bif (u16 == a1) then (some (a0, r4.1, (0 : Int))) else (opt (f_lumref_BlobID fu u16) fun (r27 : (A8u8 × Int)) => (bif (r27.1 == r4.1) then (some (a0, r4.1, (11 : Int))) else (f_lumref_into_own_L14 a0 a1 r4 kk8 fu k13 (IntKind.i64.wrap (l12i25 + (1 : Int)))))))))))) else (kk8 ()))
def f_lumref_into_own (fu : Nat) (a0 : (List S_api_Blob)) (a1 : S_api_Blob) : Option ((List S_api_Blob) × A8u8 × Int) := (opt (f_lumref_BlobID fu a1) fun (r4 : (A8u8 × Int)) => (bif (r4.2 != (0 : Int)) then (some (a0, r4.1, r4.2)) else (lt (fun (_ : Unit) => (req (((a0.length + ([a1]).length) * 24 : Nat) ≤ 140737488355328 ∧ a0.length + ([a1]).length ≤ 9223372036854775807) (some ((a0 ++ ([a1])), r4.1, (0 : Int))))) fun (kk8 : Unit → Option ((List S_api_Blob) × A8u8 × Int)) => (f_lumref_into_own_L14 a0 a1 r4 kk8 fu fu (0 : Int)))))
abbrev mm36 (w0 : World) (Z0 : Nat → Prop) (a0 : (List S_api_Blob)) (a1 : S_api_Blob) (g1 : Nat) (g2 : Nat) (g5 : Nat) (r4 : (A8u8 × Int)) (v0_0 : Value) : Mem := memOf w0 Z0 [(oRow v0_0 37 tyS_api_Blob a0)] [(oBox g5 29 (cA8u8 r4.1)), (oBox g2 29 (cA8u8 zA8u8)), (oBox g1 37 [(int .i64 a1.Kind), (str a1.Bytes)]), (oRow v0_0 37 tyS_api_Blob a0)] []
abbrev mm37 (w0 : World) (Z0 : Nat → Prop) (a0 : (List S_api_Blob)) (a1 : S_api_Blob) (g1 : Nat) (g2 : Nat) (g5 : Nat) (r4 : (A8u8 × Int)) (v0_0 : Value) : Mem := memOf w0 Z0 [(oRow v0_0 37 tyS_api_Blob a0)] [(oBox g5 29 (cA8u8 r4.1)), (oBox g2 29 (cA8u8 r4.1)), (oBox g1 37 [(int .i64 a1.Kind), (str a1.Bytes)]), (oRow v0_0 37 tyS_api_Blob a0)] []
abbrev mm38 (w0 : World) (Z0 : Nat → Prop) (a0 : (List S_api_Blob)) (a1 : S_api_Blob) (g1 : Nat) (g2 : Nat) (g5 : Nat) (r4 : (A8u8 × Int)) (v0_0 : Value) : Mem := memOf w0 Z0 [(oRow v0_0 37 tyS_api_Blob a0)] [(oRow v0_0 37 tyS_api_Blob a0), (oBox g1 37 [(int .i64 a1.Kind), (str a1.Bytes)]), (oBox g2 29 (cA8u8 zA8u8)), (oBox g5 29 (cA8u8 r4.1))] []
abbrev mm39 (w0 : World) (Z0 : Nat → Prop) (a0 : (List S_api_Blob)) (a1 : S_api_Blob) (g1 : Nat) (g2 : Nat) (g5 : Nat) (r4 : (A8u8 × Int)) (v0_0 : Value) (v11 : Value) (v9 : Value) : Mem := memOf w0 Z0 [(oRow v0_0 37 tyS_api_Blob a0)] [(oRow v9 37 tyS_api_Blob [a1]), (oRow v11 37 tyS_api_Blob (a0 ++ ([a1]))), (oBox g1 37 [(int .i64 a1.Kind), (str a1.Bytes)]), (oBox g2 29 (cA8u8 zA8u8)), (oBox g5 29 (cA8u8 r4.1))] []
abbrev mm40 (w0 : World) (Z0 : Nat → Prop) (a0 : (List S_api_Blob)) (a1 : S_api_Blob) (g1 : Nat) (g2 : Nat) (g5 : Nat) (r4 : (A8u8 × Int)) (v0_0 : Value) (v11 : Value) (v9 : Value) : Mem := memOf w0 Z0 [(oRow v0_0 37 tyS_api_Blob a0)] [(oRow v9 37 tyS_api_Blob [a1]), (oRow v11 37 tyS_api_Blob (a0 ++ ([a1]))), (oBox g1 37 [(int .i64 a1.Kind), (str a1.Bytes)]), (oBox g2 29 (cA8u8 r4.1)), (oBox g5 29 (cA8u8 r4.1))] []
set_option maxRecDepth 100000 in
set_option maxHeartbeats 2000000 in
set_option maxHeartbeats 2000000 in
theorem f_lumref_into_own_ok (fu : Nat) (v0_0 : Value) (a0 : (List S_api_Blob)) (a1 : S_api_Blob) {r : ((List S_api_Blob) × A8u8 × Int)} (h : f_lumref_into_own fu a0 a1 = some r) : FnOk Tryz.prog 28 [v0_0, (ag [(int .i64 a1.Kind), (str a1.Bytes)])] [] [(oRow v0_0 37 tyS_api_Blob a0)] (fun (i : Value) => { val := (Value.tuple #[i, (ag (cA8u8 r.2.1)), (int .i64 r.2.2)]), own := [(oRow i 37 tyS_api_Blob r.1)] }) := by
 unfold f_lumref_into_own at h
 refine fn_enter Tryz.func28 rfl Tryz.ntmps28 rfl (fun w0 Z0 => ?_)
 refine aw_sr ?_
 refine al_box (vs := [(iq a1.Kind), (str a1.Bytes)]) rfl (cv_rfl rfl) rfl (fun g1 => ?_)
 refine as_ ?_
 refine al_alloc (zs := (cA8u8 zA8u8)) (zeroOf_to to29) rfl rfl (fun g2 => ?_)
 refine an_ ?_
 refine aw_sr ?_
 refine al_val (ov_load (i := 1) (v := (ag [(iq a1.Kind), (str a1.Bytes)])) rfl rfl Tryz.underlying37 sz37 rfl rfl rfl rfl) ?_
 obtain ⟨r4, hc3, h⟩ := opt_some h
 refine al_call (vs := [(ag [(iq a1.Kind), (str a1.Bytes)])]) (f_lumref_BlobID_ok fu a1 hc3) [] [] [0, 1, 2] pre_nil rfl (by simp) (by decide) (.inl rfl) rfl Tryz.func48 rfl rfl rfl (fun _ => ?_)
 refine mv_ ?_
 refine al_ex rfl rfl rfl ?_
 refine al_ex rfl rfl rfl ?_
 refine al_alloc (zs := (cA8u8 zA8u8)) (zeroOf_to to29) rfl rfl (fun g5 => ?_)
 refine al_store (i := 0) (vs := (cA8u8 r4.1)) (cs' := (cA8u8 r4.1)) rfl rfl rfl sz29 (cv_rfl rfl) rfl (co_all (oneA8u8 r4.1)) (Nat.le_of_ble_eq_true rfl) rfl rfl ?_
 refine an_ ?_
 refine aw_seq ?_
 refine sm_ ?_
 refine im_ ?_
 refine aw_cond rfl (fun hb6 => ?_) (fun hb6 => ?_)
 replace h := bif_t hb6 h
 refine aw_seq ?_
 refine aw_region_open [(sp_ 0 20 v0_0), (sp_ 1 21 (ag (cA8u8 r4.1))), (sp_ 2 22 (iq r4.2))] (tab [(0, v0_0), (4, nS), (5, (pq g2)), (6, (iq (0 : Int))), (7, (pq g5)), (8, (iq r4.2))]) mixed (fun a hs => hs.tab _ (allT_mem ⟨rfl, rfl, rfl, rfl, rfl, rfl, trivial⟩)) ?_
 refine ta_show (m := (mm36 w0 Z0 a0 a1 g1 g2 g5 r4 v0_0)) (S := _) ?_
 refine ta_step 3 _ [0, 1, 2] [20, 21, 22] [0] [] [(sp_ 0 20 v0_0)] [(sp_ 1 21 (ag (cA8u8 r4.1))), (sp_ 2 22 (iq r4.2))] rfl rfl rfl (by kernel_rfl) rfl rfl rfl ⟨⟨_, rfl, [], rfl, by
  intro X_ Y_ F_ K_ hK_
  refine sh_ (mm36 w0 Z0 a0 a1 g1 g2 g5 r4 v0_0) X_ Y_ ?_
  refine mv_ ?_
  refine al_nil ?_
  exact fr_fin hK_ ()⟩, ⟨_, rfl, [], rfl, by
  intro X_ Y_ F_ K_ hK_
  refine sh_ (mm36 w0 Z0 a0 a1 g1 g2 g5 r4 v0_0) X_ Y_ ?_
  refine al_val (ov_load (i := 0) (v := (ag (cA8u8 r4.1))) rfl rfl Tryz.underlying29 sz29 rfl rfl rfl rfl) ?_
  refine al_nil ?_
  exact fr_fin hK_ ()⟩, ⟨_, rfl, [], rfl, by
  intro X_ Y_ F_ K_ hK_
  refine sh_ (mm36 w0 Z0 a0 a1 g1 g2 g5 r4 v0_0) X_ Y_ ?_
  refine mv_ ?_
  refine al_nil ?_
  exact fr_fin hK_ ()⟩, trivial⟩ ?_
 intro _
 intro X_ Y_ F_ K_ hK_
 refine sh_ (mm36 w0 Z0 a0 a1 g1 g2 g5 r4 v0_0) X_ Y_ ?_
 refine as_ ?_
 refine al_nil ?_
 refine aq_show (m := Mem.plus (mm36 w0 Z0 a0 a1 g1 g2 g5 r4 v0_0) X_ Y_) ?_
 refine aq_next hK_ [0, 1, 2, 3] [] [(4, v0_0), (5, (pq g2)), (6, (iq (0 : Int))), (7, (pq g5)), (8, (iq r4.2))] [21, 22] [] rfl rfl (by decide) rfl ⟨rfl, rfl, rfl, rfl, rfl, trivial⟩ ⟨rfl, rfl, trivial⟩ ?_
 clear hK_ K_ F_ X_ Y_
 refine ta_show (m := (mm36 w0 Z0 a0 a1 g1 g2 g5 r4 v0_0)) (S := _) ?_
 refine ta_step 4 _ [1, 2] [21, 22] [1] [] [(sp_ 1 21 (ag (cA8u8 r4.1)))] [(sp_ 2 22 (iq r4.2))] rfl rfl rfl (by kernel_rfl) rfl rfl rfl ⟨⟨_, rfl, [], rfl, by
  intro X_ Y_ F_ K_ hK_
  refine sh_ (mm36 w0 Z0 a0 a1 g1 g2 g5 r4 v0_0) X_ Y_ ?_
  refine al_val (ov_load (i := 0) (v := (ag (cA8u8 r4.1))) rfl rfl Tryz.underlying29 sz29 rfl rfl rfl rfl) ?_
  refine al_nil ?_
  exact fr_fin hK_ ()⟩, ⟨_, rfl, [], rfl, by
  intro X_ Y_ F_ K_ hK_
  refine sh_ (mm36 w0 Z0 a0 a1 g1 g2 g5 r4 v0_0) X_ Y_ ?_
  refine mv_ ?_
  refine al_nil ?_
  exact fr_fin hK_ ()⟩, trivial⟩ ?_
 intro _
 intro X_ Y_ F_ K_ hK_
 refine sh_ (mm36 w0 Z0 a0 a1 g1 g2 g5 r4 v0_0) X_ Y_ ?_
 refine al_store (i := 1) (vs := (cA8u8 r4.1)) (cs' := (cA8u8 r4.1)) rfl rfl rfl sz29 (cv_rfl rfl) rfl (co_all (oneA8u8 r4.1)) (Nat.le_of_ble_eq_true rfl) rfl rfl ?_
 refine al_nil ?_
 refine aq_show (m := Mem.plus (mm37 w0 Z0 a0 a1 g1 g2 g5 r4 v0_0) X_ Y_) ?_
 refine aq_next hK_ [0, 1, 2, 3] [] [(4, v0_0), (5, (pq g2)), (6, (iq (0 : Int))), (8, (iq r4.2))] [22] [] rfl rfl (by decide) rfl ⟨rfl, rfl, rfl, rfl, trivial⟩ ⟨rfl, trivial⟩ ?_
 clear hK_ K_ F_ X_ Y_
 refine ta_show (m := (mm37 w0 Z0 a0 a1 g1 g2 g5 r4 v0_0)) (S := _) ?_
 refine ta_step 5 _ [2] [22] [2] [] [(sp_ 2 22 (iq r4.2))] [] rfl rfl rfl (by kernel_rfl) rfl rfl rfl ⟨⟨_, rfl, [], rfl, by
  intro X_ Y_ F_ K_ hK_
  refine sh_ (mm37 w0 Z0 a0 a1 g1 g2 g5 r4 v0_0) X_ Y_ ?_
  refine mv_ ?_
  refine al_nil ?_
  exact fr_fin hK_ ()⟩, trivial⟩ ?_
 intro _
 intro X_ Y_ F_ K_ hK_
 refine sh_ (mm37 w0 Z0 a0 a1 g1 g2 g5 r4 v0_0) X_ Y_ ?_
 refine as_ ?_
 refine al_nil ?_
 refine aq_show (m := Mem.plus (mm37 w0 Z0 a0 a1 g1 g2 g5 r4 v0_0) X_ Y_) ?_
 refine aq_next hK_ [0, 1, 2, 3] [] [(4, v0_0), (5, (pq g2)), (6, (iq r4.2))] [] [] rfl rfl (by decide) rfl ⟨rfl, rfl, rfl, trivial⟩ trivial ?_
 clear hK_ K_ F_ X_ Y_
 refine ta_show (m := (mm37 w0 Z0 a0 a1 g1 g2 g5 r4 v0_0)) (S := _) ?_
 refine ta_end [] [] rfl rfl (by kernel_rfl) rfl trivial ?_
 refine aq_show (m := (mm37 w0 Z0 a0 a1 g1 g2 g5 r4 v0_0)) (S := (tab [(4, v0_0), (5, (pq g2)), (6, (iq r4.2))])) ?_
 refine aq_then ?_
 refine aw_ret ?_
 refine aq_then_ret ?_
 cases h
 exact fn_ret v0_0 [3] [] rfl rfl rfl rfl (resC rfl (resT rfl (resB (i := 1) rfl rfl Tryz.underlying29 sz29 rfl rfl rfl (resT rfl (resN)))) rfl) rfl rfl rfl (by decide)
 replace h := bif_f hb6 h
 refine aw_skip ?_
 refine aq_then ?_
 obtain ⟨kk8, hkk8, h⟩ := lt_some h
 refine aw_seq_join (ι := Unit) (fun i => (mm38 w0 Z0 a0 a1 g1 g2 g5 r4 v0_0)) (fun i => (tab [(0, v0_0), (3, (pq g1)), (5, (pq g2)), (7, (pq g5))])) (fun i => kk8 () = some r) ?_ ?_
 rintro _ h
 have h : kk8 () = some r := h
 rw [hkk8] at h
 dsimp only at h
 clear hkk8
 refine aw_show (m := (mm38 w0 Z0 a0 a1 g1 g2 g5 r4 v0_0)) (S := _) ?_
 refine aw_seq ?_
 refine aw_region_open [(sp_ 0 45 v0_0), (sp_ 1 46 (ag [(iq a1.Kind), (str a1.Bytes)])), ⟨2, 47, Value, fun (i : Value) => { val := i, own := [(oRow i 37 tyS_api_Blob [a1])] }⟩, (sp_ 4 49 (ag (cA8u8 r4.1)))] (tab [(0, v0_0), (3, (pq g1)), (5, (pq g2)), (7, (pq g5))]) mixed (fun a hs => hs.tab _ (allT_mem ⟨rfl, rfl, rfl, rfl, trivial⟩)) ?_
 refine ta_show (m := (mm38 w0 Z0 a0 a1 g1 g2 g5 r4 v0_0)) (S := _) ?_
 refine ta_step 3 _ [0, 1, 2, 4] [45, 46, 47, 49] [0, 1, 2] [] [(sp_ 0 45 v0_0), (sp_ 1 46 (ag [(iq a1.Kind), (str a1.Bytes)])), ⟨2, 47, Value, fun (i : Value) => { val := i, own := [(oRow i 37 tyS_api_Blob [a1])] }⟩] [(sp_ 4 49 (ag (cA8u8 r4.1)))] rfl rfl rfl (by kernel_rfl) rfl rfl rfl ⟨⟨_, rfl, [], rfl, by
  intro X_ Y_ F_ K_ hK_
  refine sh_ (mm38 w0 Z0 a0 a1 g1 g2 g5 r4 v0_0) X_ Y_ ?_
  refine mv_ ?_
  refine al_nil ?_
  exact fr_fin hK_ ()⟩, ⟨_, rfl, [], rfl, by
  intro X_ Y_ F_ K_ hK_
  refine sh_ (mm38 w0 Z0 a0 a1 g1 g2 g5 r4 v0_0) X_ Y_ ?_
  refine al_val (ov_load (i := 1) (v := (ag [(iq a1.Kind), (str a1.Bytes)])) rfl rfl Tryz.underlying37 sz37 rfl rfl rfl rfl) ?_
  refine al_nil ?_
  exact fr_fin hK_ ()⟩, ⟨_, rfl, [1], rfl, by
  intro _
  intro X_ Y_ F_ K_ hK_
  refine sh_ (mm38 w0 Z0 a0 a1 g1 g2 g5 r4 v0_0) X_ Y_ ?_
  refine al_buildSlice (τ := tyS_api_Blob) (e := 37) (k := 1) (sz := 0) (by_ := 0) (z := undef) (cs := [(iq a1.Kind), (str a1.Bytes)]) (xs := [a1]) rfl (by decide) (fun w a hm hs => ⟨([(iq a1.Kind), (str a1.Bytes)]).toArray, rfl, by simp only [List.map_toArray, List.map_cons, List.map_nil, hs.ev (x := .tmp 46) rfl]; exact run_bs [(ag [(iq a1.Kind), (str a1.Bytes)])] [(iq a1.Kind), (str a1.Bytes)] Tryz.underlying27 to37 rfl rfl (bs_cons (l := [(iq a1.Kind), (str a1.Bytes)]) (cs := []) (cv_rfl rfl) rfl bs_nil) hm⟩) (fun hm => ⟨_, _, rfl, (fun _ => mkS_api_Blob rfl) hm, rfl⟩) rfl (fun v9 => ?_)
  refine al_nil ?_
  exact fr_fin hK_ v9⟩, ⟨_, rfl, [], rfl, by
  intro X_ Y_ F_ K_ hK_
  refine sh_ (mm38 w0 Z0 a0 a1 g1 g2 g5 r4 v0_0) X_ Y_ ?_
  refine al_val (ov_load (i := 3) (v := (ag (cA8u8 r4.1))) rfl rfl Tryz.underlying29 sz29 rfl rfl rfl rfl) ?_
  refine al_nil ?_
  exact fr_fin hK_ ()⟩, trivial⟩ ?_
 intro _
 intro _
 intro v9
 intro X_ Y_ F_ K_ hK_
 refine sh_ (memOf w0 Z0 [(oRow v0_0 37 tyS_api_Blob a0)] [(oRow v9 37 tyS_api_Blob [a1]), (oRow v0_0 37 tyS_api_Blob a0), (oBox g1 37 [(iq a1.Kind), (str a1.Bytes)]), (oBox g2 29 (cA8u8 zA8u8)), (oBox g5 29 (cA8u8 r4.1))] []) X_ Y_ ?_
 obtain ⟨hc10, h⟩ := req_some h
 refine al_append 1 hc10.1 hc10.2 rfl (src_own (i := 1) 0 rfl) rfl rfl Tryz.underlying27 to37 rfl rfl rfl (fun v11 => ?_)
 refine al_nil ?_
 refine aq_show (m := Mem.plus (mm39 w0 Z0 a0 a1 g1 g2 g5 r4 v0_0 v11 v9) X_ Y_) ?_
 refine aq_next hK_ [0, 1, 2, 3, 4] [] [(5, (pq g2)), (7, (pq g5)), (48, v11)] [49] [] rfl rfl (by decide) rfl ⟨rfl, rfl, rfl, trivial⟩ ⟨rfl, trivial⟩ ?_
 clear hK_ K_ F_ X_ Y_
 refine ta_show (m := (mm39 w0 Z0 a0 a1 g1 g2 g5 r4 v0_0 v11 v9)) (S := _) ?_
 refine ta_step 5 _ [4] [49] [] [] [] [(sp_ 4 49 (ag (cA8u8 r4.1)))] rfl rfl rfl (by kernel_rfl) rfl rfl rfl ⟨⟨_, rfl, [], rfl, by
  intro X_ Y_ F_ K_ hK_
  refine sh_ (mm39 w0 Z0 a0 a1 g1 g2 g5 r4 v0_0 v11 v9) X_ Y_ ?_
  refine al_val (ov_load (i := 4) (v := (ag (cA8u8 r4.1))) rfl rfl Tryz.underlying29 sz29 rfl rfl rfl rfl) ?_
  refine al_nil ?_
  exact fr_fin hK_ ()⟩, trivial⟩ ?_
 intro X_ Y_ F_ K_ hK_
 refine sh_ (mm39 w0 Z0 a0 a1 g1 g2 g5 r4 v0_0 v11 v9) X_ Y_ ?_
 refine as_ ?_
 refine al_nil ?_
 refine aq_show (m := Mem.plus (mm39 w0 Z0 a0 a1 g1 g2 g5 r4 v0_0 v11 v9) X_ Y_) ?_
 refine aq_next hK_ [0, 1, 2, 3, 4] [] [(4, v11), (5, (pq g2)), (7, (pq g5))] [49] [] rfl rfl (by decide) rfl ⟨rfl, rfl, rfl, trivial⟩ ⟨rfl, trivial⟩ ?_
 clear hK_ K_ F_ X_ Y_
 refine ta_show (m := (mm39 w0 Z0 a0 a1 g1 g2 g5 r4 v0_0 v11 v9)) (S := _) ?_
 refine ta_step 6 _ [4] [49] [4] [] [(sp_ 4 49 (ag (cA8u8 r4.1)))] [] rfl rfl rfl (by kernel_rfl) rfl rfl rfl ⟨⟨_, rfl, [], rfl, by
  intro X_ Y_ F_ K_ hK_
  refine sh_ (mm39 w0 Z0 a0 a1 g1 g2 g5 r4 v0_0 v11 v9) X_ Y_ ?_
  refine al_val (ov_load (i := 4) (v := (ag (cA8u8 r4.1))) rfl rfl Tryz.underlying29 sz29 rfl rfl rfl rfl) ?_
  refine al_nil ?_
  exact fr_fin hK_ ()⟩, trivial⟩ ?_
 intro _
 intro X_ Y_ F_ K_ hK_
 refine sh_ (mm39 w0 Z0 a0 a1 g1 g2 g5 r4 v0_0 v11 v9) X_ Y_ ?_
 refine al_store (i := 3) (vs := (cA8u8 r4.1)) (cs' := (cA8u8 r4.1)) rfl rfl rfl sz29 (cv_rfl rfl) rfl (co_all (oneA8u8 r4.1)) (Nat.le_of_ble_eq_true rfl) rfl rfl ?_
 refine al_nil ?_
 refine aq_show (m := Mem.plus (mm40 w0 Z0 a0 a1 g1 g2 g5 r4 v0_0 v11 v9) X_ Y_) ?_
 refine aq_next hK_ [0, 1, 2, 3, 4] [] [(4, v11), (5, (pq g2))] [] [] rfl rfl (by decide) rfl ⟨rfl, rfl, trivial⟩ trivial ?_
 clear hK_ K_ F_ X_ Y_
 refine ta_show (m := (mm40 w0 Z0 a0 a1 g1 g2 g5 r4 v0_0 v11 v9)) (S := _) ?_
 refine ta_step 7 _ [] [] [] [] [] [] rfl rfl rfl (by kernel_rfl) rfl rfl rfl trivial ?_
 intro X_ Y_ F_ K_ hK_
 refine sh_ (mm40 w0 Z0 a0 a1 g1 g2 g5 r4 v0_0 v11 v9) X_ Y_ ?_
 refine as_ ?_
 refine al_nil ?_
 refine aq_show (m := Mem.plus (mm40 w0 Z0 a0 a1 g1 g2 g5 r4 v0_0 v11 v9) X_ Y_) ?_
 refine aq_next hK_ [0, 1, 2, 3, 4] [] [(4, v11), (5, (pq g2)), (6, (iq (0 : Int)))] [] [] rfl rfl (by decide) rfl ⟨rfl, rfl, rfl, trivial⟩ trivial ?_
 clear hK_ K_ F_ X_ Y_
 refine ta_show (m := (mm40 w0 Z0 a0 a1 g1 g2 g5 r4 v0_0 v11 v9)) (S := _) ?_
 refine ta_end [] [] rfl rfl (by kernel_rfl) rfl trivial ?_
 refine aq_show (m := (mm40 w0 Z0 a0 a1 g1 g2 g5 r4 v0_0 v11 v9)) (S := (tab [(4, v11), (5, (pq g2)), (6, (iq (0 : Int)))])) ?_
 refine aq_then ?_
 refine aw_ret ?_
 cases h
 exact fn_ret v11 [1] [] rfl rfl rfl rfl (resC rfl (resT rfl (resB (i := 3) rfl rfl Tryz.underlying29 sz29 rfl rfl rfl (resT rfl (resN)))) rfl) rfl rfl rfl (by decide)
 clear hkk8
 refine sm_ ?_
 refine al_val (ov_lenR 3 rfl rfl Tryz.underlying27 rfl) ?_
 refine mv_ ?_
 refine al_nt ?_
 refine aw_block ?_
 refine aw_state (aw_loop (ι := Int) (fun i => (mm38 w0 Z0 a0 a1 g1 g2 g5 r4 v0_0)) (fun i => (tab [(0, v0_0), (3, (pq g1)), (5, (pq g2)), (7, (pq g5)), (23, v0_0), (24, (iq (a0.length : Int))), (25, (iq i))])) (fun q i => f_lumref_into_own_L14 a0 a1 r4 kk8 fu q i = some r) ?_ fu (0 : Int) h) (nm_ [3, 2, 1, 0] [] (by decide) ⟨rfl, rfl, rfl, rfl, rfl, rfl, rfl, trivial⟩)
 clear h
 rintro k13 l12i25 h
 have h : f_lumref_into_own_L14 a0 a1 r4 kk8 fu k13 l12i25 = some r := h
 obtain _ | k13 := k13
 rw [f_lumref_into_own_L14] at h; cases h
 rw [f_lumref_into_own_L14] at h
 refine aw_show (m := (mm38 w0 Z0 a0 a1 g1 g2 g5 r4 v0_0)) (S := _) ?_
 refine aw_sr ?_
 refine im_ ?_
 refine aw_seq ?_
 refine aw_cond rfl (fun hb15 => ?_) (fun hb15 => ?_)
 replace h := bif_t hb15 h
 refine aw_skip ?_
 refine aq_then ?_
 refine aw_seq ?_
 refine aw_block ?_
 refine aw_sr ?_
 obtain ⟨u16, hu17, h⟩ := opt_some h
 refine al_idxR 0 (at_some hu17).1 (at_some hu17).2.1 rfl rfl rfl Tryz.underlying27 sz37 rfl (fun p18 hp19 => ?_)
 refine al_val (ov_loadR (ds := [(iq u16.Kind), (str u16.Bytes)]) 0 rfl hp19 (at_some hu17).2.2 encS_api_Blob rfl Tryz.underlying37 sz37 rfl rfl rfl) ?_
 refine al_alloc (zs := [(iq (0 : Int)), (str ([] : List UInt8))]) (zeroOf_to to37) rfl rfl (fun g20 => ?_)
 refine al_store (i := 0) (vs := [(iq u16.Kind), (str u16.Bytes)]) (cs' := [(iq u16.Kind), (str u16.Bytes)]) rfl rfl rfl sz37 (cv_rfl rfl) rfl (co_val rfl (co_val rfl co_nil)) (Nat.le_of_ble_eq_true rfl) rfl rfl ?_
 refine al_nt ?_
 refine aw_seq ?_
 refine aw_sr ?_
 refine al_val (ov_load (i := 0) (v := (ag [(iq u16.Kind), (str u16.Bytes)])) rfl rfl Tryz.underlying37 sz37 rfl rfl rfl rfl) ?_
 refine al_val (ov_load (i := 2) (v := (ag [(iq a1.Kind), (str a1.Bytes)])) rfl rfl Tryz.underlying37 sz37 rfl rfl rfl rfl) ?_
 obtain ⟨hc21, h⟩ := req_some h
 obtain ⟨hc22, h⟩ := req_some h
 obtain ⟨hc23, h⟩ := req_some h
 obtain ⟨hc24, h⟩ := req_some h
 refine al_val (ov_eqlA (cs := [(iq u16.Kind), (str u16.Bytes)]) (ds := [(iq a1.Kind), (str a1.Bytes)]) (ls := [3, 9]) (p := (u16 == a1)) eg37 kt37 lv37 rfl rfl (by kernel_rfl) (by kernel_rfl) (fit_cons (fit_int Tryz.underlying3 hc21) (fit_cons (fit_str Tryz.underlying9 hc22) fit_nil)) (fit_cons (fit_int Tryz.underlying3 hc23) (fit_cons (fit_str Tryz.underlying9 hc24) fit_nil)) (injS_api_Blob (x := u16) (y := a1)) rfl) ?_
 refine al_nt ?_
 refine aw_cond rfl (fun hb25 => ?_) (fun hb25 => ?_)
 replace h := bif_t hb25 h
 refine aw_seq ?_
 refine aw_region_draw 3 [(32, (fE v0_0)), (33, (fE (ag (cA8u8 r4.1)))), (4, (fE v0_0))] (tab [(0, v0_0), (5, (pq g2)), (7, (pq g5))]) mixed (by kernel_rfl) rfl rfl rfl (fun a hs => hs.tab _ (allT_mem ⟨rfl, rfl, rfl, trivial⟩)) ⟨⟨rfl, ld_val (ov_move rfl rfl)⟩, ⟨rfl, ld_val (ov_load (i := 4) (v := (ag (cA8u8 r4.1))) rfl rfl Tryz.underlying29 sz29 rfl rfl rfl rfl)⟩, ⟨rfl, ld_eq (j := 0) rfl rfl (ld_val (ov_assign rfl rfl))⟩, trivial⟩ ?_
 refine tl_eq 1 rfl ?_
 refine tl_eq 2 rfl ?_
 refine tl_done ?_
 refine al_store (i := 3) (vs := (cA8u8 r4.1)) (cs' := (cA8u8 r4.1)) rfl rfl rfl sz29 (cv_rfl rfl) rfl (co_all (oneA8u8 r4.1)) (Nat.le_of_ble_eq_true rfl) rfl rfl ?_
 refine an_ ?_
 refine aw_ret ?_
 refine aq_then_ret ?_
 refine aq_block_ret ?_
 refine aq_then_ret ?_
 refine aq_then_ret ?_
 refine aq_block_ret ?_
 refine aq_then_ret ?_
 cases h
 exact fn_ret v0_0 [1] [] rfl rfl rfl rfl (resC rfl (resT rfl (resB (i := 3) rfl rfl Tryz.underlying29 sz29 rfl rfl rfl (resT rfl (resN)))) rfl) rfl rfl rfl (by decide)
 replace h := bif_f hb25 h
 refine aw_skip ?_
 refine aq_tr ?_
 refine al_val (ov_load (i := 0) (v := (ag [(iq u16.Kind), (str u16.Bytes)])) rfl rfl Tryz.underlying37 sz37 rfl rfl rfl rfl) ?_
 obtain ⟨r27, hc26, h⟩ := opt_some h
 refine al_call (vs := [(ag [(iq u16.Kind), (str u16.Bytes)])]) (f_lumref_BlobID_ok fu u16 hc26) [] [] [0, 1, 2, 3, 4] pre_nil rfl (by simp) (by decide) (.inl rfl) rfl Tryz.func48 rfl rfl rfl (fun _ => ?_)
 refine mv_ ?_
 refine al_ex rfl rfl rfl ?_
 refine al_ex rfl rfl rfl ?_
 refine al_alloc (zs := (cA8u8 zA8u8)) (zeroOf_to to29) rfl rfl (fun g28 => ?_)
 refine al_store (i := 0) (vs := (cA8u8 r27.1)) (cs' := (cA8u8 r27.1)) rfl rfl rfl sz29 (cv_rfl rfl) rfl (co_all (oneA8u8 r27.1)) (Nat.le_of_ble_eq_true rfl) rfl rfl ?_
 refine an_ ?_
 refine aw_sr ?_
 refine al_val (ov_load (i := 0) (v := (ag (cA8u8 r27.1))) rfl rfl Tryz.underlying29 sz29 rfl rfl rfl rfl) ?_
 refine al_val (ov_load (i := 5) (v := (ag (cA8u8 r4.1))) rfl rfl Tryz.underlying29 sz29 rfl rfl rfl rfl) ?_
 refine al_val (ov_eqlA (cs := (cA8u8 r27.1)) (ds := (cA8u8 r4.1)) (ls := [5, 5, 5, 5, 5, 5, 5, 5]) (p := (r27.1 == r4.1)) eg29 kt29 lv29 rfl rfl (by kernel_rfl) (by kernel_rfl) (fit_cons (fit_u8 Tryz.underlying5) (fit_cons (fit_u8 Tryz.underlying5) (fit_cons (fit_u8 Tryz.underlying5) (fit_cons (fit_u8 Tryz.underlying5) (fit_cons (fit_u8 Tryz.underlying5) (fit_cons (fit_u8 Tryz.underlying5) (fit_cons (fit_u8 Tryz.underlying5) (fit_cons (fit_u8 Tryz.underlying5) fit_nil)))))))) (fit_cons (fit_u8 Tryz.underlying5) (fit_cons (fit_u8 Tryz.underlying5) (fit_cons (fit_u8 Tryz.underlying5) (fit_cons (fit_u8 Tryz.underlying5) (fit_cons (fit_u8 Tryz.underlying5) (fit_cons (fit_u8 Tryz.underlying5) (fit_cons (fit_u8 Tryz.underlying5) (fit_cons (fit_u8 Tryz.underlying5) fit_nil)))))))) (injA8u8 (x := r27.1) (y := r4.1)) rfl) ?_
 refine al_nt ?_
 refine aw_cond rfl (fun hb29 => ?_) (fun hb29 => ?_)
 replace h := bif_t hb29 h
 refine aw_seq ?_
 refine aw_region_draw 3 [(42, (fE v0_0)), (43, (fE (ag (cA8u8 r4.1)))), (4, (fE v0_0))] (tab [(0, v0_0), (5, (pq g2)), (7, (pq g5))]) mixed (by kernel_rfl) rfl rfl rfl (fun a hs => hs.tab _ (allT_mem ⟨rfl, rfl, rfl, trivial⟩)) ⟨⟨rfl, ld_val (ov_move rfl rfl)⟩, ⟨rfl, ld_val (ov_load (i := 5) (v := (ag (cA8u8 r4.1))) rfl rfl Tryz.underlying29 sz29 rfl rfl rfl rfl)⟩, ⟨rfl, ld_eq (j := 0) rfl rfl (ld_val (ov_assign rfl rfl))⟩, trivial⟩ ?_
 refine tl_eq 1 rfl ?_
 refine tl_eq 2 rfl ?_
 refine tl_done ?_
 refine al_store (i := 4) (vs := (cA8u8 r4.1)) (cs' := (cA8u8 r4.1)) rfl rfl rfl sz29 (cv_rfl rfl) rfl (co_all (oneA8u8 r4.1)) (Nat.le_of_ble_eq_true rfl) rfl rfl ?_
 refine an_ ?_
 refine aw_ret ?_
 refine aq_block_ret ?_
 refine aq_then_ret ?_
 refine aq_then_ret ?_
 refine aq_block_ret ?_
 refine aq_then_ret ?_
 cases h
 exact fn_ret v0_0 [2] [] rfl rfl rfl rfl (resC rfl (resT rfl (resB (i := 4) rfl rfl Tryz.underlying29 sz29 rfl rfl rfl (resT rfl (resN)))) rfl) rfl rfl rfl (by decide)
 replace h := bif_f hb29 h
 refine aw_skip ?_
 refine aq_block ?_
 refine aq_then ?_
 refine aw_region ?_
 refine in_ ?_
 refine mv_ ?_
 refine al_nil ?_
 exact aq_again k13 (wq (l12i25 + (1 : Int))) (Nat.lt_succ_self _) h (nm_ [2, 3, 4, 5] [] (by decide) ⟨rfl, rfl, rfl, rfl, rfl, rfl, rfl, trivial⟩)
 replace h := bif_f hb15 h
 refine aw_exit ?_
 refine aq_then_exit ?_
 refine aq_then_exit ?_
 refine aq_block_exit ?_
 exact aq_join () h (nm_ [0, 1, 2, 3] [] (by decide) ⟨rfl, rfl, rfl, rfl, trivial⟩)
 -- STUCK lumberroom/lumref.plantDir: a region that draws: no head: world.go:243 [open: world.go:250: call: a row to be handed in is not owned: ('o', 'v3_0')]
def f_lumref_plantDir_own_L40 (u18 : S_api_Item) (kk30 : ((List S_api_Blob) → Int → (List A8u8) → (List UInt8) → Option ((List S_api_Blob) × A8u8 × Int))) (r36 : (List (List UInt8))) (fu : Nat) : Nat → (List S_api_Blob) → (List A8u8) → A8u8 → Int → Option ((List S_api_Blob) × A8u8 × Int)
  | 0, _, _, _, _ => none
  | k39 + 1, l38x3, l38x15_5, l38A17_0, l38i62 => (bif (decide (l38i62 < (r36.length : Int))) then (opt (at? r36 l38i62) fun (u42 : (List UInt8)) => (opt (f_lumref_into_own fu l38x3 (S_api_Blob.mk (1 : Int) u42)) fun (r47 : ((List S_api_Blob) × A8u8 × Int)) => (bif (r47.2.2 != (0 : Int)) then (some (([] : List S_api_Blob), r47.2.1, r47.2.2)) else (req (((l38x15_5.length + ([r47.2.1]).length) * 8 : Nat) ≤ 140737488355328 ∧ l38x15_5.length + ([r47.2.1]).length ≤ 9223372036854775807) (f_lumref_plantDir_own_L40 u18 kk30 r36 fu k39 r47.1 (l38x15_5 ++ ([r47.2.1])) r47.2.1 (IntKind.i64.wrap (l38i62 + (1 : Int)))))))) else (kk30 l38x3 (u18.Bytes.length : Int) l38x15_5 ([] : List UInt8)))
def f_lumref_plantDir_own_L13 (self : S_api_Way → (List S_api_Item) → (List UInt8) → (List S_api_Blob) → Option ((List S_api_Blob) × A8u8 × Int)) (a0 : S_api_Way) (a1 : (List S_api_Item)) (a2 : (List UInt8)) (kk4 : ((List S_api_Blob) → (List S_api_Node) → Option ((List S_api_Blob) × A8u8 × Int))) (fu : Nat) : Nat → (List S_api_Blob) → (List S_api_Node) → Int → Option ((List S_api_Blob) × A8u8 × Int)
  | 0, _, _, _ => none
  | k12 + 1, l11x3, l11x11, l11i24 => (lt (fun (l11x3 : (List S_api_Blob)) (l11x11 : (List S_api_Node)) (l11i24 : Int) => (f_lumref_plantDir_own_L13 (self) a0 a1 a2 kk4 fu k12 l11x3 l11x11 l11i24)) fun (kk14 : (List S_api_Blob) → (List S_api_Node) → Int → Option ((List S_api_Blob) × A8u8 × Int)) => (bif (decide (l11i24 < (a1.length : Int))) then (lt (fun (j16x3 : (List S_api_Blob)) (j16x11 : (List S_api_Node)) => (kk14 j16x3 j16x11 (IntKind.i64.wrap (l11i24 + (1 : Int))))) fun (kk17 : (List S_api_Blob) → (List S_api_Node) → Option ((List S_api_Blob) × A8u8 × Int)) => (opt (at? a1 l11i24) fun (u18 : S_api_Item) => (opt (f_strings_LastIndex fu u18.Path ([47] : List UInt8)) fun (r23 : Int) => (req (0 ≤ r23 ∧ r23 ≤ (u18.Path.length : Int)) (bif (!((u18.Path.take (r23).toNat) == a2)) then (kk17 l11x3 l11x11) else (req (0 ≤ (IntKind.i64.wrap (r23 + (1 : Int))) ∧ (IntKind.i64.wrap (r23 + (1 : Int))) ≤ (u18.Path.length : Int)) (lt (fun (j29x3 : (List S_api_Blob)) (j29i15_4 : Int) (j29x15_5 : (List A8u8)) (j29s15_6 : (List UInt8)) => (req (((l11x11.length + ([(S_api_Node.mk (u18.Path.drop ((IntKind.i64.wrap (r23 + (1 : Int)))).toNat) u18.Kind u18.Mode u18.Time j29i15_4 j29x15_5 j29s15_6)]).length) * 88 : Nat) ≤ 140737488355328 ∧ l11x11.length + ([(S_api_Node.mk (u18.Path.drop ((IntKind.i64.wrap (r23 + (1 : Int)))).toNat) u18.Kind u18.Mode u18.Time j29i15_4 j29x15_5 j29s15_6)]).length ≤ 9223372036854775807) (kk17 j29x3 (l11x11 ++ ([(S_api_Node.mk (u18.Path.drop ((IntKind.i64.wrap (r23 + (1 : Int)))).toNat) u18.Kind u18.Mode u18.Time j29i15_4 j29x15_5 j29s15_6)]))))) fun (kk30 : (List S_api_Blob) → Int → (List A8u8) → (List UInt8) → Option ((List S_api_Blob) × A8u8 × Int)) => (bif (u18.Kind == (1 : Int)) then (opt (f_lumref_PiecesOf fu a0 u18.Bytes) fun (r36 : (List (List UInt8))) => (f_lumref_plantDir_own_L40 u18 kk30 r36 fu fu l11x3 ([] : List A8u8) zA8u8 (0 : Int))) else (bif (u18.Kind == (2 : Int)) then (opt (self a0 a1 u18.Path l11x3) fun (r55 : ((List S_api_Blob) × A8u8 × Int)) => (bif (r55.2.2 != (0 : Int)) then (some (([] : List S_api_Blob), r55.2.1, r55.2.2)) else (kk30 r55.1 (0 : Int) ([r55.2.1]) ([] : List UInt8)))) else (bif (u18.Kind == (3 : Int)) then (kk30 l11x3 (0 : Int) ([] : List A8u8) u18.Bytes) else (kk30 l11x3 (0 : Int) ([] : List A8u8) ([] : List UInt8)))))))))))) else (kk4 l11x3 l11x11)))
def f_lumref_plantDir_own : Nat → S_api_Way → (List S_api_Item) → (List UInt8) → (List S_api_Blob) → Option ((List S_api_Blob) × A8u8 × Int)
  | 0, _, _, _, _ => none
  | fu + 1, a0, a1, a2, a3 => (lt (fun (j3x3 : (List S_api_Blob)) (j3x11 : (List S_api_Node)) => (opt (f_lumref_TreeWrite fu j3x11) fun (r6 : ((List UInt8) × Int)) => (bif (r6.2 != (0 : Int)) then (some (([] : List S_api_Blob), zA8u8, r6.2)) else (opt (f_lumref_into_own fu j3x3 (S_api_Blob.mk (2 : Int) r6.1)) fun (r9 : ((List S_api_Blob) × A8u8 × Int)) => (some (r9.1, r9.2.1, r9.2.2)))))) fun (kk4 : (List S_api_Blob) → (List S_api_Node) → Option ((List S_api_Blob) × A8u8 × Int)) => (f_lumref_plantDir_own_L13 (f_lumref_plantDir_own fu) a0 a1 a2 kk4 fu fu a3 ([] : List S_api_Node) (0 : Int)))
abbrev mm41 (w0 : World) (Z0 : Nat → Prop) (a0 : S_api_Way) (a1 : (List S_api_Item)) (a3 : (List S_api_Blob)) (g1 : Nat) (g2 : Nat) (l11us11 : (List Value)) (l11v11 : Value) (l11v3 : Value) (l11x11 : (List S_api_Node)) (l11x3 : (List S_api_Blob)) (v1_0 : Value) (v3_0 : Value) : Mem := memOf w0 Z0 [(oRow v3_0 37 tyS_api_Blob a3)] [(oRow l11v3 37 tyS_api_Blob l11x3), (oBox g1 25 [(int .i64 a0.Fixed), (int .i64 a0.Cut.Min), (int .i64 a0.Cut.Max), (int .i64 a0.Cut.Bits)]), (oBox g2 29 (cA8u8 zA8u8)), (oKids l11v11 64 tyhS_api_Node 29 tyA8u8 (fun x : S_api_Node => x.Parts) none l11us11 l11x11)] [(fDat (tyList tyS_api_Item) [v1_0] a1), uMax]
abbrev mm42 (w0 : World) (Z0 : Nat → Prop) (a0 : S_api_Way) (a1 : (List S_api_Item)) (a3 : (List S_api_Blob)) (g1 : Nat) (g2 : Nat) (j16us11 : (List Value)) (j16v11 : Value) (j16v3 : Value) (j16x11 : (List S_api_Node)) (j16x3 : (List S_api_Blob)) (v1_0 : Value) (v3_0 : Value) : Mem := memOf w0 Z0 [(oRow v3_0 37 tyS_api_Blob a3)] [(oRow j16v3 37 tyS_api_Blob j16x3), (oBox g1 25 [(int .i64 a0.Fixed), (int .i64 a0.Cut.Min), (int .i64 a0.Cut.Max), (int .i64 a0.Cut.Bits)]), (oBox g2 29 (cA8u8 zA8u8)), (oKids j16v11 64 tyhS_api_Node 29 tyA8u8 (fun x : S_api_Node => x.Parts) none j16us11 j16x11)] [(fDat (tyList tyS_api_Item) [v1_0] a1), uMax]
abbrev mm43 (w0 : World) (Z0 : Nat → Prop) (a0 : S_api_Way) (a1 : (List S_api_Item)) (a3 : (List S_api_Blob)) (g1 : Nat) (g2 : Nat) (g21 : Nat) (l11us11 : (List Value)) (l11v11 : Value) (l11v3 : Value) (l11x11 : (List S_api_Node)) (l11x3 : (List S_api_Blob)) (p20 : Value) (u18 : S_api_Item) (v1_0 : Value) (v3_0 : Value) : Mem := memOf w0 Z0 [(oRow v3_0 37 tyS_api_Blob a3)] [(oBox g21 45 [(str u18.Path), (int .i64 u18.Kind), (int .i64 u18.Mode), (int .i64 u18.Time), (str u18.Bytes)]), (oRow l11v3 37 tyS_api_Blob l11x3), (oBox g1 25 [(int .i64 a0.Fixed), (int .i64 a0.Cut.Min), (int .i64 a0.Cut.Max), (int .i64 a0.Cut.Bits)]), (oBox g2 29 (cA8u8 zA8u8)), (oKids l11v11 64 tyhS_api_Node 29 tyA8u8 (fun x : S_api_Node => x.Parts) none l11us11 l11x11)] [(fPtr tyS_api_Item p20 u18), (fDat (tyList tyS_api_Item) [v1_0] a1), uMax]
abbrev mm44 (w0 : World) (Z0 : Nat → Prop) (a0 : S_api_Way) (a1 : (List S_api_Item)) (a3 : (List S_api_Blob)) (g1 : Nat) (g2 : Nat) (g21 : Nat) (g27 : Nat) (l11us11 : (List Value)) (l11v11 : Value) (l11v3 : Value) (l11x11 : (List S_api_Node)) (l11x3 : (List S_api_Blob)) (p20 : Value) (r23 : Int) (u18 : S_api_Item) (v1_0 : Value) (v3_0 : Value) : Mem := memOf w0 Z0 [(oRow v3_0 37 tyS_api_Blob a3)] [(oBox g27 64 [(str (u18.Path.drop ((IntKind.i64.wrap (r23 + (1 : Int)))).toNat)), (int .i64 u18.Kind), (int .i64 u18.Mode), (int .i64 u18.Time), (int .i64 (0 : Int)), (Value.slice none 0 0), (str ([] : List UInt8))]), (oBox g21 45 [(str u18.Path), (int .i64 u18.Kind), (int .i64 u18.Mode), (int .i64 u18.Time), (str u18.Bytes)]), (oRow l11v3 37 tyS_api_Blob l11x3), (oBox g1 25 [(int .i64 a0.Fixed), (int .i64 a0.Cut.Min), (int .i64 a0.Cut.Max), (int .i64 a0.Cut.Bits)]), (oBox g2 29 (cA8u8 zA8u8)), (oKids l11v11 64 tyhS_api_Node 29 tyA8u8 (fun x : S_api_Node => x.Parts) none l11us11 l11x11)] [(fPtr tyS_api_Item p20 u18), (fDat (tyList tyS_api_Item) [v1_0] a1), uMax]
abbrev mm45 (w0 : World) (Z0 : Nat → Prop) (a0 : S_api_Way) (a1 : (List S_api_Item)) (a3 : (List S_api_Blob)) (g1 : Nat) (g2 : Nat) (g27 : Nat) (j29i15_4 : Int) (j29s15_6 : (List UInt8)) (j29v15_5 : Value) (j29v3 : Value) (j29x15_5 : (List A8u8)) (j29x3 : (List S_api_Blob)) (l11us11 : (List Value)) (l11v11 : Value) (l11x11 : (List S_api_Node)) (p20 : Value) (r23 : Int) (u18 : S_api_Item) (v1_0 : Value) (v3_0 : Value) : Mem := memOf w0 Z0 [(oRow v3_0 37 tyS_api_Blob a3)] [(oRow j29v3 37 tyS_api_Blob j29x3), (oBox g1 25 [(int .i64 a0.Fixed), (int .i64 a0.Cut.Min), (int .i64 a0.Cut.Max), (int .i64 a0.Cut.Bits)]), (oBox g2 29 (cA8u8 zA8u8)), (oKids l11v11 64 tyhS_api_Node 29 tyA8u8 (fun x : S_api_Node => x.Parts) none l11us11 l11x11), (oRow j29v15_5 29 tyA8u8 j29x15_5), (oBox g27 64 [(str (u18.Path.drop ((IntKind.i64.wrap (r23 + (1 : Int)))).toNat)), (int .i64 u18.Kind), (int .i64 u18.Mode), (int .i64 u18.Time), (int .i64 j29i15_4), j29v15_5, (str j29s15_6)])] [(fDat (tyList tyS_api_Item) [v1_0] a1), (fPtr tyS_api_Item p20 u18), uMax]
abbrev mm46 (w0 : World) (Z0 : Nat → Prop) (a0 : S_api_Way) (a1 : (List S_api_Item)) (a3 : (List S_api_Blob)) (g1 : Nat) (g2 : Nat) (g27 : Nat) (g28 : Nat) (l11us11 : (List Value)) (l11v11 : Value) (l11x11 : (List S_api_Node)) (l38A17_0 : A8u8) (l38v15_5 : Value) (l38v3 : Value) (l38x15_5 : (List A8u8)) (l38x3 : (List S_api_Blob)) (p20 : Value) (r23 : Int) (r36 : (List (List UInt8))) (u18 : S_api_Item) (v1_0 : Value) (v37 : Value) (v3_0 : Value) : Mem := memOf w0 Z0 [(oRow v3_0 37 tyS_api_Blob a3)] [(oRow l38v3 37 tyS_api_Blob l38x3), (oBox g1 25 [(int .i64 a0.Fixed), (int .i64 a0.Cut.Min), (int .i64 a0.Cut.Max), (int .i64 a0.Cut.Bits)]), (oBox g2 29 (cA8u8 zA8u8)), (oKids l11v11 64 tyhS_api_Node 29 tyA8u8 (fun x : S_api_Node => x.Parts) none l11us11 l11x11), (oRow l38v15_5 29 tyA8u8 l38x15_5), (oBox g27 64 [(str (u18.Path.drop ((IntKind.i64.wrap (r23 + (1 : Int)))).toNat)), (int .i64 u18.Kind), (int .i64 u18.Mode), (int .i64 u18.Time), (int .i64 (u18.Bytes.length : Int)), l38v15_5, (str ([] : List UInt8))]), (oBox g28 29 (cA8u8 l38A17_0)), (oRow v37 9 tyStr r36)] [(fDat (tyList tyS_api_Item) [v1_0] a1), (fPtr tyS_api_Item p20 u18), uMax]
abbrev mm47 (w0 : World) (Z0 : Nat → Prop) (a0 : S_api_Way) (a1 : (List S_api_Item)) (a3 : (List S_api_Blob)) (g1 : Nat) (g2 : Nat) (g27 : Nat) (g28 : Nat) (l11us11 : (List Value)) (l11v11 : Value) (l11x11 : (List S_api_Node)) (l38v15_5 : Value) (l38x15_5 : (List A8u8)) (p20 : Value) (r23 : Int) (r36 : (List (List UInt8))) (r47 : ((List S_api_Blob) × A8u8 × Int)) (u18 : S_api_Item) (v1_0 : Value) (v37 : Value) (v3_0 : Value) (v48 : Value) : Mem := memOf w0 Z0 [(oRow v3_0 37 tyS_api_Blob a3)] [(oRow v48 37 tyS_api_Blob r47.1), (oBox g1 25 [(int .i64 a0.Fixed), (int .i64 a0.Cut.Min), (int .i64 a0.Cut.Max), (int .i64 a0.Cut.Bits)]), (oBox g2 29 (cA8u8 zA8u8)), (oKids l11v11 64 tyhS_api_Node 29 tyA8u8 (fun x : S_api_Node => x.Parts) none l11us11 l11x11), (oRow l38v15_5 29 tyA8u8 l38x15_5), (oBox g27 64 [(str (u18.Path.drop ((IntKind.i64.wrap (r23 + (1 : Int)))).toNat)), (int .i64 u18.Kind), (int .i64 u18.Mode), (int .i64 u18.Time), (int .i64 (u18.Bytes.length : Int)), l38v15_5, (str ([] : List UInt8))]), (oBox g28 29 (cA8u8 r47.2.1)), (oRow v37 9 tyStr r36)] [(fDat (tyList tyS_api_Item) [v1_0] a1), (fPtr tyS_api_Item p20 u18), uMax]
abbrev mm48 (w0 : World) (Z0 : Nat → Prop) (a0 : S_api_Way) (a1 : (List S_api_Item)) (a3 : (List S_api_Blob)) (g1 : Nat) (g2 : Nat) (g27 : Nat) (g28 : Nat) (l11us11 : (List Value)) (l11v11 : Value) (l11x11 : (List S_api_Node)) (l38v15_5 : Value) (l38x15_5 : (List A8u8)) (p20 : Value) (r23 : Int) (r36 : (List (List UInt8))) (r47 : ((List S_api_Blob) × A8u8 × Int)) (u18 : S_api_Item) (v1_0 : Value) (v37 : Value) (v3_0 : Value) (v48 : Value) : Mem := memOf w0 Z0 [(oRow v3_0 37 tyS_api_Blob a3)] [(oRow v48 37 tyS_api_Blob r47.1), (oBox g1 25 [(int .i64 a0.Fixed), (int .i64 a0.Cut.Min), (int .i64 a0.Cut.Max), (int .i64 a0.Cut.Bits)]), (oBox g2 29 (cA8u8 r47.2.1)), (oKids l11v11 64 tyhS_api_Node 29 tyA8u8 (fun x : S_api_Node => x.Parts) none l11us11 l11x11), (oRow l38v15_5 29 tyA8u8 l38x15_5), (oBox g27 64 [(str (u18.Path.drop ((IntKind.i64.wrap (r23 + (1 : Int)))).toNat)), (int .i64 u18.Kind), (int .i64 u18.Mode), (int .i64 u18.Time), (int .i64 (u18.Bytes.length : Int)), l38v15_5, (str ([] : List UInt8))]), (oBox g28 29 (cA8u8 r47.2.1)), (oRow v37 9 tyStr r36)] [(fDat (tyList tyS_api_Item) [v1_0] a1), (fPtr tyS_api_Item p20 u18), uMax]
abbrev mm49 (w0 : World) (Z0 : Nat → Prop) (a0 : S_api_Way) (a1 : (List S_api_Item)) (a3 : (List S_api_Blob)) (g1 : Nat) (g2 : Nat) (g21 : Nat) (g27 : Nat) (g28 : Nat) (l11us11 : (List Value)) (l11v11 : Value) (l11x11 : (List S_api_Node)) (p20 : Value) (r23 : Int) (r55 : ((List S_api_Blob) × A8u8 × Int)) (u18 : S_api_Item) (v1_0 : Value) (v3_0 : Value) (v56 : Value) : Mem := memOf w0 Z0 [(oRow v3_0 37 tyS_api_Blob a3)] [(oRow v56 37 tyS_api_Blob r55.1), (oBox g28 29 (cA8u8 r55.2.1)), (oBox g27 64 [(str (u18.Path.drop ((IntKind.i64.wrap (r23 + (1 : Int)))).toNat)), (int .i64 u18.Kind), (int .i64 u18.Mode), (int .i64 u18.Time), (int .i64 (0 : Int)), (Value.slice none 0 0), (str ([] : List UInt8))]), (oBox g21 45 [(str u18.Path), (int .i64 u18.Kind), (int .i64 u18.Mode), (int .i64 u18.Time), (str u18.Bytes)]), (oBox g1 25 [(int .i64 a0.Fixed), (int .i64 a0.Cut.Min), (int .i64 a0.Cut.Max), (int .i64 a0.Cut.Bits)]), (oBox g2 29 (cA8u8 zA8u8)), (oKids l11v11 64 tyhS_api_Node 29 tyA8u8 (fun x : S_api_Node => x.Parts) none l11us11 l11x11)] [(fPtr tyS_api_Item p20 u18), (fDat (tyList tyS_api_Item) [v1_0] a1), uMax]
abbrev mm50 (w0 : World) (Z0 : Nat → Prop) (a0 : S_api_Way) (a1 : (List S_api_Item)) (a3 : (List S_api_Blob)) (g1 : Nat) (g2 : Nat) (g21 : Nat) (g27 : Nat) (g28 : Nat) (l11us11 : (List Value)) (l11v11 : Value) (l11x11 : (List S_api_Node)) (p20 : Value) (r23 : Int) (r55 : ((List S_api_Blob) × A8u8 × Int)) (u18 : S_api_Item) (v1_0 : Value) (v3_0 : Value) (v56 : Value) : Mem := memOf w0 Z0 [(oRow v3_0 37 tyS_api_Blob a3)] [(oRow v56 37 tyS_api_Blob r55.1), (oBox g28 29 (cA8u8 r55.2.1)), (oBox g27 64 [(str (u18.Path.drop ((IntKind.i64.wrap (r23 + (1 : Int)))).toNat)), (int .i64 u18.Kind), (int .i64 u18.Mode), (int .i64 u18.Time), (int .i64 (0 : Int)), (Value.slice none 0 0), (str ([] : List UInt8))]), (oBox g21 45 [(str u18.Path), (int .i64 u18.Kind), (int .i64 u18.Mode), (int .i64 u18.Time), (str u18.Bytes)]), (oBox g1 25 [(int .i64 a0.Fixed), (int .i64 a0.Cut.Min), (int .i64 a0.Cut.Max), (int .i64 a0.Cut.Bits)]), (oBox g2 29 (cA8u8 r55.2.1)), (oKids l11v11 64 tyhS_api_Node 29 tyA8u8 (fun x : S_api_Node => x.Parts) none l11us11 l11x11)] [(fPtr tyS_api_Item p20 u18), (fDat (tyList tyS_api_Item) [v1_0] a1), uMax]
set_option maxRecDepth 100000 in
set_option maxHeartbeats 2000000 in
set_option maxHeartbeats 2000000 in
theorem f_lumref_plantDir_own_ok (fu : Nat) (a0 : S_api_Way) (v1_0 : Value) (a1 : (List S_api_Item)) (a2 : (List UInt8)) (v3_0 : Value) (a3 : (List S_api_Blob)) {r : ((List S_api_Blob) × A8u8 × Int)} (h : f_lumref_plantDir_own fu a0 a1 a2 a3 = some r) : FnOk Tryz.prog 13 [(ag [(int .i64 a0.Fixed), (int .i64 a0.Cut.Min), (int .i64 a0.Cut.Max), (int .i64 a0.Cut.Bits)]), v1_0, (str a2), v3_0] [(fDat (tyList tyS_api_Item) [v1_0] a1), uMax] [(oRow v3_0 37 tyS_api_Blob a3)] (fun (i : Value) => { val := (Value.tuple #[i, (ag (cA8u8 r.2.1)), (int .i64 r.2.2)]), own := [(oRow i 37 tyS_api_Blob r.1)] }) := by
 cases fu with
 | zero => rw [f_lumref_plantDir_own] at h; cases h
 | succ fu =>
  rw [f_lumref_plantDir_own] at h
  refine fn_enter Tryz.func13 rfl Tryz.ntmps13 rfl (fun w0 Z0 => ?_)
  refine aw_sr ?_
  refine al_box (vs := [(iq a0.Fixed), (iq a0.Cut.Min), (iq a0.Cut.Max), (iq a0.Cut.Bits)]) rfl (cv_rfl rfl) rfl (fun g1 => ?_)
  refine as_ ?_
  refine al_alloc (zs := (cA8u8 zA8u8)) (zeroOf_to to29) rfl rfl (fun g2 => ?_)
  refine an_ ?_
  refine aw_sr ?_
  refine an_ ?_
  obtain ⟨kk4, hkk4, h⟩ := lt_some h
  refine aw_seq_join (ι := Value × (List S_api_Blob) × Value × (List S_api_Node) × (List Value)) (fun i => (memOf w0 Z0 [(oRow v3_0 37 tyS_api_Blob a3)] [(oRow i.1 37 tyS_api_Blob i.2.1), (oBox g2 29 (cA8u8 zA8u8)), (oKids i.2.2.1 64 tyhS_api_Node 29 tyA8u8 (fun x : S_api_Node => x.Parts) none i.2.2.2.2 i.2.2.2.1)] [(fDat (tyList tyS_api_Item) [v1_0] a1), uMax])) (fun i => (tab [(3, i.1), (9, (pq g2)), (11, i.2.2.1)])) (fun i => kk4 i.2.1 i.2.2.2.1 = some r) ?_ ?_
  rintro ⟨j3v3, j3x3, j3v11, j3x11, j3us11⟩ h
  have h : kk4 j3x3 j3x11 = some r := h
  rw [hkk4] at h
  dsimp only at h
  clear hkk4
  refine aw_show (m := (memOf w0 Z0 [(oRow v3_0 37 tyS_api_Blob a3)] [(oRow j3v3 37 tyS_api_Blob j3x3), (oBox g2 29 (cA8u8 zA8u8)), (oKids j3v11 64 tyhS_api_Node 29 tyA8u8 (fun x : S_api_Node => x.Parts) none j3us11 j3x11)] [(fDat (tyList tyS_api_Item) [v1_0] a1), uMax])) (S := _) ?_
  refine sm_ ?_
  obtain ⟨r6, hc5, h⟩ := opt_some h
  refine al_call (vs := [j3v11]) (f_lumref_TreeWrite_ok fu j3v11 j3x11 hc5) [2] [] [0, 1, 2] (pre_kids rfl (fun p q => shS_api_Node p q) 2 rfl rfl (pre_fz 1 rfl pre_nil)) rfl (by simp) (by decide) (.inr flat_res0) rfl Tryz.func29 rfl rfl rfl (fun _ => ?_)
  refine mv_ ?_
  refine al_ex rfl rfl rfl ?_
  refine al_ex rfl rfl rfl ?_
  refine as_ ?_
  refine an_ ?_
  refine aw_seq ?_
  refine sm_ ?_
  refine im_ ?_
  refine aw_cond rfl (fun hb7 => ?_) (fun hb7 => ?_)
  replace h := bif_t hb7 h
  refine aw_sr ?_
  refine al_val (ov_build (cells := ((cA8u8 zA8u8) : List Value).toArray) (cs := (cA8u8 zA8u8)) rfl (fun w a hm hs => by simp only [List.map_toArray, List.map_cons, List.map_nil, List.toList_toArray]; kernel_rfl)) ?_
  refine mv_ ?_
  refine as_ ?_
  refine al_store (i := 1) (vs := (cA8u8 zA8u8)) (cs' := (cA8u8 zA8u8)) rfl rfl rfl sz29 (cv_rfl rfl) rfl (co_all (oneA8u8 zA8u8)) (Nat.le_of_ble_eq_true rfl) rfl rfl ?_
  refine an_ ?_
  refine aw_ret ?_
  refine aq_then_ret ?_
  refine aq_nilR 37 tyS_api_Blob ?_
  cases h
  exact fn_ret nS [0] [] rfl rfl rfl rfl (resC rfl (resT rfl (resB (i := 2) rfl rfl Tryz.underlying29 sz29 rfl rfl rfl (resT rfl (resN)))) rfl) rfl rfl rfl (by decide)
  replace h := bif_f hb7 h
  refine aw_skip ?_
  refine aq_tr ?_
  refine mv_ ?_
  refine mv_ ?_
  refine al_val (ov_build (cells := ([(iq (2 : Int)), (str r6.1)] : List Value).toArray) (cs := [(iq (2 : Int)), (str r6.1)]) rfl (fun w a hm hs => by simp only [List.map_toArray, List.map_cons, List.map_nil, List.toList_toArray, hs.ev (x := .const (iq (2 : Int))) rfl, hs.ev (x := .tmp 124) rfl]; kernel_rfl)) ?_
  obtain ⟨r9, hc8, h⟩ := opt_some h
  refine al_call (vs := [j3v3, (ag [(iq (2 : Int)), (str r6.1)])]) (f_lumref_into_own_ok fu j3v3 j3x3 (S_api_Blob.mk (2 : Int) r6.1) hc8) [] [0] [1, 2] pre_nil rfl (by simp) (by decide) (.inl rfl) rfl Tryz.func28 rfl rfl rfl (fun v10 => ?_)
  refine al_ex rfl rfl rfl ?_
  refine al_ex rfl rfl rfl ?_
  refine al_ex rfl rfl rfl ?_
  refine as_ ?_
  refine al_store (i := 1) (vs := (cA8u8 r9.2.1)) (cs' := (cA8u8 r9.2.1)) rfl rfl rfl sz29 (cv_rfl rfl) rfl (co_all (oneA8u8 r9.2.1)) (Nat.le_of_ble_eq_true rfl) rfl rfl ?_
  refine an_ ?_
  refine aw_ret ?_
  cases h
  exact fn_ret v10 [0] [] rfl rfl rfl rfl (resC rfl (resT rfl (resB (i := 1) rfl rfl Tryz.underlying29 sz29 rfl rfl rfl (resT rfl (resN)))) rfl) rfl rfl rfl (by decide)
  clear hkk4
  refine sm_ ?_
  refine al_val (ov_lenD 0 rfl rfl Tryz.underlying26 rfl) ?_
  refine mv_ ?_
  refine al_nt ?_
  refine aw_block ?_
  refine aw_nilK 64 tyhS_api_Node 29 tyA8u8 (fun x : S_api_Node => x.Parts) ?_
  refine aw_state (aw_loop (ι := Value × (List S_api_Blob) × Value × (List S_api_Node) × (List Value) × Int) (fun i => (mm41 w0 Z0 a0 a1 a3 g1 g2 i.2.2.2.2.1 i.2.2.1 i.1 i.2.2.2.1 i.2.1 v1_0 v3_0)) (fun i => (tab [(1, v1_0), (2, (str a2)), (3, i.1), (4, (pq g1)), (9, (pq g2)), (11, i.2.2.1), (22, v1_0), (23, (iq (a1.length : Int))), (24, (iq i.2.2.2.2.2))])) (fun q i => f_lumref_plantDir_own_L13 (f_lumref_plantDir_own fu) a0 a1 a2 kk4 fu q i.2.1 i.2.2.2.1 i.2.2.2.2.2 = some r) ?_ fu (v3_0, a3, nS, ([] : List S_api_Node), ([] : List Value), (0 : Int)) h) (nm_ [3, 2, 1, 0] [0, 1] (by decide) ⟨rfl, rfl, rfl, rfl, rfl, rfl, rfl, rfl, rfl, trivial⟩)
  clear h
  rintro k12 ⟨l11v3, l11x3, l11v11, l11x11, l11us11, l11i24⟩ h
  have h : f_lumref_plantDir_own_L13 (f_lumref_plantDir_own fu) a0 a1 a2 kk4 fu k12 l11x3 l11x11 l11i24 = some r := h
  obtain _ | k12 := k12
  rw [f_lumref_plantDir_own_L13] at h; cases h
  rw [f_lumref_plantDir_own_L13] at h
  refine aw_show (m := (mm41 w0 Z0 a0 a1 a3 g1 g2 l11us11 l11v11 l11v3 l11x11 l11x3 v1_0 v3_0)) (S := _) ?_
  obtain ⟨kk14, hkk14, h⟩ := lt_some h
  refine aw_body_join (ι := Value × (List S_api_Blob) × Value × (List S_api_Node) × (List Value) × Int) (fun i => (mm41 w0 Z0 a0 a1 a3 g1 g2 i.2.2.2.2.1 i.2.2.1 i.1 i.2.2.2.1 i.2.1 v1_0 v3_0)) (fun i => (tab [(1, v1_0), (2, (str a2)), (3, i.1), (4, (pq g1)), (9, (pq g2)), (11, i.2.2.1), (22, v1_0), (23, (iq (a1.length : Int))), (24, (iq i.2.2.2.2.2))])) (fun i => kk14 i.2.1 i.2.2.2.1 i.2.2.2.2.2 = some r) (fun i h => aq_again k12 i (Nat.lt_succ_self _) (by rw [hkk14] at h; exact h) (fun w a hm hs => ⟨hm, hs⟩)) ?_
  clear hkk14
  refine aw_sr ?_
  refine im_ ?_
  refine aw_seq ?_
  refine aw_cond rfl (fun hb15 => ?_) (fun hb15 => ?_)
  replace h := bif_t hb15 h
  refine aw_skip ?_
  refine aq_then ?_
  obtain ⟨kk17, hkk17, h⟩ := lt_some h
  refine aw_seq_join (ι := Value × (List S_api_Blob) × Value × (List S_api_Node) × (List Value)) (fun i => (mm42 w0 Z0 a0 a1 a3 g1 g2 i.2.2.2.2 i.2.2.1 i.1 i.2.2.2.1 i.2.1 v1_0 v3_0)) (fun i => (tab [(1, v1_0), (2, (str a2)), (3, i.1), (4, (pq g1)), (9, (pq g2)), (11, i.2.2.1), (22, v1_0), (23, (iq (a1.length : Int))), (24, (iq l11i24))])) (fun i => kk17 i.2.1 i.2.2.2.1 = some r) ?_ ?_
  rintro ⟨j16v3, j16x3, j16v11, j16x11, j16us11⟩ h
  have h : kk17 j16x3 j16x11 = some r := h
  rw [hkk17] at h
  dsimp only at h
  clear hkk17
  refine aw_show (m := (mm42 w0 Z0 a0 a1 a3 g1 g2 j16us11 j16v11 j16v3 j16x11 j16x3 v1_0 v3_0)) (S := _) ?_
  refine aw_region ?_
  refine in_ ?_
  refine mv_ ?_
  refine al_nil ?_
  exact aq_join (j16v3, j16x3, j16v11, j16x11, j16us11, (wq (l11i24 + (1 : Int)))) h (nm_ [0, 1, 2, 3] [0, 1] (by decide) ⟨rfl, rfl, rfl, rfl, rfl, rfl, rfl, rfl, rfl, trivial⟩)
  clear hkk17
  refine aw_block ?_
  refine aw_sr ?_
  obtain ⟨u18, hu19, h⟩ := opt_some h
  refine al_idxD 0 hu19 rfl rfl rfl Tryz.underlying26 sz45 rfl (fun p20 => ?_)
  refine al_val (ov_loadP (ds := [(str u18.Path), (iq u18.Kind), (iq u18.Mode), (iq u18.Time), (str u18.Bytes)]) 0 rfl encS_api_Item rfl Tryz.underlying45 sz45 rfl rfl rfl) ?_
  refine al_alloc (zs := [(str ([] : List UInt8)), (iq (0 : Int)), (iq (0 : Int)), (iq (0 : Int)), (str ([] : List UInt8))]) (zeroOf_to to45) rfl rfl (fun g21 => ?_)
  refine al_store (i := 0) (vs := [(str u18.Path), (iq u18.Kind), (iq u18.Mode), (iq u18.Time), (str u18.Bytes)]) (cs' := [(str u18.Path), (iq u18.Kind), (iq u18.Mode), (iq u18.Time), (str u18.Bytes)]) rfl rfl rfl sz45 (cv_rfl rfl) rfl (co_val rfl (co_val rfl (co_val rfl (co_val rfl (co_val rfl co_nil))))) (Nat.le_of_ble_eq_true rfl) rfl rfl ?_
  refine al_nt ?_
  refine aw_sr ?_
  refine al_val (ov_fieldA (p := 0) rfl Tryz.underlying45 rfl sz9 rfl rfl rfl) ?_
  refine al_val (ov_load (i := 0) (v := (str u18.Path)) rfl rfl Tryz.underlying9 sz9 rfl rfl rfl rfl) ?_
  obtain ⟨r23, hc22, h⟩ := opt_some h
  refine al_call (vs := [(str u18.Path), (str ([47] : List UInt8))]) (f_strings_LastIndex_ok fu u18.Path ([47] : List UInt8) hc22) [] [] [0, 1, 2, 3, 4] pre_nil rfl (by simp) (by decide) (.inl rfl) rfl Tryz.func26 rfl rfl rfl (fun _ => ?_)
  refine an_ ?_
  refine aw_seq ?_
  refine aw_sr ?_
  refine al_val (ov_fieldA (p := 0) rfl Tryz.underlying45 rfl sz9 rfl rfl rfl) ?_
  refine al_val (ov_load (i := 0) (v := (str u18.Path)) rfl rfl Tryz.underlying9 sz9 rfl rfl rfl rfl) ?_
  refine mv_ ?_
  obtain ⟨hc24, h⟩ := req_some h
  refine al_val (ov_strTo hc24.1 hc24.2 Tryz.underlying9 rfl rfl rfl) ?_
  refine mv_ ?_
  refine al_val (ov_strCmp rfl rfl rfl rfl) ?_
  refine al_nt ?_
  refine aw_cond rfl (fun hb25 => ?_) (fun hb25 => ?_)
  replace h := bif_t hb25 h
  refine aw_exit ?_
  refine aq_then_exit ?_
  refine aq_block_exit ?_
  exact aq_join (l11v3, l11x3, l11v11, l11x11, l11us11) h (nm_ [1, 2, 3, 4] [1, 2] (by decide) ⟨rfl, rfl, rfl, rfl, rfl, rfl, rfl, rfl, rfl, trivial⟩)
  replace h := bif_f hb25 h
  refine aw_skip ?_
  refine aq_then ?_
  refine aw_seq ?_
  obtain ⟨hc26, h⟩ := req_some h
  refine aw_region_open [(sp_ 0 37 (pq g21)), (sp_ 1 38 (str u18.Path)), (sp_ 2 39 (iq r23)), (sp_ 3 40 (iq (wq (r23 + (1 : Int))))), (sp_ 4 41 (str (u18.Path.drop ((wq (r23 + (1 : Int)))).toNat))), (sp_ 5 42 (ptr g21 1)), (sp_ 6 43 (iq u18.Kind)), (sp_ 7 44 (ptr g21 2)), (sp_ 8 45 (iq u18.Mode)), (sp_ 9 46 (ptr g21 3)), (sp_ 10 47 (iq u18.Time)), (sp_ 11 48 (ag [(str (u18.Path.drop ((wq (r23 + (1 : Int)))).toNat)), (iq u18.Kind), (iq u18.Mode), (iq u18.Time), (iq (0 : Int)), nS, (str ([] : List UInt8))])), ⟨12, 15, Nat, fun (i : Nat) => { val := (pq i), own := [(oBox i 64 [(str ([] : List UInt8)), (iq (0 : Int)), (iq (0 : Int)), (iq (0 : Int)), (iq (0 : Int)), nS, (str ([] : List UInt8))])] }⟩] (tab [(1, v1_0), (2, (str a2)), (3, l11v3), (4, (pq g1)), (9, (pq g2)), (11, l11v11), (13, (pq g21)), (14, (iq r23)), (22, v1_0), (23, (iq (a1.length : Int))), (24, (iq l11i24))]) mixed (fun a hs => hs.tab _ (allT_mem ⟨rfl, rfl, rfl, rfl, rfl, rfl, rfl, rfl, rfl, rfl, rfl, trivial⟩)) ?_
  refine ta_show (m := (mm43 w0 Z0 a0 a1 a3 g1 g2 g21 l11us11 l11v11 l11v3 l11x11 l11x3 p20 u18 v1_0 v3_0)) (S := _) ?_
  refine ta_step 13 _ [0, 1, 2, 3, 4, 5, 6, 7, 8, 9, 10, 11, 12] [37, 38, 39, 40, 41, 42, 43, 44, 45, 46, 47, 48, 15] [0, 1, 2, 3, 4, 5, 6, 7, 8, 9, 10, 11, 12] [] [(sp_ 0 37 (pq g21)), (sp_ 1 38 (str u18.Path)), (sp_ 2 39 (iq r23)), (sp_ 3 40 (iq (wq (r23 + (1 : Int))))), (sp_ 4 41 (str (u18.Path.drop ((wq (r23 + (1 : Int)))).toNat))), (sp_ 5 42 (ptr g21 1)), (sp_ 6 43 (iq u18.Kind)), (sp_ 7 44 (ptr g21 2)), (sp_ 8 45 (iq u18.Mode)), (sp_ 9 46 (ptr g21 3)), (sp_ 10 47 (iq u18.Time)), (sp_ 11 48 (ag [(str (u18.Path.drop ((wq (r23 + (1 : Int)))).toNat)), (iq u18.Kind), (iq u18.Mode), (iq u18.Time), (iq (0 : Int)), nS, (str ([] : List UInt8))])), ⟨12, 15, Nat, fun (i : Nat) => { val := (pq i), own := [(oBox i 64 [(str ([] : List UInt8)), (iq (0 : Int)), (iq (0 : Int)), (iq (0 : Int)), (iq (0 : Int)), nS, (str ([] : List UInt8))])] }⟩] [] rfl rfl rfl (by kernel_rfl) rfl rfl rfl ⟨⟨_, rfl, [], rfl, by
   intro X_ Y_ F_ K_ hK_
   refine sh_ (mm43 w0 Z0 a0 a1 a3 g1 g2 g21 l11us11 l11v11 l11v3 l11x11 l11x3 p20 u18 v1_0 v3_0) X_ Y_ ?_
   refine al_val (ov_fieldA (p := 0) rfl Tryz.underlying45 rfl sz9 rfl rfl rfl) ?_
   refine al_nil ?_
   exact fr_fin hK_ ()⟩, ⟨_, rfl, [0], rfl, by
   intro _
   intro X_ Y_ F_ K_ hK_
   refine sh_ (mm43 w0 Z0 a0 a1 a3 g1 g2 g21 l11us11 l11v11 l11v3 l11x11 l11x3 p20 u18 v1_0 v3_0) X_ Y_ ?_
   refine al_val (ov_load (i := 0) (v := (str u18.Path)) rfl rfl Tryz.underlying9 sz9 rfl rfl rfl rfl) ?_
   refine al_nil ?_
   exact fr_fin hK_ ()⟩, ⟨_, rfl, [], rfl, by
   intro X_ Y_ F_ K_ hK_
   refine sh_ (mm43 w0 Z0 a0 a1 a3 g1 g2 g21 l11us11 l11v11 l11v3 l11x11 l11x3 p20 u18 v1_0 v3_0) X_ Y_ ?_
   refine mv_ ?_
   refine al_nil ?_
   exact fr_fin hK_ ()⟩, ⟨_, rfl, [2], rfl, by
   intro _
   intro X_ Y_ F_ K_ hK_
   refine sh_ (mm43 w0 Z0 a0 a1 a3 g1 g2 g21 l11us11 l11v11 l11v3 l11x11 l11x3 p20 u18 v1_0 v3_0) X_ Y_ ?_
   refine in_ ?_
   refine al_nil ?_
   exact fr_fin hK_ ()⟩, ⟨_, rfl, [1, 3], rfl, by
   intro _
   intro _
   intro X_ Y_ F_ K_ hK_
   refine sh_ (mm43 w0 Z0 a0 a1 a3 g1 g2 g21 l11us11 l11v11 l11v3 l11x11 l11x3 p20 u18 v1_0 v3_0) X_ Y_ ?_
   refine al_val (ov_strFrom hc26.1 hc26.2 Tryz.underlying9 rfl rfl rfl) ?_
   refine al_nil ?_
   exact fr_fin hK_ ()⟩, ⟨_, rfl, [], rfl, by
   intro X_ Y_ F_ K_ hK_
   refine sh_ (mm43 w0 Z0 a0 a1 a3 g1 g2 g21 l11us11 l11v11 l11v3 l11x11 l11x3 p20 u18 v1_0 v3_0) X_ Y_ ?_
   refine al_val (ov_fieldA (p := 1) rfl Tryz.underlying45 rfl sz3 rfl rfl rfl) ?_
   refine al_nil ?_
   exact fr_fin hK_ ()⟩, ⟨_, rfl, [5], rfl, by
   intro _
   intro X_ Y_ F_ K_ hK_
   refine sh_ (mm43 w0 Z0 a0 a1 a3 g1 g2 g21 l11us11 l11v11 l11v3 l11x11 l11x3 p20 u18 v1_0 v3_0) X_ Y_ ?_
   refine al_val (ov_load (i := 0) (v := (iq u18.Kind)) rfl rfl Tryz.underlying3 sz3 rfl rfl rfl rfl) ?_
   refine al_nil ?_
   exact fr_fin hK_ ()⟩, ⟨_, rfl, [], rfl, by
   intro X_ Y_ F_ K_ hK_
   refine sh_ (mm43 w0 Z0 a0 a1 a3 g1 g2 g21 l11us11 l11v11 l11v3 l11x11 l11x3 p20 u18 v1_0 v3_0) X_ Y_ ?_
   refine al_val (ov_fieldA (p := 2) rfl Tryz.underlying45 rfl sz3 rfl rfl rfl) ?_
   refine al_nil ?_
   exact fr_fin hK_ ()⟩, ⟨_, rfl, [7], rfl, by
   intro _
   intro X_ Y_ F_ K_ hK_
   refine sh_ (mm43 w0 Z0 a0 a1 a3 g1 g2 g21 l11us11 l11v11 l11v3 l11x11 l11x3 p20 u18 v1_0 v3_0) X_ Y_ ?_
   refine al_val (ov_load (i := 0) (v := (iq u18.Mode)) rfl rfl Tryz.underlying3 sz3 rfl rfl rfl rfl) ?_
   refine al_nil ?_
   exact fr_fin hK_ ()⟩, ⟨_, rfl, [], rfl, by
   intro X_ Y_ F_ K_ hK_
   refine sh_ (mm43 w0 Z0 a0 a1 a3 g1 g2 g21 l11us11 l11v11 l11v3 l11x11 l11x3 p20 u18 v1_0 v3_0) X_ Y_ ?_
   refine al_val (ov_fieldA (p := 3) rfl Tryz.underlying45 rfl sz3 rfl rfl rfl) ?_
   refine al_nil ?_
   exact fr_fin hK_ ()⟩, ⟨_, rfl, [9], rfl, by
   intro _
   intro X_ Y_ F_ K_ hK_
   refine sh_ (mm43 w0 Z0 a0 a1 a3 g1 g2 g21 l11us11 l11v11 l11v3 l11x11 l11x3 p20 u18 v1_0 v3_0) X_ Y_ ?_
   refine al_val (ov_load (i := 0) (v := (iq u18.Time)) rfl rfl Tryz.underlying3 sz3 rfl rfl rfl rfl) ?_
   refine al_nil ?_
   exact fr_fin hK_ ()⟩, ⟨_, rfl, [4, 6, 8, 10], rfl, by
   intro _
   intro _
   intro _
   intro _
   intro X_ Y_ F_ K_ hK_
   refine sh_ (mm43 w0 Z0 a0 a1 a3 g1 g2 g21 l11us11 l11v11 l11v3 l11x11 l11x3 p20 u18 v1_0 v3_0) X_ Y_ ?_
   refine al_val (ov_build (cells := ([(str (u18.Path.drop ((wq (r23 + (1 : Int)))).toNat)), (iq u18.Kind), (iq u18.Mode), (iq u18.Time), (iq (0 : Int)), nS, (str ([] : List UInt8))] : List Value).toArray) (cs := [(str (u18.Path.drop ((wq (r23 + (1 : Int)))).toNat)), (iq u18.Kind), (iq u18.Mode), (iq u18.Time), (iq (0 : Int)), nS, (str ([] : List UInt8))]) rfl (fun w a hm hs => by simp only [List.map_toArray, List.map_cons, List.map_nil, List.toList_toArray, hs.ev (x := .tmp 41) rfl, hs.ev (x := .tmp 43) rfl, hs.ev (x := .tmp 45) rfl, hs.ev (x := .tmp 47) rfl]; kernel_rfl)) ?_
   refine al_nil ?_
   exact fr_fin hK_ ()⟩, ⟨_, rfl, [], rfl, by
   intro X_ Y_ F_ K_ hK_
   refine sh_ (mm43 w0 Z0 a0 a1 a3 g1 g2 g21 l11us11 l11v11 l11v3 l11x11 l11x3 p20 u18 v1_0 v3_0) X_ Y_ ?_
   refine al_alloc (zs := [(str ([] : List UInt8)), (iq (0 : Int)), (iq (0 : Int)), (iq (0 : Int)), (iq (0 : Int)), nS, (str ([] : List UInt8))]) (zeroOf_to to64) rfl rfl (fun g27 => ?_)
   refine al_nil ?_
   exact fr_fin hK_ g27⟩, trivial⟩ ?_
  intro _
  intro _
  intro _
  intro _
  intro _
  intro _
  intro _
  intro _
  intro _
  intro _
  intro _
  intro _
  intro g27
  intro X_ Y_ F_ K_ hK_
  refine sh_ (memOf w0 Z0 [(oRow v3_0 37 tyS_api_Blob a3)] [(oBox g27 64 [(str ([] : List UInt8)), (iq (0 : Int)), (iq (0 : Int)), (iq (0 : Int)), (iq (0 : Int)), nS, (str ([] : List UInt8))]), (oBox g21 45 [(str u18.Path), (iq u18.Kind), (iq u18.Mode), (iq u18.Time), (str u18.Bytes)]), (oRow l11v3 37 tyS_api_Blob l11x3), (oBox g1 25 [(iq a0.Fixed), (iq a0.Cut.Min), (iq a0.Cut.Max), (iq a0.Cut.Bits)]), (oBox g2 29 (cA8u8 zA8u8)), (oKids l11v11 64 tyhS_api_Node 29 tyA8u8 (fun x : S_api_Node => x.Parts) none l11us11 l11x11)] [(fPtr tyS_api_Item p20 u18), (fDat (tyList tyS_api_Item) [v1_0] a1), uMax]) X_ Y_ ?_
  refine al_store (i := 0) (vs := [(str (u18.Path.drop ((wq (r23 + (1 : Int)))).toNat)), (iq u18.Kind), (iq u18.Mode), (iq u18.Time), (iq (0 : Int)), nS, (str ([] : List UInt8))]) (cs' := [(str (u18.Path.drop ((wq (r23 + (1 : Int)))).toNat)), (iq u18.Kind), (iq u18.Mode), (iq u18.Time), (iq (0 : Int)), nS, (str ([] : List UInt8))]) rfl rfl rfl sz64 (cv_rfl rfl) rfl (co_val rfl (co_val rfl (co_val rfl (co_val rfl (co_val rfl (co_val rfl (co_val rfl co_nil))))))) (Nat.le_of_ble_eq_true rfl) rfl rfl ?_
  refine al_nil ?_
  refine aq_show (m := Mem.plus (mm44 w0 Z0 a0 a1 a3 g1 g2 g21 g27 l11us11 l11v11 l11v3 l11x11 l11x3 p20 r23 u18 v1_0 v3_0) X_ Y_) ?_
  refine aq_next hK_ [0, 1, 2, 3, 4, 5] [0, 1, 2] [(1, v1_0), (2, (str a2)), (3, l11v3), (4, (pq g1)), (9, (pq g2)), (11, l11v11), (13, (pq g21)), (15, (pq g27)), (22, v1_0), (23, (iq (a1.length : Int))), (24, (iq l11i24))] [] [] rfl rfl (by decide) rfl ⟨rfl, rfl, rfl, rfl, rfl, rfl, rfl, rfl, rfl, rfl, rfl, trivial⟩ trivial ?_
  clear hK_ K_ F_ X_ Y_
  refine ta_show (m := (mm44 w0 Z0 a0 a1 a3 g1 g2 g21 g27 l11us11 l11v11 l11v3 l11x11 l11x3 p20 r23 u18 v1_0 v3_0)) (S := _) ?_
  refine ta_end [] [] rfl rfl (by kernel_rfl) rfl trivial ?_
  refine aq_show (m := (mm44 w0 Z0 a0 a1 a3 g1 g2 g21 g27 l11us11 l11v11 l11v3 l11x11 l11x3 p20 r23 u18 v1_0 v3_0)) (S := (tab [(1, v1_0), (2, (str a2)), (3, l11v3), (4, (pq g1)), (9, (pq g2)), (11, l11v11), (13, (pq g21)), (15, (pq g27)), (22, v1_0), (23, (iq (a1.length : Int))), (24, (iq l11i24))])) ?_
  refine aq_tr ?_
  refine an_ ?_
  refine aw_sr ?_
  refine al_alloc (zs := (cA8u8 zA8u8)) (zeroOf_to to29) rfl rfl (fun g28 => ?_)
  refine al_nt ?_
  obtain ⟨kk30, hkk30, h⟩ := lt_some h
  refine aw_seq_join (ι := Value × (List S_api_Blob) × Int × Value × (List A8u8) × (List UInt8)) (fun i => (mm45 w0 Z0 a0 a1 a3 g1 g2 g27 i.2.2.1 i.2.2.2.2.2 i.2.2.2.1 i.1 i.2.2.2.2.1 i.2.1 l11us11 l11v11 l11x11 p20 r23 u18 v1_0 v3_0)) (fun i => (tab [(1, v1_0), (2, (str a2)), (3, i.1), (4, (pq g1)), (9, (pq g2)), (11, l11v11), (15, (pq g27)), (22, v1_0), (23, (iq (a1.length : Int))), (24, (iq l11i24))])) (fun i => kk30 i.2.1 i.2.2.1 i.2.2.2.2.1 i.2.2.2.2.2 = some r) ?_ ?_
  rintro ⟨j29v3, j29x3, j29i15_4, j29v15_5, j29x15_5, j29s15_6⟩ h
  have h : kk30 j29x3 j29i15_4 j29x15_5 j29s15_6 = some r := h
  rw [hkk30] at h
  dsimp only at h
  clear hkk30
  refine aw_show (m := (mm45 w0 Z0 a0 a1 a3 g1 g2 g27 j29i15_4 j29s15_6 j29v15_5 j29v3 j29x15_5 j29x3 l11us11 l11v11 l11x11 p20 r23 u18 v1_0 v3_0)) (S := _) ?_
  refine aw_region ?_
  refine mv_ ?_
  refine al_val (ov_load (i := 5) (v := (ag [(str (u18.Path.drop ((wq (r23 + (1 : Int)))).toNat)), (iq u18.Kind), (iq u18.Mode), (iq u18.Time), (iq j29i15_4), j29v15_5, (str j29s15_6)])) rfl rfl Tryz.underlying64 sz64 rfl rfl rfl rfl) ?_
  refine al_reo [4, 0, 1, 2, 3, 5] (by decide) ?_
  refine al_buildSliceK (x := (S_api_Node.mk (u18.Path.drop ((wq (r23 + (1 : Int)))).toNat) u18.Kind u18.Mode u18.Time j29i15_4 j29x15_5 j29s15_6)) (u := j29v15_5) (eb := 29) (τk := tyA8u8) (kd := (fun x : S_api_Node => x.Parts)) (τh := tyhS_api_Node) (e := 64) (cs := [(str (u18.Path.drop ((wq (r23 + (1 : Int)))).toNat)), (iq u18.Kind), (iq u18.Mode), (iq u18.Time), (iq j29i15_4), j29v15_5, (str j29s15_6)]) rfl (fun w a hm hs => ⟨([(str (u18.Path.drop ((wq (r23 + (1 : Int)))).toNat)), (iq u18.Kind), (iq u18.Mode), (iq u18.Time), (iq j29i15_4), j29v15_5, (str j29s15_6)]).toArray, rfl, by simp only [List.map_toArray, List.map_cons, List.map_nil, hs.ev (x := .tmp 110) rfl]; exact run_bs [(ag [(str (u18.Path.drop ((wq (r23 + (1 : Int)))).toNat)), (iq u18.Kind), (iq u18.Mode), (iq u18.Time), (iq j29i15_4), j29v15_5, (str j29s15_6)])] [(str (u18.Path.drop ((wq (r23 + (1 : Int)))).toNat)), (iq u18.Kind), (iq u18.Mode), (iq u18.Time), (iq j29i15_4), j29v15_5, (str j29s15_6)] Tryz.underlying61 to64 rfl rfl (bs_cons (l := [(str (u18.Path.drop ((wq (r23 + (1 : Int)))).toNat)), (iq u18.Kind), (iq u18.Mode), (iq u18.Time), (iq j29i15_4), j29v15_5, (str j29s15_6)]) (cs := []) (cv_rfl rfl) rfl bs_nil) hm⟩) (fun hu => mkhS_api_Node (x := (S_api_Node.mk (u18.Path.drop ((wq (r23 + (1 : Int)))).toNat) u18.Kind u18.Mode u18.Time j29i15_4 j29x15_5 j29s15_6)) rfl hu) rfl (fun v31 => ?_)
  refine al_reo [4, 0, 1, 2, 3, 5] (by decide) ?_
  obtain ⟨hc33, h⟩ := req_some h
  refine al_appendK hc33.1 hc33.2 rfl rfl rfl Tryz.underlying61 to64 rfl rfl rfl (fun v32 => ?_)
  refine as_ ?_
  refine al_nil ?_
  refine aq_block ?_
  exact aq_join (j29v3, j29x3, v32, (l11x11 ++ ([(S_api_Node.mk (u18.Path.drop ((wq (r23 + (1 : Int)))).toNat) u18.Kind u18.Mode u18.Time j29i15_4 j29x15_5 j29s15_6)])), (l11us11 ++ ([j29v15_5]))) h (nm_ [1, 2, 3, 0] [0, 2] (by decide) ⟨rfl, rfl, rfl, rfl, rfl, rfl, rfl, rfl, rfl, trivial⟩)
  clear hkk30
  refine aw_sr ?_
  refine al_val (ov_fieldA (p := 1) rfl Tryz.underlying45 rfl sz3 rfl rfl rfl) ?_
  refine al_val (ov_load (i := 2) (v := (iq u18.Kind)) rfl rfl Tryz.underlying3 sz3 rfl rfl rfl rfl) ?_
  refine al_nt ?_
  refine aw_block ?_
  refine aw_sr ?_
  refine in_ ?_
  refine an_ ?_
  refine aw_cond rfl (fun hb34 => ?_) (fun hb34 => ?_)
  replace h := bif_t hb34 h
  refine aw_sr ?_
  refine al_val (ov_fieldA (p := 4) rfl Tryz.underlying45 rfl sz9 rfl rfl rfl) ?_
  refine al_val (ov_load (i := 2) (v := (str u18.Bytes)) rfl rfl Tryz.underlying9 sz9 rfl rfl rfl rfl) ?_
  refine al_val (ov_strLen Tryz.underlying9 rfl rfl) ?_
  refine al_val (ov_fieldA (p := 4) rfl Tryz.underlying64 rfl sz3 rfl rfl rfl) ?_
  refine al_store (i := 1) (vs := [(iq (u18.Bytes.length : Int))]) (cs' := [(str (u18.Path.drop ((wq (r23 + (1 : Int)))).toNat)), (iq u18.Kind), (iq u18.Mode), (iq u18.Time), (iq (u18.Bytes.length : Int)), nS, (str ([] : List UInt8))]) rfl rfl rfl sz3 (cv_rfl rfl) rfl (co_val rfl co_nil) (Nat.le_of_ble_eq_true rfl) rfl rfl ?_
  refine al_nt ?_
  refine aw_sr ?_
  refine al_val (ov_load (i := 4) (v := (ag [(iq a0.Fixed), (iq a0.Cut.Min), (iq a0.Cut.Max), (iq a0.Cut.Bits)])) rfl rfl Tryz.underlying25 sz25 rfl rfl rfl rfl) ?_
  refine al_val (ov_fieldA (p := 4) rfl Tryz.underlying45 rfl sz9 rfl rfl rfl) ?_
  refine al_val (ov_load (i := 2) (v := (str u18.Bytes)) rfl rfl Tryz.underlying9 sz9 rfl rfl rfl rfl) ?_
  obtain ⟨r36, hc35, h⟩ := opt_some h
  refine al_call (vs := [(ag [(iq a0.Fixed), (iq a0.Cut.Min), (iq a0.Cut.Max), (iq a0.Cut.Bits)]), (str u18.Bytes)]) (f_lumref_PiecesOf_ok fu a0 u18.Bytes hc35) [] [] [0, 1, 2, 3, 4, 5, 6] pre_nil rfl (by simp) (by decide) (.inl rfl) rfl Tryz.func27 rfl rfl rfl (fun v37 => ?_)
  refine al_val (ov_lenR 0 rfl rfl Tryz.underlying54 rfl) ?_
  refine mv_ ?_
  refine al_nt ?_
  refine aw_block ?_
  refine aw_nilR 29 tyA8u8 ?_
  refine aw_state (aw_loop (ι := Value × (List S_api_Blob) × Value × (List A8u8) × A8u8 × Int) (fun i => (mm46 w0 Z0 a0 a1 a3 g1 g2 g27 g28 l11us11 l11v11 l11x11 i.2.2.2.2.1 i.2.2.1 i.1 i.2.2.2.1 i.2.1 p20 r23 r36 u18 v1_0 v37 v3_0)) (fun i => (tab [(1, v1_0), (2, (str a2)), (3, i.1), (4, (pq g1)), (9, (pq g2)), (11, l11v11), (15, (pq g27)), (17, (pq g28)), (22, v1_0), (23, (iq (a1.length : Int))), (24, (iq l11i24)), (60, v37), (61, (iq (r36.length : Int))), (62, (iq i.2.2.2.2.2))])) (fun q i => f_lumref_plantDir_own_L40 u18 kk30 r36 fu q i.2.1 i.2.2.2.1 i.2.2.2.2.1 i.2.2.2.2.2 = some r) ?_ fu (l11v3, l11x3, nS, ([] : List A8u8), zA8u8, (0 : Int)) h) (nm_ [5, 6, 7, 8, 0, 3, 2, 1] [1, 0, 2] (by decide) ⟨rfl, rfl, rfl, rfl, rfl, rfl, rfl, rfl, rfl, rfl, rfl, rfl, rfl, rfl, trivial⟩)
  clear h
  rintro k39 ⟨l38v3, l38x3, l38v15_5, l38x15_5, l38A17_0, l38i62⟩ h
  have h : f_lumref_plantDir_own_L40 u18 kk30 r36 fu k39 l38x3 l38x15_5 l38A17_0 l38i62 = some r := h
  obtain _ | k39 := k39
  rw [f_lumref_plantDir_own_L40] at h; cases h
  rw [f_lumref_plantDir_own_L40] at h
  refine aw_show (m := (mm46 w0 Z0 a0 a1 a3 g1 g2 g27 g28 l11us11 l11v11 l11x11 l38A17_0 l38v15_5 l38v3 l38x15_5 l38x3 p20 r23 r36 u18 v1_0 v37 v3_0)) (S := _) ?_
  refine aw_sr ?_
  refine im_ ?_
  refine aw_seq ?_
  refine aw_cond rfl (fun hb41 => ?_) (fun hb41 => ?_)
  replace h := bif_t hb41 h
  refine aw_skip ?_
  refine aq_then ?_
  refine aw_seq ?_
  refine aw_block ?_
  refine aw_sr ?_
  obtain ⟨u42, hu43, h⟩ := opt_some h
  refine al_idxR 7 (at_some hu43).1 (at_some hu43).2.1 rfl rfl rfl Tryz.underlying54 sz9 rfl (fun p44 hp45 => ?_)
  refine al_val (ov_loadR (ds := [(str u42)]) 7 rfl hp45 (at_some hu43).2.2 (fun h => h) rfl Tryz.underlying9 sz9 rfl rfl rfl) ?_
  refine an_ ?_
  refine aw_seq ?_
  refine sm_ ?_
  refine mv_ ?_
  refine al_val (ov_build (cells := ([(iq (1 : Int)), (str u42)] : List Value).toArray) (cs := [(iq (1 : Int)), (str u42)]) rfl (fun w a hm hs => by simp only [List.map_toArray, List.map_cons, List.map_nil, List.toList_toArray, hs.ev (x := .const (iq (1 : Int))) rfl, hs.ev (x := .tmp 68) rfl]; kernel_rfl)) ?_
  obtain ⟨r47, hc46, h⟩ := opt_some h
  refine al_call (vs := [l38v3, (ag [(iq (1 : Int)), (str u42)])]) (f_lumref_into_own_ok fu l38v3 l38x3 (S_api_Blob.mk (1 : Int) u42) hc46) [] [0] [1, 2, 3, 4, 5, 6, 7] pre_nil rfl (by simp) (by decide) (.inl rfl) rfl Tryz.func28 rfl rfl rfl (fun v48 => ?_)
  refine mv_ ?_
  refine al_ex rfl rfl rfl ?_
  refine al_ex rfl rfl rfl ?_
  refine al_ex rfl rfl rfl ?_
  refine as_ ?_
  refine al_store (i := 6) (vs := (cA8u8 r47.2.1)) (cs' := (cA8u8 r47.2.1)) rfl rfl rfl sz29 (cv_rfl rfl) rfl (co_all (oneA8u8 r47.2.1)) (Nat.le_of_ble_eq_true rfl) rfl rfl ?_
  refine an_ ?_
  refine sm_ ?_
  refine im_ ?_
  refine aw_cond rfl (fun hb49 => ?_) (fun hb49 => ?_)
  replace h := bif_t hb49 h
  refine aw_seq ?_
  refine aw_region_open [(sp_ 0 76 (ag (cA8u8 r47.2.1))), (sp_ 1 77 (iq r47.2.2))] (tab [(9, (pq g2)), (16, (iq r47.2.2)), (17, (pq g28))]) mixed (fun a hs => hs.tab _ (allT_mem ⟨rfl, rfl, rfl, trivial⟩)) ?_
  refine ta_show (m := (mm47 w0 Z0 a0 a1 a3 g1 g2 g27 g28 l11us11 l11v11 l11x11 l38v15_5 l38x15_5 p20 r23 r36 r47 u18 v1_0 v37 v3_0 v48)) (S := _) ?_
  refine ta_step 2 _ [0, 1] [76, 77] [] [] [] [(sp_ 0 76 (ag (cA8u8 r47.2.1))), (sp_ 1 77 (iq r47.2.2))] rfl rfl rfl (by kernel_rfl) rfl rfl rfl ⟨⟨_, rfl, [], rfl, by
   intro X_ Y_ F_ K_ hK_
   refine sh_ (mm47 w0 Z0 a0 a1 a3 g1 g2 g27 g28 l11us11 l11v11 l11x11 l38v15_5 l38x15_5 p20 r23 r36 r47 u18 v1_0 v37 v3_0 v48) X_ Y_ ?_
   refine al_val (ov_load (i := 6) (v := (ag (cA8u8 r47.2.1))) rfl rfl Tryz.underlying29 sz29 rfl rfl rfl rfl) ?_
   refine al_nil ?_
   exact fr_fin hK_ ()⟩, ⟨_, rfl, [], rfl, by
   intro X_ Y_ F_ K_ hK_
   refine sh_ (mm47 w0 Z0 a0 a1 a3 g1 g2 g27 g28 l11us11 l11v11 l11x11 l38v15_5 l38x15_5 p20 r23 r36 r47 u18 v1_0 v37 v3_0 v48) X_ Y_ ?_
   refine mv_ ?_
   refine al_nil ?_
   exact fr_fin hK_ ()⟩, trivial⟩ ?_
  intro X_ Y_ F_ K_ hK_
  refine sh_ (mm47 w0 Z0 a0 a1 a3 g1 g2 g27 g28 l11us11 l11v11 l11x11 l38v15_5 l38x15_5 p20 r23 r36 r47 u18 v1_0 v37 v3_0 v48) X_ Y_ ?_
  refine as_ ?_
  refine al_nil ?_
  refine aq_show (m := Mem.plus (mm47 w0 Z0 a0 a1 a3 g1 g2 g27 g28 l11us11 l11v11 l11x11 l38v15_5 l38x15_5 p20 r23 r36 r47 u18 v1_0 v37 v3_0 v48) X_ Y_) ?_
  refine aq_next hK_ [0, 1, 2, 3, 4, 5, 6, 7] [0, 1, 2] [(8, nS), (9, (pq g2)), (16, (iq r47.2.2)), (17, (pq g28))] [76, 77] [] rfl rfl (by decide) rfl ⟨rfl, rfl, rfl, rfl, trivial⟩ ⟨rfl, rfl, trivial⟩ ?_
  clear hK_ K_ F_ X_ Y_
  refine ta_show (m := (mm47 w0 Z0 a0 a1 a3 g1 g2 g27 g28 l11us11 l11v11 l11x11 l38v15_5 l38x15_5 p20 r23 r36 r47 u18 v1_0 v37 v3_0 v48)) (S := _) ?_
  refine ta_step 3 _ [0, 1] [76, 77] [0] [] [(sp_ 0 76 (ag (cA8u8 r47.2.1)))] [(sp_ 1 77 (iq r47.2.2))] rfl rfl rfl (by kernel_rfl) rfl rfl rfl ⟨⟨_, rfl, [], rfl, by
   intro X_ Y_ F_ K_ hK_
   refine sh_ (mm47 w0 Z0 a0 a1 a3 g1 g2 g27 g28 l11us11 l11v11 l11x11 l38v15_5 l38x15_5 p20 r23 r36 r47 u18 v1_0 v37 v3_0 v48) X_ Y_ ?_
   refine al_val (ov_load (i := 6) (v := (ag (cA8u8 r47.2.1))) rfl rfl Tryz.underlying29 sz29 rfl rfl rfl rfl) ?_
   refine al_nil ?_
   exact fr_fin hK_ ()⟩, ⟨_, rfl, [], rfl, by
   intro X_ Y_ F_ K_ hK_
   refine sh_ (mm47 w0 Z0 a0 a1 a3 g1 g2 g27 g28 l11us11 l11v11 l11x11 l38v15_5 l38x15_5 p20 r23 r36 r47 u18 v1_0 v37 v3_0 v48) X_ Y_ ?_
   refine mv_ ?_
   refine al_nil ?_
   exact fr_fin hK_ ()⟩, trivial⟩ ?_
  intro _
  intro X_ Y_ F_ K_ hK_
  refine sh_ (mm47 w0 Z0 a0 a1 a3 g1 g2 g27 g28 l11us11 l11v11 l11x11 l38v15_5 l38x15_5 p20 r23 r36 r47 u18 v1_0 v37 v3_0 v48) X_ Y_ ?_
  refine al_store (i := 2) (vs := (cA8u8 r47.2.1)) (cs' := (cA8u8 r47.2.1)) rfl rfl rfl sz29 (cv_rfl rfl) rfl (co_all (oneA8u8 r47.2.1)) (Nat.le_of_ble_eq_true rfl) rfl rfl ?_
  refine al_nil ?_
  refine aq_show (m := Mem.plus (mm48 w0 Z0 a0 a1 a3 g1 g2 g27 g28 l11us11 l11v11 l11x11 l38v15_5 l38x15_5 p20 r23 r36 r47 u18 v1_0 v37 v3_0 v48) X_ Y_) ?_
  refine aq_next hK_ [0, 1, 2, 3, 4, 5, 6, 7] [0, 1, 2] [(8, nS), (9, (pq g2)), (16, (iq r47.2.2))] [77] [] rfl rfl (by decide) rfl ⟨rfl, rfl, rfl, trivial⟩ ⟨rfl, trivial⟩ ?_
  clear hK_ K_ F_ X_ Y_
  refine ta_show (m := (mm48 w0 Z0 a0 a1 a3 g1 g2 g27 g28 l11us11 l11v11 l11x11 l38v15_5 l38x15_5 p20 r23 r36 r47 u18 v1_0 v37 v3_0 v48)) (S := _) ?_
  refine ta_step 4 _ [1] [77] [1] [] [(sp_ 1 77 (iq r47.2.2))] [] rfl rfl rfl (by kernel_rfl) rfl rfl rfl ⟨⟨_, rfl, [], rfl, by
   intro X_ Y_ F_ K_ hK_
   refine sh_ (mm48 w0 Z0 a0 a1 a3 g1 g2 g27 g28 l11us11 l11v11 l11x11 l38v15_5 l38x15_5 p20 r23 r36 r47 u18 v1_0 v37 v3_0 v48) X_ Y_ ?_
   refine mv_ ?_
   refine al_nil ?_
   exact fr_fin hK_ ()⟩, trivial⟩ ?_
  intro _
  intro X_ Y_ F_ K_ hK_
  refine sh_ (mm48 w0 Z0 a0 a1 a3 g1 g2 g27 g28 l11us11 l11v11 l11x11 l38v15_5 l38x15_5 p20 r23 r36 r47 u18 v1_0 v37 v3_0 v48) X_ Y_ ?_
  refine as_ ?_
  refine al_nil ?_
  refine aq_show (m := Mem.plus (mm48 w0 Z0 a0 a1 a3 g1 g2 g27 g28 l11us11 l11v11 l11x11 l38v15_5 l38x15_5 p20 r23 r36 r47 u18 v1_0 v37 v3_0 v48) X_ Y_) ?_
  refine aq_next hK_ [0, 1, 2, 3, 4, 5, 6, 7] [0, 1, 2] [(8, nS), (9, (pq g2)), (10, (iq r47.2.2))] [] [] rfl rfl (by decide) rfl ⟨rfl, rfl, rfl, trivial⟩ trivial ?_
  clear hK_ K_ F_ X_ Y_
  refine ta_show (m := (mm48 w0 Z0 a0 a1 a3 g1 g2 g27 g28 l11us11 l11v11 l11x11 l38v15_5 l38x15_5 p20 r23 r36 r47 u18 v1_0 v37 v3_0 v48)) (S := _) ?_
  refine ta_end [] [] rfl rfl (by kernel_rfl) rfl trivial ?_
  refine aq_show (m := (mm48 w0 Z0 a0 a1 a3 g1 g2 g27 g28 l11us11 l11v11 l11x11 l38v15_5 l38x15_5 p20 r23 r36 r47 u18 v1_0 v37 v3_0 v48)) (S := (tab [(8, nS), (9, (pq g2)), (10, (iq r47.2.2))])) ?_
  refine aq_then ?_
  refine aw_ret ?_
  refine aq_then_ret ?_
  refine aq_block_ret ?_
  refine aq_then_ret ?_
  refine aq_then_ret ?_
  refine aq_block_ret ?_
  refine aq_block_ret ?_
  refine aq_then_ret ?_
  refine aq_block_ret ?_
  refine aq_then_ret ?_
  refine aq_then_ret ?_
  refine aq_block_ret ?_
  refine aq_then_ret ?_
  refine aq_nilR 37 tyS_api_Blob ?_
  cases h
  exact fn_ret nS [0] [] rfl rfl rfl rfl (resC rfl (resT rfl (resB (i := 3) rfl rfl Tryz.underlying29 sz29 rfl rfl rfl (resT rfl (resN)))) rfl) rfl rfl rfl (by decide)
  replace h := bif_f hb49 h
  refine aw_skip ?_
  refine aq_then ?_
  refine aw_region ?_
  refine al_val (ov_fieldA (p := 5) rfl Tryz.underlying64 rfl sz62 rfl rfl rfl) ?_
  refine al_val (ov_load (i := 5) (v := l38v15_5) rfl rfl Tryz.underlying62 sz62 rfl rfl rfl rfl) ?_
  refine al_val (ov_load (i := 6) (v := (ag (cA8u8 r47.2.1))) rfl rfl Tryz.underlying29 sz29 rfl rfl rfl rfl) ?_
  refine al_buildSlice (τ := tyA8u8) (e := 29) (k := 1) (sz := 0) (by_ := 0) (z := undef) (cs := (cA8u8 r47.2.1)) (xs := [r47.2.1]) rfl (by decide) (fun w a hm hs => ⟨((cA8u8 r47.2.1)).toArray, rfl, by simp only [List.map_toArray, List.map_cons, List.map_nil, hs.ev (x := .tmp 80) rfl]; exact run_bs [(ag (cA8u8 r47.2.1))] (cA8u8 r47.2.1) Tryz.underlying62 to29 rfl rfl (bs_cons (l := (cA8u8 r47.2.1)) (cs := []) (cv_rfl rfl) rfl bs_nil) hm⟩) (fun hm => ⟨(cA8u8 r47.2.1), [], rfl, mkA8u8 rfl, rfl⟩) rfl (fun v50 => ?_)
  obtain ⟨hc51, h⟩ := req_some h
  refine al_append 5 hc51.1 hc51.2 rfl (src_own (i := 5) 0 rfl) rfl rfl Tryz.underlying62 to29 rfl rfl rfl (fun v52 => ?_)
  refine al_val (ov_fieldA (p := 5) rfl Tryz.underlying64 rfl sz62 rfl rfl rfl) ?_
  refine al_store (i := 6) (vs := [v52]) (cs' := [(str (u18.Path.drop ((wq (r23 + (1 : Int)))).toNat)), (iq u18.Kind), (iq u18.Mode), (iq u18.Time), (iq (u18.Bytes.length : Int)), v52, (str ([] : List UInt8))]) rfl rfl rfl sz62 (cv_own 5 rfl) rfl (co_own 5 rfl co_nil) (Nat.le_of_ble_eq_true rfl) rfl rfl ?_
  refine al_nil ?_
  refine aq_block ?_
  refine aq_then ?_
  refine aw_region ?_
  refine in_ ?_
  refine mv_ ?_
  refine al_nil ?_
  exact aq_again k39 (v48, r47.1, v52, (l38x15_5 ++ ([r47.2.1])), r47.2.1, (wq (l38i62 + (1 : Int)))) (Nat.lt_succ_self _) h (nm_ [1, 2, 3, 4, 5, 6, 7, 8] [0, 1, 2] (by decide) ⟨rfl, rfl, rfl, rfl, rfl, rfl, rfl, rfl, rfl, rfl, rfl, rfl, rfl, rfl, trivial⟩)
  replace h := bif_f hb41 h
  refine aw_exit ?_
  refine aq_then_exit ?_
  refine aq_then_exit ?_
  refine aq_block_exit ?_
  refine aq_block ?_
  exact aq_join (l38v3, l38x3, (u18.Bytes.length : Int), l38v15_5, l38x15_5, ([] : List UInt8)) h (nm_ [0, 1, 2, 3, 4, 5] [0, 1, 2] (by decide) ⟨rfl, rfl, rfl, rfl, rfl, rfl, rfl, rfl, rfl, rfl, trivial⟩)
  replace h := bif_f hb34 h
  refine aw_sr ?_
  refine in_ ?_
  refine an_ ?_
  refine aw_cond rfl (fun hb53 => ?_) (fun hb53 => ?_)
  replace h := bif_t hb53 h
  refine aw_seq ?_
  refine aw_sr ?_
  refine al_val (ov_load (i := 4) (v := (ag [(iq a0.Fixed), (iq a0.Cut.Min), (iq a0.Cut.Max), (iq a0.Cut.Bits)])) rfl rfl Tryz.underlying25 sz25 rfl rfl rfl rfl) ?_
  refine mv_ ?_
  refine al_val (ov_fieldA (p := 0) rfl Tryz.underlying45 rfl sz9 rfl rfl rfl) ?_
  refine al_val (ov_load (i := 2) (v := (str u18.Path)) rfl rfl Tryz.underlying9 sz9 rfl rfl rfl rfl) ?_
  refine mv_ ?_
  obtain ⟨r55, hc54, h⟩ := opt_some h
  refine al_call (vs := [(ag [(iq a0.Fixed), (iq a0.Cut.Min), (iq a0.Cut.Max), (iq a0.Cut.Bits)]), v1_0, (str u18.Path), l11v3]) (f_lumref_plantDir_own_ok fu a0 v1_0 a1 u18.Path l11v3 l11x3 hc54) [] [3] [0, 1, 2, 4, 5, 6] (pre_fz 1 rfl (pre_fz 2 rfl pre_nil)) rfl (by simp) (by decide) (.inl rfl) rfl Tryz.func13 rfl rfl rfl (fun v56 => ?_)
  refine mv_ ?_
  refine al_ex rfl rfl rfl ?_
  refine al_ex rfl rfl rfl ?_
  refine al_ex rfl rfl rfl ?_
  refine as_ ?_
  refine al_store (i := 1) (vs := (cA8u8 r55.2.1)) (cs' := (cA8u8 r55.2.1)) rfl rfl rfl sz29 (cv_rfl rfl) rfl (co_all (oneA8u8 r55.2.1)) (Nat.le_of_ble_eq_true rfl) rfl rfl ?_
  refine an_ ?_
  refine sm_ ?_
  refine im_ ?_
  refine aw_cond rfl (fun hb57 => ?_) (fun hb57 => ?_)
  replace h := bif_t hb57 h
  refine aw_seq ?_
  refine aw_region_open [(sp_ 0 99 (ag (cA8u8 r55.2.1))), (sp_ 1 100 (iq r55.2.2))] (tab [(9, (pq g2)), (16, (iq r55.2.2)), (17, (pq g28))]) mixed (fun a hs => hs.tab _ (allT_mem ⟨rfl, rfl, rfl, trivial⟩)) ?_
  refine ta_show (m := (mm49 w0 Z0 a0 a1 a3 g1 g2 g21 g27 g28 l11us11 l11v11 l11x11 p20 r23 r55 u18 v1_0 v3_0 v56)) (S := _) ?_
  refine ta_step 2 _ [0, 1] [99, 100] [] [] [] [(sp_ 0 99 (ag (cA8u8 r55.2.1))), (sp_ 1 100 (iq r55.2.2))] rfl rfl rfl (by kernel_rfl) rfl rfl rfl ⟨⟨_, rfl, [], rfl, by
   intro X_ Y_ F_ K_ hK_
   refine sh_ (mm49 w0 Z0 a0 a1 a3 g1 g2 g21 g27 g28 l11us11 l11v11 l11x11 p20 r23 r55 u18 v1_0 v3_0 v56) X_ Y_ ?_
   refine al_val (ov_load (i := 1) (v := (ag (cA8u8 r55.2.1))) rfl rfl Tryz.underlying29 sz29 rfl rfl rfl rfl) ?_
   refine al_nil ?_
   exact fr_fin hK_ ()⟩, ⟨_, rfl, [], rfl, by
   intro X_ Y_ F_ K_ hK_
   refine sh_ (mm49 w0 Z0 a0 a1 a3 g1 g2 g21 g27 g28 l11us11 l11v11 l11x11 p20 r23 r55 u18 v1_0 v3_0 v56) X_ Y_ ?_
   refine mv_ ?_
   refine al_nil ?_
   exact fr_fin hK_ ()⟩, trivial⟩ ?_
  intro X_ Y_ F_ K_ hK_
  refine sh_ (mm49 w0 Z0 a0 a1 a3 g1 g2 g21 g27 g28 l11us11 l11v11 l11x11 p20 r23 r55 u18 v1_0 v3_0 v56) X_ Y_ ?_
  refine as_ ?_
  refine al_nil ?_
  refine aq_show (m := Mem.plus (mm49 w0 Z0 a0 a1 a3 g1 g2 g21 g27 g28 l11us11 l11v11 l11x11 p20 r23 r55 u18 v1_0 v3_0 v56) X_ Y_) ?_
  refine aq_next hK_ [0, 1, 2, 3, 4, 5, 6] [0, 1, 2] [(8, nS), (9, (pq g2)), (16, (iq r55.2.2)), (17, (pq g28))] [99, 100] [] rfl rfl (by decide) rfl ⟨rfl, rfl, rfl, rfl, trivial⟩ ⟨rfl, rfl, trivial⟩ ?_
  clear hK_ K_ F_ X_ Y_
  refine ta_show (m := (mm49 w0 Z0 a0 a1 a3 g1 g2 g21 g27 g28 l11us11 l11v11 l11x11 p20 r23 r55 u18 v1_0 v3_0 v56)) (S := _) ?_
  refine ta_step 3 _ [0, 1] [99, 100] [0] [] [(sp_ 0 99 (ag (cA8u8 r55.2.1)))] [(sp_ 1 100 (iq r55.2.2))] rfl rfl rfl (by kernel_rfl) rfl rfl rfl ⟨⟨_, rfl, [], rfl, by
   intro X_ Y_ F_ K_ hK_
   refine sh_ (mm49 w0 Z0 a0 a1 a3 g1 g2 g21 g27 g28 l11us11 l11v11 l11x11 p20 r23 r55 u18 v1_0 v3_0 v56) X_ Y_ ?_
   refine al_val (ov_load (i := 1) (v := (ag (cA8u8 r55.2.1))) rfl rfl Tryz.underlying29 sz29 rfl rfl rfl rfl) ?_
   refine al_nil ?_
   exact fr_fin hK_ ()⟩, ⟨_, rfl, [], rfl, by
   intro X_ Y_ F_ K_ hK_
   refine sh_ (mm49 w0 Z0 a0 a1 a3 g1 g2 g21 g27 g28 l11us11 l11v11 l11x11 p20 r23 r55 u18 v1_0 v3_0 v56) X_ Y_ ?_
   refine mv_ ?_
   refine al_nil ?_
   exact fr_fin hK_ ()⟩, trivial⟩ ?_
  intro _
  intro X_ Y_ F_ K_ hK_
  refine sh_ (mm49 w0 Z0 a0 a1 a3 g1 g2 g21 g27 g28 l11us11 l11v11 l11x11 p20 r23 r55 u18 v1_0 v3_0 v56) X_ Y_ ?_
  refine al_store (i := 5) (vs := (cA8u8 r55.2.1)) (cs' := (cA8u8 r55.2.1)) rfl rfl rfl sz29 (cv_rfl rfl) rfl (co_all (oneA8u8 r55.2.1)) (Nat.le_of_ble_eq_true rfl) rfl rfl ?_
  refine al_nil ?_
  refine aq_show (m := Mem.plus (mm50 w0 Z0 a0 a1 a3 g1 g2 g21 g27 g28 l11us11 l11v11 l11x11 p20 r23 r55 u18 v1_0 v3_0 v56) X_ Y_) ?_
  refine aq_next hK_ [0, 1, 2, 3, 4, 5, 6] [0, 1, 2] [(8, nS), (9, (pq g2)), (16, (iq r55.2.2))] [100] [] rfl rfl (by decide) rfl ⟨rfl, rfl, rfl, trivial⟩ ⟨rfl, trivial⟩ ?_
  clear hK_ K_ F_ X_ Y_
  refine ta_show (m := (mm50 w0 Z0 a0 a1 a3 g1 g2 g21 g27 g28 l11us11 l11v11 l11x11 p20 r23 r55 u18 v1_0 v3_0 v56)) (S := _) ?_
  refine ta_step 4 _ [1] [100] [1] [] [(sp_ 1 100 (iq r55.2.2))] [] rfl rfl rfl (by kernel_rfl) rfl rfl rfl ⟨⟨_, rfl, [], rfl, by
   intro X_ Y_ F_ K_ hK_
   refine sh_ (mm50 w0 Z0 a0 a1 a3 g1 g2 g21 g27 g28 l11us11 l11v11 l11x11 p20 r23 r55 u18 v1_0 v3_0 v56) X_ Y_ ?_
   refine mv_ ?_
   refine al_nil ?_
   exact fr_fin hK_ ()⟩, trivial⟩ ?_
  intro _
  intro X_ Y_ F_ K_ hK_
  refine sh_ (mm50 w0 Z0 a0 a1 a3 g1 g2 g21 g27 g28 l11us11 l11v11 l11x11 p20 r23 r55 u18 v1_0 v3_0 v56) X_ Y_ ?_
  refine as_ ?_
  refine al_nil ?_
  refine aq_show (m := Mem.plus (mm50 w0 Z0 a0 a1 a3 g1 g2 g21 g27 g28 l11us11 l11v11 l11x11 p20 r23 r55 u18 v1_0 v3_0 v56) X_ Y_) ?_
  refine aq_next hK_ [0, 1, 2, 3, 4, 5, 6] [0, 1, 2] [(8, nS), (9, (pq g2)), (10, (iq r55.2.2))] [] [] rfl rfl (by decide) rfl ⟨rfl, rfl, rfl, trivial⟩ trivial ?_
  clear hK_ K_ F_ X_ Y_
  refine ta_show (m := (mm50 w0 Z0 a0 a1 a3 g1 g2 g21 g27 g28 l11us11 l11v11 l11x11 p20 r23 r55 u18 v1_0 v3_0 v56)) (S := _) ?_
  refine ta_end [] [] rfl rfl (by kernel_rfl) rfl trivial ?_
  refine aq_show (m := (mm50 w0 Z0 a0 a1 a3 g1 g2 g21 g27 g28 l11us11 l11v11 l11x11 p20 r23 r55 u18 v1_0 v3_0 v56)) (S := (tab [(8, nS), (9, (pq g2)), (10, (iq r55.2.2))])) ?_
  refine aq_then ?_
  refine aw_ret ?_
  refine aq_then_ret ?_
  refine aq_block_ret ?_
  refine aq_then_ret ?_
  refine aq_block_ret ?_
  refine aq_then_ret ?_
  refine aq_then_ret ?_
  refine aq_block_ret ?_
  refine aq_then_ret ?_
  refine aq_nilR 37 tyS_api_Blob ?_
  cases h
  exact fn_ret nS [0] [] rfl rfl rfl rfl (resC rfl (resT rfl (resB (i := 6) rfl rfl Tryz.underlying29 sz29 rfl rfl rfl (resT rfl (resN)))) rfl) rfl rfl rfl (by decide)
  replace h := bif_f hb57 h
  refine aw_skip ?_
  refine aq_then ?_
  refine aw_region ?_
  refine al_val (ov_load (i := 1) (v := (ag (cA8u8 r55.2.1))) rfl rfl Tryz.underlying29 sz29 rfl rfl rfl rfl) ?_
  refine al_buildSlice (τ := tyA8u8) (e := 29) (k := 1) (sz := 0) (by_ := 0) (z := undef) (cs := (cA8u8 r55.2.1)) (xs := [r55.2.1]) rfl (by decide) (fun w a hm hs => ⟨((cA8u8 r55.2.1)).toArray, rfl, by simp only [List.map_toArray, List.map_cons, List.map_nil, hs.ev (x := .tmp 101) rfl]; exact run_bs [(ag (cA8u8 r55.2.1))] (cA8u8 r55.2.1) Tryz.underlying62 to29 rfl rfl (bs_cons (l := (cA8u8 r55.2.1)) (cs := []) (cv_rfl rfl) rfl bs_nil) hm⟩) (fun hm => ⟨(cA8u8 r55.2.1), [], rfl, mkA8u8 rfl, rfl⟩) rfl (fun v58 => ?_)
  refine al_val (ov_fieldA (p := 5) rfl Tryz.underlying64 rfl sz62 rfl rfl rfl) ?_
  refine al_store (i := 3) (vs := [v58]) (cs' := [(str (u18.Path.drop ((wq (r23 + (1 : Int)))).toNat)), (iq u18.Kind), (iq u18.Mode), (iq u18.Time), (iq (0 : Int)), v58, (str ([] : List UInt8))]) rfl rfl rfl sz62 (cv_own 0 rfl) rfl (co_own 0 rfl co_nil) (Nat.le_of_ble_eq_true rfl) rfl rfl ?_
  refine al_nil ?_
  refine aq_block ?_
  exact aq_join (v56, r55.1, (0 : Int), v58, ([r55.2.1]), ([] : List UInt8)) h (nm_ [1, 5, 6, 7, 0, 3] [1, 0, 2] (by decide) ⟨rfl, rfl, rfl, rfl, rfl, rfl, rfl, rfl, rfl, rfl, trivial⟩)
  replace h := bif_f hb53 h
  refine aw_sr ?_
  refine in_ ?_
  refine an_ ?_
  refine aw_cond rfl (fun hb59 => ?_) (fun hb59 => ?_)
  replace h := bif_t hb59 h
  refine aw_region ?_
  refine al_val (ov_fieldA (p := 4) rfl Tryz.underlying45 rfl sz9 rfl rfl rfl) ?_
  refine al_val (ov_load (i := 2) (v := (str u18.Bytes)) rfl rfl Tryz.underlying9 sz9 rfl rfl rfl rfl) ?_
  refine al_val (ov_fieldA (p := 6) rfl Tryz.underlying64 rfl sz9 rfl rfl rfl) ?_
  refine al_store (i := 1) (vs := [(str u18.Bytes)]) (cs' := [(str (u18.Path.drop ((wq (r23 + (1 : Int)))).toNat)), (iq u18.Kind), (iq u18.Mode), (iq u18.Time), (iq (0 : Int)), nS, (str u18.Bytes)]) rfl rfl rfl sz9 (cv_rfl rfl) rfl (co_val rfl co_nil) (Nat.le_of_ble_eq_true rfl) rfl rfl ?_
  refine al_nil ?_
  refine aq_block ?_
  refine aq_nilR 29 tyA8u8 ?_
  exact aq_join (l11v3, l11x3, (0 : Int), nS, ([] : List A8u8), u18.Bytes) h (nm_ [4, 5, 6, 7, 0, 2] [1, 0, 2] (by decide) ⟨rfl, rfl, rfl, rfl, rfl, rfl, rfl, rfl, rfl, rfl, trivial⟩)
  replace h := bif_f hb59 h
  refine aw_skip ?_
  refine aq_block ?_
  refine aq_nilR 29 tyA8u8 ?_
  exact aq_join (l11v3, l11x3, (0 : Int), nS, ([] : List A8u8), ([] : List UInt8)) h (nm_ [4, 5, 6, 7, 0, 2] [1, 0, 2] (by decide) ⟨rfl, rfl, rfl, rfl, rfl, rfl, rfl, rfl, rfl, rfl, trivial⟩)
  replace h := bif_f hb15 h
  refine aw_exit ?_
  refine aq_then_exit ?_
  refine aq_then_exit ?_
  refine aq_block_exit ?_
  exact aq_join (l11v3, l11x3, l11v11, l11x11, l11us11) h (nm_ [0, 2, 3] [0, 1] (by decide) ⟨rfl, rfl, rfl, trivial⟩)
def f_lumref_Plant (fu : Nat) (a0 : S_api_Way) (a1 : (List S_api_Item)) : Option ((List S_api_Blob) × A8u8 × Int) := (opt (f_lumref_Way fu a0) fun (r4 : Int) => (bif (r4 != (0 : Int)) then (some (([] : List S_api_Blob), zA8u8, r4)) else (opt (f_lumref_World fu a1) fun (r7 : Int) => (bif (r7 != (0 : Int)) then (some (([] : List S_api_Blob), zA8u8, r7)) else (opt (f_lumref_plantDir_own fu a0 a1 ([] : List UInt8) ([] : List S_api_Blob)) fun (r10 : ((List S_api_Blob) × A8u8 × Int)) => (bif (r10.2.2 != (0 : Int)) then (some (([] : List S_api_Blob), zA8u8, r10.2.2)) else (some (r10.1, r10.2.1, (0 : Int)))))))))
set_option maxHeartbeats 2000000 in
set_option maxRecDepth 100000 in
theorem f_lumref_Plant_ok (fu : Nat) (a0 : S_api_Way) (v1_0 : Value) (a1 : (List S_api_Item)) {r : ((List S_api_Blob) × A8u8 × Int)} (h : f_lumref_Plant fu a0 a1 = some r) : FnOk Tryz.prog 5 [(ag [(int .i64 a0.Fixed), (int .i64 a0.Cut.Min), (int .i64 a0.Cut.Max), (int .i64 a0.Cut.Bits)]), v1_0] [(fDat (tyList tyS_api_Item) [v1_0] a1), uMax] [] (fun (i : Value) => { val := (Value.tuple #[i, (ag (cA8u8 r.2.1)), (int .i64 r.2.2)]), own := [(oRow i 37 tyS_api_Blob r.1)] }) := by
 unfold f_lumref_Plant at h
 refine fn_enter Tryz.func5 rfl Tryz.ntmps5 rfl (fun w0 Z0 => ?_)
 refine aw_sr ?_
 refine al_box (vs := [(iq a0.Fixed), (iq a0.Cut.Min), (iq a0.Cut.Max), (iq a0.Cut.Bits)]) rfl (cv_rfl rfl) rfl (fun g1 => ?_)
 refine as_ ?_
 refine al_alloc (zs := (cA8u8 zA8u8)) (zeroOf_to to29) rfl rfl (fun g2 => ?_)
 refine an_ ?_
 refine aw_seq ?_
 refine aw_sr ?_
 refine al_val (ov_load (i := 1) (v := (ag [(iq a0.Fixed), (iq a0.Cut.Min), (iq a0.Cut.Max), (iq a0.Cut.Bits)])) rfl rfl Tryz.underlying25 sz25 rfl rfl rfl rfl) ?_
 obtain ⟨r4, hc3, h⟩ := opt_some h
 refine al_call (vs := [(ag [(iq a0.Fixed), (iq a0.Cut.Min), (iq a0.Cut.Max), (iq a0.Cut.Bits)])]) (f_lumref_Way_ok fu a0 hc3) [] [] [0, 1] pre_nil rfl (by simp) (by decide) (.inl rfl) rfl Tryz.func9 rfl rfl rfl (fun _ => ?_)
 refine an_ ?_
 refine sm_ ?_
 refine im_ ?_
 refine aw_cond rfl (fun hb5 => ?_) (fun hb5 => ?_)
 replace h := bif_t hb5 h
 refine aw_sr ?_
 refine al_val (ov_build (cells := ((cA8u8 zA8u8) : List Value).toArray) (cs := (cA8u8 zA8u8)) rfl (fun w a hm hs => by simp only [List.map_toArray, List.map_cons, List.map_nil, List.toList_toArray]; kernel_rfl)) ?_
 refine mv_ ?_
 refine as_ ?_
 refine al_store (i := 0) (vs := (cA8u8 zA8u8)) (cs' := (cA8u8 zA8u8)) rfl rfl rfl sz29 (cv_rfl rfl) rfl (co_all (oneA8u8 zA8u8)) (Nat.le_of_ble_eq_true rfl) rfl rfl ?_
 refine an_ ?_
 refine aw_ret ?_
 refine aq_then_ret ?_
 refine aq_nilR 37 tyS_api_Blob ?_
 cases h
 exact fn_ret nS [0] [] rfl rfl rfl rfl (resC rfl (resT rfl (resB (i := 1) rfl rfl Tryz.underlying29 sz29 rfl rfl rfl (resT rfl (resN)))) rfl) rfl rfl rfl (by decide)
 replace h := bif_f hb5 h
 refine aw_skip ?_
 refine aq_then ?_
 refine aw_seq ?_
 refine sm_ ?_
 obtain ⟨r7, hc6, h⟩ := opt_some h
 refine al_call (vs := [v1_0]) (f_lumref_World_ok fu v1_0 a1 hc6) [] [] [0, 1] (pre_fz 0 rfl pre_nil) rfl (by simp) (by decide) (.inl rfl) rfl Tryz.func7 rfl rfl rfl (fun _ => ?_)
 refine an_ ?_
 refine sm_ ?_
 refine im_ ?_
 refine aw_cond rfl (fun hb8 => ?_) (fun hb8 => ?_)
 replace h := bif_t hb8 h
 refine aw_sr ?_
 refine al_val (ov_build (cells := ((cA8u8 zA8u8) : List Value).toArray) (cs := (cA8u8 zA8u8)) rfl (fun w a hm hs => by simp only [List.map_toArray, List.map_cons, List.map_nil, List.toList_toArray]; kernel_rfl)) ?_
 refine mv_ ?_
 refine as_ ?_
 refine al_store (i := 0) (vs := (cA8u8 zA8u8)) (cs' := (cA8u8 zA8u8)) rfl rfl rfl sz29 (cv_rfl rfl) rfl (co_all (oneA8u8 zA8u8)) (Nat.le_of_ble_eq_true rfl) rfl rfl ?_
 refine an_ ?_
 refine aw_ret ?_
 refine aq_then_ret ?_
 refine aq_nilR 37 tyS_api_Blob ?_
 cases h
 exact fn_ret nS [0] [] rfl rfl rfl rfl (resC rfl (resT rfl (resB (i := 1) rfl rfl Tryz.underlying29 sz29 rfl rfl rfl (resT rfl (resN)))) rfl) rfl rfl rfl (by decide)
 replace h := bif_f hb8 h
 refine aw_skip ?_
 refine aq_tr ?_
 refine al_val (ov_load (i := 1) (v := (ag [(iq a0.Fixed), (iq a0.Cut.Min), (iq a0.Cut.Max), (iq a0.Cut.Bits)])) rfl rfl Tryz.underlying25 sz25 rfl rfl rfl rfl) ?_
 refine mv_ ?_
 refine al_nilR 37 tyS_api_Blob ?_
 obtain ⟨r10, hc9, h⟩ := opt_some h
 refine al_call (vs := [(ag [(iq a0.Fixed), (iq a0.Cut.Min), (iq a0.Cut.Max), (iq a0.Cut.Bits)]), v1_0, (str ([] : List UInt8)), nS]) (f_lumref_plantDir_own_ok fu a0 v1_0 a1 ([] : List UInt8) nS ([] : List S_api_Blob) hc9) [] [0] [1, 2] (pre_fz 0 rfl (pre_fz 1 rfl pre_nil)) rfl (by simp) (by decide) (.inl rfl) rfl Tryz.func13 rfl rfl rfl (fun v11 => ?_)
 refine mv_ ?_
 refine al_ex rfl rfl rfl ?_
 refine al_ex rfl rfl rfl ?_
 refine al_ex rfl rfl rfl ?_
 refine al_alloc (zs := (cA8u8 zA8u8)) (zeroOf_to to29) rfl rfl (fun g12 => ?_)
 refine as_ ?_
 refine al_store (i := 0) (vs := (cA8u8 r10.2.1)) (cs' := (cA8u8 r10.2.1)) rfl rfl rfl sz29 (cv_rfl rfl) rfl (co_all (oneA8u8 r10.2.1)) (Nat.le_of_ble_eq_true rfl) rfl rfl ?_
 refine an_ ?_
 refine aw_seq ?_
 refine sm_ ?_
 refine im_ ?_
 refine aw_cond rfl (fun hb13 => ?_) (fun hb13 => ?_)
 replace h := bif_t hb13 h
 refine aw_sr ?_
 refine al_val (ov_build (cells := ((cA8u8 zA8u8) : List Value).toArray) (cs := (cA8u8 zA8u8)) rfl (fun w a hm hs => by simp only [List.map_toArray, List.map_cons, List.map_nil, List.toList_toArray]; kernel_rfl)) ?_
 refine mv_ ?_
 refine as_ ?_
 refine al_store (i := 2) (vs := (cA8u8 zA8u8)) (cs' := (cA8u8 zA8u8)) rfl rfl rfl sz29 (cv_rfl rfl) rfl (co_all (oneA8u8 zA8u8)) (Nat.le_of_ble_eq_true rfl) rfl rfl ?_
 refine an_ ?_
 refine aw_ret ?_
 refine aq_then_ret ?_
 refine aq_nilR 37 tyS_api_Blob ?_
 cases h
 exact fn_ret nS [0] [] rfl rfl rfl rfl (resC rfl (resT rfl (resB (i := 3) rfl rfl Tryz.underlying29 sz29 rfl rfl rfl (resT rfl (resN)))) rfl) rfl rfl rfl (by decide)
 replace h := bif_f hb13 h
 refine aw_skip ?_
 refine aq_then ?_
 refine aw_seq ?_
 refine aw_region_draw 3 [(35, (fE v11)), (36, (fE (ag (cA8u8 r10.2.1)))), (4, (fE v11))] (tab [(5, (pq g2)), (6, (iq (0 : Int))), (9, v11), (10, (pq g12))]) mixed (by kernel_rfl) rfl rfl rfl (fun a hs => hs.tab _ (allT_mem ⟨rfl, rfl, rfl, rfl, trivial⟩)) ⟨⟨rfl, ld_val (ov_move rfl rfl)⟩, ⟨rfl, ld_val (ov_load (i := 0) (v := (ag (cA8u8 r10.2.1))) rfl rfl Tryz.underlying29 sz29 rfl rfl rfl rfl)⟩, ⟨rfl, ld_eq (j := 0) rfl rfl (ld_val (ov_assign rfl rfl))⟩, trivial⟩ ?_
 refine tl_eq 1 rfl ?_
 refine tl_eq 2 rfl ?_
 refine tl_done ?_
 refine al_store (i := 2) (vs := (cA8u8 r10.2.1)) (cs' := (cA8u8 r10.2.1)) rfl rfl rfl sz29 (cv_rfl rfl) rfl (co_all (oneA8u8 r10.2.1)) (Nat.le_of_ble_eq_true rfl) rfl rfl ?_
 refine an_ ?_
 refine aw_ret ?_
 cases h
 exact fn_ret v11 [1] [] rfl rfl rfl rfl (resC rfl (resT rfl (resB (i := 2) rfl rfl Tryz.underlying29 sz29 rfl rfl rfl (resT rfl (resN)))) rfl) rfl rfl rfl (by decide)
def f_slices_Equal___api_Blob_api_Blob__L6 (a0 : (List S_api_Blob)) (a1 : (List S_api_Blob)) (kk3 : (Unit → Option Bool)) : Nat → Int → Option Bool
  | 0, _ => none
  | k5 + 1, l4i13 => (bif (decide (l4i13 < (a0.length : Int))) then (opt (at? a0 l4i13) fun (u8 : S_api_Blob) => (opt (at? a1 l4i13) fun (u11 : S_api_Blob) => (req ((Lit.int .i64 u8.Kind).wf = true) (req (u8.Bytes.length ≤ 9223372036854775807) (req ((Lit.int .i64 u11.Kind).wf = true) (req (u11.Bytes.length ≤ 9223372036854775807) (bif (!(u8 == u11)) then (some false) else (f_slices_Equal___api_Blob_api_Blob__L6 a0 a1 kk3 k5 (IntKind.i64.wrap (l4i13 + (1 : Int))))))))))) else (kk3 ()))
def f_slices_Equal___api_Blob_api_Blob_ (fu : Nat) (a0 : (List S_api_Blob)) (a1 : (List S_api_Blob)) : Option Bool := (bif ((a0.length : Int) != (a1.length : Int)) then (some false) else (lt (fun (_ : Unit) => (some true)) fun (kk3 : Unit → Option Bool) => (f_slices_Equal___api_Blob_api_Blob__L6 a0 a1 kk3 fu (0 : Int))))
set_option maxHeartbeats 2000000 in
set_option maxRecDepth 100000 in
theorem f_slices_Equal___api_Blob_api_Blob__ok (fu : Nat) (v0_0 : Value) (a0 : (List S_api_Blob)) (v1_0 : Value) (a1 : (List S_api_Blob)) {r : Bool} (h : f_slices_Equal___api_Blob_api_Blob_ fu a0 a1 = some r) : FnOk Tryz.prog 10 [v0_0, v1_0] [(fDat (tyList tyS_api_Blob) [v0_0] a0), (fDat (tyList tyS_api_Blob) [v1_0] a1)] [] (fun (i : Unit) => { val := (bool r) }) := by
 unfold f_slices_Equal___api_Blob_api_Blob_ at h
 refine fn_enter Tryz.func10 rfl Tryz.ntmps10 rfl (fun w0 Z0 => ?_)
 refine aw_sr ?_
 refine an_ ?_
 refine aw_seq ?_
 refine sm_ ?_
 refine al_val (ov_lenD 0 rfl rfl Tryz.underlying27 rfl) ?_
 refine mv_ ?_
 refine al_val (ov_lenD 1 rfl rfl Tryz.underlying27 rfl) ?_
 refine im_ ?_
 refine aw_cond rfl (fun hb1 => ?_) (fun hb1 => ?_)
 replace h := bif_t hb1 h
 refine aw_sr ?_
 refine an_ ?_
 refine aw_ret ?_
 refine aq_then_ret ?_
 cases h
 exact fr1_
 replace h := bif_f hb1 h
 refine aw_skip ?_
 refine aq_then ?_
 obtain ⟨kk3, hkk3, h⟩ := lt_some h
 refine aw_seq_join (ι := Unit) (fun i => (memOf w0 Z0 [] [] [(fDat (tyList tyS_api_Blob) [v0_0] a0), (fDat (tyList tyS_api_Blob) [v1_0] a1)])) (fun i => (tab [])) (fun i => kk3 () = some r) ?_ ?_
 rintro _ h
 have h : kk3 () = some r := h
 rw [hkk3] at h
 dsimp only at h
 clear hkk3
 refine aw_show (m := (memOf w0 Z0 [] [] [(fDat (tyList tyS_api_Blob) [v0_0] a0), (fDat (tyList tyS_api_Blob) [v1_0] a1)])) (S := _) ?_
 refine aw_sr ?_
 refine an_ ?_
 refine aw_ret ?_
 cases h
 exact fr1_
 clear hkk3
 refine sm_ ?_
 refine al_val (ov_lenD 0 rfl rfl Tryz.underlying27 rfl) ?_
 refine mv_ ?_
 refine al_nt ?_
 refine aw_block ?_
 refine aw_state (aw_loop (ι := Int) (fun i => (memOf w0 Z0 [] [] [(fDat (tyList tyS_api_Blob) [v0_0] a0), (fDat (tyList tyS_api_Blob) [v1_0] a1)])) (fun i => (tab [(0, v0_0), (1, v1_0), (12, (iq (a0.length : Int))), (13, (iq i))])) (fun q i => f_slices_Equal___api_Blob_api_Blob__L6 a0 a1 kk3 q i = some r) ?_ fu (0 : Int) h) (nm_ [] [0, 1] (by decide) ⟨rfl, rfl, rfl, rfl, trivial⟩)
 clear h
 rintro k5 l4i13 h
 have h : f_slices_Equal___api_Blob_api_Blob__L6 a0 a1 kk3 k5 l4i13 = some r := h
 obtain _ | k5 := k5
 rw [f_slices_Equal___api_Blob_api_Blob__L6] at h; cases h
 rw [f_slices_Equal___api_Blob_api_Blob__L6] at h
 refine aw_show (m := (memOf w0 Z0 [] [] [(fDat (tyList tyS_api_Blob) [v0_0] a0), (fDat (tyList tyS_api_Blob) [v1_0] a1)])) (S := _) ?_
 refine aw_sr ?_
 refine im_ ?_
 refine aw_seq ?_
 refine aw_cond rfl (fun hb7 => ?_) (fun hb7 => ?_)
 replace h := bif_t hb7 h
 refine aw_skip ?_
 refine aq_then ?_
 refine aw_seq ?_
 refine aw_block ?_
 refine sm_ ?_
 refine an_ ?_
 refine aw_seq ?_
 obtain ⟨u8, hu9, h⟩ := opt_some h
 obtain ⟨u11, hu12, h⟩ := opt_some h
 refine aw_region_draw 8 [(16, (fE v0_0)), (17, (fE (iq l4i13))), (18, (fun p10 => (fPtr tyS_api_Blob p10 u8))), (19, (fE (ag [(iq u8.Kind), (str u8.Bytes)]))), (20, (fE v1_0)), (21, (fE (iq l4i13))), (22, (fun p13 => (fPtr tyS_api_Blob p13 u11))), (23, (fE (ag [(iq u11.Kind), (str u11.Bytes)])))] (tab [(0, v0_0), (1, v1_0), (5, (iq l4i13)), (12, (iq (a0.length : Int))), (13, (iq l4i13))]) mixed (by kernel_rfl) rfl rfl rfl (fun a hs => hs.tab _ (allT_mem ⟨rfl, rfl, rfl, rfl, rfl, trivial⟩)) ⟨⟨rfl, ld_val (ov_move rfl rfl)⟩, ⟨rfl, ld_val (ov_move rfl rfl)⟩, ⟨rfl, ld_eq (j := 0) rfl rfl (ld_eq (j := 1) rfl rfl (ld_of (of_idxD 0 hu9 rfl rfl rfl Tryz.underlying27 sz37 rfl)))⟩, ⟨rfl, ld_fact (j := 2) rfl rfl (fun p10 => ld_val (ov_loadP (ds := [(iq u8.Kind), (str u8.Bytes)]) 0 rfl encS_api_Blob rfl Tryz.underlying37 sz37 rfl rfl rfl))⟩, ⟨rfl, ld_val (ov_move rfl rfl)⟩, ⟨rfl, ld_val (ov_move rfl rfl)⟩, ⟨rfl, ld_eq (j := 4) rfl rfl (ld_eq (j := 5) rfl rfl (ld_of (of_idxD 1 hu12 rfl rfl rfl Tryz.underlying27 sz37 rfl)))⟩, ⟨rfl, ld_fact (j := 6) rfl rfl (fun p13 => ld_val (ov_loadP (ds := [(iq u11.Kind), (str u11.Bytes)]) 0 rfl encS_api_Blob rfl Tryz.underlying37 sz37 rfl rfl rfl))⟩, trivial⟩ ?_
 refine tl_eq 3 rfl ?_
 refine tl_eq 7 rfl ?_
 refine tl_done ?_
 obtain ⟨hc14, h⟩ := req_some h
 obtain ⟨hc15, h⟩ := req_some h
 obtain ⟨hc16, h⟩ := req_some h
 obtain ⟨hc17, h⟩ := req_some h
 refine al_val (ov_neqA (cs := [(iq u8.Kind), (str u8.Bytes)]) (ds := [(iq u11.Kind), (str u11.Bytes)]) (ls := [3, 9]) (p := (u8 == u11)) eg37 kt37 lv37 rfl rfl (by kernel_rfl) (by kernel_rfl) (fit_cons (fit_int Tryz.underlying3 hc14) (fit_cons (fit_str Tryz.underlying9 hc15) fit_nil)) (fit_cons (fit_int Tryz.underlying3 hc16) (fit_cons (fit_str Tryz.underlying9 hc17) fit_nil)) (injS_api_Blob (x := u8) (y := u11)) rfl) ?_
 refine al_nt ?_
 refine aw_cond rfl (fun hb18 => ?_) (fun hb18 => ?_)
 replace h := bif_t hb18 h
 refine aw_sr ?_
 refine an_ ?_
 refine aw_ret ?_
 refine aq_block_ret ?_
 refine aq_then_ret ?_
 refine aq_then_ret ?_
 refine aq_block_ret ?_
 refine aq_then_ret ?_
 cases h
 exact fr1_
 replace h := bif_f hb18 h
 refine aw_skip ?_
 refine aq_block ?_
 refine aq_then ?_
 refine aw_region ?_
 refine in_ ?_
 refine mv_ ?_
 refine al_nil ?_
 exact aq_again k5 (wq (l4i13 + (1 : Int))) (Nat.lt_succ_self _) h (nm_ [] [0, 1] (by decide) ⟨rfl, rfl, rfl, rfl, trivial⟩)
 replace h := bif_f hb7 h
 refine aw_exit ?_
 refine aq_then_exit ?_
 refine aq_then_exit ?_
 refine aq_block_exit ?_
 exact aq_join () h (nm_ [] [0, 1] (by decide) trivial)
def f_lumlaw_WalkPlants (fu : Nat) (a0 : S_api_Way) (a1 : (List S_api_Item)) : Option Bool := (opt (f_walk_Plant fu a0 a1) fun (r3 : ((List S_api_Blob) × A8u8 × Int)) => (opt (f_lumref_Plant fu a0 a1) fun (r7 : ((List S_api_Blob) × A8u8 × Int)) => (lt (fun (j10b4 : Bool) => (some j10b4)) fun (kk11 : Bool → Option Bool) => (opt (f_walk_Check fu a1) fun (r13 : Int) => (opt (f_lumref_World fu a1) fun (r15 : Int) => (bif (r13 == r15) then (opt (f_walk_WayOK fu a0) fun (r18 : Int) => (opt (f_lumref_Way fu a0) fun (r20 : Int) => (bif (r18 == r20) then (opt (f_slices_Equal___api_Blob_api_Blob_ fu r3.1 r7.1) fun (r23 : Bool) => (bif r23 then (bif (r3.2.1 == r7.2.1) then (kk11 (r3.2.2 == r7.2.2)) else (kk11 false)) else (kk11 false))) else (kk11 false)))) else (kk11 false)))))))
abbrev mm51 (w0 : World) (Z0 : Nat → Prop) (a0 : S_api_Way) (a1 : (List S_api_Item)) (g1 : Nat) (g5 : Nat) (g9 : Nat) (r3 : ((List S_api_Blob) × A8u8 × Int)) (r7 : ((List S_api_Blob) × A8u8 × Int)) (v1_0 : Value) (v4 : Value) (v8 : Value) : Mem := memOf w0 Z0 [] [(oBox g9 29 (cA8u8 r7.2.1)), (oRow v8 37 tyS_api_Blob r7.1), (oBox g5 29 (cA8u8 r3.2.1)), (oRow v4 37 tyS_api_Blob r3.1), (oBox g1 25 [(int .i64 a0.Fixed), (int .i64 a0.Cut.Min), (int .i64 a0.Cut.Max), (int .i64 a0.Cut.Bits)])] [(fDat (tyList tyS_api_Item) [v1_0] a1), uMax, uTabs]
end Go.Proofs.YtiioclkiapbjnaaGreatDoor
namespace Go.Proofs.YtiioclkiapbjnaaGreatDoor
open Go.RowKit YtiioclkiapbjnaaGreatDoor.En
set_option linter.unusedVariables false
set_option linter.unusedSimpArgs false
open Go.Value (int bool)
set_option maxRecDepth 100000 in
set_option maxHeartbeats 2000000 in
set_option maxHeartbeats 2000000 in
theorem f_lumlaw_WalkPlants_ok (fu : Nat) (a0 : S_api_Way) (v1_0 : Value) (a1 : (List S_api_Item)) {r : Bool} (h : f_lumlaw_WalkPlants fu a0 a1 = some r) : FnOk Tryz.prog 3 [(ag [(int .i64 a0.Fixed), (int .i64 a0.Cut.Min), (int .i64 a0.Cut.Max), (int .i64 a0.Cut.Bits)]), v1_0] [(fDat (tyList tyS_api_Item) [v1_0] a1), uMax, uTabs] [] (fun (i : Unit) => { val := (bool r) }) := by
 unfold f_lumlaw_WalkPlants at h
 refine fn_enter Tryz.func3 rfl Tryz.ntmps3 rfl (fun w0 Z0 => ?_)
 refine aw_sr ?_
 refine al_box (vs := [(iq a0.Fixed), (iq a0.Cut.Min), (iq a0.Cut.Max), (iq a0.Cut.Bits)]) rfl (cv_rfl rfl) rfl (fun g1 => ?_)
 refine an_ ?_
 refine aw_sr ?_
 refine al_val (ov_load (i := 0) (v := (ag [(iq a0.Fixed), (iq a0.Cut.Min), (iq a0.Cut.Max), (iq a0.Cut.Bits)])) rfl rfl Tryz.underlying25 sz25 rfl rfl rfl rfl) ?_
 refine mv_ ?_
 obtain ⟨r3, hc2, h⟩ := opt_some h
 refine al_call (vs := [(ag [(iq a0.Fixed), (iq a0.Cut.Min), (iq a0.Cut.Max), (iq a0.Cut.Bits)]), v1_0]) (f_walk_Plant_ok fu a0 v1_0 a1 hc2) [] [] [0] (pre_fz 0 rfl (pre_fz 1 rfl (pre_fz 2 rfl pre_nil))) rfl (by simp) (by decide) (.inl rfl) rfl Tryz.func4 rfl rfl rfl (fun v4 => ?_)
 refine mv_ ?_
 refine al_ex rfl rfl rfl ?_
 refine al_ex rfl rfl rfl ?_
 refine al_ex rfl rfl rfl ?_
 refine al_alloc (zs := (cA8u8 zA8u8)) (zeroOf_to to29) rfl rfl (fun g5 => ?_)
 refine as_ ?_
 refine al_store (i := 0) (vs := (cA8u8 r3.2.1)) (cs' := (cA8u8 r3.2.1)) rfl rfl rfl sz29 (cv_rfl rfl) rfl (co_all (oneA8u8 r3.2.1)) (Nat.le_of_ble_eq_true rfl) rfl rfl ?_
 refine an_ ?_
 refine aw_sr ?_
 refine al_val (ov_load (i := 2) (v := (ag [(iq a0.Fixed), (iq a0.Cut.Min), (iq a0.Cut.Max), (iq a0.Cut.Bits)])) rfl rfl Tryz.underlying25 sz25 rfl rfl rfl rfl) ?_
 refine mv_ ?_
 obtain ⟨r7, hc6, h⟩ := opt_some h
 refine al_call (vs := [(ag [(iq a0.Fixed), (iq a0.Cut.Min), (iq a0.Cut.Max), (iq a0.Cut.Bits)]), v1_0]) (f_lumref_Plant_ok fu a0 v1_0 a1 hc6) [] [] [0, 1, 2] (pre_fz 0 rfl (pre_fz 1 rfl pre_nil)) rfl (by simp) (by decide) (.inl rfl) rfl Tryz.func5 rfl rfl rfl (fun v8 => ?_)
 refine mv_ ?_
 refine al_ex rfl rfl rfl ?_
 refine al_ex rfl rfl rfl ?_
 refine al_ex rfl rfl rfl ?_
 refine al_alloc (zs := (cA8u8 zA8u8)) (zeroOf_to to29) rfl rfl (fun g9 => ?_)
 refine as_ ?_
 refine al_store (i := 0) (vs := (cA8u8 r7.2.1)) (cs' := (cA8u8 r7.2.1)) rfl rfl rfl sz29 (cv_rfl rfl) rfl (co_all (oneA8u8 r7.2.1)) (Nat.le_of_ble_eq_true rfl) rfl rfl ?_
 refine an_ ?_
 obtain ⟨kk11, hkk11, h⟩ := lt_some h
 refine aw_seq_join (ι := Bool) (fun i => (memOf w0 Z0 [] [] [(fDat (tyList tyS_api_Item) [v1_0] a1), uMax, uTabs])) (fun i => (tab [(4, (bool i))])) (fun i => kk11 i = some r) ?_ ?_
 rintro j10b4 h
 have h : kk11 j10b4 = some r := h
 rw [hkk11] at h
 dsimp only at h
 clear hkk11
 refine aw_show (m := (memOf w0 Z0 [] [] [(fDat (tyList tyS_api_Item) [v1_0] a1), uMax, uTabs])) (S := _) ?_
 refine aw_ret ?_
 cases h
 exact fr1_
 clear hkk11
 refine aw_region_open [(sp_ 0 25 v1_0), (sp_ 2 27 v1_0)] (tab [(1, v1_0), (2, (pq g1)), (4, (bool false)), (5, v4), (6, (pq g5)), (7, (iq r3.2.2)), (8, v8), (9, (pq g9)), (10, (iq r7.2.2))]) mixed (fun a hs => hs.tab _ (allT_mem ⟨rfl, rfl, rfl, rfl, rfl, rfl, rfl, rfl, rfl, trivial⟩)) ?_
 refine ta_show (m := (mm51 w0 Z0 a0 a1 g1 g5 g9 r3 r7 v1_0 v4 v8)) (S := _) ?_
 refine ta_step 1 _ [0, 2] [25, 27] [0] [] [(sp_ 0 25 v1_0)] [(sp_ 2 27 v1_0)] rfl rfl rfl (by kernel_rfl) rfl rfl rfl ⟨⟨_, rfl, [], rfl, by
  intro X_ Y_ F_ K_ hK_
  refine sh_ (mm51 w0 Z0 a0 a1 g1 g5 g9 r3 r7 v1_0 v4 v8) X_ Y_ ?_
  refine mv_ ?_
  refine al_nil ?_
  exact fr_fin hK_ ()⟩, ⟨_, rfl, [], rfl, by
  intro X_ Y_ F_ K_ hK_
  refine sh_ (mm51 w0 Z0 a0 a1 g1 g5 g9 r3 r7 v1_0 v4 v8) X_ Y_ ?_
  refine mv_ ?_
  refine al_nil ?_
  exact fr_fin hK_ ()⟩, trivial⟩ ?_
 intro _
 intro X_ Y_ F_ K_ hK_
 refine sh_ (mm51 w0 Z0 a0 a1 g1 g5 g9 r3 r7 v1_0 v4 v8) X_ Y_ ?_
 obtain ⟨r13, hc12, h⟩ := opt_some h
 refine al_callX (vs := [v1_0]) (f_walk_Check_ok fu v1_0 a1 hc12) [] [] [0, 1, 2, 3, 4] (pre_fz 0 rfl (pre_fz 1 rfl (pre_fz 2 rfl pre_nil))) rfl (by simp) (by decide) rfl (.inl rfl) rfl Tryz.func6 rfl rfl rfl (fun _ => ?_)
 refine al_nil ?_
 refine aq_show (m := Mem.plus (mm51 w0 Z0 a0 a1 g1 g5 g9 r3 r7 v1_0 v4 v8) X_ Y_) ?_
 refine aq_next hK_ [0, 1, 2, 3, 4] [0, 1, 2] [(1, v1_0), (2, (pq g1)), (4, (bool false)), (5, v4), (6, (pq g5)), (7, (iq r3.2.2)), (8, v8), (9, (pq g9)), (10, (iq r7.2.2)), (26, (iq r13))] [27] [] rfl rfl (by decide) rfl ⟨rfl, rfl, rfl, rfl, rfl, rfl, rfl, rfl, rfl, rfl, trivial⟩ ⟨rfl, trivial⟩ ?_
 clear hK_ K_ F_ X_ Y_
 refine ta_show (m := (mm51 w0 Z0 a0 a1 g1 g5 g9 r3 r7 v1_0 v4 v8)) (S := _) ?_
 refine ta_step 3 _ [2] [27] [2] [4, 5, 6, 8] [(sp_ 2 27 v1_0)] [] rfl rfl rfl (by kernel_rfl) rfl rfl rfl ⟨⟨_, rfl, [], rfl, by
  intro X_ Y_ F_ K_ hK_
  refine sh_ (mm51 w0 Z0 a0 a1 g1 g5 g9 r3 r7 v1_0 v4 v8) X_ Y_ ?_
  refine mv_ ?_
  refine al_nil ?_
  exact fr_fin hK_ ()⟩, trivial⟩ ?_
 intro _
 intro X_ Y_ F_ K_ hK_
 refine sh_ (mm51 w0 Z0 a0 a1 g1 g5 g9 r3 r7 v1_0 v4 v8) X_ Y_ ?_
 obtain ⟨r15, hc14, h⟩ := opt_some h
 refine al_callX (vs := [v1_0]) (f_lumref_World_ok fu v1_0 a1 hc14) [] [] [0, 1, 2, 3, 4] (pre_fz 0 rfl pre_nil) rfl (by simp) (by decide) rfl (.inl rfl) rfl Tryz.func7 rfl rfl rfl (fun _ => ?_)
 refine al_nil ?_
 rcases Bool.eq_false_or_eq_true (r13 == r15) with hb16 | hb16
 replace h := bif_t hb16 h
 refine aq_show (m := Mem.plus (mm51 w0 Z0 a0 a1 g1 g5 g9 r3 r7 v1_0 v4 v8) X_ Y_) ?_
 refine aq_next hK_ [0, 1, 2, 3, 4] [0, 1, 2] [(2, (pq g1)), (4, (bool false)), (5, v4), (6, (pq g5)), (7, (iq r3.2.2)), (8, v8), (9, (pq g9)), (10, (iq r7.2.2)), (26, (iq r13)), (28, (iq r15))] [] [(sp_ 4 29 (bool (r13 == r15))), (sp_ 5 30 (bool true)), (sp_ 6 31 (ag [(iq a0.Fixed), (iq a0.Cut.Min), (iq a0.Cut.Max), (iq a0.Cut.Bits)])), (sp_ 8 33 (ag [(iq a0.Fixed), (iq a0.Cut.Min), (iq a0.Cut.Max), (iq a0.Cut.Bits)]))] rfl rfl (by decide) rfl ⟨rfl, rfl, rfl, rfl, rfl, rfl, rfl, rfl, rfl, rfl, trivial⟩ trivial ?_
 clear hK_ K_ F_ X_ Y_
 refine ta_show (m := (mm51 w0 Z0 a0 a1 g1 g5 g9 r3 r7 v1_0 v4 v8)) (S := _) ?_
 refine ta_step 7 _ [4, 5, 6, 8] [29, 30, 31, 33] [4, 5, 6] [] [(sp_ 4 29 (bool (r13 == r15))), (sp_ 5 30 (bool true)), (sp_ 6 31 (ag [(iq a0.Fixed), (iq a0.Cut.Min), (iq a0.Cut.Max), (iq a0.Cut.Bits)]))] [(sp_ 8 33 (ag [(iq a0.Fixed), (iq a0.Cut.Min), (iq a0.Cut.Max), (iq a0.Cut.Bits)]))] rfl rfl rfl (by kernel_rfl) rfl rfl rfl ⟨⟨_, rfl, [], rfl, by
  intro X_ Y_ F_ K_ hK_
  refine sh_ (mm51 w0 Z0 a0 a1 g1 g5 g9 r3 r7 v1_0 v4 v8) X_ Y_ ?_
  refine in_ ?_
  refine al_nil ?_
  exact fr_fin hK_ ()⟩, ⟨_, rfl, [0], rfl, by
  intro _
  intro X_ Y_ F_ K_ hK_
  refine sh_ (mm51 w0 Z0 a0 a1 g1 g5 g9 r3 r7 v1_0 v4 v8) X_ Y_ ?_
  refine al_val (ov_cast (by first | rw [hb16] | rfl) (ov_move rfl rfl)) ?_
  refine al_nil ?_
  exact fr_fin hK_ ()⟩, ⟨_, rfl, [1], rfl, by
  intro _
  intro X_ Y_ F_ K_ hK_
  refine sh_ (mm51 w0 Z0 a0 a1 g1 g5 g9 r3 r7 v1_0 v4 v8) X_ Y_ ?_
  refine al_val (ov_load (i := 4) (v := (ag [(iq a0.Fixed), (iq a0.Cut.Min), (iq a0.Cut.Max), (iq a0.Cut.Bits)])) rfl rfl Tryz.underlying25 sz25 rfl rfl rfl rfl) ?_
  refine al_nil ?_
  exact fr_fin hK_ ()⟩, ⟨_, rfl, [1], rfl, by
  intro _
  intro X_ Y_ F_ K_ hK_
  refine sh_ (mm51 w0 Z0 a0 a1 g1 g5 g9 r3 r7 v1_0 v4 v8) X_ Y_ ?_
  refine al_val (ov_load (i := 4) (v := (ag [(iq a0.Fixed), (iq a0.Cut.Min), (iq a0.Cut.Max), (iq a0.Cut.Bits)])) rfl rfl Tryz.underlying25 sz25 rfl rfl rfl rfl) ?_
  refine al_nil ?_
  exact fr_fin hK_ ()⟩, trivial⟩ ?_
 intro _
 intro _
 intro _
 intro X_ Y_ F_ K_ hK_
 refine sh_ (mm51 w0 Z0 a0 a1 g1 g5 g9 r3 r7 v1_0 v4 v8) X_ Y_ ?_
 obtain ⟨r18, hc17, h⟩ := opt_some h
 refine al_callX (vs := [(ag [(iq a0.Fixed), (iq a0.Cut.Min), (iq a0.Cut.Max), (iq a0.Cut.Bits)])]) (f_walk_WayOK_ok fu a0 hc17) [] [] [0, 1, 2, 3, 4] pre_nil rfl (by simp) (by decide) rfl (.inl rfl) rfl Tryz.func8 rfl rfl rfl (fun _ => ?_)
 refine al_nil ?_
 refine aq_show (m := Mem.plus (mm51 w0 Z0 a0 a1 g1 g5 g9 r3 r7 v1_0 v4 v8) X_ Y_) ?_
 refine aq_next hK_ [0, 1, 2, 3, 4] [0, 1, 2] [(2, (pq g1)), (4, (bool false)), (5, v4), (6, (pq g5)), (7, (iq r3.2.2)), (8, v8), (9, (pq g9)), (10, (iq r7.2.2)), (30, (bool true)), (32, (iq r18))] [33] [] rfl rfl (by decide) rfl ⟨rfl, rfl, rfl, rfl, rfl, rfl, rfl, rfl, rfl, rfl, trivial⟩ ⟨rfl, trivial⟩ ?_
 clear hK_ K_ F_ X_ Y_
 refine ta_show (m := (mm51 w0 Z0 a0 a1 g1 g5 g9 r3 r7 v1_0 v4 v8)) (S := _) ?_
 refine ta_step 9 _ [8] [33] [8] [10, 11, 12, 13, 14] [(sp_ 8 33 (ag [(iq a0.Fixed), (iq a0.Cut.Min), (iq a0.Cut.Max), (iq a0.Cut.Bits)]))] [] rfl rfl rfl (by kernel_rfl) rfl rfl rfl ⟨⟨_, rfl, [], rfl, by
  intro X_ Y_ F_ K_ hK_
  refine sh_ (mm51 w0 Z0 a0 a1 g1 g5 g9 r3 r7 v1_0 v4 v8) X_ Y_ ?_
  refine al_val (ov_load (i := 4) (v := (ag [(iq a0.Fixed), (iq a0.Cut.Min), (iq a0.Cut.Max), (iq a0.Cut.Bits)])) rfl rfl Tryz.underlying25 sz25 rfl rfl rfl rfl) ?_
  refine al_nil ?_
  exact fr_fin hK_ ()⟩, trivial⟩ ?_
 intro _
 intro X_ Y_ F_ K_ hK_
 refine sh_ (mm51 w0 Z0 a0 a1 g1 g5 g9 r3 r7 v1_0 v4 v8) X_ Y_ ?_
 obtain ⟨r20, hc19, h⟩ := opt_some h
 refine al_callX (vs := [(ag [(iq a0.Fixed), (iq a0.Cut.Min), (iq a0.Cut.Max), (iq a0.Cut.Bits)])]) (f_lumref_Way_ok fu a0 hc19) [] [] [0, 1, 2, 3, 4] pre_nil rfl (by simp) (by decide) rfl (.inl rfl) rfl Tryz.func9 rfl rfl rfl (fun _ => ?_)
 refine al_nil ?_
 rcases Bool.eq_false_or_eq_true (r18 == r20) with hb21 | hb21
 replace h := bif_t hb21 h
 refine aq_show (m := Mem.plus (mm51 w0 Z0 a0 a1 g1 g5 g9 r3 r7 v1_0 v4 v8) X_ Y_) ?_
 refine aq_next hK_ [0, 1, 2, 3, 4] [0, 1, 2] [(4, (bool false)), (5, v4), (6, (pq g5)), (7, (iq r3.2.2)), (8, v8), (9, (pq g9)), (10, (iq r7.2.2)), (30, (bool true)), (32, (iq r18)), (34, (iq r20))] [] [(sp_ 10 35 (bool (r18 == r20))), (sp_ 11 36 (bool (r18 == r20))), (sp_ 12 37 (bool true)), (sp_ 13 38 v4), (sp_ 14 39 v8)] rfl rfl (by decide) rfl ⟨rfl, rfl, rfl, rfl, rfl, rfl, rfl, rfl, rfl, rfl, trivial⟩ trivial ?_
 clear hK_ K_ F_ X_ Y_
 refine ta_show (m := (mm51 w0 Z0 a0 a1 g1 g5 g9 r3 r7 v1_0 v4 v8)) (S := _) ?_
 refine ta_step 15 _ [10, 11, 12, 13, 14] [35, 36, 37, 38, 39] [10, 11, 12, 13, 14] [16, 17, 18, 19, 20, 21, 22, 23, 24, 25, 26] [(sp_ 10 35 (bool (r18 == r20))), (sp_ 11 36 (bool (r18 == r20))), (sp_ 12 37 (bool true)), (sp_ 13 38 v4), (sp_ 14 39 v8)] [] rfl rfl rfl (by kernel_rfl) rfl rfl rfl ⟨⟨_, rfl, [], rfl, by
  intro X_ Y_ F_ K_ hK_
  refine sh_ (mm51 w0 Z0 a0 a1 g1 g5 g9 r3 r7 v1_0 v4 v8) X_ Y_ ?_
  refine in_ ?_
  refine al_nil ?_
  exact fr_fin hK_ ()⟩, ⟨_, rfl, [0], rfl, by
  intro _
  intro X_ Y_ F_ K_ hK_
  refine sh_ (mm51 w0 Z0 a0 a1 g1 g5 g9 r3 r7 v1_0 v4 v8) X_ Y_ ?_
  refine al_val (ov_pick_t rfl rfl rfl) ?_
  refine al_nil ?_
  exact fr_fin hK_ ()⟩, ⟨_, rfl, [1], rfl, by
  intro _
  intro X_ Y_ F_ K_ hK_
  refine sh_ (mm51 w0 Z0 a0 a1 g1 g5 g9 r3 r7 v1_0 v4 v8) X_ Y_ ?_
  refine al_val (ov_cast (by first | rw [hb21] | rfl) (ov_move rfl rfl)) ?_
  refine al_nil ?_
  exact fr_fin hK_ ()⟩, ⟨_, rfl, [2], rfl, by
  intro _
  intro X_ Y_ F_ K_ hK_
  refine sh_ (mm51 w0 Z0 a0 a1 g1 g5 g9 r3 r7 v1_0 v4 v8) X_ Y_ ?_
  refine mv_ ?_
  refine al_nil ?_
  exact fr_fin hK_ ()⟩, ⟨_, rfl, [2], rfl, by
  intro _
  intro X_ Y_ F_ K_ hK_
  refine sh_ (mm51 w0 Z0 a0 a1 g1 g5 g9 r3 r7 v1_0 v4 v8) X_ Y_ ?_
  refine mv_ ?_
  refine al_nil ?_
  exact fr_fin hK_ ()⟩, trivial⟩ ?_
 intro _
 intro _
 intro _
 intro _
 intro _
 intro X_ Y_ F_ K_ hK_
 refine sh_ (mm51 w0 Z0 a0 a1 g1 g5 g9 r3 r7 v1_0 v4 v8) X_ Y_ ?_
 obtain ⟨r23, hc22, h⟩ := opt_some h
 refine al_callX (vs := [v4, v8]) (f_slices_Equal___api_Blob_api_Blob__ok fu v4 r3.1 v8 r7.1 hc22) [1, 3] [] [0, 1, 2, 3, 4] (pre_own 3 rfl rfl (pre_own 1 rfl rfl pre_nil)) rfl (by simp) (by decide) rfl (.inr flat_res0) rfl Tryz.func10 rfl rfl rfl (fun _ => ?_)
 refine al_nil ?_
 rcases Bool.eq_false_or_eq_true r23 with hb24 | hb24
 replace h := bif_t hb24 h
 rcases Bool.eq_false_or_eq_true (r3.2.1 == r7.2.1) with hb25 | hb25
 replace h := bif_t hb25 h
 refine aq_show (m := Mem.plus (mm51 w0 Z0 a0 a1 g1 g5 g9 r3 r7 v1_0 v4 v8) X_ Y_) ?_
 refine aq_next hK_ [0, 1, 2, 3, 4] [0, 1, 2] [(4, (bool false)), (6, (pq g5)), (7, (iq r3.2.2)), (9, (pq g9)), (10, (iq r7.2.2)), (37, (bool true)), (40, (bool r23))] [] [(sp_ 16 41 (bool r23)), (sp_ 17 42 (bool true)), (sp_ 18 43 (ag (cA8u8 r3.2.1))), (sp_ 19 44 (ag (cA8u8 r7.2.1))), (sp_ 20 45 (bool (r3.2.1 == r7.2.1))), (sp_ 21 46 (bool (r3.2.1 == r7.2.1))), (sp_ 22 47 (bool true)), (sp_ 23 48 (iq r3.2.2)), (sp_ 24 49 (iq r7.2.2)), (sp_ 25 50 (bool (r3.2.2 == r7.2.2))), (sp_ 26 51 (bool (r3.2.2 == r7.2.2)))] rfl rfl (by decide) rfl ⟨rfl, rfl, rfl, rfl, rfl, rfl, rfl, trivial⟩ trivial ?_
 clear hK_ K_ F_ X_ Y_
 refine ta_show (m := (mm51 w0 Z0 a0 a1 g1 g5 g9 r3 r7 v1_0 v4 v8)) (S := _) ?_
 refine ta_step 27 _ [16, 17, 18, 19, 20, 21, 22, 23, 24, 25, 26] [41, 42, 43, 44, 45, 46, 47, 48, 49, 50, 51] [16, 17, 18, 19, 20, 21, 22, 23, 24, 25, 26] [] [(sp_ 16 41 (bool r23)), (sp_ 17 42 (bool true)), (sp_ 18 43 (ag (cA8u8 r3.2.1))), (sp_ 19 44 (ag (cA8u8 r7.2.1))), (sp_ 20 45 (bool (r3.2.1 == r7.2.1))), (sp_ 21 46 (bool (r3.2.1 == r7.2.1))), (sp_ 22 47 (bool true)), (sp_ 23 48 (iq r3.2.2)), (sp_ 24 49 (iq r7.2.2)), (sp_ 25 50 (bool (r3.2.2 == r7.2.2))), (sp_ 26 51 (bool (r3.2.2 == r7.2.2)))] [] rfl rfl rfl (by kernel_rfl) rfl rfl rfl ⟨⟨_, rfl, [], rfl, by
  intro X_ Y_ F_ K_ hK_
  refine sh_ (mm51 w0 Z0 a0 a1 g1 g5 g9 r3 r7 v1_0 v4 v8) X_ Y_ ?_
  refine al_val (ov_pick_t rfl rfl rfl) ?_
  refine al_nil ?_
  exact fr_fin hK_ ()⟩, ⟨_, rfl, [0], rfl, by
  intro _
  intro X_ Y_ F_ K_ hK_
  refine sh_ (mm51 w0 Z0 a0 a1 g1 g5 g9 r3 r7 v1_0 v4 v8) X_ Y_ ?_
  refine al_val (ov_cast (by first | rw [hb24] | rfl) (ov_move rfl rfl)) ?_
  refine al_nil ?_
  exact fr_fin hK_ ()⟩, ⟨_, rfl, [1], rfl, by
  intro _
  intro X_ Y_ F_ K_ hK_
  refine sh_ (mm51 w0 Z0 a0 a1 g1 g5 g9 r3 r7 v1_0 v4 v8) X_ Y_ ?_
  refine al_val (ov_load (i := 2) (v := (ag (cA8u8 r3.2.1))) rfl rfl Tryz.underlying29 sz29 rfl rfl rfl rfl) ?_
  refine al_nil ?_
  exact fr_fin hK_ ()⟩, ⟨_, rfl, [1], rfl, by
  intro _
  intro X_ Y_ F_ K_ hK_
  refine sh_ (mm51 w0 Z0 a0 a1 g1 g5 g9 r3 r7 v1_0 v4 v8) X_ Y_ ?_
  refine al_val (ov_load (i := 0) (v := (ag (cA8u8 r7.2.1))) rfl rfl Tryz.underlying29 sz29 rfl rfl rfl rfl) ?_
  refine al_nil ?_
  exact fr_fin hK_ ()⟩, ⟨_, rfl, [1, 2, 3], rfl, by
  intro _
  intro _
  intro _
  intro X_ Y_ F_ K_ hK_
  refine sh_ (mm51 w0 Z0 a0 a1 g1 g5 g9 r3 r7 v1_0 v4 v8) X_ Y_ ?_
  refine al_val (ov_eqlA (cs := (cA8u8 r3.2.1)) (ds := (cA8u8 r7.2.1)) (ls := [5, 5, 5, 5, 5, 5, 5, 5]) (p := (r3.2.1 == r7.2.1)) eg29 kt29 lv29 rfl rfl (by kernel_rfl) (by kernel_rfl) (fit_cons (fit_u8 Tryz.underlying5) (fit_cons (fit_u8 Tryz.underlying5) (fit_cons (fit_u8 Tryz.underlying5) (fit_cons (fit_u8 Tryz.underlying5) (fit_cons (fit_u8 Tryz.underlying5) (fit_cons (fit_u8 Tryz.underlying5) (fit_cons (fit_u8 Tryz.underlying5) (fit_cons (fit_u8 Tryz.underlying5) fit_nil)))))))) (fit_cons (fit_u8 Tryz.underlying5) (fit_cons (fit_u8 Tryz.underlying5) (fit_cons (fit_u8 Tryz.underlying5) (fit_cons (fit_u8 Tryz.underlying5) (fit_cons (fit_u8 Tryz.underlying5) (fit_cons (fit_u8 Tryz.underlying5) (fit_cons (fit_u8 Tryz.underlying5) (fit_cons (fit_u8 Tryz.underlying5) fit_nil)))))))) (injA8u8 (x := r3.2.1) (y := r7.2.1)) rfl) ?_
  refine al_nil ?_
  exact fr_fin hK_ ()⟩, ⟨_, rfl, [1, 4], rfl, by
  intro _
  intro _
  intro X_ Y_ F_ K_ hK_
  refine sh_ (mm51 w0 Z0 a0 a1 g1 g5 g9 r3 r7 v1_0 v4 v8) X_ Y_ ?_
  refine al_val (ov_pick_t rfl rfl rfl) ?_
  refine al_nil ?_
  exact fr_fin hK_ ()⟩, ⟨_, rfl, [1, 5], rfl, by
  intro _
  intro _
  intro X_ Y_ F_ K_ hK_
  refine sh_ (mm51 w0 Z0 a0 a1 g1 g5 g9 r3 r7 v1_0 v4 v8) X_ Y_ ?_
  refine al_val (ov_cast (by first | rw [hb25] | rfl) (ov_move rfl rfl)) ?_
  refine al_nil ?_
  exact fr_fin hK_ ()⟩, ⟨_, rfl, [6], rfl, by
  intro _
  intro X_ Y_ F_ K_ hK_
  refine sh_ (mm51 w0 Z0 a0 a1 g1 g5 g9 r3 r7 v1_0 v4 v8) X_ Y_ ?_
  refine mv_ ?_
  refine al_nil ?_
  exact fr_fin hK_ ()⟩, ⟨_, rfl, [6], rfl, by
  intro _
  intro X_ Y_ F_ K_ hK_
  refine sh_ (mm51 w0 Z0 a0 a1 g1 g5 g9 r3 r7 v1_0 v4 v8) X_ Y_ ?_
  refine mv_ ?_
  refine al_nil ?_
  exact fr_fin hK_ ()⟩, ⟨_, rfl, [6, 7, 8], rfl, by
  intro _
  intro _
  intro _
  intro X_ Y_ F_ K_ hK_
  refine sh_ (mm51 w0 Z0 a0 a1 g1 g5 g9 r3 r7 v1_0 v4 v8) X_ Y_ ?_
  refine in_ ?_
  refine al_nil ?_
  exact fr_fin hK_ ()⟩, ⟨_, rfl, [6, 9], rfl, by
  intro _
  intro _
  intro X_ Y_ F_ K_ hK_
  refine sh_ (mm51 w0 Z0 a0 a1 g1 g5 g9 r3 r7 v1_0 v4 v8) X_ Y_ ?_
  refine al_val (ov_pick_t rfl rfl rfl) ?_
  refine al_nil ?_
  exact fr_fin hK_ ()⟩, trivial⟩ ?_
 intro _
 intro _
 intro _
 intro _
 intro _
 intro _
 intro _
 intro _
 intro _
 intro _
 intro _
 intro X_ Y_ F_ K_ hK_
 refine sh_ (mm51 w0 Z0 a0 a1 g1 g5 g9 r3 r7 v1_0 v4 v8) X_ Y_ ?_
 refine as_ ?_
 refine al_nil ?_
 refine aq_show (m := Mem.plus (mm51 w0 Z0 a0 a1 g1 g5 g9 r3 r7 v1_0 v4 v8) X_ Y_) ?_
 refine aq_next hK_ [0, 1, 2, 3, 4] [0, 1, 2] [(4, (bool (r3.2.2 == r7.2.2)))] [] [] rfl rfl (by decide) rfl ⟨rfl, trivial⟩ trivial ?_
 clear hK_ K_ F_ X_ Y_
 refine ta_show (m := (mm51 w0 Z0 a0 a1 g1 g5 g9 r3 r7 v1_0 v4 v8)) (S := _) ?_
 refine ta_end [] [] rfl rfl (by kernel_rfl) rfl trivial ?_
 refine aq_show (m := (mm51 w0 Z0 a0 a1 g1 g5 g9 r3 r7 v1_0 v4 v8)) (S := (tab [(4, (bool (r3.2.2 == r7.2.2)))])) ?_
 exact aq_join (r3.2.2 == r7.2.2) h (nm_ [] [0, 1, 2] (by decide) ⟨rfl, trivial⟩)
 replace h := bif_f hb25 h
 refine aq_show (m := Mem.plus (mm51 w0 Z0 a0 a1 g1 g5 g9 r3 r7 v1_0 v4 v8) X_ Y_) ?_
 refine aq_next hK_ [0, 1, 2, 3, 4] [0, 1, 2] [(4, (bool false)), (6, (pq g5)), (7, (iq r3.2.2)), (9, (pq g9)), (10, (iq r7.2.2)), (37, (bool true)), (40, (bool r23))] [] [(sp_ 16 41 (bool r23)), (sp_ 17 42 (bool true)), (sp_ 18 43 (ag (cA8u8 r3.2.1))), (sp_ 19 44 (ag (cA8u8 r7.2.1))), (sp_ 20 45 (bool (r3.2.1 == r7.2.1))), (sp_ 21 46 (bool (r3.2.1 == r7.2.1))), (sp_ 22 47 (bool false)), (sp_ 23 48 undef), (sp_ 24 49 undef), (sp_ 25 50 undef), (sp_ 26 51 (bool false))] rfl rfl (by decide) rfl ⟨rfl, rfl, rfl, rfl, rfl, rfl, rfl, trivial⟩ trivial ?_
 clear hK_ K_ F_ X_ Y_
 refine ta_show (m := (mm51 w0 Z0 a0 a1 g1 g5 g9 r3 r7 v1_0 v4 v8)) (S := _) ?_
 refine ta_step 27 _ [16, 17, 18, 19, 20, 21, 22, 23, 24, 25, 26] [41, 42, 43, 44, 45, 46, 47, 48, 49, 50, 51] [16, 17, 18, 19, 20, 21, 22, 23, 24, 25, 26] [] [(sp_ 16 41 (bool r23)), (sp_ 17 42 (bool true)), (sp_ 18 43 (ag (cA8u8 r3.2.1))), (sp_ 19 44 (ag (cA8u8 r7.2.1))), (sp_ 20 45 (bool (r3.2.1 == r7.2.1))), (sp_ 21 46 (bool (r3.2.1 == r7.2.1))), (sp_ 22 47 (bool false)), (sp_ 23 48 undef), (sp_ 24 49 undef), (sp_ 25 50 undef), (sp_ 26 51 (bool false))] [] rfl rfl rfl (by kernel_rfl) rfl rfl rfl ⟨⟨_, rfl, [], rfl, by
  intro X_ Y_ F_ K_ hK_
  refine sh_ (mm51 w0 Z0 a0 a1 g1 g5 g9 r3 r7 v1_0 v4 v8) X_ Y_ ?_
  refine al_val (ov_pick_t rfl rfl rfl) ?_
  refine al_nil ?_
  exact fr_fin hK_ ()⟩, ⟨_, rfl, [0], rfl, by
  intro _
  intro X_ Y_ F_ K_ hK_
  refine sh_ (mm51 w0 Z0 a0 a1 g1 g5 g9 r3 r7 v1_0 v4 v8) X_ Y_ ?_
  refine al_val (ov_cast (by first | rw [hb24] | rfl) (ov_move rfl rfl)) ?_
  refine al_nil ?_
  exact fr_fin hK_ ()⟩, ⟨_, rfl, [1], rfl, by
  intro _
  intro X_ Y_ F_ K_ hK_
  refine sh_ (mm51 w0 Z0 a0 a1 g1 g5 g9 r3 r7 v1_0 v4 v8) X_ Y_ ?_
  refine al_val (ov_load (i := 2) (v := (ag (cA8u8 r3.2.1))) rfl rfl Tryz.underlying29 sz29 rfl rfl rfl rfl) ?_
  refine al_nil ?_
  exact fr_fin hK_ ()⟩, ⟨_, rfl, [1], rfl, by
  intro _
  intro X_ Y_ F_ K_ hK_
  refine sh_ (mm51 w0 Z0 a0 a1 g1 g5 g9 r3 r7 v1_0 v4 v8) X_ Y_ ?_
  refine al_val (ov_load (i := 0) (v := (ag (cA8u8 r7.2.1))) rfl rfl Tryz.underlying29 sz29 rfl rfl rfl rfl) ?_
  refine al_nil ?_
  exact fr_fin hK_ ()⟩, ⟨_, rfl, [1, 2, 3], rfl, by
  intro _
  intro _
  intro _
  intro X_ Y_ F_ K_ hK_
  refine sh_ (mm51 w0 Z0 a0 a1 g1 g5 g9 r3 r7 v1_0 v4 v8) X_ Y_ ?_
  refine al_val (ov_eqlA (cs := (cA8u8 r3.2.1)) (ds := (cA8u8 r7.2.1)) (ls := [5, 5, 5, 5, 5, 5, 5, 5]) (p := (r3.2.1 == r7.2.1)) eg29 kt29 lv29 rfl rfl (by kernel_rfl) (by kernel_rfl) (fit_cons (fit_u8 Tryz.underlying5) (fit_cons (fit_u8 Tryz.underlying5) (fit_cons (fit_u8 Tryz.underlying5) (fit_cons (fit_u8 Tryz.underlying5) (fit_cons (fit_u8 Tryz.underlying5) (fit_cons (fit_u8 Tryz.underlying5) (fit_cons (fit_u8 Tryz.underlying5) (fit_cons (fit_u8 Tryz.underlying5) fit_nil)))))))) (fit_cons (fit_u8 Tryz.underlying5) (fit_cons (fit_u8 Tryz.underlying5) (fit_cons (fit_u8 Tryz.underlying5) (fit_cons (fit_u8 Tryz.underlying5) (fit_cons (fit_u8 Tryz.underlying5) (fit_cons (fit_u8 Tryz.underlying5) (fit_cons (fit_u8 Tryz.underlying5) (fit_cons (fit_u8 Tryz.underlying5) fit_nil)))))))) (injA8u8 (x := r3.2.1) (y := r7.2.1)) rfl) ?_
  refine al_nil ?_
  exact fr_fin hK_ ()⟩, ⟨_, rfl, [1, 4], rfl, by
  intro _
  intro _
  intro X_ Y_ F_ K_ hK_
  refine sh_ (mm51 w0 Z0 a0 a1 g1 g5 g9 r3 r7 v1_0 v4 v8) X_ Y_ ?_
  refine al_val (ov_pick_t rfl rfl rfl) ?_
  refine al_nil ?_
  exact fr_fin hK_ ()⟩, ⟨_, rfl, [1, 5], rfl, by
  intro _
  intro _
  intro X_ Y_ F_ K_ hK_
  refine sh_ (mm51 w0 Z0 a0 a1 g1 g5 g9 r3 r7 v1_0 v4 v8) X_ Y_ ?_
  refine al_val (ov_cast (by first | rw [hb25] | rfl) (ov_move rfl rfl)) ?_
  refine al_nil ?_
  exact fr_fin hK_ ()⟩, ⟨_, rfl, [6], rfl, by
  intro _
  intro X_ Y_ F_ K_ hK_
  refine sh_ (mm51 w0 Z0 a0 a1 g1 g5 g9 r3 r7 v1_0 v4 v8) X_ Y_ ?_
  refine al_skip ?_
  refine al_nil ?_
  exact fr_fin hK_ ()⟩, ⟨_, rfl, [6], rfl, by
  intro _
  intro X_ Y_ F_ K_ hK_
  refine sh_ (mm51 w0 Z0 a0 a1 g1 g5 g9 r3 r7 v1_0 v4 v8) X_ Y_ ?_
  refine al_skip ?_
  refine al_nil ?_
  exact fr_fin hK_ ()⟩, ⟨_, rfl, [6, 7, 8], rfl, by
  intro _
  intro _
  intro _
  intro X_ Y_ F_ K_ hK_
  refine sh_ (mm51 w0 Z0 a0 a1 g1 g5 g9 r3 r7 v1_0 v4 v8) X_ Y_ ?_
  refine al_skip ?_
  refine al_nil ?_
  exact fr_fin hK_ ()⟩, ⟨_, rfl, [6, 9], rfl, by
  intro _
  intro _
  intro X_ Y_ F_ K_ hK_
  refine sh_ (mm51 w0 Z0 a0 a1 g1 g5 g9 r3 r7 v1_0 v4 v8) X_ Y_ ?_
  refine al_val (ov_pick_f rfl rfl rfl) ?_
  refine al_nil ?_
  exact fr_fin hK_ ()⟩, trivial⟩ ?_
 intro _
 intro _
 intro _
 intro _
 intro _
 intro _
 intro _
 intro _
 intro _
 intro _
 intro _
 intro X_ Y_ F_ K_ hK_
 refine sh_ (mm51 w0 Z0 a0 a1 g1 g5 g9 r3 r7 v1_0 v4 v8) X_ Y_ ?_
 refine as_ ?_
 refine al_nil ?_
 refine aq_show (m := Mem.plus (mm51 w0 Z0 a0 a1 g1 g5 g9 r3 r7 v1_0 v4 v8) X_ Y_) ?_
 refine aq_next hK_ [0, 1, 2, 3, 4] [0, 1, 2] [(4, (bool false))] [] [] rfl rfl (by decide) rfl ⟨rfl, trivial⟩ trivial ?_
 clear hK_ K_ F_ X_ Y_
 refine ta_show (m := (mm51 w0 Z0 a0 a1 g1 g5 g9 r3 r7 v1_0 v4 v8)) (S := _) ?_
 refine ta_end [] [] rfl rfl (by kernel_rfl) rfl trivial ?_
 refine aq_show (m := (mm51 w0 Z0 a0 a1 g1 g5 g9 r3 r7 v1_0 v4 v8)) (S := (tab [(4, (bool false))])) ?_
 exact aq_join false h (nm_ [] [0, 1, 2] (by decide) ⟨rfl, trivial⟩)
 replace h := bif_f hb24 h
 refine aq_show (m := Mem.plus (mm51 w0 Z0 a0 a1 g1 g5 g9 r3 r7 v1_0 v4 v8) X_ Y_) ?_
 refine aq_next hK_ [0, 1, 2, 3, 4] [0, 1, 2] [(4, (bool false)), (6, (pq g5)), (7, (iq r3.2.2)), (9, (pq g9)), (10, (iq r7.2.2)), (37, (bool true)), (40, (bool r23))] [] [(sp_ 16 41 (bool r23)), (sp_ 17 42 (bool false)), (sp_ 18 43 undef), (sp_ 19 44 undef), (sp_ 20 45 undef), (sp_ 21 46 (bool false)), (sp_ 22 47 (bool false)), (sp_ 23 48 undef), (sp_ 24 49 undef), (sp_ 25 50 undef), (sp_ 26 51 (bool false))] rfl rfl (by decide) rfl ⟨rfl, rfl, rfl, rfl, rfl, rfl, rfl, trivial⟩ trivial ?_
 clear hK_ K_ F_ X_ Y_
 refine ta_show (m := (mm51 w0 Z0 a0 a1 g1 g5 g9 r3 r7 v1_0 v4 v8)) (S := _) ?_
 refine ta_step 27 _ [16, 17, 18, 19, 20, 21, 22, 23, 24, 25, 26] [41, 42, 43, 44, 45, 46, 47, 48, 49, 50, 51] [16, 17, 18, 19, 20, 21, 22, 23, 24, 25, 26] [] [(sp_ 16 41 (bool r23)), (sp_ 17 42 (bool false)), (sp_ 18 43 undef), (sp_ 19 44 undef), (sp_ 20 45 undef), (sp_ 21 46 (bool false)), (sp_ 22 47 (bool false)), (sp_ 23 48 undef), (sp_ 24 49 undef), (sp_ 25 50 undef), (sp_ 26 51 (bool false))] [] rfl rfl rfl (by kernel_rfl) rfl rfl rfl ⟨⟨_, rfl, [], rfl, by
  intro X_ Y_ F_ K_ hK_
  refine sh_ (mm51 w0 Z0 a0 a1 g1 g5 g9 r3 r7 v1_0 v4 v8) X_ Y_ ?_
  refine al_val (ov_pick_t rfl rfl rfl) ?_
  refine al_nil ?_
  exact fr_fin hK_ ()⟩, ⟨_, rfl, [0], rfl, by
  intro _
  intro X_ Y_ F_ K_ hK_
  refine sh_ (mm51 w0 Z0 a0 a1 g1 g5 g9 r3 r7 v1_0 v4 v8) X_ Y_ ?_
  refine al_val (ov_cast (by first | rw [hb24] | rfl) (ov_move rfl rfl)) ?_
  refine al_nil ?_
  exact fr_fin hK_ ()⟩, ⟨_, rfl, [1], rfl, by
  intro _
  intro X_ Y_ F_ K_ hK_
  refine sh_ (mm51 w0 Z0 a0 a1 g1 g5 g9 r3 r7 v1_0 v4 v8) X_ Y_ ?_
  refine al_skip ?_
  refine al_nil ?_
  exact fr_fin hK_ ()⟩, ⟨_, rfl, [1], rfl, by
  intro _
  intro X_ Y_ F_ K_ hK_
  refine sh_ (mm51 w0 Z0 a0 a1 g1 g5 g9 r3 r7 v1_0 v4 v8) X_ Y_ ?_
  refine al_skip ?_
  refine al_nil ?_
  exact fr_fin hK_ ()⟩, ⟨_, rfl, [1, 2, 3], rfl, by
  intro _
  intro _
  intro _
  intro X_ Y_ F_ K_ hK_
  refine sh_ (mm51 w0 Z0 a0 a1 g1 g5 g9 r3 r7 v1_0 v4 v8) X_ Y_ ?_
  refine al_skip ?_
  refine al_nil ?_
  exact fr_fin hK_ ()⟩, ⟨_, rfl, [1, 4], rfl, by
  intro _
  intro _
  intro X_ Y_ F_ K_ hK_
  refine sh_ (mm51 w0 Z0 a0 a1 g1 g5 g9 r3 r7 v1_0 v4 v8) X_ Y_ ?_
  refine al_val (ov_pick_f rfl rfl rfl) ?_
  refine al_nil ?_
  exact fr_fin hK_ ()⟩, ⟨_, rfl, [1, 5], rfl, by
  intro _
  intro _
  intro X_ Y_ F_ K_ hK_
  refine sh_ (mm51 w0 Z0 a0 a1 g1 g5 g9 r3 r7 v1_0 v4 v8) X_ Y_ ?_
  refine mv_ ?_
  refine al_nil ?_
  exact fr_fin hK_ ()⟩, ⟨_, rfl, [6], rfl, by
  intro _
  intro X_ Y_ F_ K_ hK_
  refine sh_ (mm51 w0 Z0 a0 a1 g1 g5 g9 r3 r7 v1_0 v4 v8) X_ Y_ ?_
  refine al_skip ?_
  refine al_nil ?_
  exact fr_fin hK_ ()⟩, ⟨_, rfl, [6], rfl, by
  intro _
  intro X_ Y_ F_ K_ hK_
  refine sh_ (mm51 w0 Z0 a0 a1 g1 g5 g9 r3 r7 v1_0 v4 v8) X_ Y_ ?_
  refine al_skip ?_
  refine al_nil ?_
  exact fr_fin hK_ ()⟩, ⟨_, rfl, [6, 7, 8], rfl, by
  intro _
  intro _
  intro _
  intro X_ Y_ F_ K_ hK_
  refine sh_ (mm51 w0 Z0 a0 a1 g1 g5 g9 r3 r7 v1_0 v4 v8) X_ Y_ ?_
  refine al_skip ?_
  refine al_nil ?_
  exact fr_fin hK_ ()⟩, ⟨_, rfl, [6, 9], rfl, by
  intro _
  intro _
  intro X_ Y_ F_ K_ hK_
  refine sh_ (mm51 w0 Z0 a0 a1 g1 g5 g9 r3 r7 v1_0 v4 v8) X_ Y_ ?_
  refine al_val (ov_pick_f rfl rfl rfl) ?_
  refine al_nil ?_
  exact fr_fin hK_ ()⟩, trivial⟩ ?_
 intro _
 intro _
 intro _
 intro _
 intro _
 intro _
 intro _
 intro _
 intro _
 intro _
 intro _
 intro X_ Y_ F_ K_ hK_
 refine sh_ (mm51 w0 Z0 a0 a1 g1 g5 g9 r3 r7 v1_0 v4 v8) X_ Y_ ?_
 refine as_ ?_
 refine al_nil ?_
 refine aq_show (m := Mem.plus (mm51 w0 Z0 a0 a1 g1 g5 g9 r3 r7 v1_0 v4 v8) X_ Y_) ?_
 refine aq_next hK_ [0, 1, 2, 3, 4] [0, 1, 2] [(4, (bool false))] [] [] rfl rfl (by decide) rfl ⟨rfl, trivial⟩ trivial ?_
 clear hK_ K_ F_ X_ Y_
 refine ta_show (m := (mm51 w0 Z0 a0 a1 g1 g5 g9 r3 r7 v1_0 v4 v8)) (S := _) ?_
 refine ta_end [] [] rfl rfl (by kernel_rfl) rfl trivial ?_
 refine aq_show (m := (mm51 w0 Z0 a0 a1 g1 g5 g9 r3 r7 v1_0 v4 v8)) (S := (tab [(4, (bool false))])) ?_
 exact aq_join false h (nm_ [] [0, 1, 2] (by decide) ⟨rfl, trivial⟩)
 replace h := bif_f hb21 h
 refine aq_show (m := Mem.plus (mm51 w0 Z0 a0 a1 g1 g5 g9 r3 r7 v1_0 v4 v8) X_ Y_) ?_
 refine aq_next hK_ [0, 1, 2, 3, 4] [0, 1, 2] [(4, (bool false)), (5, v4), (6, (pq g5)), (7, (iq r3.2.2)), (8, v8), (9, (pq g9)), (10, (iq r7.2.2)), (30, (bool true)), (32, (iq r18)), (34, (iq r20))] [] [(sp_ 10 35 (bool (r18 == r20))), (sp_ 11 36 (bool (r18 == r20))), (sp_ 12 37 (bool false)), (sp_ 13 38 undef), (sp_ 14 39 undef)] rfl rfl (by decide) rfl ⟨rfl, rfl, rfl, rfl, rfl, rfl, rfl, rfl, rfl, rfl, trivial⟩ trivial ?_
 clear hK_ K_ F_ X_ Y_
 refine ta_show (m := (mm51 w0 Z0 a0 a1 g1 g5 g9 r3 r7 v1_0 v4 v8)) (S := _) ?_
 refine ta_step 15 _ [10, 11, 12, 13, 14] [35, 36, 37, 38, 39] [10, 11, 12, 13, 14] [16, 17, 18, 19, 20, 21, 22, 23, 24, 25, 26] [(sp_ 10 35 (bool (r18 == r20))), (sp_ 11 36 (bool (r18 == r20))), (sp_ 12 37 (bool false)), (sp_ 13 38 undef), (sp_ 14 39 undef)] [] rfl rfl rfl (by kernel_rfl) rfl rfl rfl ⟨⟨_, rfl, [], rfl, by
  intro X_ Y_ F_ K_ hK_
  refine sh_ (mm51 w0 Z0 a0 a1 g1 g5 g9 r3 r7 v1_0 v4 v8) X_ Y_ ?_
  refine in_ ?_
  refine al_nil ?_
  exact fr_fin hK_ ()⟩, ⟨_, rfl, [0], rfl, by
  intro _
  intro X_ Y_ F_ K_ hK_
  refine sh_ (mm51 w0 Z0 a0 a1 g1 g5 g9 r3 r7 v1_0 v4 v8) X_ Y_ ?_
  refine al_val (ov_pick_t rfl rfl rfl) ?_
  refine al_nil ?_
  exact fr_fin hK_ ()⟩, ⟨_, rfl, [1], rfl, by
  intro _
  intro X_ Y_ F_ K_ hK_
  refine sh_ (mm51 w0 Z0 a0 a1 g1 g5 g9 r3 r7 v1_0 v4 v8) X_ Y_ ?_
  refine al_val (ov_cast (by first | rw [hb21] | rfl) (ov_move rfl rfl)) ?_
  refine al_nil ?_
  exact fr_fin hK_ ()⟩, ⟨_, rfl, [2], rfl, by
  intro _
  intro X_ Y_ F_ K_ hK_
  refine sh_ (mm51 w0 Z0 a0 a1 g1 g5 g9 r3 r7 v1_0 v4 v8) X_ Y_ ?_
  refine al_skip ?_
  refine al_nil ?_
  exact fr_fin hK_ ()⟩, ⟨_, rfl, [2], rfl, by
  intro _
  intro X_ Y_ F_ K_ hK_
  refine sh_ (mm51 w0 Z0 a0 a1 g1 g5 g9 r3 r7 v1_0 v4 v8) X_ Y_ ?_
  refine al_skip ?_
  refine al_nil ?_
  exact fr_fin hK_ ()⟩, trivial⟩ ?_
 intro _
 intro _
 intro _
 intro _
 intro _
 intro X_ Y_ F_ K_ hK_
 refine sh_ (mm51 w0 Z0 a0 a1 g1 g5 g9 r3 r7 v1_0 v4 v8) X_ Y_ ?_
 refine al_skip ?_
 refine al_nil ?_
 refine aq_show (m := Mem.plus (mm51 w0 Z0 a0 a1 g1 g5 g9 r3 r7 v1_0 v4 v8) X_ Y_) ?_
 refine aq_next hK_ [0, 1, 2, 3, 4] [0, 1, 2] [(4, (bool false)), (6, (pq g5)), (7, (iq r3.2.2)), (9, (pq g9)), (10, (iq r7.2.2)), (37, (bool false)), (40, undef)] [] [(sp_ 16 41 (bool false)), (sp_ 17 42 (bool false)), (sp_ 18 43 undef), (sp_ 19 44 undef), (sp_ 20 45 undef), (sp_ 21 46 (bool false)), (sp_ 22 47 (bool false)), (sp_ 23 48 undef), (sp_ 24 49 undef), (sp_ 25 50 undef), (sp_ 26 51 (bool false))] rfl rfl (by decide) rfl ⟨rfl, rfl, rfl, rfl, rfl, rfl, rfl, trivial⟩ trivial ?_
 clear hK_ K_ F_ X_ Y_
 refine ta_show (m := (mm51 w0 Z0 a0 a1 g1 g5 g9 r3 r7 v1_0 v4 v8)) (S := _) ?_
 refine ta_step 27 _ [16, 17, 18, 19, 20, 21, 22, 23, 24, 25, 26] [41, 42, 43, 44, 45, 46, 47, 48, 49, 50, 51] [16, 17, 18, 19, 20, 21, 22, 23, 24, 25, 26] [] [(sp_ 16 41 (bool false)), (sp_ 17 42 (bool false)), (sp_ 18 43 undef), (sp_ 19 44 undef), (sp_ 20 45 undef), (sp_ 21 46 (bool false)), (sp_ 22 47 (bool false)), (sp_ 23 48 undef), (sp_ 24 49 undef), (sp_ 25 50 undef), (sp_ 26 51 (bool false))] [] rfl rfl rfl (by kernel_rfl) rfl rfl rfl ⟨⟨_, rfl, [], rfl, by
  intro X_ Y_ F_ K_ hK_
  refine sh_ (mm51 w0 Z0 a0 a1 g1 g5 g9 r3 r7 v1_0 v4 v8) X_ Y_ ?_
  refine al_val (ov_pick_f rfl rfl rfl) ?_
  refine al_nil ?_
  exact fr_fin hK_ ()⟩, ⟨_, rfl, [0], rfl, by
  intro _
  intro X_ Y_ F_ K_ hK_
  refine sh_ (mm51 w0 Z0 a0 a1 g1 g5 g9 r3 r7 v1_0 v4 v8) X_ Y_ ?_
  refine mv_ ?_
  refine al_nil ?_
  exact fr_fin hK_ ()⟩, ⟨_, rfl, [1], rfl, by
  intro _
  intro X_ Y_ F_ K_ hK_
  refine sh_ (mm51 w0 Z0 a0 a1 g1 g5 g9 r3 r7 v1_0 v4 v8) X_ Y_ ?_
  refine al_skip ?_
  refine al_nil ?_
  exact fr_fin hK_ ()⟩, ⟨_, rfl, [1], rfl, by
  intro _
  intro X_ Y_ F_ K_ hK_
  refine sh_ (mm51 w0 Z0 a0 a1 g1 g5 g9 r3 r7 v1_0 v4 v8) X_ Y_ ?_
  refine al_skip ?_
  refine al_nil ?_
  exact fr_fin hK_ ()⟩, ⟨_, rfl, [1, 2, 3], rfl, by
  intro _
  intro _
  intro _
  intro X_ Y_ F_ K_ hK_
  refine sh_ (mm51 w0 Z0 a0 a1 g1 g5 g9 r3 r7 v1_0 v4 v8) X_ Y_ ?_
  refine al_skip ?_
  refine al_nil ?_
  exact fr_fin hK_ ()⟩, ⟨_, rfl, [1, 4], rfl, by
  intro _
  intro _
  intro X_ Y_ F_ K_ hK_
  refine sh_ (mm51 w0 Z0 a0 a1 g1 g5 g9 r3 r7 v1_0 v4 v8) X_ Y_ ?_
  refine al_val (ov_pick_f rfl rfl rfl) ?_
  refine al_nil ?_
  exact fr_fin hK_ ()⟩, ⟨_, rfl, [1, 5], rfl, by
  intro _
  intro _
  intro X_ Y_ F_ K_ hK_
  refine sh_ (mm51 w0 Z0 a0 a1 g1 g5 g9 r3 r7 v1_0 v4 v8) X_ Y_ ?_
  refine mv_ ?_
  refine al_nil ?_
  exact fr_fin hK_ ()⟩, ⟨_, rfl, [6], rfl, by
  intro _
  intro X_ Y_ F_ K_ hK_
  refine sh_ (mm51 w0 Z0 a0 a1 g1 g5 g9 r3 r7 v1_0 v4 v8) X_ Y_ ?_
  refine al_skip ?_
  refine al_nil ?_
  exact fr_fin hK_ ()⟩, ⟨_, rfl, [6], rfl, by
  intro _
  intro X_ Y_ F_ K_ hK_
  refine sh_ (mm51 w0 Z0 a0 a1 g1 g5 g9 r3 r7 v1_0 v4 v8) X_ Y_ ?_
  refine al_skip ?_
  refine al_nil ?_
  exact fr_fin hK_ ()⟩, ⟨_, rfl, [6, 7, 8], rfl, by
  intro _
  intro _
  intro _
  intro X_ Y_ F_ K_ hK_
  refine sh_ (mm51 w0 Z0 a0 a1 g1 g5 g9 r3 r7 v1_0 v4 v8) X_ Y_ ?_
  refine al_skip ?_
  refine al_nil ?_
  exact fr_fin hK_ ()⟩, ⟨_, rfl, [6, 9], rfl, by
  intro _
  intro _
  intro X_ Y_ F_ K_ hK_
  refine sh_ (mm51 w0 Z0 a0 a1 g1 g5 g9 r3 r7 v1_0 v4 v8) X_ Y_ ?_
  refine al_val (ov_pick_f rfl rfl rfl) ?_
  refine al_nil ?_
  exact fr_fin hK_ ()⟩, trivial⟩ ?_
 intro _
 intro _
 intro _
 intro _
 intro _
 intro _
 intro _
 intro _
 intro _
 intro _
 intro _
 intro X_ Y_ F_ K_ hK_
 refine sh_ (mm51 w0 Z0 a0 a1 g1 g5 g9 r3 r7 v1_0 v4 v8) X_ Y_ ?_
 refine as_ ?_
 refine al_nil ?_
 refine aq_show (m := Mem.plus (mm51 w0 Z0 a0 a1 g1 g5 g9 r3 r7 v1_0 v4 v8) X_ Y_) ?_
 refine aq_next hK_ [0, 1, 2, 3, 4] [0, 1, 2] [(4, (bool false))] [] [] rfl rfl (by decide) rfl ⟨rfl, trivial⟩ trivial ?_
 clear hK_ K_ F_ X_ Y_
 refine ta_show (m := (mm51 w0 Z0 a0 a1 g1 g5 g9 r3 r7 v1_0 v4 v8)) (S := _) ?_
 refine ta_end [] [] rfl rfl (by kernel_rfl) rfl trivial ?_
 refine aq_show (m := (mm51 w0 Z0 a0 a1 g1 g5 g9 r3 r7 v1_0 v4 v8)) (S := (tab [(4, (bool false))])) ?_
 exact aq_join false h (nm_ [] [0, 1, 2] (by decide) ⟨rfl, trivial⟩)
 replace h := bif_f hb16 h
 refine aq_show (m := Mem.plus (mm51 w0 Z0 a0 a1 g1 g5 g9 r3 r7 v1_0 v4 v8) X_ Y_) ?_
 refine aq_next hK_ [0, 1, 2, 3, 4] [0, 1, 2] [(2, (pq g1)), (4, (bool false)), (5, v4), (6, (pq g5)), (7, (iq r3.2.2)), (8, v8), (9, (pq g9)), (10, (iq r7.2.2)), (26, (iq r13)), (28, (iq r15))] [] [(sp_ 4 29 (bool (r13 == r15))), (sp_ 5 30 (bool false)), (sp_ 6 31 undef), (sp_ 8 33 undef)] rfl rfl (by decide) rfl ⟨rfl, rfl, rfl, rfl, rfl, rfl, rfl, rfl, rfl, rfl, trivial⟩ trivial ?_
 clear hK_ K_ F_ X_ Y_
 refine ta_show (m := (mm51 w0 Z0 a0 a1 g1 g5 g9 r3 r7 v1_0 v4 v8)) (S := _) ?_
 refine ta_step 7 _ [4, 5, 6, 8] [29, 30, 31, 33] [4, 5, 6] [] [(sp_ 4 29 (bool (r13 == r15))), (sp_ 5 30 (bool false)), (sp_ 6 31 undef)] [(sp_ 8 33 undef)] rfl rfl rfl (by kernel_rfl) rfl rfl rfl ⟨⟨_, rfl, [], rfl, by
  intro X_ Y_ F_ K_ hK_
  refine sh_ (mm51 w0 Z0 a0 a1 g1 g5 g9 r3 r7 v1_0 v4 v8) X_ Y_ ?_
  refine in_ ?_
  refine al_nil ?_
  exact fr_fin hK_ ()⟩, ⟨_, rfl, [0], rfl, by
  intro _
  intro X_ Y_ F_ K_ hK_
  refine sh_ (mm51 w0 Z0 a0 a1 g1 g5 g9 r3 r7 v1_0 v4 v8) X_ Y_ ?_
  refine al_val (ov_cast (by first | rw [hb16] | rfl) (ov_move rfl rfl)) ?_
  refine al_nil ?_
  exact fr_fin hK_ ()⟩, ⟨_, rfl, [1], rfl, by
  intro _
  intro X_ Y_ F_ K_ hK_
  refine sh_ (mm51 w0 Z0 a0 a1 g1 g5 g9 r3 r7 v1_0 v4 v8) X_ Y_ ?_
  refine al_skip ?_
  refine al_nil ?_
  exact fr_fin hK_ ()⟩, ⟨_, rfl, [1], rfl, by
  intro _
  intro X_ Y_ F_ K_ hK_
  refine sh_ (mm51 w0 Z0 a0 a1 g1 g5 g9 r3 r7 v1_0 v4 v8) X_ Y_ ?_
  refine al_skip ?_
  refine al_nil ?_
  exact fr_fin hK_ ()⟩, trivial⟩ ?_
 intro _
 intro _
 intro _
 intro X_ Y_ F_ K_ hK_
 refine sh_ (mm51 w0 Z0 a0 a1 g1 g5 g9 r3 r7 v1_0 v4 v8) X_ Y_ ?_
 refine al_skip ?_
 refine al_nil ?_
 refine aq_show (m := Mem.plus (mm51 w0 Z0 a0 a1 g1 g5 g9 r3 r7 v1_0 v4 v8) X_ Y_) ?_
 refine aq_next hK_ [0, 1, 2, 3, 4] [0, 1, 2] [(2, (pq g1)), (4, (bool false)), (5, v4), (6, (pq g5)), (7, (iq r3.2.2)), (8, v8), (9, (pq g9)), (10, (iq r7.2.2)), (30, (bool false)), (32, undef)] [33] [] rfl rfl (by decide) rfl ⟨rfl, rfl, rfl, rfl, rfl, rfl, rfl, rfl, rfl, rfl, trivial⟩ ⟨rfl, trivial⟩ ?_
 clear hK_ K_ F_ X_ Y_
 refine ta_show (m := (mm51 w0 Z0 a0 a1 g1 g5 g9 r3 r7 v1_0 v4 v8)) (S := _) ?_
 refine ta_step 9 _ [8] [33] [8] [10, 11, 12, 13, 14] [(sp_ 8 33 undef)] [] rfl rfl rfl (by kernel_rfl) rfl rfl rfl ⟨⟨_, rfl, [], rfl, by
  intro X_ Y_ F_ K_ hK_
  refine sh_ (mm51 w0 Z0 a0 a1 g1 g5 g9 r3 r7 v1_0 v4 v8) X_ Y_ ?_
  refine al_skip ?_
  refine al_nil ?_
  exact fr_fin hK_ ()⟩, trivial⟩ ?_
 intro _
 intro X_ Y_ F_ K_ hK_
 refine sh_ (mm51 w0 Z0 a0 a1 g1 g5 g9 r3 r7 v1_0 v4 v8) X_ Y_ ?_
 refine al_skip ?_
 refine al_nil ?_
 refine aq_show (m := Mem.plus (mm51 w0 Z0 a0 a1 g1 g5 g9 r3 r7 v1_0 v4 v8) X_ Y_) ?_
 refine aq_next hK_ [0, 1, 2, 3, 4] [0, 1, 2] [(4, (bool false)), (5, v4), (6, (pq g5)), (7, (iq r3.2.2)), (8, v8), (9, (pq g9)), (10, (iq r7.2.2)), (30, (bool false)), (32, undef), (34, undef)] [] [(sp_ 10 35 undef), (sp_ 11 36 (bool false)), (sp_ 12 37 (bool false)), (sp_ 13 38 undef), (sp_ 14 39 undef)] rfl rfl (by decide) rfl ⟨rfl, rfl, rfl, rfl, rfl, rfl, rfl, rfl, rfl, rfl, trivial⟩ trivial ?_
 clear hK_ K_ F_ X_ Y_
 refine ta_show (m := (mm51 w0 Z0 a0 a1 g1 g5 g9 r3 r7 v1_0 v4 v8)) (S := _) ?_
 refine ta_step 15 _ [10, 11, 12, 13, 14] [35, 36, 37, 38, 39] [10, 11, 12, 13, 14] [16, 17, 18, 19, 20, 21, 22, 23, 24, 25, 26] [(sp_ 10 35 undef), (sp_ 11 36 (bool false)), (sp_ 12 37 (bool false)), (sp_ 13 38 undef), (sp_ 14 39 undef)] [] rfl rfl rfl (by kernel_rfl) rfl rfl rfl ⟨⟨_, rfl, [], rfl, by
  intro X_ Y_ F_ K_ hK_
  refine sh_ (mm51 w0 Z0 a0 a1 g1 g5 g9 r3 r7 v1_0 v4 v8) X_ Y_ ?_
  refine al_skip ?_
  refine al_nil ?_
  exact fr_fin hK_ ()⟩, ⟨_, rfl, [0], rfl, by
  intro _
  intro X_ Y_ F_ K_ hK_
  refine sh_ (mm51 w0 Z0 a0 a1 g1 g5 g9 r3 r7 v1_0 v4 v8) X_ Y_ ?_
  refine al_val (ov_pick_f rfl rfl rfl) ?_
  refine al_nil ?_
  exact fr_fin hK_ ()⟩, ⟨_, rfl, [1], rfl, by
  intro _
  intro X_ Y_ F_ K_ hK_
  refine sh_ (mm51 w0 Z0 a0 a1 g1 g5 g9 r3 r7 v1_0 v4 v8) X_ Y_ ?_
  refine mv_ ?_
  refine al_nil ?_
  exact fr_fin hK_ ()⟩, ⟨_, rfl, [2], rfl, by
  intro _
  intro X_ Y_ F_ K_ hK_
  refine sh_ (mm51 w0 Z0 a0 a1 g1 g5 g9 r3 r7 v1_0 v4 v8) X_ Y_ ?_
  refine al_skip ?_
  refine al_nil ?_
  exact fr_fin hK_ ()⟩, ⟨_, rfl, [2], rfl, by
  intro _
  intro X_ Y_ F_ K_ hK_
  refine sh_ (mm51 w0 Z0 a0 a1 g1 g5 g9 r3 r7 v1_0 v4 v8) X_ Y_ ?_
  refine al_skip ?_
  refine al_nil ?_
  exact fr_fin hK_ ()⟩, trivial⟩ ?_
 intro _
 intro _
 intro _
 intro _
 intro _
 intro X_ Y_ F_ K_ hK_
 refine sh_ (mm51 w0 Z0 a0 a1 g1 g5 g9 r3 r7 v1_0 v4 v8) X_ Y_ ?_
 refine al_skip ?_
 refine al_nil ?_
 refine aq_show (m := Mem.plus (mm51 w0 Z0 a0 a1 g1 g5 g9 r3 r7 v1_0 v4 v8) X_ Y_) ?_
 refine aq_next hK_ [0, 1, 2, 3, 4] [0, 1, 2] [(4, (bool false)), (6, (pq g5)), (7, (iq r3.2.2)), (9, (pq g9)), (10, (iq r7.2.2)), (37, (bool false)), (40, undef)] [] [(sp_ 16 41 (bool false)), (sp_ 17 42 (bool false)), (sp_ 18 43 undef), (sp_ 19 44 undef), (sp_ 20 45 undef), (sp_ 21 46 (bool false)), (sp_ 22 47 (bool false)), (sp_ 23 48 undef), (sp_ 24 49 undef), (sp_ 25 50 undef), (sp_ 26 51 (bool false))] rfl rfl (by decide) rfl ⟨rfl, rfl, rfl, rfl, rfl, rfl, rfl, trivial⟩ trivial ?_
 clear hK_ K_ F_ X_ Y_
 refine ta_show (m := (mm51 w0 Z0 a0 a1 g1 g5 g9 r3 r7 v1_0 v4 v8)) (S := _) ?_
 refine ta_step 27 _ [16, 17, 18, 19, 20, 21, 22, 23, 24, 25, 26] [41, 42, 43, 44, 45, 46, 47, 48, 49, 50, 51] [16, 17, 18, 19, 20, 21, 22, 23, 24, 25, 26] [] [(sp_ 16 41 (bool false)), (sp_ 17 42 (bool false)), (sp_ 18 43 undef), (sp_ 19 44 undef), (sp_ 20 45 undef), (sp_ 21 46 (bool false)), (sp_ 22 47 (bool false)), (sp_ 23 48 undef), (sp_ 24 49 undef), (sp_ 25 50 undef), (sp_ 26 51 (bool false))] [] rfl rfl rfl (by kernel_rfl) rfl rfl rfl ⟨⟨_, rfl, [], rfl, by
  intro X_ Y_ F_ K_ hK_
  refine sh_ (mm51 w0 Z0 a0 a1 g1 g5 g9 r3 r7 v1_0 v4 v8) X_ Y_ ?_
  refine al_val (ov_pick_f rfl rfl rfl) ?_
  refine al_nil ?_
  exact fr_fin hK_ ()⟩, ⟨_, rfl, [0], rfl, by
  intro _
  intro X_ Y_ F_ K_ hK_
  refine sh_ (mm51 w0 Z0 a0 a1 g1 g5 g9 r3 r7 v1_0 v4 v8) X_ Y_ ?_
  refine mv_ ?_
  refine al_nil ?_
  exact fr_fin hK_ ()⟩, ⟨_, rfl, [1], rfl, by
  intro _
  intro X_ Y_ F_ K_ hK_
  refine sh_ (mm51 w0 Z0 a0 a1 g1 g5 g9 r3 r7 v1_0 v4 v8) X_ Y_ ?_
  refine al_skip ?_
  refine al_nil ?_
  exact fr_fin hK_ ()⟩, ⟨_, rfl, [1], rfl, by
  intro _
  intro X_ Y_ F_ K_ hK_
  refine sh_ (mm51 w0 Z0 a0 a1 g1 g5 g9 r3 r7 v1_0 v4 v8) X_ Y_ ?_
  refine al_skip ?_
  refine al_nil ?_
  exact fr_fin hK_ ()⟩, ⟨_, rfl, [1, 2, 3], rfl, by
  intro _
  intro _
  intro _
  intro X_ Y_ F_ K_ hK_
  refine sh_ (mm51 w0 Z0 a0 a1 g1 g5 g9 r3 r7 v1_0 v4 v8) X_ Y_ ?_
  refine al_skip ?_
  refine al_nil ?_
  exact fr_fin hK_ ()⟩, ⟨_, rfl, [1, 4], rfl, by
  intro _
  intro _
  intro X_ Y_ F_ K_ hK_
  refine sh_ (mm51 w0 Z0 a0 a1 g1 g5 g9 r3 r7 v1_0 v4 v8) X_ Y_ ?_
  refine al_val (ov_pick_f rfl rfl rfl) ?_
  refine al_nil ?_
  exact fr_fin hK_ ()⟩, ⟨_, rfl, [1, 5], rfl, by
  intro _
  intro _
  intro X_ Y_ F_ K_ hK_
  refine sh_ (mm51 w0 Z0 a0 a1 g1 g5 g9 r3 r7 v1_0 v4 v8) X_ Y_ ?_
  refine mv_ ?_
  refine al_nil ?_
  exact fr_fin hK_ ()⟩, ⟨_, rfl, [6], rfl, by
  intro _
  intro X_ Y_ F_ K_ hK_
  refine sh_ (mm51 w0 Z0 a0 a1 g1 g5 g9 r3 r7 v1_0 v4 v8) X_ Y_ ?_
  refine al_skip ?_
  refine al_nil ?_
  exact fr_fin hK_ ()⟩, ⟨_, rfl, [6], rfl, by
  intro _
  intro X_ Y_ F_ K_ hK_
  refine sh_ (mm51 w0 Z0 a0 a1 g1 g5 g9 r3 r7 v1_0 v4 v8) X_ Y_ ?_
  refine al_skip ?_
  refine al_nil ?_
  exact fr_fin hK_ ()⟩, ⟨_, rfl, [6, 7, 8], rfl, by
  intro _
  intro _
  intro _
  intro X_ Y_ F_ K_ hK_
  refine sh_ (mm51 w0 Z0 a0 a1 g1 g5 g9 r3 r7 v1_0 v4 v8) X_ Y_ ?_
  refine al_skip ?_
  refine al_nil ?_
  exact fr_fin hK_ ()⟩, ⟨_, rfl, [6, 9], rfl, by
  intro _
  intro _
  intro X_ Y_ F_ K_ hK_
  refine sh_ (mm51 w0 Z0 a0 a1 g1 g5 g9 r3 r7 v1_0 v4 v8) X_ Y_ ?_
  refine al_val (ov_pick_f rfl rfl rfl) ?_
  refine al_nil ?_
  exact fr_fin hK_ ()⟩, trivial⟩ ?_
 intro _
 intro _
 intro _
 intro _
 intro _
 intro _
 intro _
 intro _
 intro _
 intro _
 intro _
 intro X_ Y_ F_ K_ hK_
 refine sh_ (mm51 w0 Z0 a0 a1 g1 g5 g9 r3 r7 v1_0 v4 v8) X_ Y_ ?_
 refine as_ ?_
 refine al_nil ?_
 refine aq_show (m := Mem.plus (mm51 w0 Z0 a0 a1 g1 g5 g9 r3 r7 v1_0 v4 v8) X_ Y_) ?_
 refine aq_next hK_ [0, 1, 2, 3, 4] [0, 1, 2] [(4, (bool false))] [] [] rfl rfl (by decide) rfl ⟨rfl, trivial⟩ trivial ?_
 clear hK_ K_ F_ X_ Y_
 refine ta_show (m := (mm51 w0 Z0 a0 a1 g1 g5 g9 r3 r7 v1_0 v4 v8)) (S := _) ?_
 refine ta_end [] [] rfl rfl (by kernel_rfl) rfl trivial ?_
 refine aq_show (m := (mm51 w0 Z0 a0 a1 g1 g5 g9 r3 r7 v1_0 v4 v8)) (S := (tab [(4, (bool false))])) ?_
 exact aq_join false h (nm_ [] [0, 1, 2] (by decide) ⟨rfl, trivial⟩)
end Go.Proofs.YtiioclkiapbjnaaGreatDoor
namespace Go.Proofs.YtiioclkiapbjnaaGreatDoor
open Go.RowKit
theorem shr_cast (m j : Nat) : ((m : Int) / 2 ^ j) = ((m / 2 ^ j : Nat) : Int) := by simp
theorem u64_bit (m j : Nat) (hm : m < 18446744073709551616) : bits BinOp.and IntKind.u64 ((m : Int) / 2 ^ j) 1 = ((m / 2 ^ j % 2 : Nat) : Int) := by
  have h : m / 2 ^ j < 18446744073709551616 := Nat.lt_of_le_of_lt (Nat.div_le_self _ _) hm
  rw [shr_cast]
  have := u64_and_nat (m / 2 ^ j) 1 h (by omega)
  rw [Nat.and_one_is_mod] at this
  exact this
theorem xor_lt64 {a b : Nat} (ha : a < 18446744073709551616) (hb : b < 18446744073709551616) : a ^^^ b < 18446744073709551616 := Nat.xor_lt_two_pow (n := 64) ha hb
theorem xor_lt32 {a b : Nat} (ha : a < 4294967296) (hb : b < 4294967296) : a ^^^ b < 4294967296 := Nat.xor_lt_two_pow (n := 32) ha hb
end Go.Proofs.YtiioclkiapbjnaaGreatDoor
namespace Go.Proofs.YtiioclkiapbjnaaGreatDoor
open Go.RowKit YtiioclkiapbjnaaGreatDoor.En
theorem at_nat {α : Type} (xs : List α) (k : Nat) : at? xs (k : Int) = xs[k]? := by unfold at?; rw [if_pos (Int.natCast_nonneg k)]; simp
theorem at_lt {α : Type} {xs : List α} {k : Nat} (h : k < xs.length) : at? xs (k : Int) = some xs[k] := by rw [at_nat, List.getElem?_eq_getElem h]
theorem at_of {α : Type} {xs : List α} {k : Nat} {x : α} (h : xs[k]? = some x) : at? xs (k : Int) = some x := by rw [at_nat, h]
theorem w64 {x : Int} (h0 : -9223372036854775808 ≤ x) (h1 : x ≤ 9223372036854775807) : IntKind.i64.wrap x = x := IntWalk.i64_in x (by omega)
theorem wsucc {k : Nat} (h : k < 9223372036854775807) : IntKind.i64.wrap ((k : Int) + 1) = ((k + 1 : Nat) : Int) := by rw [w64 (by omega) (by omega)]; omega
theorem dlt {a b : Int} (h : a < b) : decide (a < b) = true := decide_eq_true h
theorem dge {a b : Int} (h : b ≤ a) : decide (a < b) = false := decide_eq_false (by omega)
theorem cond_tt {α : Type} {b : Bool} {x y : α} (h : b = true) : (bif b then x else y) = x := by rw [h]; rfl
theorem cond_ff {α : Type} {b : Bool} {x y : α} (h : b = false) : (bif b then x else y) = y := by rw [h]; rfl
theorem cond_dec {α : Type} {p : Prop} [Decidable p] {x y : α} : (bif decide p then x else y) = if p then x else y := by by_cases h : p <;> simp [h]
theorem wfi64 {x : Int} (h : (Lit.int .i64 x).wf = true) : -9223372036854775808 ≤ x ∧ x ≤ 9223372036854775807 := by
  simpa [Lit.wf, IntKind.min, IntKind.max, IntKind.signed, IntKind.bits] using h
end Go.Proofs.YtiioclkiapbjnaaGreatDoor
namespace Go.Proofs.YtiioclkiapbjnaaGreatDoor
open Go.RowKit YtiioclkiapbjnaaGreatDoor.En
theorem shr_nat {x m : Nat} {j : Int} {k : IntKind} (hj : j = (m : Int)) (hm : m ≤ k.bits) : ((x : Int)).fdiv (2 ^ min j.toNat k.bits) = ((x / 2 ^ m : Nat) : Int) := by
  subst hj
  rw [Int.toNat_natCast, Nat.min_eq_left hm, Int.fdiv_eq_ediv_of_nonneg _ (by apply Int.le_of_lt; apply Int.pow_pos; decide)]
  simp
theorem shl_nat {x m : Nat} {j : Int} {k : IntKind} (hj : j = (m : Int)) (hm : m ≤ k.bits) : ((x : Int)) * 2 ^ min j.toNat k.bits = ((x * 2 ^ m : Nat) : Int) := by
  subst hj
  rw [Int.toNat_natCast, Nat.min_eq_left hm]
  simp
theorem u8w (x : Nat) : IntKind.u8.wrap (x : Int) = ((x % 256 : Nat) : Int) := by
  unfold IntKind.wrap
  simp [IntKind.signed, IntKind.bits]
theorem u8w_in {x : Nat} (h : x < 256) : IntKind.u8.wrap (x : Int) = (x : Int) := by rw [u8w, Nat.mod_eq_of_lt h]
end Go.Proofs.YtiioclkiapbjnaaGreatDoor
namespace Go.Proofs.YtiioclkiapbjnaaGreatDoor.U8
open Go.Lib YtiioclkiapbjnaaGreatDoor.En
def C (x : Nat) : Prop := 128 ≤ x ∧ x ≤ 191
instance (x : Nat) : Decidable (C x) := by unfold C; infer_instance
def fin (low n c : Nat) : Nat × Nat := if c < low ∨ 1114111 < c ∨ (55296 ≤ c ∧ c < 57344) then (0, 0) else (c, n)
def refN (n b0 b1 b2 b3 : Nat) : Nat × Nat :=
  if b0 < 128 then (b0, 1)
  else if 194 ≤ b0 ∧ b0 < 224 then (if n < 2 then (0, 0) else if C b1 then fin 128 2 (64 * (b0 - 192) + b1 - 128) else (0, 0))
  else if 224 ≤ b0 ∧ b0 < 240 then (if n < 3 then (0, 0) else if C b1 then (if C b2 then fin 2048 3 (64 * (64 * (b0 - 224) + b1 - 128) + b2 - 128) else (0, 0)) else (0, 0))
  else if 240 ≤ b0 ∧ b0 < 245 then (if n < 4 then (0, 0) else if C b1 then (if C b2 then (if C b3 then fin 65536 4 (64 * (64 * (64 * (b0 - 240) + b1 - 128) + b2 - 128) + b3 - 128) else (0, 0)) else (0, 0)) else (0, 0))
  else (0, 0)
def Fits (d r : Nat × Nat) : Prop := (d = (65533, 1) ∧ r = (0, 0)) ∨ (d = r ∧ 1 ≤ r.2 ∧ ¬ (r.1 = 65533 ∧ r.2 = 1))
theorem fits_bad : Fits (65533, 1) (0, 0) := .inl ⟨rfl, rfl⟩
theorem fits_good {c c' n : Nat} (h : c = c') (hn : 2 ≤ n) : Fits (c, n) (c', n) := .inr ⟨by rw [h], by show 1 ≤ n; omega, fun h' => by have : n = 1 := h'.2; omega⟩
theorem refN_fits (n b0 b1 b2 b3 : Nat) (h0 : b0 < 256) (h1 : b1 < 256) (h2 : b2 < 256) (h3 : b3 < 256) : Fits (decodeN n b0 b1 b2 b3) (refN n b0 b1 b2 b3) := by
  unfold decodeN refN
  by_cases a0 : b0 < 128
  · rw [if_pos a0, if_pos a0]
    exact .inr ⟨rfl, Nat.le_refl _, fun h => by have : b0 = 65533 := h.1; omega⟩
  rw [if_neg a0, if_neg a0]
  by_cases a1 : b0 < 194
  · have e1 : ∀ r : Nat × Nat, (if b0 / 32 = 6 ∧ (1 < n ∧ b1 / 64 = 2) then (if b0 % 32 * 64 + b1 % 64 ≥ 128 then (b0 % 32 * 64 + b1 % 64, 2) else (65533, 1)) else r) = (if b0 / 32 = 6 ∧ (1 < n ∧ b1 / 64 = 2) then ((65533, 1) : Nat × Nat) else r) := fun r => by
      split
      · rw [if_neg (by omega)]
      · rfl
    rw [e1]
    rw [if_neg (c := 194 ≤ b0 ∧ b0 < 224) (by omega), if_neg (c := 224 ≤ b0 ∧ b0 < 240) (by omega), if_neg (c := 240 ≤ b0 ∧ b0 < 245) (by omega), if_neg (c := b0 / 16 = 14 ∧ _) (by omega), if_neg (c := b0 / 8 = 30 ∧ _) (by omega)]
    split <;> exact fits_bad
  by_cases a2 : b0 < 224
  · rw [if_pos (c := 194 ≤ b0 ∧ b0 < 224) (by omega), if_neg (c := b0 / 16 = 14 ∧ _) (by omega), if_neg (c := b0 / 8 = 30 ∧ _) (by omega)]
    by_cases c1 : n < 2
    · rw [if_pos c1, if_neg (by omega)]; exact fits_bad
    rw [if_neg c1]
    by_cases c2 : C b1
    · rw [if_pos c2]
      unfold C at c2
      rw [if_pos (by omega), if_pos (by omega)]
      unfold fin
      rw [if_neg (by omega)]
      exact fits_good (by omega) (by omega)
    · rw [if_neg c2]
      unfold C at c2
      rw [if_neg (by omega)]; exact fits_bad
  rw [if_neg (c := 194 ≤ b0 ∧ b0 < 224) (by omega), if_neg (c := b0 / 32 = 6 ∧ _) (by omega)]
  by_cases a3 : b0 < 240
  · rw [if_pos (c := 224 ≤ b0 ∧ b0 < 240) (by omega), if_neg (c := b0 / 8 = 30 ∧ _) (by omega)]
    by_cases c1 : n < 3
    · rw [if_pos c1, if_neg (by omega)]; exact fits_bad
    rw [if_neg c1]
    by_cases c2 : C b1
    · by_cases c3 : C b2
      · rw [if_pos c2, if_pos c3]
        unfold C at c2 c3
        rw [if_pos (by omega)]
        unfold fin
        by_cases c4 : b0 % 16 * 4096 + b1 % 64 * 64 + b2 % 64 ≥ 2048 ∧ (b0 % 16 * 4096 + b1 % 64 * 64 + b2 % 64 < 55296 ∨ (57344 ≤ b0 % 16 * 4096 + b1 % 64 * 64 + b2 % 64 ∧ b0 % 16 * 4096 + b1 % 64 * 64 + b2 % 64 ≤ 1114111))
        · rw [if_pos c4, if_neg (by omega)]
          exact fits_good (by omega) (by omega)
        · rw [if_neg c4, if_pos (by omega)]; exact fits_bad
      · rw [if_pos c2, if_neg c3]
        unfold C at c3
        rw [if_neg (by omega)]; exact fits_bad
    · rw [if_neg c2]
      unfold C at c2
      rw [if_neg (by omega)]; exact fits_bad
  rw [if_neg (c := 224 ≤ b0 ∧ b0 < 240) (by omega), if_neg (c := b0 / 16 = 14 ∧ _) (by omega)]
  by_cases a4 : b0 < 248
  · by_cases a5 : b0 < 245
    · rw [if_pos (c := 240 ≤ b0 ∧ b0 < 245) (by omega)]
      by_cases c1 : n < 4
      · rw [if_pos c1, if_neg (by omega)]; exact fits_bad
      rw [if_neg c1]
      by_cases c2 : C b1
      · by_cases c3 : C b2
        · by_cases c4 : C b3
          · rw [if_pos c2, if_pos c3, if_pos c4]
            unfold C at c2 c3 c4
            rw [if_pos (by omega)]
            unfold fin
            by_cases c5 : b0 % 8 * 262144 + b1 % 64 * 4096 + b2 % 64 * 64 + b3 % 64 ≥ 65536 ∧ (b0 % 8 * 262144 + b1 % 64 * 4096 + b2 % 64 * 64 + b3 % 64 < 55296 ∨ (57344 ≤ b0 % 8 * 262144 + b1 % 64 * 4096 + b2 % 64 * 64 + b3 % 64 ∧ b0 % 8 * 262144 + b1 % 64 * 4096 + b2 % 64 * 64 + b3 % 64 ≤ 1114111))
            · rw [if_pos c5, if_neg (by omega)]
              exact fits_good (by omega) (by omega)
            · rw [if_neg c5, if_pos (by omega)]; exact fits_bad
          · rw [if_pos c2, if_pos c3, if_neg c4]
            unfold C at c4
            rw [if_neg (by omega)]; exact fits_bad
        · rw [if_pos c2, if_neg c3]
          unfold C at c3
          rw [if_neg (by omega)]; exact fits_bad
      · rw [if_neg c2]
        unfold C at c2
        rw [if_neg (by omega)]; exact fits_bad
    · rw [if_neg (c := 240 ≤ b0 ∧ b0 < 245) (by omega)]
      split
      · split
        · omega
        · exact fits_bad
      · exact fits_bad
  · rw [if_neg (c := 240 ≤ b0 ∧ b0 < 245) (by omega), if_neg (c := b0 / 8 = 30 ∧ _) (by omega)]; exact fits_bad
def by_ (l : List UInt8) (k : Nat) : Nat := (l.getD k 0).toNat
theorem by_lt (l : List UInt8) (k : Nat) : by_ l k < 256 := (l.getD k 0).toNat_lt
def refC (l : List UInt8) : Nat × Nat := refN l.length (by_ l 0) (by_ l 1) (by_ l 2) (by_ l 3)
theorem refC_fits (l : List UInt8) : Fits (decodeL l) (refC l) := by
  rw [decodeL_N]; exact refN_fits _ _ _ _ _ (by_lt l 0) (by_lt l 1) (by_lt l 2) (by_lt l 3)
def R : Nat → List UInt8 → List Int
  | 0, _ => []
  | f + 1, l => if l = [] then [] else ((decodeL l).1 : Int) :: R f (l.drop (decodeL l).2)
theorem drop_lt {l : List UInt8} (h : l ≠ []) : (l.drop (decodeL l).2).length < l.length := by
  have h1 := decodeL_width l
  have h2 : 0 < l.length := List.length_pos_iff.2 h
  rw [List.length_drop]; omega
theorem R_fuel : ∀ (f g : Nat) (l : List UInt8), l.length ≤ f → l.length ≤ g → R f l = R g l
  | 0, 0, _, _, _ => rfl
  | 0, g + 1, l, hf, _ => by rw [List.eq_nil_of_length_eq_zero (show l.length = 0 by omega)]; simp [R]
  | f + 1, 0, l, _, hg => by rw [List.eq_nil_of_length_eq_zero (show l.length = 0 by omega)]; simp [R]
  | f + 1, g + 1, l, hf, hg => by
    rw [R, R]
    split
    · rfl
    · rename_i h
      have := drop_lt h
      rw [R_fuel f g _ (by omega) (by omega)]
theorem V_fuel : ∀ (f g : Nat) (l : List UInt8), l.length ≤ f → l.length ≤ g → validGoD f l = validGoD g l
  | 0, 0, _, _, _ => rfl
  | 0, g + 1, l, hf, _ => by rw [List.eq_nil_of_length_eq_zero (show l.length = 0 by omega)]; simp [validGoD]
  | f + 1, 0, l, _, hg => by rw [List.eq_nil_of_length_eq_zero (show l.length = 0 by omega)]; simp [validGoD]
  | f + 1, g + 1, l, hf, hg => by
    rw [validGoD, validGoD]
    split
    · rfl
    · rename_i h
      have := drop_lt h
      rw [V_fuel f g _ (by omega) (by omega)]
def rns (l : List UInt8) : List Int := R l.length l
theorem rns_nil : rns [] = [] := rfl
theorem rns_step {l : List UInt8} (h : l ≠ []) : rns l = ((decodeL l).1 : Int) :: rns (l.drop (decodeL l).2) := by
  have h1 := drop_lt h
  unfold rns
  obtain ⟨n, hn⟩ : ∃ n, l.length = n + 1 := ⟨l.length - 1, by have := List.length_pos_iff.2 h; omega⟩
  rw [hn, R, if_neg h, R_fuel n _ _ (by omega) (Nat.le_refl _)]
theorem V_nil : validD [] = true := rfl
theorem V_step {l : List UInt8} (h : l ≠ []) : validD l = if (decodeL l).1 = 65533 ∧ (decodeL l).2 = 1 then false else validD (l.drop (decodeL l).2) := by
  have h1 := drop_lt h
  unfold validD
  obtain ⟨n, hn⟩ : ∃ n, l.length = n + 1 := ⟨l.length - 1, by have := List.length_pos_iff.2 h; omega⟩
  rw [hn, validGoD, if_neg h, V_fuel n _ _ (by omega) (Nat.le_refl _)]
theorem rns_len : ∀ (n : Nat) (l : List UInt8), l.length ≤ n → (rns l).length ≤ l.length
  | 0, l, h => by rw [List.eq_nil_of_length_eq_zero (show l.length = 0 by omega)]; simp [rns_nil]
  | n + 1, l, h => by
    by_cases hl : l = []
    · rw [hl]; simp [rns_nil]
    · have h1 := drop_lt hl
      have := rns_len n (l.drop (decodeL l).2) (by omega)
      rw [rns_step hl, List.length_cons]; omega
theorem rns_pos {l : List UInt8} (h : l ≠ []) : rns l ≠ [] := by rw [rns_step h]; simp
theorem dec_drop (s : List UInt8) (p : Nat) : dec s p = decodeL (s.drop p) := (decodeL_drop ⟨s.toArray⟩ p).symm
def bad (c : Int) : Bool := decide (c = 47) || (decide (c < 32) || decide (c = 127))
def nameV (s : List UInt8) : Int := if s = [] ∨ s = [46] ∨ s = [46, 46] ∨ validD s = false then 8 else if (rns s).any bad then 8 else if 24 < (rns s).length then 2 else 0
end Go.Proofs.YtiioclkiapbjnaaGreatDoor.U8
