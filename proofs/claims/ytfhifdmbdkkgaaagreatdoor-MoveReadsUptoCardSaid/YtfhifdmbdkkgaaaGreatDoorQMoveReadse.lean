/- What MoveReads leans on, part 5. No condition. -/
import Derived.Test.YtfhifdmbdkkgaaaGreatDoorQMoveReadsd
import Derived.Test.YtfhifdmbdkkgaaaGreatDoorChecked
import Derived.Lib.Endian
import Derived.Lib.TrimByte
import Derived.WalkKit
import Derived.Lib.Hide
import Derived.IntWalk
import Derived.Lib.Repeat
import Derived.Laws.BitsAllLaws
import Derived.Lib.MapLaws
import Derived.Lib.ValidU
import Derived.Lib.SplitLaws
namespace Go.Proofs.YtfhifdmbdkkgaaaGreatDoor
open Go.RowKit YtfhifdmbdkkgaaaGreatDoor.En
set_option linter.unusedVariables false
set_option linter.unusedSimpArgs false
open Go.Value (int bool)
set_option maxHeartbeats 2000000 in
set_option maxRecDepth 100000 in
theorem f___move_reader__old_ok (fu : Nat) (bx0 : Nat) (a0 : S_move_reader) {r : (S_api_Old × S_move_reader)} (h : f___move_reader__old fu a0 = some r) : FnOk Tryz.prog 26 [(ptr bx0 0)] [] [(oBox bx0 64 [(str a0.s), (bool a0.bad)])] (fun (i : Value) => { val := (ag [(str r.1.Name), (int .i64 r.1.Time), i]), own := [(oBox bx0 64 [(str r.2.s), (bool r.2.bad)])], fz := [(fDat (tyList tyS_api_Item) [i] r.1.World)] }) := by
 unfold f___move_reader__old at h
 refine fn_enter Tryz.func26 rfl Tryz.ntmps26 rfl (fun w0 Z0 => ?_)
 refine aw_sr ?_
 refine al_alloc (zs := [(str ([] : List UInt8)), (iq (0 : Int)), nS]) (zeroOf_to to49) rfl rfl (fun g1 => ?_)
 refine al_nt ?_
 refine aw_sr ?_
 refine al_mv rfl rfl ?_
 obtain ⟨r3, hc2, h⟩ := opt_some h
 refine al_call (vs := [(pq bx0)]) (f___move_reader__text_ok fu bx0 a0 hc2) [] [1] [0] pre_nil rfl (by simp) (by decide) (.inl rfl) rfl Tryz.func57 rfl rfl rfl (fun _ => ?_)
 refine al_mv rfl rfl ?_
 obtain ⟨r5, hc4, h⟩ := opt_some h
 refine al_call (vs := [(pq bx0), (uq (4223371679 : Int))]) (f___move_reader__number_ok fu bx0 (S_move_reader.mk r3.2.s r3.2.bad) (4223371679 : Int) hc4) [] [0] [1] pre_nil rfl (by simp) (by decide) (.inl rfl) rfl Tryz.func58 rfl rfl rfl (fun _ => ?_)
 refine al_val (ov_build (cells := ([(str r3.1), (iq r5.1), nS]).toArray) (cs := [(str r3.1), (iq r5.1), nS]) rfl (fun w a hm hs => by simp only [List.map_toArray, List.map_cons, List.map_nil, List.toList_toArray, hs.ev (x := .tmp 6) rfl, hs.ev (x := .tmp 8) rfl]; kernel_rfl)) ?_
 refine al_alloc (zs := [(str ([] : List UInt8)), (iq (0 : Int)), nS]) (zeroOf_to to49) rfl rfl (fun g6 => ?_)
 refine al_store (i := 0) (vs := [(str r3.1), (iq r5.1), nS]) (cs' := [(str r3.1), (iq r5.1), nS]) rfl rfl rfl sz49 (cv_rfl rfl) rfl (co_val rfl (co_val rfl (co_val rfl co_nil))) (Nat.le_of_ble_eq_true rfl) rfl rfl ?_
 refine al_nt ?_
 obtain ⟨kk8, hkk8, h⟩ := lt_some h
 refine aw_seq_join (ι := (List UInt8) × Bool × Value × (List S_api_Item)) (fun i => (memOf w0 Z0 [(oBox bx0 64 [(str a0.s), (bool a0.bad)])] [(oBox bx0 64 [(str i.1), (bool i.2.1)]), (oBox g1 49 [(str ([] : List UInt8)), (iq (0 : Int)), nS]), (oRow i.2.2.1 57 tyS_api_Item i.2.2.2), (oBox g6 49 [(str r3.1), (iq r5.1), i.2.2.1])] [])) (fun i => (tab [(0, (pq bx0)), (2, (pq g1)), (3, (pq g6))])) (fun i => kk8 i.1 i.2.1 i.2.2.2 = some r) ?_ ?_
 ·rintro ⟨j7s0_0, j7b0_1, j7v3_2, j7x3_2⟩ h
  have h : kk8 j7s0_0 j7b0_1 j7x3_2 = some r := h
  rw [hkk8] at h
  dsimp only at h
  clear hkk8
  refine aw_show (m := (memOf w0 Z0 [(oBox bx0 64 [(str a0.s), (bool a0.bad)])] [(oBox bx0 64 [(str j7s0_0), (bool j7b0_1)]), (oBox g1 49 [(str ([] : List UInt8)), (iq (0 : Int)), nS]), (oRow j7v3_2 57 tyS_api_Item j7x3_2), (oBox g6 49 [(str r3.1), (iq r5.1), j7v3_2])] [])) (S := (tab [(0, (pq bx0)), (2, (pq g1)), (3, (pq g6))])) ?_
  refine aw_sr ?_
  refine al_val (ov_load (i := 3) (v := (ag [(str r3.1), (iq r5.1), j7v3_2])) rfl rfl Tryz.underlying49 sz49 rfl rfl rfl rfl) ?_
  refine al_store (i := 1) (vs := [(str r3.1), (iq r5.1), j7v3_2]) (cs' := [(str r3.1), (iq r5.1), j7v3_2]) rfl rfl rfl sz49 (cv_rfl rfl) rfl (co_val rfl (co_val rfl (co_own 2 rfl co_nil))) (Nat.le_of_ble_eq_true rfl) rfl rfl ?_
  refine al_nt ?_
  refine aw_ret ?_
  refine aq_freezeX 2 [0] rfl rfl rfl ?_
  obtain rfl := Option.some.inj h
  exact fn_ret j7v3_2 [0] [0] rfl rfl rfl rfl (resC rfl (resB (i := 1) rfl rfl Tryz.underlying49 sz49 rfl rfl rfl (resN)) rfl) rfl rfl rfl (by decide)
 ·clear hkk8
  refine aw_sr ?_
  refine al_mv rfl rfl ?_
  obtain ⟨r10, hc9, h⟩ := opt_some h
  refine al_call (vs := [(pq bx0), (uq (100 : Int))]) (f___move_reader__number_ok fu bx0 (S_move_reader.mk r5.2.s r5.2.bad) (100 : Int) hc9) [] [1] [0, 2] pre_nil rfl (by simp) (by decide) (.inl rfl) rfl Tryz.func58 rfl rfl rfl (fun _ => ?_)
  refine al_mv rfl rfl ?_
  refine al_nt ?_
  refine aw_block ?_
  refine aw_nilR 57 tyS_api_Item ?_
  refine aw_state (aw_loop (ι := (List UInt8) × Bool × Value × (List S_api_Item) × Int) (fun i => (memOf w0 Z0 [(oBox bx0 64 [(str a0.s), (bool a0.bad)])] [(oBox bx0 64 [(str i.1), (bool i.2.1)]), (oBox g1 49 [(str ([] : List UInt8)), (iq (0 : Int)), nS]), (oRow i.2.2.1 57 tyS_api_Item i.2.2.2.1), (oBox g6 49 [(str r3.1), (iq r5.1), i.2.2.1])] [])) (fun i => (tab [(0, (pq bx0)), (2, (pq g1)), (3, (pq g6)), (11, (iq r10.1)), (12, (iq i.2.2.2.2))])) (fun q i => f___move_reader__old_L13 kk8 r10 fu q i.1 i.2.1 i.2.2.2.1 i.2.2.2.2 = some r) ?_ fu (r10.2.s, r10.2.bad, nS, ([] : List S_api_Item), (0 : Int)) h) (fun w a hm hs => norm hm hs [1, 3, 0, 2] [] [(0, (pq bx0)), (2, (pq g1)), (3, (pq g6)), (11, (iq r10.1)), (12, (iq (0 : Int)))] (by decide) ⟨rfl, rfl, rfl, rfl, rfl, trivial⟩)
  clear h
  rintro k12 ⟨l11s0_0, l11b0_1, l11v3_2, l11x3_2, l11i12⟩ h
  have h : f___move_reader__old_L13 kk8 r10 fu k12 l11s0_0 l11b0_1 l11x3_2 l11i12 = some r := h
  obtain _ | k12 := k12
  · rw [f___move_reader__old_L13] at h; cases h
  rw [f___move_reader__old_L13] at h
  refine aw_show (m := (memOf w0 Z0 [(oBox bx0 64 [(str a0.s), (bool a0.bad)])] [(oBox bx0 64 [(str l11s0_0), (bool l11b0_1)]), (oBox g1 49 [(str ([] : List UInt8)), (iq (0 : Int)), nS]), (oRow l11v3_2 57 tyS_api_Item l11x3_2), (oBox g6 49 [(str r3.1), (iq r5.1), l11v3_2])] [])) (S := (tab [(0, (pq bx0)), (2, (pq g1)), (3, (pq g6)), (11, (iq r10.1)), (12, (iq l11i12))])) ?_
  refine aw_sr ?_
  refine al_in rfl rfl rfl rfl ?_
  refine al_nt ?_
  refine aw_seq ?_
  refine aw_cond rfl (fun hb14 => ?_) (fun hb14 => ?_)
  ·replace h := bif_t hb14 h
   refine aw_skip ?_
   refine aq_then ?_
   refine aw_seq ?_
   refine aw_block ?_
   refine aw_sr ?_
   refine al_mv rfl rfl ?_
   obtain ⟨r16, hc15, h⟩ := opt_some h
   refine al_call (vs := [(pq bx0)]) (f___move_reader__text_ok fu bx0 (S_move_reader.mk l11s0_0 l11b0_1) hc15) [] [0] [1, 2, 3] pre_nil rfl (by simp) (by decide) (.inl rfl) rfl Tryz.func57 rfl rfl rfl (fun _ => ?_)
   refine al_mv rfl rfl ?_
   obtain ⟨r18, hc17, h⟩ := opt_some h
   refine al_call (vs := [(pq bx0)]) (f___move_reader__kind_ok fu bx0 (S_move_reader.mk r16.2.s r16.2.bad) hc17) [] [0] [1, 2, 3] pre_nil rfl (by simp) (by decide) (.inl rfl) rfl Tryz.func59 rfl rfl rfl (fun _ => ?_)
   refine al_mv rfl rfl ?_
   obtain ⟨r20, hc19, h⟩ := opt_some h
   refine al_call (vs := [(pq bx0), (uq (511 : Int))]) (f___move_reader__number_ok fu bx0 (S_move_reader.mk r18.2.s r18.2.bad) (511 : Int) hc19) [] [0] [1, 2, 3] pre_nil rfl (by simp) (by decide) (.inl rfl) rfl Tryz.func58 rfl rfl rfl (fun _ => ?_)
   refine al_mv rfl rfl ?_
   obtain ⟨r22, hc21, h⟩ := opt_some h
   refine al_call (vs := [(pq bx0)]) (f___move_reader__integer_ok fu bx0 (S_move_reader.mk r20.2.s r20.2.bad) hc21) [] [0] [1, 2, 3] pre_nil rfl (by simp) (by decide) (.inl rfl) rfl Tryz.func60 rfl rfl rfl (fun _ => ?_)
   refine al_val (ov_build (cells := ([(str r16.1), (iq r18.1), (iq r20.1), (iq r22.1), (str ([] : List UInt8))]).toArray) (cs := [(str r16.1), (iq r18.1), (iq r20.1), (iq r22.1), (str ([] : List UInt8))]) rfl (fun w a hm hs => by simp only [List.map_toArray, List.map_cons, List.map_nil, List.toList_toArray, hs.ev (x := .tmp 15) rfl, hs.ev (x := .tmp 17) rfl, hs.ev (x := .tmp 19) rfl, hs.ev (x := .tmp 21) rfl]; kernel_rfl)) ?_
   refine al_alloc (zs := [(str ([] : List UInt8)), (iq (0 : Int)), (iq (0 : Int)), (iq (0 : Int)), (str ([] : List UInt8))]) (zeroOf_to to57) rfl rfl (fun g23 => ?_)
   refine al_store (i := 0) (vs := [(str r16.1), (iq r18.1), (iq r20.1), (iq r22.1), (str ([] : List UInt8))]) (cs' := [(str r16.1), (iq r18.1), (iq r20.1), (iq r22.1), (str ([] : List UInt8))]) rfl rfl rfl sz57 (cv_rfl rfl) rfl (co_val rfl (co_val rfl (co_val rfl (co_val rfl (co_val rfl co_nil))))) (Nat.le_of_ble_eq_true rfl) rfl rfl ?_
   refine al_nt ?_
   refine aw_sr ?_
   refine al_mv rfl rfl ?_
   refine al_mv rfl rfl ?_
   obtain ⟨r25, hc24, h⟩ := opt_some h
   refine al_call (vs := [(pq bx0), (uq (4096 : Int))]) (f___move_reader__number_ok fu bx0 (S_move_reader.mk r22.2.s r22.2.bad) (4096 : Int) hc24) [] [1] [0, 2, 3, 4] pre_nil rfl (by simp) (by decide) (.inl rfl) rfl Tryz.func58 rfl rfl rfl (fun _ => ?_)
   obtain ⟨r27, hc26, h⟩ := opt_some h
   refine al_call (vs := [(pq bx0), (iq r25.1), (iq (0 : Int))]) (f___move_reader__take_ok fu bx0 (S_move_reader.mk r25.2.s r25.2.bad) r25.1 (0 : Int) hc26) [] [0] [1, 2, 3, 4] pre_nil rfl (by simp) (by decide) (.inl rfl) rfl Tryz.func61 rfl rfl rfl (fun _ => ?_)
   refine al_val (ov_fieldA (p := 4) rfl Tryz.underlying57 rfl sz9 rfl rfl rfl) ?_
   refine al_store (i := 1) (vs := [(str r27.1)]) (cs' := [(str r16.1), (iq r18.1), (iq r20.1), (iq r22.1), (str r27.1)]) rfl rfl rfl sz9 (cv_rfl rfl) rfl (co_val rfl co_nil) (Nat.le_of_ble_eq_true rfl) rfl rfl ?_
   refine al_nt ?_
   refine aw_region ?_
   refine al_val (ov_fieldA (p := 2) rfl Tryz.underlying49 rfl sz34 rfl rfl rfl) ?_
   refine al_val (ov_load (i := 4) (v := l11v3_2) rfl rfl Tryz.underlying34 sz34 rfl rfl rfl rfl) ?_
   refine al_val (ov_load (i := 1) (v := (ag [(str r16.1), (iq r18.1), (iq r20.1), (iq r22.1), (str r27.1)])) rfl rfl Tryz.underlying57 sz57 rfl rfl rfl rfl) ?_
   refine al_buildSlice (τ := tyS_api_Item) (e := 57) (k := 1) (sz := 0) (by_ := 0) (z := undef) (cs := [(str r16.1), (iq r18.1), (iq r20.1), (iq r22.1), (str r27.1)]) (xs := [(S_api_Item.mk r16.1 r18.1 r20.1 r22.1 r27.1)]) rfl (by decide) (fun w a hm hs => ⟨([(str r16.1), (iq r18.1), (iq r20.1), (iq r22.1), (str r27.1)]).toArray, rfl, by simp only [List.map_toArray, List.map_cons, List.map_nil, hs.ev (x := .tmp 30) rfl]; exact run_bs [(ag [(str r16.1), (iq r18.1), (iq r20.1), (iq r22.1), (str r27.1)])] [(str r16.1), (iq r18.1), (iq r20.1), (iq r22.1), (str r27.1)] Tryz.underlying34 to57 rfl rfl (bs_cons (l := [(str r16.1), (iq r18.1), (iq r20.1), (iq r22.1), (str r27.1)]) (cs := []) (cv_rfl rfl) rfl bs_nil) hm⟩) (fun hm => ⟨_, _, rfl, (fun _ => mkS_api_Item rfl) hm, rfl⟩) rfl (fun v28 => ?_)
   obtain ⟨hc29, h⟩ := req_some h
   refine al_append 4 hc29.1 hc29.2 rfl (src_own (i := 4) 0 rfl) rfl rfl Tryz.underlying34 to57 rfl rfl rfl (fun v30 => ?_)
   refine al_val (ov_fieldA (p := 2) rfl Tryz.underlying49 rfl sz34 rfl rfl rfl) ?_
   refine al_store (i := 5) (vs := [v30]) (cs' := [(str r3.1), (iq r5.1), v30]) rfl rfl rfl sz34 (cv_own 4 rfl) rfl (co_own 4 rfl co_nil) (Nat.le_of_ble_eq_true rfl) rfl rfl ?_
   refine al_nil ?_
   refine aq_block ?_
   refine aq_then ?_
   refine aw_region ?_
   refine al_in rfl rfl rfl rfl ?_
   refine al_mv rfl rfl ?_
   refine al_nil ?_
   exact aq_again k12 (r27.2.s, r27.2.bad, v30, (l11x3_2 ++ ([(S_api_Item.mk r16.1 r18.1 r20.1 r22.1 r27.1)])), (wq (l11i12 + (1 : Int)))) (Nat.lt_succ_self _) h (fun w a hm hs => norm hm hs [1, 3, 4, 5] [] [(0, (pq bx0)), (2, (pq g1)), (3, (pq g6)), (11, (iq r10.1)), (12, (iq (wq (l11i12 + (1 : Int)))))] (by decide) ⟨rfl, rfl, rfl, rfl, rfl, trivial⟩)
  ·replace h := bif_f hb14 h
   refine aw_exit ?_
   refine aq_then_exit ?_
   refine aq_then_exit ?_
   refine aq_block_exit ?_
   exact aq_join (l11s0_0, l11b0_1, l11v3_2, l11x3_2) h (fun w a hm hs => norm hm hs [0, 1, 2, 3] [] [(0, (pq bx0)), (2, (pq g1)), (3, (pq g6))] (by decide) ⟨rfl, rfl, rfl, trivial⟩)
def f_move_Read_L14 (r2 : ((List (List UInt8)) × Int)) (kk5 : ((List S_api_Old) → Option ((List S_api_Old) × Int))) (fu : Nat) : Nat → (List S_api_Old) → Int → Option ((List S_api_Old) × Int)
  | 0, _, _ => none
  | k13 + 1, l12x6, l12i19 => (bif (decide (l12i19 < (r2.1.length : Int))) then (opt (at? r2.1 l12i19) fun (u16 : (List UInt8)) => (opt (f___move_reader__old fu (S_move_reader.mk u16 false)) fun (r22 : (S_api_Old × S_move_reader)) => (req (((l12x6.length + ([(S_api_Old.mk r22.1.Name r22.1.Time r22.1.World)]).length) * 48 : Nat) ≤ 140737488355328 ∧ l12x6.length + ([(S_api_Old.mk r22.1.Name r22.1.Time r22.1.World)]).length ≤ 9223372036854775807) (f_move_Read_L14 r2 kk5 fu k13 (l12x6 ++ ([(S_api_Old.mk r22.1.Name r22.1.Time r22.1.World)])) (IntKind.i64.wrap (l12i19 + (1 : Int))))))) else (kk5 l12x6))
def f_move_Read (fu : Nat) (a0 : (List UInt8)) : Option ((List S_api_Old) × Int) := (opt (f_journal_Scan fu a0) fun (r2 : ((List (List UInt8)) × Int)) => (lt (fun (j4x6 : (List S_api_Old)) => (opt (f_move_Pack fu j4x6) fun (r7 : ((List UInt8) × Int)) => (lt (fun (j8b43 : Bool) => (bif j8b43 then (some (([] : List S_api_Old), (4 : Int))) else (some (j4x6, (0 : Int))))) fun (kk9 : Bool → Option ((List S_api_Old) × Int)) => (bif (r7.2 != (0 : Int)) then (kk9 true) else (kk9 (!(r7.1 == a0))))))) fun (kk5 : (List S_api_Old) → Option ((List S_api_Old) × Int)) => (f_move_Read_L14 r2 kk5 fu fu ([] : List S_api_Old) (0 : Int))))
set_option maxHeartbeats 2000000 in
set_option maxRecDepth 100000 in
theorem f_move_Read_ok (fu : Nat) (a0 : (List UInt8)) {r : ((List S_api_Old) × Int)} (h : f_move_Read fu a0 = some r) : FnOk Tryz.prog 7 [(str a0)] [uMax, uTabs] [] (fun (i : Value) => { val := (Value.tuple #[i, (int .i64 r.2)]), own := [(oRow i 49 tyS_api_Old r.1)] }) := by
 unfold f_move_Read at h
 refine fn_enter Tryz.func7 rfl Tryz.ntmps7 rfl (fun w0 Z0 => ?_)
 refine aw_sr ?_
 refine al_as rfl rfl ?_
 refine al_as rfl rfl ?_
 refine al_nt ?_
 refine aw_sr ?_
 refine al_mv rfl rfl ?_
 obtain ⟨r2, hc1, h⟩ := opt_some h
 refine al_call (vs := [(str a0)]) (f_journal_Scan_ok fu a0 hc1) [] [] [] pre_nil rfl (by simp) (by decide) (.inl rfl) rfl Tryz.func25 rfl rfl rfl (fun v3 => ?_)
 refine al_mv rfl rfl ?_
 refine al_ex rfl rfl rfl ?_
 refine al_ex rfl rfl rfl ?_
 refine al_as rfl rfl ?_
 refine al_as rfl rfl ?_
 refine al_nt ?_
 refine aw_sr ?_
 refine al_as rfl rfl ?_
 refine al_nt ?_
 obtain ⟨kk5, hkk5, h⟩ := lt_some h
 refine aw_seq_join (ι := Value × (List S_api_Old)) (fun i => (memOf w0 Z0 [] [(oRow i.1 49 tyS_api_Old i.2)] [uMax, uTabs])) (fun i => (tab [(0, (str a0)), (6, i.1)])) (fun i => kk5 i.2 = some r) ?_ ?_
 ·rintro ⟨j4v6, j4x6⟩ h
  have h : kk5 j4x6 = some r := h
  rw [hkk5] at h
  dsimp only at h
  clear hkk5
  refine aw_show (m := (memOf w0 Z0 [] [(oRow j4v6 49 tyS_api_Old j4x6)] [uMax, uTabs])) (S := (tab [(0, (str a0)), (6, j4v6)])) ?_
  refine aw_seq ?_
  refine aw_sr ?_
  refine al_mv rfl rfl ?_
  obtain ⟨r7, hc6, h⟩ := opt_some h
  refine al_call (vs := [j4v6]) (f_move_Pack_ok fu j4v6 j4x6 hc6) [0] [] [0] (pre_own 0 rfl rfl (pre_fz 0 rfl (pre_fz 1 rfl pre_nil))) rfl (by simp) (by decide) (.inr flat_res0) rfl Tryz.func5 rfl rfl rfl (fun _ => ?_)
  refine al_mv rfl rfl ?_
  refine al_ex rfl rfl rfl ?_
  refine al_ex rfl rfl rfl ?_
  refine al_as rfl rfl ?_
  refine al_as rfl rfl ?_
  refine al_nt ?_
  obtain ⟨kk9, hkk9, h⟩ := lt_some h
  refine aw_seq_join (ι := Bool) (fun i => (memOf w0 Z0 [] [(oRow j4v6 49 tyS_api_Old j4x6)] [uMax, uTabs])) (fun i => (tab [(6, j4v6), (43, (bool i))])) (fun i => kk9 i = some r) ?_ ?_
  ·rintro j8b43 h
   have h : kk9 j8b43 = some r := h
   rw [hkk9] at h
   dsimp only at h
   clear hkk9
   refine aw_show (m := (memOf w0 Z0 [] [(oRow j4v6 49 tyS_api_Old j4x6)] [uMax, uTabs])) (S := (tab [(6, j4v6), (43, (bool j8b43))])) ?_
   refine aw_cond rfl (fun hb10 => ?_) (fun hb10 => ?_)
   ·replace h := bif_t hb10 h
    refine aw_sr ?_
    refine al_as rfl rfl ?_
    refine al_as rfl rfl ?_
    refine al_nt ?_
    refine aw_ret ?_
    refine aq_then_ret ?_
    refine aq_nilR 49 tyS_api_Old ?_
    obtain rfl := Option.some.inj h
    exact fn_ret nS [0] [] rfl rfl rfl rfl (res2 rfl rfl rfl) rfl rfl rfl (by decide)
   ·replace h := bif_f hb10 h
    refine aw_skip ?_
    refine aq_tr ?_
    refine al_mv rfl rfl ?_
    refine al_as rfl rfl ?_
    refine al_as rfl rfl ?_
    refine al_nt ?_
    refine aw_ret ?_
    obtain rfl := Option.some.inj h
    exact fn_ret j4v6 [0] [] rfl rfl rfl rfl (res2 rfl rfl rfl) rfl rfl rfl (by decide)
  ·clear hkk9
   refine aw_region ?_
   refine al_mv rfl rfl ?_
   refine al_in rfl rfl rfl rfl ?_
   refine al_mv rfl rfl ?_
   refine al_caseB 39 rfl (fun hb11 => ?_) (fun hb11 => ?_)
   ·replace h := bif_t hb11 h
    refine al_skip ?_
    refine al_skip ?_
    refine al_skip ?_
    refine al_val (ov_pick_t rfl rfl rfl) ?_
    refine al_nil ?_
    exact aq_join true h (fun w a hm hs => norm hm hs [0] [0, 1] [(6, j4v6), (43, (bool true))] (by decide) ⟨rfl, rfl, trivial⟩)
   ·replace h := bif_f hb11 h
    refine al_mv rfl rfl ?_
    refine al_mv rfl rfl ?_
    refine al_val (ov_strCmp rfl rfl rfl rfl) ?_
    refine al_val (ov_pick_f rfl rfl rfl) ?_
    refine al_nil ?_
    exact aq_join (!(r7.1 == a0)) h (fun w a hm hs => norm hm hs [0] [0, 1] [(6, j4v6), (43, (bool (!(r7.1 == a0))))] (by decide) ⟨rfl, rfl, trivial⟩)
 ·clear hkk5
  refine aw_sr ?_
  refine al_mv rfl rfl ?_
  refine al_val (ov_lenR 0 rfl rfl Tryz.underlying47 rfl) ?_
  refine al_mv rfl rfl ?_
  refine al_nt ?_
  refine aw_block ?_
  refine aw_nilR 49 tyS_api_Old ?_
  refine aw_state (aw_loop (ι := Value × (List S_api_Old) × Int) (fun i => (memOf w0 Z0 [] [(oRow i.1 49 tyS_api_Old i.2.1), (oRow v3 9 tyStr r2.1)] [uMax, uTabs])) (fun i => (tab [(0, (str a0)), (6, i.1), (17, v3), (18, (iq (r2.1.length : Int))), (19, (iq i.2.2))])) (fun q i => f_move_Read_L14 r2 kk5 fu q i.2.1 i.2.2 = some r) ?_ fu (nS, ([] : List S_api_Old), (0 : Int)) h) (fun w a hm hs => norm hm hs [0, 1] [0, 1] [(0, (str a0)), (6, nS), (17, v3), (18, (iq (r2.1.length : Int))), (19, (iq (0 : Int)))] (by decide) ⟨rfl, rfl, rfl, rfl, rfl, trivial⟩)
  clear h
  rintro k13 ⟨l12v6, l12x6, l12i19⟩ h
  have h : f_move_Read_L14 r2 kk5 fu k13 l12x6 l12i19 = some r := h
  obtain _ | k13 := k13
  · rw [f_move_Read_L14] at h; cases h
  rw [f_move_Read_L14] at h
  refine aw_show (m := (memOf w0 Z0 [] [(oRow l12v6 49 tyS_api_Old l12x6), (oRow v3 9 tyStr r2.1)] [uMax, uTabs])) (S := (tab [(0, (str a0)), (6, l12v6), (17, v3), (18, (iq (r2.1.length : Int))), (19, (iq l12i19))])) ?_
  refine aw_sr ?_
  refine al_in rfl rfl rfl rfl ?_
  refine al_nt ?_
  refine aw_seq ?_
  refine aw_cond rfl (fun hb15 => ?_) (fun hb15 => ?_)
  ·replace h := bif_t hb15 h
   refine aw_skip ?_
   refine aq_then ?_
   refine aw_seq ?_
   refine aw_block ?_
   refine aw_sr ?_
   obtain ⟨u16, hu17, h⟩ := opt_some h
   refine al_idxR 1 (at_some hu17).1 (at_some hu17).2.1 rfl rfl rfl Tryz.underlying47 sz9 rfl (fun p18 hp19 => ?_)
   refine al_val (ov_loadR (ds := [(str u16)]) 1 rfl hp19 (at_some hu17).2.2 (fun h => h) rfl Tryz.underlying9 sz9 rfl rfl rfl) ?_
   refine al_as rfl rfl ?_
   refine al_nt ?_
   refine aw_sr ?_
   refine al_mv rfl rfl ?_
   refine al_val (ov_build (cells := ([(str u16), (bool false)]).toArray) (cs := [(str u16), (bool false)]) rfl (fun w a hm hs => by simp only [List.map_toArray, List.map_cons, List.map_nil, List.toList_toArray, hs.ev (x := .tmp 23) rfl]; kernel_rfl)) ?_
   refine al_box (vs := [(str u16), (bool false)]) rfl (cv_rfl rfl) rfl (fun g20 => ?_)
   refine al_as rfl rfl ?_
   refine al_nt ?_
   refine aw_region ?_
   refine al_mv rfl rfl ?_
   refine al_mv rfl rfl ?_
   obtain ⟨r22, hc21, h⟩ := opt_some h
   refine al_call (vs := [(pq g20)]) (f___move_reader__old_ok fu g20 (S_move_reader.mk u16 false) hc21) [] [0] [1, 2] pre_nil rfl (by simp) (by decide) (.inl rfl) rfl Tryz.func26 rfl rfl rfl (fun v23 => ?_)
   refine al_buildSlice (τ := tyS_api_Old) (e := 49) (k := 1) (sz := 0) (by_ := 0) (z := undef) (cs := [(str r22.1.Name), (iq r22.1.Time), v23]) (xs := [(S_api_Old.mk r22.1.Name r22.1.Time r22.1.World)]) rfl (by decide) (fun w a hm hs => ⟨([(str r22.1.Name), (iq r22.1.Time), v23]).toArray, rfl, by simp only [List.map_toArray, List.map_cons, List.map_nil, hs.ev (x := .tmp 28) rfl]; exact run_bs [(ag [(str r22.1.Name), (iq r22.1.Time), v23])] [(str r22.1.Name), (iq r22.1.Time), v23] Tryz.underlying22 to49 rfl rfl (bs_cons (l := [(str r22.1.Name), (iq r22.1.Time), v23]) (cs := []) (cv_rfl rfl) rfl bs_nil) hm⟩) (fun hm => ⟨_, _, rfl, (fun hm => mknS_api_Old rfl (fz_at (i := 0) hm rfl)) hm, rfl⟩) rfl (fun v24 => ?_)
   obtain ⟨hc25, h⟩ := req_some h
   refine al_append 2 hc25.1 hc25.2 rfl (src_own (i := 2) 0 rfl) rfl rfl Tryz.underlying22 to49 rfl rfl rfl (fun v26 => ?_)
   refine al_as rfl rfl ?_
   refine al_nil ?_
   refine aq_block ?_
   refine aq_then ?_
   refine aw_region ?_
   refine al_in rfl rfl rfl rfl ?_
   refine al_mv rfl rfl ?_
   refine al_nil ?_
   exact aq_again k13 (v26, (l12x6 ++ ([(S_api_Old.mk r22.1.Name r22.1.Time r22.1.World)])), (wq (l12i19 + (1 : Int)))) (Nat.lt_succ_self _) h (fun w a hm hs => norm hm hs [2, 3] [1, 2] [(0, (str a0)), (6, v26), (17, v3), (18, (iq (r2.1.length : Int))), (19, (iq (wq (l12i19 + (1 : Int)))))] (by decide) ⟨rfl, rfl, rfl, rfl, rfl, trivial⟩)
  ·replace h := bif_f hb15 h
   refine aw_exit ?_
   refine aq_then_exit ?_
   refine aq_then_exit ?_
   refine aq_block_exit ?_
   exact aq_join (l12v6, l12x6) h (fun w a hm hs => norm hm hs [0] [0, 1] [(0, (str a0)), (6, l12v6)] (by decide) ⟨rfl, rfl, trivial⟩)
def f_strings_HasPrefix (fu : Nat) (a0 : (List UInt8)) (a1 : (List UInt8)) : Option Bool := (opt (f_stringslite_HasPrefix fu a0 a1) fun (r2 : Bool) => (some r2))
set_option maxRecDepth 100000 in
theorem f_strings_HasPrefix_ok (fu : Nat) (a0 : (List UInt8)) (a1 : (List UInt8)) {r : Bool} (h : f_strings_HasPrefix fu a0 a1 = some r) : FnOk Tryz.prog 91 [(str a0), (str a1)] [] [] (fun (i : Unit) => { val := (bool r) }) := by
 unfold f_strings_HasPrefix at h
 refine fn_enter Tryz.func91 rfl Tryz.ntmps91 rfl (fun w0 Z0 => ?_)
 refine aw_sr ?_
 refine al_as rfl rfl ?_
 refine al_nt ?_
 refine aw_sr ?_
 refine al_mv rfl rfl ?_
 refine al_mv rfl rfl ?_
 obtain ⟨r2, hc1, h⟩ := opt_some h
 refine al_call (vs := [(str a0), (str a1)]) (f_stringslite_HasPrefix_ok fu a0 a1 hc1) [] [] [] pre_nil rfl (by simp) (by decide) (.inl rfl) rfl Tryz.func122 rfl rfl rfl (fun _ => ?_)
 refine al_as rfl rfl ?_
 refine al_nt ?_
 refine aw_ret ?_
 obtain rfl := Option.some.inj h
 exact fn_ret () [] [] rfl rfl rfl rfl (res1 rfl rfl) rfl rfl rfl (by decide)
def f_lumref_number : Nat → (List UInt8) → Option Int
  | 0, _ => none
  | fu + 1, a0 => (bif (a0 == ([] : List UInt8)) then (some (0 : Int)) else (req (0 ≤ (IntKind.i64.wrap ((a0.length : Int) - (1 : Int))) ∧ (IntKind.i64.wrap ((a0.length : Int) - (1 : Int))) ≤ (a0.length : Int)) (opt (f_lumref_number fu (a0.take ((IntKind.i64.wrap ((a0.length : Int) - (1 : Int)))).toNat)) fun (r4 : Int) => (req (0 ≤ (IntKind.i64.wrap ((a0.length : Int) - (1 : Int))) ∧ (IntKind.i64.wrap ((a0.length : Int) - (1 : Int))) < (a0.length : Int)) (some (IntKind.u64.wrap ((IntKind.u64.wrap ((256 : Int) * r4)) + (IntKind.u64.wrap (En.bAt a0 (IntKind.i64.wrap ((a0.length : Int) - (1 : Int))))))))))))
set_option maxHeartbeats 2000000 in
set_option maxRecDepth 100000 in
theorem f_lumref_number_ok (fu : Nat) (a0 : (List UInt8)) {r : Int} (h : f_lumref_number fu a0 = some r) : FnOk Tryz.prog 92 [(str a0)] [] [] (fun (i : Unit) => { val := (int .u64 r) }) := by
 cases fu with
 | zero => rw [f_lumref_number] at h; cases h
 | succ fu =>
  rw [f_lumref_number] at h
  refine fn_enter Tryz.func92 rfl Tryz.ntmps92 rfl (fun w0 Z0 => ?_)
  refine aw_sr ?_
  refine al_as rfl rfl ?_
  refine al_nt ?_
  refine aw_seq ?_
  refine aw_sr ?_
  refine al_mv rfl rfl ?_
  refine al_val (ov_strCmp rfl rfl rfl rfl) ?_
  refine al_nt ?_
  refine aw_cond rfl (fun hb1 => ?_) (fun hb1 => ?_)
  ·replace h := bif_t hb1 h
   refine aw_sr ?_
   refine al_as rfl rfl ?_
   refine al_nt ?_
   refine aw_ret ?_
   refine aq_then_ret ?_
   obtain rfl := Option.some.inj h
   exact fn_ret () [] [] rfl rfl rfl rfl (res1 rfl rfl) rfl rfl rfl (by decide)
  ·replace h := bif_f hb1 h
   refine aw_skip ?_
   refine aq_then ?_
   refine aw_seq ?_
   obtain ⟨hc2, h⟩ := req_some h
   obtain ⟨r4, hc3, h⟩ := opt_some h
   obtain ⟨hc5, h⟩ := req_some h
   refine aw_region_draw 14 [(5, (fun u => fEq u (str a0))), (6, (fun u => fEq u (str a0))), (7, (fun u => fEq u (iq (a0.length : Int)))), (8, (fun u => fEq u (iq (wq ((a0.length : Int) - (1 : Int)))))), (9, (fun u => fEq u (str (a0.take ((wq ((a0.length : Int) - (1 : Int)))).toNat)))), (10, (fun u => fEq u (uq r4))), (11, (fun u => fEq u (uq (wu ((256 : Int) * r4))))), (12, (fun u => fEq u (str a0))), (13, (fun u => fEq u (str a0))), (14, (fun u => fEq u (iq (a0.length : Int)))), (15, (fun u => fEq u (iq (wq ((a0.length : Int) - (1 : Int)))))), (16, (fun u => fEq u (i8 (En.bAt a0 (wq ((a0.length : Int) - (1 : Int))))))), (17, (fun u => fEq u (uq (wu (En.bAt a0 (wq ((a0.length : Int) - (1 : Int)))))))), (18, (fun u => fEq u (uq (wu ((wu ((256 : Int) * r4)) + (wu (En.bAt a0 (wq ((a0.length : Int) - (1 : Int))))))))))] (tab [(0, (str a0)), (2, (uq (0 : Int)))]) mixed (by kernel_rfl) rfl rfl rfl (fun a hs => hs.tab _ (allT_mem ⟨rfl, rfl, trivial⟩)) ⟨⟨rfl, ld_val (ov_move rfl rfl)⟩, ⟨rfl, ld_val (ov_move rfl rfl)⟩, ⟨rfl, ld_eq (j := 1) rfl rfl (ld_val (ov_strLen Tryz.underlying9 rfl rfl))⟩, ⟨rfl, ld_eq (j := 2) rfl rfl (ld_val (ov_int rfl rfl rfl rfl))⟩, ⟨rfl, ld_eq (j := 0) rfl rfl (ld_eq (j := 3) rfl rfl (ld_val (ov_strTo hc2.1 hc2.2 Tryz.underlying9 rfl rfl rfl)))⟩, ⟨rfl, ld_eq (j := 4) rfl rfl (ld_callV (vs := [(str (a0.take ((wq ((a0.length : Int) - (1 : Int)))).toNat))]) (f_lumref_number_ok fu (a0.take ((wq ((a0.length : Int) - (1 : Int)))).toNat) hc3) [] pre_nil rfl Tryz.func92 rfl rfl rfl)⟩, ⟨rfl, ld_eq (j := 5) rfl rfl (ld_val (ov_int rfl rfl rfl rfl))⟩, ⟨rfl, ld_val (ov_move rfl rfl)⟩, ⟨rfl, ld_val (ov_move rfl rfl)⟩, ⟨rfl, ld_eq (j := 8) rfl rfl (ld_val (ov_strLen Tryz.underlying9 rfl rfl))⟩, ⟨rfl, ld_eq (j := 9) rfl rfl (ld_val (ov_int rfl rfl rfl rfl))⟩, ⟨rfl, ld_eq (j := 7) rfl rfl (ld_eq (j := 10) rfl rfl (ld_val (ov_strIdx hc5.1 hc5.2 Tryz.underlying9 rfl rfl rfl)))⟩, ⟨rfl, ld_eq (j := 11) rfl rfl (ld_val (ov_convInt (by rw [Tryz.underlying5]; rfl) Tryz.underlying55 rfl rfl))⟩, ⟨rfl, ld_eq (j := 6) rfl rfl (ld_eq (j := 12) rfl rfl (ld_val (ov_int rfl rfl rfl rfl)))⟩, trivial⟩ ?_
   refine tl_eq 13 rfl ?_
   refine tl_done ?_
   refine al_as rfl rfl ?_
   refine al_nt ?_
   refine aw_ret ?_
   obtain rfl := Option.some.inj h
   exact fn_ret () [] [] rfl rfl rfl rfl (res1 rfl rfl) rfl rfl rfl (by decide)
def f_lumref_Get (fu : Nat) (a0 : (List UInt8)) : Option (Int × Int × Int) := (bif ((a0.length : Int) == (0 : Int)) then (some ((0 : Int), (0 : Int), (3 : Int))) else (req (0 ≤ (0 : Int) ∧ (0 : Int) < (a0.length : Int)) (bif (decide ((En.bAt a0 (0 : Int)) > (8 : Int))) then (some ((0 : Int), (0 : Int), (4 : Int))) else (req (0 ≤ (0 : Int) ∧ (0 : Int) < (a0.length : Int)) (bif (decide ((a0.length : Int) < (IntKind.i64.wrap ((1 : Int) + (IntKind.i64.wrap (En.bAt a0 (0 : Int))))))) then (some ((0 : Int), (0 : Int), (3 : Int))) else (req (0 ≤ (1 : Int) ∧ (1 : Int) ≤ (IntKind.i64.wrap ((1 : Int) + (IntKind.i64.wrap (En.bAt a0 (0 : Int))))) ∧ (IntKind.i64.wrap ((1 : Int) + (IntKind.i64.wrap (En.bAt a0 (0 : Int))))) ≤ (a0.length : Int)) (opt (f_strings_HasPrefix fu (cut a0 (1 : Int) (IntKind.i64.wrap ((1 : Int) + (IntKind.i64.wrap (En.bAt a0 (0 : Int)))))) ([0] : List UInt8)) fun (r8 : Bool) => (bif r8 then (some ((0 : Int), (0 : Int), (4 : Int))) else (req (0 ≤ (1 : Int) ∧ (1 : Int) ≤ (IntKind.i64.wrap ((1 : Int) + (IntKind.i64.wrap (En.bAt a0 (0 : Int))))) ∧ (IntKind.i64.wrap ((1 : Int) + (IntKind.i64.wrap (En.bAt a0 (0 : Int))))) ≤ (a0.length : Int)) (opt (f_lumref_number fu (cut a0 (1 : Int) (IntKind.i64.wrap ((1 : Int) + (IntKind.i64.wrap (En.bAt a0 (0 : Int))))))) fun (r12 : Int) => (some (r12, (IntKind.i64.wrap ((1 : Int) + (IntKind.i64.wrap (En.bAt a0 (0 : Int))))), (0 : Int)))))))))))))
set_option maxHeartbeats 2000000 in
set_option maxRecDepth 100000 in
theorem f_lumref_Get_ok (fu : Nat) (a0 : (List UInt8)) {r : (Int × Int × Int)} (h : f_lumref_Get fu a0 = some r) : FnOk Tryz.prog 62 [(str a0)] [] [] (fun (i : Unit) => { val := (Value.tuple #[(int .u64 r.1), (int .i64 r.2.1), (int .i64 r.2.2)]) }) := by
 unfold f_lumref_Get at h
 refine fn_enter Tryz.func62 rfl Tryz.ntmps62 rfl (fun w0 Z0 => ?_)
 refine aw_sr ?_
 refine al_as rfl rfl ?_
 refine al_as rfl rfl ?_
 refine al_as rfl rfl ?_
 refine al_nt ?_
 refine aw_seq ?_
 refine aw_sr ?_
 refine al_mv rfl rfl ?_
 refine al_val (ov_strLen Tryz.underlying9 rfl rfl) ?_
 refine al_in rfl rfl rfl rfl ?_
 refine al_nt ?_
 refine aw_cond rfl (fun hb1 => ?_) (fun hb1 => ?_)
 ·replace h := bif_t hb1 h
  refine aw_sr ?_
  refine al_as rfl rfl ?_
  refine al_as rfl rfl ?_
  refine al_as rfl rfl ?_
  refine al_nt ?_
  refine aw_ret ?_
  refine aq_then_ret ?_
  obtain rfl := Option.some.inj h
  exact fn_ret () [] [] rfl rfl rfl rfl (res3 rfl rfl rfl rfl) rfl rfl rfl (by decide)
 ·replace h := bif_f hb1 h
  refine aw_skip ?_
  refine aq_then ?_
  refine aw_seq ?_
  refine aw_sr ?_
  refine al_mv rfl rfl ?_
  obtain ⟨hc2, h⟩ := req_some h
  refine al_val (ov_strIdx hc2.1 hc2.2 Tryz.underlying9 rfl rfl rfl) ?_
  refine al_in rfl rfl rfl rfl ?_
  refine al_nt ?_
  refine aw_cond rfl (fun hb3 => ?_) (fun hb3 => ?_)
  ·replace h := bif_t hb3 h
   refine aw_sr ?_
   refine al_as rfl rfl ?_
   refine al_as rfl rfl ?_
   refine al_as rfl rfl ?_
   refine al_nt ?_
   refine aw_ret ?_
   refine aq_then_ret ?_
   obtain rfl := Option.some.inj h
   exact fn_ret () [] [] rfl rfl rfl rfl (res3 rfl rfl rfl rfl) rfl rfl rfl (by decide)
  ·replace h := bif_f hb3 h
   refine aw_skip ?_
   refine aq_tr ?_
   refine al_mv rfl rfl ?_
   obtain ⟨hc4, h⟩ := req_some h
   refine al_val (ov_strIdx hc4.1 hc4.2 Tryz.underlying9 rfl rfl rfl) ?_
   refine al_val (ov_convInt (by rw [Tryz.underlying5]; rfl) Tryz.underlying3 rfl rfl) ?_
   refine al_in rfl rfl rfl rfl ?_
   refine al_as rfl rfl ?_
   refine al_nt ?_
   refine aw_seq ?_
   refine aw_sr ?_
   refine al_mv rfl rfl ?_
   refine al_val (ov_strLen Tryz.underlying9 rfl rfl) ?_
   refine al_mv rfl rfl ?_
   refine al_in rfl rfl rfl rfl ?_
   refine al_nt ?_
   refine aw_cond rfl (fun hb5 => ?_) (fun hb5 => ?_)
   ·replace h := bif_t hb5 h
    refine aw_sr ?_
    refine al_as rfl rfl ?_
    refine al_as rfl rfl ?_
    refine al_as rfl rfl ?_
    refine al_nt ?_
    refine aw_ret ?_
    refine aq_then_ret ?_
    obtain rfl := Option.some.inj h
    exact fn_ret () [] [] rfl rfl rfl rfl (res3 rfl rfl rfl rfl) rfl rfl rfl (by decide)
   ·replace h := bif_f hb5 h
    refine aw_skip ?_
    refine aq_then ?_
    refine aw_seq ?_
    refine aw_sr ?_
    refine al_mv rfl rfl ?_
    refine al_mv rfl rfl ?_
    obtain ⟨hc6, h⟩ := req_some h
    refine al_val (ov_strCut hc6.1 hc6.2.1 hc6.2.2 Tryz.underlying9 rfl rfl rfl rfl) ?_
    obtain ⟨r8, hc7, h⟩ := opt_some h
    refine al_call (vs := [(str (cut a0 (1 : Int) (wq ((1 : Int) + (wq (En.bAt a0 (0 : Int))))))), (str ([0] : List UInt8))]) (f_strings_HasPrefix_ok fu (cut a0 (1 : Int) (wq ((1 : Int) + (wq (En.bAt a0 (0 : Int)))))) ([0] : List UInt8) hc7) [] [] [] pre_nil rfl (by simp) (by decide) (.inl rfl) rfl Tryz.func91 rfl rfl rfl (fun _ => ?_)
    refine al_nt ?_
    refine aw_cond rfl (fun hb9 => ?_) (fun hb9 => ?_)
    ·replace h := bif_t hb9 h
     refine aw_sr ?_
     refine al_as rfl rfl ?_
     refine al_as rfl rfl ?_
     refine al_as rfl rfl ?_
     refine al_nt ?_
     refine aw_ret ?_
     refine aq_then_ret ?_
     obtain rfl := Option.some.inj h
     exact fn_ret () [] [] rfl rfl rfl rfl (res3 rfl rfl rfl rfl) rfl rfl rfl (by decide)
    ·replace h := bif_f hb9 h
     refine aw_skip ?_
     refine aq_tr ?_
     refine al_mv rfl rfl ?_
     refine al_mv rfl rfl ?_
     obtain ⟨hc10, h⟩ := req_some h
     refine al_val (ov_strCut hc10.1 hc10.2.1 hc10.2.2 Tryz.underlying9 rfl rfl rfl rfl) ?_
     obtain ⟨r12, hc11, h⟩ := opt_some h
     refine al_call (vs := [(str (cut a0 (1 : Int) (wq ((1 : Int) + (wq (En.bAt a0 (0 : Int)))))))]) (f_lumref_number_ok fu (cut a0 (1 : Int) (wq ((1 : Int) + (wq (En.bAt a0 (0 : Int)))))) hc11) [] [] [] pre_nil rfl (by simp) (by decide) (.inl rfl) rfl Tryz.func92 rfl rfl rfl (fun _ => ?_)
     refine al_mv rfl rfl ?_
     refine al_as rfl rfl ?_
     refine al_as rfl rfl ?_
     refine al_as rfl rfl ?_
     refine al_nt ?_
     refine aw_ret ?_
     obtain rfl := Option.some.inj h
     exact fn_ret () [] [] rfl rfl rfl rfl (res3 rfl rfl rfl rfl) rfl rfl rfl (by decide)
def f_lumref_Scan : Nat → (List UInt8) → Option ((List (List UInt8)) × Int)
  | 0, _ => none
  | fu + 1, a0 => (opt (f_lumref_Get fu a0) fun (r2 : (Int × Int × Int)) => (lt (fun (j3b31 : Bool) => (bif j3b31 then (some (([] : List (List UInt8)), (0 : Int))) else (req (0 ≤ r2.2.1 ∧ r2.2.1 ≤ (IntKind.i64.wrap (r2.2.1 + (IntKind.i64.wrap r2.1))) ∧ (IntKind.i64.wrap (r2.2.1 + (IntKind.i64.wrap r2.1))) ≤ (a0.length : Int)) (opt (f_lumref_Frame fu (cut a0 r2.2.1 (IntKind.i64.wrap (r2.2.1 + (IntKind.i64.wrap r2.1))))) fun (r8 : (List UInt8)) => (lt (fun (j9b53 : Bool) => (bif j9b53 then (some (([] : List (List UInt8)), (0 : Int))) else (req (0 ≤ (r8.length : Int) ∧ (r8.length : Int) ≤ (a0.length : Int)) (opt (f_lumref_Scan fu (a0.drop ((r8.length : Int)).toNat)) fun (r14 : ((List (List UInt8)) × Int)) => (req (((([(cut a0 r2.2.1 (IntKind.i64.wrap (r2.2.1 + (IntKind.i64.wrap r2.1))))]).length + r14.1.length) * 16 : Nat) ≤ 140737488355328 ∧ ([(cut a0 r2.2.1 (IntKind.i64.wrap (r2.2.1 + (IntKind.i64.wrap r2.1))))]).length + r14.1.length ≤ 9223372036854775807) (some ((([(cut a0 r2.2.1 (IntKind.i64.wrap (r2.2.1 + (IntKind.i64.wrap r2.1))))]) ++ r14.1), (IntKind.i64.wrap ((r8.length : Int) + r14.2))))))))) fun (kk10 : Bool → Option ((List (List UInt8)) × Int)) => (bif (decide ((a0.length : Int) < (r8.length : Int))) then (kk10 true) else (req (0 ≤ (r8.length : Int) ∧ (r8.length : Int) ≤ (a0.length : Int)) (kk10 (!((a0.take ((r8.length : Int)).toNat) == r8)))))))))) fun (kk4 : Bool → Option ((List (List UInt8)) × Int)) => (bif (r2.2.2 != (0 : Int)) then (kk4 true) else (bif (decide (r2.1 > (4096 : Int))) then (kk4 true) else (kk4 (decide ((IntKind.u64.wrap (IntKind.i64.wrap ((a0.length : Int) - r2.2.1))) < r2.1)))))))
set_option maxHeartbeats 2000000 in
set_option maxRecDepth 100000 in
theorem f_lumref_Scan_ok (fu : Nat) (a0 : (List UInt8)) {r : ((List (List UInt8)) × Int)} (h : f_lumref_Scan fu a0 = some r) : FnOk Tryz.prog 27 [(str a0)] [] [] (fun (i : Value) => { val := (Value.tuple #[i, (int .i64 r.2)]), own := [(oRow i 9 tyStr r.1)] }) := by
 cases fu with
 | zero => rw [f_lumref_Scan] at h; cases h
 | succ fu =>
  rw [f_lumref_Scan] at h
  refine fn_enter Tryz.func27 rfl Tryz.ntmps27 rfl (fun w0 Z0 => ?_)
  refine aw_sr ?_
  refine al_as rfl rfl ?_
  refine al_as rfl rfl ?_
  refine al_nt ?_
  refine aw_sr ?_
  refine al_mv rfl rfl ?_
  obtain ⟨r2, hc1, h⟩ := opt_some h
  refine al_call (vs := [(str a0)]) (f_lumref_Get_ok fu a0 hc1) [] [] [] pre_nil rfl (by simp) (by decide) (.inl rfl) rfl Tryz.func62 rfl rfl rfl (fun _ => ?_)
  refine al_mv rfl rfl ?_
  refine al_ex rfl rfl rfl ?_
  refine al_ex rfl rfl rfl ?_
  refine al_ex rfl rfl rfl ?_
  refine al_as rfl rfl ?_
  refine al_as rfl rfl ?_
  refine al_as rfl rfl ?_
  refine al_nt ?_
  refine aw_seq ?_
  obtain ⟨kk4, hkk4, h⟩ := lt_some h
  refine aw_seq_join (ι := Bool) (fun i => (memOf w0 Z0 [] [] [])) (fun i => (tab [(0, (str a0)), (4, (uq r2.1)), (5, (iq r2.2.1)), (31, (bool i))])) (fun i => kk4 i = some r) ?_ ?_
  ·rintro j3b31 h
   have h : kk4 j3b31 = some r := h
   rw [hkk4] at h
   dsimp only at h
   clear hkk4
   refine aw_show (m := (memOf w0 Z0 [] [] [])) (S := (tab [(0, (str a0)), (4, (uq r2.1)), (5, (iq r2.2.1)), (31, (bool j3b31))])) ?_
   refine aw_cond rfl (fun hb5 => ?_) (fun hb5 => ?_)
   ·replace h := bif_t hb5 h
    refine aw_sr ?_
    refine al_as rfl rfl ?_
    refine al_as rfl rfl ?_
    refine al_nt ?_
    refine aw_ret ?_
    refine aq_then_ret ?_
    refine aq_nilR 9 tyStr ?_
    obtain rfl := Option.some.inj h
    exact fn_ret nS [0] [] rfl rfl rfl rfl (res2 rfl rfl rfl) rfl rfl rfl (by decide)
   ·replace h := bif_f hb5 h
    refine aw_skip ?_
    refine aq_tr ?_
    refine al_mv rfl rfl ?_
    refine al_mv rfl rfl ?_
    refine al_mv rfl rfl ?_
    refine al_mv rfl rfl ?_
    refine al_val (ov_convInt (by rw [Tryz.underlying55]; rfl) Tryz.underlying3 rfl rfl) ?_
    refine al_in rfl rfl rfl rfl ?_
    obtain ⟨hc6, h⟩ := req_some h
    refine al_val (ov_strCut hc6.1 hc6.2.1 hc6.2.2 Tryz.underlying9 rfl rfl rfl rfl) ?_
    refine al_as rfl rfl ?_
    refine al_nt ?_
    refine aw_sr ?_
    refine al_mv rfl rfl ?_
    obtain ⟨r8, hc7, h⟩ := opt_some h
    refine al_call (vs := [(str (cut a0 r2.2.1 (wq (r2.2.1 + (wq r2.1)))))]) (f_lumref_Frame_ok fu (cut a0 r2.2.1 (wq (r2.2.1 + (wq r2.1)))) hc7) [] [] [] pre_nil rfl (by simp) (by decide) (.inl rfl) rfl Tryz.func54 rfl rfl rfl (fun _ => ?_)
    refine al_as rfl rfl ?_
    refine al_nt ?_
    refine aw_seq ?_
    obtain ⟨kk10, hkk10, h⟩ := lt_some h
    refine aw_seq_join (ι := Bool) (fun i => (memOf w0 Z0 [] [] [])) (fun i => (tab [(0, (str a0)), (7, (str (cut a0 r2.2.1 (wq (r2.2.1 + (wq r2.1)))))), (8, (str r8)), (53, (bool i))])) (fun i => kk10 i = some r) ?_ ?_
    ·rintro j9b53 h
     have h : kk10 j9b53 = some r := h
     rw [hkk10] at h
     dsimp only at h
     clear hkk10
     refine aw_show (m := (memOf w0 Z0 [] [] [])) (S := (tab [(0, (str a0)), (7, (str (cut a0 r2.2.1 (wq (r2.2.1 + (wq r2.1)))))), (8, (str r8)), (53, (bool j9b53))])) ?_
     refine aw_cond rfl (fun hb11 => ?_) (fun hb11 => ?_)
     ·replace h := bif_t hb11 h
      refine aw_sr ?_
      refine al_as rfl rfl ?_
      refine al_as rfl rfl ?_
      refine al_nt ?_
      refine aw_ret ?_
      refine aq_then_ret ?_
      refine aq_nilR 9 tyStr ?_
      obtain rfl := Option.some.inj h
      exact fn_ret nS [0] [] rfl rfl rfl rfl (res2 rfl rfl rfl) rfl rfl rfl (by decide)
     ·replace h := bif_f hb11 h
      refine aw_skip ?_
      refine aq_tr ?_
      refine al_mv rfl rfl ?_
      refine al_mv rfl rfl ?_
      refine al_val (ov_strLen Tryz.underlying9 rfl rfl) ?_
      obtain ⟨hc12, h⟩ := req_some h
      refine al_val (ov_strFrom hc12.1 hc12.2 Tryz.underlying9 rfl rfl rfl) ?_
      obtain ⟨r14, hc13, h⟩ := opt_some h
      refine al_call (vs := [(str (a0.drop ((r8.length : Int)).toNat))]) (f_lumref_Scan_ok fu (a0.drop ((r8.length : Int)).toNat) hc13) [] [] [] pre_nil rfl (by simp) (by decide) (.inl rfl) rfl Tryz.func27 rfl rfl rfl (fun v15 => ?_)
      refine al_mv rfl rfl ?_
      refine al_ex rfl rfl rfl ?_
      refine al_ex rfl rfl rfl ?_
      refine al_as rfl rfl ?_
      refine al_as rfl rfl ?_
      refine al_nt ?_
      refine aw_sr ?_
      refine al_mv rfl rfl ?_
      refine al_buildSlice (τ := tyStr) (e := 9) (k := 1) (sz := 0) (by_ := 0) (z := undef) (cs := [(str (cut a0 r2.2.1 (wq (r2.2.1 + (wq r2.1)))))]) (xs := [(cut a0 r2.2.1 (wq (r2.2.1 + (wq r2.1))))]) rfl (by decide) (fun w a hm hs => ⟨([(str (cut a0 r2.2.1 (wq (r2.2.1 + (wq r2.1)))))]).toArray, rfl, by simp only [List.map_toArray, List.map_cons, List.map_nil, hs.ev (x := .tmp 62) rfl]; exact run_bs [(str (cut a0 r2.2.1 (wq (r2.2.1 + (wq r2.1)))))] [(str (cut a0 r2.2.1 (wq (r2.2.1 + (wq r2.1)))))] Tryz.underlying47 to9 rfl rfl (bs_cons (l := [(str (cut a0 r2.2.1 (wq (r2.2.1 + (wq r2.1)))))]) (cs := []) (cv_rfl rfl) rfl bs_nil) hm⟩) (fun hm => ⟨_, _, rfl, (fun _ => rfl) hm, rfl⟩) rfl (fun v16 => ?_)
      refine al_mv rfl rfl ?_
      obtain ⟨hc17, h⟩ := req_some h
      refine al_append 0 hc17.1 hc17.2 rfl (src_own (i := 0) 1 rfl) rfl rfl Tryz.underlying47 to9 rfl rfl rfl (fun v18 => ?_)
      refine al_mv rfl rfl ?_
      refine al_val (ov_strLen Tryz.underlying9 rfl rfl) ?_
      refine al_mv rfl rfl ?_
      refine al_in rfl rfl rfl rfl ?_
      refine al_as rfl rfl ?_
      refine al_as rfl rfl ?_
      refine al_nt ?_
      refine aw_ret ?_
      obtain rfl := Option.some.inj h
      exact fn_ret v18 [0] [] rfl rfl rfl rfl (res2 rfl rfl rfl) rfl rfl rfl (by decide)
    ·clear hkk10
     refine aw_region ?_
     refine al_mv rfl rfl ?_
     refine al_val (ov_strLen Tryz.underlying9 rfl rfl) ?_
     refine al_mv rfl rfl ?_
     refine al_val (ov_strLen Tryz.underlying9 rfl rfl) ?_
     refine al_in rfl rfl rfl rfl ?_
     refine al_mv rfl rfl ?_
     refine al_caseB 46 rfl (fun hb19 => ?_) (fun hb19 => ?_)
     ·replace h := bif_t hb19 h
      refine al_skip ?_
      refine al_skip ?_
      refine al_skip ?_
      refine al_skip ?_
      refine al_skip ?_
      refine al_skip ?_
      refine al_val (ov_pick_t rfl rfl rfl) ?_
      refine al_nil ?_
      exact aq_join true h (fun w a hm hs => norm hm hs [] [] [(0, (str a0)), (7, (str (cut a0 r2.2.1 (wq (r2.2.1 + (wq r2.1)))))), (8, (str r8)), (53, (bool true))] (by decide) ⟨rfl, rfl, rfl, rfl, trivial⟩)
     ·replace h := bif_f hb19 h
      refine al_mv rfl rfl ?_
      refine al_mv rfl rfl ?_
      refine al_val (ov_strLen Tryz.underlying9 rfl rfl) ?_
      obtain ⟨hc20, h⟩ := req_some h
      refine al_val (ov_strTo hc20.1 hc20.2 Tryz.underlying9 rfl rfl rfl) ?_
      refine al_mv rfl rfl ?_
      refine al_val (ov_strCmp rfl rfl rfl rfl) ?_
      refine al_val (ov_pick_f rfl rfl rfl) ?_
      refine al_nil ?_
      exact aq_join (!((a0.take ((r8.length : Int)).toNat) == r8)) h (fun w a hm hs => norm hm hs [] [] [(0, (str a0)), (7, (str (cut a0 r2.2.1 (wq (r2.2.1 + (wq r2.1)))))), (8, (str r8)), (53, (bool (!((a0.take ((r8.length : Int)).toNat) == r8))))] (by decide) ⟨rfl, rfl, rfl, rfl, trivial⟩)
  ·clear hkk4
   refine aw_region ?_
   refine al_mv rfl rfl ?_
   refine al_in rfl rfl rfl rfl ?_
   refine al_mv rfl rfl ?_
   refine al_caseB 19 rfl (fun hb21 => ?_) (fun hb21 => ?_)
   ·replace h := bif_t hb21 h
    refine al_skip ?_
    refine al_skip ?_
    refine al_val (ov_pick_t rfl rfl rfl) ?_
    refine al_mv rfl rfl ?_
    refine al_skip ?_
    refine al_skip ?_
    refine al_skip ?_
    refine al_skip ?_
    refine al_skip ?_
    refine al_skip ?_
    refine al_skip ?_
    refine al_val (ov_pick_t rfl rfl rfl) ?_
    refine al_nil ?_
    exact aq_join true h (fun w a hm hs => norm hm hs [] [] [(0, (str a0)), (4, (uq r2.1)), (5, (iq r2.2.1)), (31, (bool true))] (by decide) ⟨rfl, rfl, rfl, rfl, trivial⟩)
   ·replace h := bif_f hb21 h
    refine al_mv rfl rfl ?_
    refine al_in rfl rfl rfl rfl ?_
    refine al_val (ov_pick_f rfl rfl rfl) ?_
    refine al_mv rfl rfl ?_
    refine al_caseB 23 rfl (fun hb22 => ?_) (fun hb22 => ?_)
    ·replace h := bif_t hb22 h
     refine al_skip ?_
     refine al_skip ?_
     refine al_skip ?_
     refine al_skip ?_
     refine al_skip ?_
     refine al_skip ?_
     refine al_skip ?_
     refine al_val (ov_pick_t rfl rfl rfl) ?_
     refine al_nil ?_
     exact aq_join true h (fun w a hm hs => norm hm hs [] [] [(0, (str a0)), (4, (uq r2.1)), (5, (iq r2.2.1)), (31, (bool true))] (by decide) ⟨rfl, rfl, rfl, rfl, trivial⟩)
    ·replace h := bif_f hb22 h
     refine al_mv rfl rfl ?_
     refine al_val (ov_strLen Tryz.underlying9 rfl rfl) ?_
     refine al_mv rfl rfl ?_
     refine al_in rfl rfl rfl rfl ?_
     refine al_val (ov_convInt (by rw [Tryz.underlying3]; rfl) Tryz.underlying55 rfl rfl) ?_
     refine al_mv rfl rfl ?_
     refine al_in rfl rfl rfl rfl ?_
     refine al_val (ov_pick_f rfl rfl rfl) ?_
     refine al_nil ?_
     exact aq_join (decide ((wu (wq ((a0.length : Int) - r2.2.1))) < r2.1)) h (fun w a hm hs => norm hm hs [] [] [(0, (str a0)), (4, (uq r2.1)), (5, (iq r2.2.1)), (31, (bool (decide ((wu (wq ((a0.length : Int) - r2.2.1))) < r2.1))))] (by decide) ⟨rfl, rfl, rfl, rfl, trivial⟩)
def f_lumref_GetText_L3 (a0 : (List UInt8)) : Nat → (List UInt8) → Int → Option ((List UInt8) × Int × Int)
  | 0, _, _ => none
  | k2 + 1, l1s5, l1i6 => (lt (fun (j4b24 : Bool) => (bif j4b24 then (some (([] : List UInt8), (0 : Int), (3 : Int))) else (lt (fun (j7i7 : Int) => (bif ((l1s5.length : Int) == (1024 : Int)) then (some (([] : List UInt8), (0 : Int), (2 : Int))) else (req (0 ≤ l1i6 ∧ l1i6 ≤ (IntKind.i64.wrap (l1i6 + (1 : Int))) ∧ (IntKind.i64.wrap (l1i6 + (1 : Int))) ≤ (a0.length : Int)) (req (l1s5.length + (cut a0 l1i6 (IntKind.i64.wrap (l1i6 + (1 : Int)))).length ≤ 9223372036854775807) (f_lumref_GetText_L3 a0 k2 (l1s5 ++ (cut a0 l1i6 (IntKind.i64.wrap (l1i6 + (1 : Int))))) (IntKind.i64.wrap (l1i6 + j7i7))))))) fun (kk8 : Int → Option ((List UInt8) × Int × Int)) => (req (0 ≤ l1i6 ∧ l1i6 < (a0.length : Int)) (bif ((En.bAt a0 l1i6) == (0 : Int)) then (req (0 ≤ (IntKind.i64.wrap (l1i6 + (1 : Int))) ∧ (IntKind.i64.wrap (l1i6 + (1 : Int))) < (a0.length : Int)) (bif ((En.bAt a0 (IntKind.i64.wrap (l1i6 + (1 : Int)))) == (0 : Int)) then (some (l1s5, (IntKind.i64.wrap (l1i6 + (2 : Int))), (0 : Int))) else (req (0 ≤ (IntKind.i64.wrap (l1i6 + (1 : Int))) ∧ (IntKind.i64.wrap (l1i6 + (1 : Int))) < (a0.length : Int)) (bif ((En.bAt a0 (IntKind.i64.wrap (l1i6 + (1 : Int)))) != (255 : Int)) then (some (([] : List UInt8), (0 : Int), (4 : Int))) else (kk8 (2 : Int)))))) else (kk8 (1 : Int))))))) fun (kk5 : Bool → Option ((List UInt8) × Int × Int)) => (bif (decide (l1i6 ≥ (a0.length : Int))) then (kk5 true) else (req (0 ≤ l1i6 ∧ l1i6 < (a0.length : Int)) (bif ((En.bAt a0 l1i6) == (0 : Int)) then (kk5 (decide ((IntKind.i64.wrap (l1i6 + (1 : Int))) ≥ (a0.length : Int)))) else (kk5 false)))))
def f_lumref_GetText (fu : Nat) (a0 : (List UInt8)) : Option ((List UInt8) × Int × Int) := (f_lumref_GetText_L3 a0 fu ([] : List UInt8) (0 : Int))
set_option maxHeartbeats 2000000 in
set_option maxRecDepth 100000 in
theorem f_lumref_GetText_ok (fu : Nat) (a0 : (List UInt8)) {r : ((List UInt8) × Int × Int)} (h : f_lumref_GetText fu a0 = some r) : FnOk Tryz.prog 63 [(str a0)] [] [] (fun (i : Unit) => { val := (Value.tuple #[(str r.1), (int .i64 r.2.1), (int .i64 r.2.2)]) }) := by
 unfold f_lumref_GetText at h
 refine fn_enter Tryz.func63 rfl Tryz.ntmps63 rfl (fun w0 Z0 => ?_)
 refine aw_sr ?_
 refine al_as rfl rfl ?_
 refine al_as rfl rfl ?_
 refine al_as rfl rfl ?_
 refine al_nt ?_
 refine aw_sr ?_
 refine al_as rfl rfl ?_
 refine al_as rfl rfl ?_
 refine al_nt ?_
 refine aw_block ?_
 refine aw_state (aw_loop (ι := (List UInt8) × Int) (fun i => (memOf w0 Z0 [] [] [])) (fun i => (tab [(0, (str a0)), (5, (str i.1)), (6, (iq i.2))])) (fun q i => f_lumref_GetText_L3 a0 q i.1 i.2 = some r) ?_ fu (([] : List UInt8), (0 : Int)) h) (fun w a hm hs => norm hm hs [] [] [(0, (str a0)), (5, (str ([] : List UInt8))), (6, (iq (0 : Int)))] (by decide) ⟨rfl, rfl, rfl, trivial⟩)
 clear h
 rintro k2 ⟨l1s5, l1i6⟩ h
 have h : f_lumref_GetText_L3 a0 k2 l1s5 l1i6 = some r := h
 obtain _ | k2 := k2
 · rw [f_lumref_GetText_L3] at h; cases h
 rw [f_lumref_GetText_L3] at h
 refine aw_show (m := (memOf w0 Z0 [] [] [])) (S := (tab [(0, (str a0)), (5, (str l1s5)), (6, (iq l1i6))])) ?_
 refine aw_block ?_
 refine aw_seq ?_
 obtain ⟨kk5, hkk5, h⟩ := lt_some h
 refine aw_seq_join (ι := Bool) (fun i => (memOf w0 Z0 [] [] [])) (fun i => (tab [(0, (str a0)), (5, (str l1s5)), (6, (iq l1i6)), (24, (bool i))])) (fun i => kk5 i = some r) ?_ ?_
 ·rintro j4b24 h
  have h : kk5 j4b24 = some r := h
  rw [hkk5] at h
  dsimp only at h
  clear hkk5
  refine aw_show (m := (memOf w0 Z0 [] [] [])) (S := (tab [(0, (str a0)), (5, (str l1s5)), (6, (iq l1i6)), (24, (bool j4b24))])) ?_
  refine aw_cond rfl (fun hb6 => ?_) (fun hb6 => ?_)
  ·replace h := bif_t hb6 h
   refine aw_sr ?_
   refine al_as rfl rfl ?_
   refine al_as rfl rfl ?_
   refine al_as rfl rfl ?_
   refine al_nt ?_
   refine aw_ret ?_
   refine aq_then_ret ?_
   refine aq_block_ret ?_
   refine aq_then_ret ?_
   refine aq_block_ret ?_
   obtain rfl := Option.some.inj h
   exact fn_ret () [] [] rfl rfl rfl rfl (res3 rfl rfl rfl rfl) rfl rfl rfl (by decide)
  ·replace h := bif_f hb6 h
   refine aw_skip ?_
   refine aq_tr ?_
   refine al_as rfl rfl ?_
   refine al_nt ?_
   obtain ⟨kk8, hkk8, h⟩ := lt_some h
   refine aw_seq_join (ι := Int) (fun i => (memOf w0 Z0 [] [] [])) (fun i => (tab [(0, (str a0)), (5, (str l1s5)), (6, (iq l1i6)), (7, (iq i))])) (fun i => kk8 i = some r) ?_ ?_
   ·rintro j7i7 h
    have h : kk8 j7i7 = some r := h
    rw [hkk8] at h
    dsimp only at h
    clear hkk8
    refine aw_show (m := (memOf w0 Z0 [] [] [])) (S := (tab [(0, (str a0)), (5, (str l1s5)), (6, (iq l1i6)), (7, (iq j7i7))])) ?_
    refine aw_seq ?_
    refine aw_sr ?_
    refine al_mv rfl rfl ?_
    refine al_val (ov_strLen Tryz.underlying9 rfl rfl) ?_
    refine al_in rfl rfl rfl rfl ?_
    refine al_nt ?_
    refine aw_cond rfl (fun hb9 => ?_) (fun hb9 => ?_)
    ·replace h := bif_t hb9 h
     refine aw_sr ?_
     refine al_as rfl rfl ?_
     refine al_as rfl rfl ?_
     refine al_as rfl rfl ?_
     refine al_nt ?_
     refine aw_ret ?_
     refine aq_then_ret ?_
     refine aq_block_ret ?_
     refine aq_then_ret ?_
     refine aq_block_ret ?_
     obtain rfl := Option.some.inj h
     exact fn_ret () [] [] rfl rfl rfl rfl (res3 rfl rfl rfl rfl) rfl rfl rfl (by decide)
    ·replace h := bif_f hb9 h
     refine aw_skip ?_
     refine aq_tr ?_
     refine al_mv rfl rfl ?_
     refine al_mv rfl rfl ?_
     refine al_mv rfl rfl ?_
     refine al_mv rfl rfl ?_
     refine al_in rfl rfl rfl rfl ?_
     obtain ⟨hc10, h⟩ := req_some h
     refine al_val (ov_strCut hc10.1 hc10.2.1 hc10.2.2 Tryz.underlying9 rfl rfl rfl rfl) ?_
     obtain ⟨hc11, h⟩ := req_some h
     refine al_val (ov_strAdd hc11 rfl rfl rfl) ?_
     refine al_as rfl rfl ?_
     refine al_nt ?_
     refine aw_region ?_
     refine al_mv rfl rfl ?_
     refine al_mv rfl rfl ?_
     refine al_in rfl rfl rfl rfl ?_
     refine al_as rfl rfl ?_
     refine al_nil ?_
     refine aq_block ?_
     exact aq_again k2 ((l1s5 ++ (cut a0 l1i6 (wq (l1i6 + (1 : Int))))), (wq (l1i6 + j7i7))) (Nat.lt_succ_self _) h (fun w a hm hs => norm hm hs [] [] [(0, (str a0)), (5, (str (l1s5 ++ (cut a0 l1i6 (wq (l1i6 + (1 : Int))))))), (6, (iq (wq (l1i6 + j7i7))))] (by decide) ⟨rfl, rfl, rfl, trivial⟩)
   ·clear hkk8
    refine aw_sr ?_
    refine al_mv rfl rfl ?_
    refine al_mv rfl rfl ?_
    obtain ⟨hc12, h⟩ := req_some h
    refine al_val (ov_strIdx hc12.1 hc12.2 Tryz.underlying9 rfl rfl rfl) ?_
    refine al_in rfl rfl rfl rfl ?_
    refine al_nt ?_
    refine aw_cond rfl (fun hb13 => ?_) (fun hb13 => ?_)
    ·replace h := bif_t hb13 h
     refine aw_seq ?_
     refine aw_sr ?_
     refine al_mv rfl rfl ?_
     refine al_mv rfl rfl ?_
     refine al_in rfl rfl rfl rfl ?_
     obtain ⟨hc14, h⟩ := req_some h
     refine al_val (ov_strIdx hc14.1 hc14.2 Tryz.underlying9 rfl rfl rfl) ?_
     refine al_in rfl rfl rfl rfl ?_
     refine al_nt ?_
     refine aw_cond rfl (fun hb15 => ?_) (fun hb15 => ?_)
     ·replace h := bif_t hb15 h
      refine aw_sr ?_
      refine al_mv rfl rfl ?_
      refine al_mv rfl rfl ?_
      refine al_in rfl rfl rfl rfl ?_
      refine al_as rfl rfl ?_
      refine al_as rfl rfl ?_
      refine al_as rfl rfl ?_
      refine al_nt ?_
      refine aw_ret ?_
      refine aq_then_ret ?_
      refine aq_then_ret ?_
      refine aq_block_ret ?_
      refine aq_then_ret ?_
      refine aq_block_ret ?_
      obtain rfl := Option.some.inj h
      exact fn_ret () [] [] rfl rfl rfl rfl (res3 rfl rfl rfl rfl) rfl rfl rfl (by decide)
     ·replace h := bif_f hb15 h
      refine aw_skip ?_
      refine aq_then ?_
      refine aw_seq ?_
      refine aw_sr ?_
      refine al_mv rfl rfl ?_
      refine al_mv rfl rfl ?_
      refine al_in rfl rfl rfl rfl ?_
      obtain ⟨hc16, h⟩ := req_some h
      refine al_val (ov_strIdx hc16.1 hc16.2 Tryz.underlying9 rfl rfl rfl) ?_
      refine al_in rfl rfl rfl rfl ?_
      refine al_nt ?_
      refine aw_cond rfl (fun hb17 => ?_) (fun hb17 => ?_)
      ·replace h := bif_t hb17 h
       refine aw_sr ?_
       refine al_as rfl rfl ?_
       refine al_as rfl rfl ?_
       refine al_as rfl rfl ?_
       refine al_nt ?_
       refine aw_ret ?_
       refine aq_then_ret ?_
       refine aq_then_ret ?_
       refine aq_block_ret ?_
       refine aq_then_ret ?_
       refine aq_block_ret ?_
       obtain rfl := Option.some.inj h
       exact fn_ret () [] [] rfl rfl rfl rfl (res3 rfl rfl rfl rfl) rfl rfl rfl (by decide)
      ·replace h := bif_f hb17 h
       refine aw_skip ?_
       refine aq_then ?_
       refine aw_region ?_
       refine al_as rfl rfl ?_
       refine al_nil ?_
       exact aq_join (2 : Int) h (fun w a hm hs => norm hm hs [] [] [(0, (str a0)), (5, (str l1s5)), (6, (iq l1i6)), (7, (iq (2 : Int)))] (by decide) ⟨rfl, rfl, rfl, rfl, trivial⟩)
    ·replace h := bif_f hb13 h
     refine aw_skip ?_
     exact aq_join (1 : Int) h (fun w a hm hs => norm hm hs [] [] [(0, (str a0)), (5, (str l1s5)), (6, (iq l1i6)), (7, (iq (1 : Int)))] (by decide) ⟨rfl, rfl, rfl, rfl, trivial⟩)
 ·clear hkk5
  refine aw_region ?_
  refine al_mv rfl rfl ?_
  refine al_mv rfl rfl ?_
  refine al_val (ov_strLen Tryz.underlying9 rfl rfl) ?_
  refine al_in rfl rfl rfl rfl ?_
  refine al_mv rfl rfl ?_
  refine al_caseB 12 rfl (fun hb18 => ?_) (fun hb18 => ?_)
  ·replace h := bif_t hb18 h
   refine al_skip ?_
   refine al_skip ?_
   refine al_skip ?_
   refine al_skip ?_
   refine al_skip ?_
   refine al_skip ?_
   refine al_skip ?_
   refine al_skip ?_
   refine al_skip ?_
   refine al_skip ?_
   refine al_skip ?_
   refine al_val (ov_pick_t rfl rfl rfl) ?_
   refine al_nil ?_
   exact aq_join true h (fun w a hm hs => norm hm hs [] [] [(0, (str a0)), (5, (str l1s5)), (6, (iq l1i6)), (24, (bool true))] (by decide) ⟨rfl, rfl, rfl, rfl, trivial⟩)
  ·replace h := bif_f hb18 h
   refine al_mv rfl rfl ?_
   refine al_mv rfl rfl ?_
   obtain ⟨hc19, h⟩ := req_some h
   refine al_val (ov_strIdx hc19.1 hc19.2 Tryz.underlying9 rfl rfl rfl) ?_
   refine al_in rfl rfl rfl rfl ?_
   refine al_mv rfl rfl ?_
   refine al_caseB 17 rfl (fun hb20 => ?_) (fun hb20 => ?_)
   ·replace h := bif_t hb20 h
    refine al_mv rfl rfl ?_
    refine al_in rfl rfl rfl rfl ?_
    refine al_mv rfl rfl ?_
    refine al_val (ov_strLen Tryz.underlying9 rfl rfl) ?_
    refine al_in rfl rfl rfl rfl ?_
    refine al_val (ov_pick_t rfl rfl rfl) ?_
    refine al_val (ov_pick_f rfl rfl rfl) ?_
    refine al_nil ?_
    exact aq_join (decide ((wq (l1i6 + (1 : Int))) ≥ (a0.length : Int))) h (fun w a hm hs => norm hm hs [] [] [(0, (str a0)), (5, (str l1s5)), (6, (iq l1i6)), (24, (bool (decide ((wq (l1i6 + (1 : Int))) ≥ (a0.length : Int)))))] (by decide) ⟨rfl, rfl, rfl, rfl, trivial⟩)
   ·replace h := bif_f hb20 h
    refine al_skip ?_
    refine al_skip ?_
    refine al_skip ?_
    refine al_skip ?_
    refine al_skip ?_
    refine al_val (ov_pick_f rfl rfl rfl) ?_
    refine al_val (ov_pick_f rfl rfl rfl) ?_
    refine al_nil ?_
    exact aq_join false h (fun w a hm hs => norm hm hs [] [] [(0, (str a0)), (5, (str l1s5)), (6, (iq l1i6)), (24, (bool false))] (by decide) ⟨rfl, rfl, rfl, rfl, trivial⟩)
def f_lumref_numberAt (fu : Nat) (a0 : (List UInt8)) (a1 : Int) : Option (Int × (List UInt8) × Int) := (opt (f_lumref_Get fu a0) fun (r2 : (Int × Int × Int)) => (lt (fun (j3i9 : Int) => (bif (j3i9 != (0 : Int)) then (some ((0 : Int), ([] : List UInt8), j3i9)) else (req (0 ≤ r2.2.1 ∧ r2.2.1 ≤ (a0.length : Int)) (some ((IntKind.i64.wrap r2.1), (a0.drop (r2.2.1).toNat), (0 : Int)))))) fun (kk4 : Int → Option (Int × (List UInt8) × Int)) => (lt (fun (j7b22 : Bool) => (bif j7b22 then (kk4 (2 : Int)) else (kk4 r2.2.2))) fun (kk8 : Bool → Option (Int × (List UInt8) × Int)) => (bif (r2.2.2 == (0 : Int)) then (kk8 (decide (r2.1 > a1))) else (kk8 false)))))
set_option maxHeartbeats 2000000 in
set_option maxRecDepth 100000 in
theorem f_lumref_numberAt_ok (fu : Nat) (a0 : (List UInt8)) (a1 : Int) {r : (Int × (List UInt8) × Int)} (h : f_lumref_numberAt fu a0 a1 = some r) : FnOk Tryz.prog 64 [(str a0), (int .u64 a1)] [] [] (fun (i : Unit) => { val := (Value.tuple #[(int .i64 r.1), (str r.2.1), (int .i64 r.2.2)]) }) := by
 unfold f_lumref_numberAt at h
 refine fn_enter Tryz.func64 rfl Tryz.ntmps64 rfl (fun w0 Z0 => ?_)
 refine aw_sr ?_
 refine al_as rfl rfl ?_
 refine al_as rfl rfl ?_
 refine al_as rfl rfl ?_
 refine al_nt ?_
 refine aw_sr ?_
 refine al_mv rfl rfl ?_
 obtain ⟨r2, hc1, h⟩ := opt_some h
 refine al_call (vs := [(str a0)]) (f_lumref_Get_ok fu a0 hc1) [] [] [] pre_nil rfl (by simp) (by decide) (.inl rfl) rfl Tryz.func62 rfl rfl rfl (fun _ => ?_)
 refine al_mv rfl rfl ?_
 refine al_ex rfl rfl rfl ?_
 refine al_ex rfl rfl rfl ?_
 refine al_ex rfl rfl rfl ?_
 refine al_as rfl rfl ?_
 refine al_as rfl rfl ?_
 refine al_as rfl rfl ?_
 refine al_nt ?_
 obtain ⟨kk4, hkk4, h⟩ := lt_some h
 refine aw_seq_join (ι := Int) (fun i => (memOf w0 Z0 [] [] [])) (fun i => (tab [(0, (str a0)), (7, (uq r2.1)), (8, (iq r2.2.1)), (9, (iq i))])) (fun i => kk4 i = some r) ?_ ?_
 ·rintro j3i9 h
  have h : kk4 j3i9 = some r := h
  rw [hkk4] at h
  dsimp only at h
  clear hkk4
  refine aw_show (m := (memOf w0 Z0 [] [] [])) (S := (tab [(0, (str a0)), (7, (uq r2.1)), (8, (iq r2.2.1)), (9, (iq j3i9))])) ?_
  refine aw_seq ?_
  refine aw_sr ?_
  refine al_mv rfl rfl ?_
  refine al_in rfl rfl rfl rfl ?_
  refine al_nt ?_
  refine aw_cond rfl (fun hb5 => ?_) (fun hb5 => ?_)
  ·replace h := bif_t hb5 h
   refine aw_sr ?_
   refine al_mv rfl rfl ?_
   refine al_as rfl rfl ?_
   refine al_as rfl rfl ?_
   refine al_as rfl rfl ?_
   refine al_nt ?_
   refine aw_ret ?_
   refine aq_then_ret ?_
   obtain rfl := Option.some.inj h
   exact fn_ret () [] [] rfl rfl rfl rfl (res3 rfl rfl rfl rfl) rfl rfl rfl (by decide)
  ·replace h := bif_f hb5 h
   refine aw_skip ?_
   refine aq_then ?_
   refine aw_seq ?_
   obtain ⟨hc6, h⟩ := req_some h
   refine aw_region_draw 7 [(26, (fun u => fEq u (uq r2.1))), (27, (fun u => fEq u (iq (wq r2.1)))), (28, (fun u => fEq u (str a0))), (29, (fun u => fEq u (iq r2.2.1))), (30, (fun u => fEq u (str (a0.drop (r2.2.1).toNat)))), (4, (fun u => fEq u (iq (wq r2.1)))), (5, (fun u => fEq u (str (a0.drop (r2.2.1).toNat))))] (tab [(0, (str a0)), (7, (uq r2.1)), (8, (iq r2.2.1))]) mixed (by kernel_rfl) rfl rfl rfl (fun a hs => hs.tab _ (allT_mem ⟨rfl, rfl, rfl, trivial⟩)) ⟨⟨rfl, ld_val (ov_move rfl rfl)⟩, ⟨rfl, ld_eq (j := 0) rfl rfl (ld_val (ov_convInt (by rw [Tryz.underlying55]; rfl) Tryz.underlying3 rfl rfl))⟩, ⟨rfl, ld_val (ov_move rfl rfl)⟩, ⟨rfl, ld_val (ov_move rfl rfl)⟩, ⟨rfl, ld_eq (j := 2) rfl rfl (ld_eq (j := 3) rfl rfl (ld_val (ov_strFrom hc6.1 hc6.2 Tryz.underlying9 rfl rfl rfl)))⟩, ⟨rfl, ld_eq (j := 1) rfl rfl (ld_val (ov_assign rfl rfl))⟩, ⟨rfl, ld_eq (j := 4) rfl rfl (ld_val (ov_assign rfl rfl))⟩, trivial⟩ ?_
   refine tl_eq 5 rfl ?_
   refine tl_eq 6 rfl ?_
   refine tl_done ?_
   refine al_as rfl rfl ?_
   refine al_nt ?_
   refine aw_ret ?_
   obtain rfl := Option.some.inj h
   exact fn_ret () [] [] rfl rfl rfl rfl (res3 rfl rfl rfl rfl) rfl rfl rfl (by decide)
 ·clear hkk4
  obtain ⟨kk8, hkk8, h⟩ := lt_some h
  refine aw_seq_join (ι := Bool) (fun i => (memOf w0 Z0 [] [] [])) (fun i => (tab [(0, (str a0)), (7, (uq r2.1)), (8, (iq r2.2.1)), (9, (iq r2.2.2)), (22, (bool i))])) (fun i => kk8 i = some r) ?_ ?_
  ·rintro j7b22 h
   have h : kk8 j7b22 = some r := h
   rw [hkk8] at h
   dsimp only at h
   clear hkk8
   refine aw_show (m := (memOf w0 Z0 [] [] [])) (S := (tab [(0, (str a0)), (7, (uq r2.1)), (8, (iq r2.2.1)), (9, (iq r2.2.2)), (22, (bool j7b22))])) ?_
   refine aw_cond rfl (fun hb9 => ?_) (fun hb9 => ?_)
   ·replace h := bif_t hb9 h
    refine aw_region ?_
    refine al_as rfl rfl ?_
    refine al_nil ?_
    exact aq_join (2 : Int) h (fun w a hm hs => norm hm hs [] [] [(0, (str a0)), (7, (uq r2.1)), (8, (iq r2.2.1)), (9, (iq (2 : Int)))] (by decide) ⟨rfl, rfl, rfl, rfl, trivial⟩)
   ·replace h := bif_f hb9 h
    refine aw_skip ?_
    exact aq_join r2.2.2 h (fun w a hm hs => norm hm hs [] [] [(0, (str a0)), (7, (uq r2.1)), (8, (iq r2.2.1)), (9, (iq r2.2.2))] (by decide) ⟨rfl, rfl, rfl, rfl, trivial⟩)
  ·clear hkk8
   refine aw_region ?_
   refine al_mv rfl rfl ?_
   refine al_in rfl rfl rfl rfl ?_
   refine al_mv rfl rfl ?_
   refine al_caseB 18 rfl (fun hb10 => ?_) (fun hb10 => ?_)
   ·replace h := bif_t hb10 h
    refine al_mv rfl rfl ?_
    refine al_mv rfl rfl ?_
    refine al_in rfl rfl rfl rfl ?_
    refine al_val (ov_pick_t rfl rfl rfl) ?_
    refine al_nil ?_
    exact aq_join (decide (r2.1 > a1)) h (fun w a hm hs => norm hm hs [] [] [(0, (str a0)), (7, (uq r2.1)), (8, (iq r2.2.1)), (9, (iq r2.2.2)), (22, (bool (decide (r2.1 > a1))))] (by decide) ⟨rfl, rfl, rfl, rfl, rfl, trivial⟩)
   ·replace h := bif_f hb10 h
    refine al_skip ?_
    refine al_skip ?_
    refine al_skip ?_
    refine al_val (ov_pick_f rfl rfl rfl) ?_
    refine al_nil ?_
    exact aq_join false h (fun w a hm hs => norm hm hs [] [] [(0, (str a0)), (7, (uq r2.1)), (8, (iq r2.2.1)), (9, (iq r2.2.2)), (22, (bool false))] (by decide) ⟨rfl, rfl, rfl, rfl, rfl, trivial⟩)
def f_lumref_GetInt (fu : Nat) (a0 : (List UInt8)) : Option (Int × Int × Int) := (bif ((a0.length : Int) == (0 : Int)) then (some ((0 : Int), (0 : Int), (3 : Int))) else (lt (fun (j2b19 : Bool) => (bif j2b19 then (some ((0 : Int), (0 : Int), (4 : Int))) else (req (0 ≤ (0 : Int) ∧ (0 : Int) < (a0.length : Int)) (bif (decide ((En.bAt a0 (0 : Int)) ≥ (128 : Int))) then (req (0 ≤ (0 : Int) ∧ (0 : Int) < (a0.length : Int)) (bif (decide ((a0.length : Int) < (IntKind.i64.wrap ((IntKind.i64.wrap ((1 : Int) + (IntKind.i64.wrap (En.bAt a0 (0 : Int))))) - (128 : Int))))) then (some ((0 : Int), (0 : Int), (3 : Int))) else (req (0 ≤ (1 : Int) ∧ (1 : Int) ≤ (IntKind.i64.wrap ((IntKind.i64.wrap ((1 : Int) + (IntKind.i64.wrap (En.bAt a0 (0 : Int))))) - (128 : Int))) ∧ (IntKind.i64.wrap ((IntKind.i64.wrap ((1 : Int) + (IntKind.i64.wrap (En.bAt a0 (0 : Int))))) - (128 : Int))) ≤ (a0.length : Int)) (opt (f_lumref_number fu (cut a0 (1 : Int) (IntKind.i64.wrap ((IntKind.i64.wrap ((1 : Int) + (IntKind.i64.wrap (En.bAt a0 (0 : Int))))) - (128 : Int))))) fun (r11 : Int) => (lt (fun (j12b43 : Bool) => (bif j12b43 then (some ((0 : Int), (0 : Int), (4 : Int))) else (some ((IntKind.i64.wrap r11), (IntKind.i64.wrap ((IntKind.i64.wrap ((1 : Int) + (IntKind.i64.wrap (En.bAt a0 (0 : Int))))) - (128 : Int))), (0 : Int))))) fun (kk13 : Bool → Option (Int × Int × Int)) => (req (0 ≤ (1 : Int) ∧ (1 : Int) ≤ (IntKind.i64.wrap ((IntKind.i64.wrap ((1 : Int) + (IntKind.i64.wrap (En.bAt a0 (0 : Int))))) - (128 : Int))) ∧ (IntKind.i64.wrap ((IntKind.i64.wrap ((1 : Int) + (IntKind.i64.wrap (En.bAt a0 (0 : Int))))) - (128 : Int))) ≤ (a0.length : Int)) (opt (f_strings_HasPrefix fu (cut a0 (1 : Int) (IntKind.i64.wrap ((IntKind.i64.wrap ((1 : Int) + (IntKind.i64.wrap (En.bAt a0 (0 : Int))))) - (128 : Int)))) ([0] : List UInt8)) fun (r17 : Bool) => (bif r17 then (kk13 true) else (kk13 (decide (r11 ≥ (9223372036854775808 : Int)))))))))))) else (req (0 ≤ (0 : Int) ∧ (0 : Int) < (a0.length : Int)) (bif (decide ((a0.length : Int) < (IntKind.i64.wrap ((128 : Int) - (IntKind.i64.wrap (En.bAt a0 (0 : Int))))))) then (some ((0 : Int), (0 : Int), (3 : Int))) else (req (0 ≤ (1 : Int) ∧ (1 : Int) ≤ (IntKind.i64.wrap ((128 : Int) - (IntKind.i64.wrap (En.bAt a0 (0 : Int))))) ∧ (IntKind.i64.wrap ((128 : Int) - (IntKind.i64.wrap (En.bAt a0 (0 : Int))))) ≤ (a0.length : Int)) (opt (f_lumref_turned fu (cut a0 (1 : Int) (IntKind.i64.wrap ((128 : Int) - (IntKind.i64.wrap (En.bAt a0 (0 : Int))))))) fun (r23 : (List UInt8)) => (opt (f_lumref_number fu r23) fun (r25 : Int) => (lt (fun (j26b67 : Bool) => (bif j26b67 then (some ((0 : Int), (0 : Int), (4 : Int))) else (some ((IntKind.i64.wrap ((-1 : Int) - (IntKind.i64.wrap r25))), (IntKind.i64.wrap ((128 : Int) - (IntKind.i64.wrap (En.bAt a0 (0 : Int))))), (0 : Int))))) fun (kk27 : Bool → Option (Int × Int × Int)) => (req (0 ≤ (1 : Int) ∧ (1 : Int) ≤ (IntKind.i64.wrap ((128 : Int) - (IntKind.i64.wrap (En.bAt a0 (0 : Int))))) ∧ (IntKind.i64.wrap ((128 : Int) - (IntKind.i64.wrap (En.bAt a0 (0 : Int))))) ≤ (a0.length : Int)) (opt (f_strings_HasPrefix fu (cut a0 (1 : Int) (IntKind.i64.wrap ((128 : Int) - (IntKind.i64.wrap (En.bAt a0 (0 : Int)))))) ([255] : List UInt8)) fun (r31 : Bool) => (bif r31 then (kk27 true) else (kk27 (decide (r25 ≥ (9223372036854775808 : Int))))))))))))))))) fun (kk3 : Bool → Option (Int × Int × Int)) => (req (0 ≤ (0 : Int) ∧ (0 : Int) < (a0.length : Int)) (bif (decide ((En.bAt a0 (0 : Int)) < (119 : Int))) then (kk3 true) else (req (0 ≤ (0 : Int) ∧ (0 : Int) < (a0.length : Int)) (kk3 (decide ((En.bAt a0 (0 : Int)) > (136 : Int)))))))))
set_option maxRecDepth 100000 in
set_option maxHeartbeats 2000000 in
set_option maxHeartbeats 2000000 in
theorem f_lumref_GetInt_ok (fu : Nat) (a0 : (List UInt8)) {r : (Int × Int × Int)} (h : f_lumref_GetInt fu a0 = some r) : FnOk Tryz.prog 65 [(str a0)] [] [] (fun (i : Unit) => { val := (Value.tuple #[(int .i64 r.1), (int .i64 r.2.1), (int .i64 r.2.2)]) }) := by
 unfold f_lumref_GetInt at h
 refine fn_enter Tryz.func65 rfl Tryz.ntmps65 rfl (fun w0 Z0 => ?_)
 refine aw_sr ?_
 refine al_as rfl rfl ?_
 refine al_as rfl rfl ?_
 refine al_as rfl rfl ?_
 refine al_nt ?_
 refine aw_seq ?_
 refine aw_sr ?_
 refine al_mv rfl rfl ?_
 refine al_val (ov_strLen Tryz.underlying9 rfl rfl) ?_
 refine al_in rfl rfl rfl rfl ?_
 refine al_nt ?_
 refine aw_cond rfl (fun hb1 => ?_) (fun hb1 => ?_)
 ·replace h := bif_t hb1 h
  refine aw_sr ?_
  refine al_as rfl rfl ?_
  refine al_as rfl rfl ?_
  refine al_as rfl rfl ?_
  refine al_nt ?_
  refine aw_ret ?_
  refine aq_then_ret ?_
  obtain rfl := Option.some.inj h
  exact fn_ret () [] [] rfl rfl rfl rfl (res3 rfl rfl rfl rfl) rfl rfl rfl (by decide)
 ·replace h := bif_f hb1 h
  refine aw_skip ?_
  refine aq_then ?_
  refine aw_seq ?_
  obtain ⟨kk3, hkk3, h⟩ := lt_some h
  refine aw_seq_join (ι := Bool) (fun i => (memOf w0 Z0 [] [] [])) (fun i => (tab [(0, (str a0)), (19, (bool i))])) (fun i => kk3 i = some r) ?_ ?_
  ·rintro j2b19 h
   have h : kk3 j2b19 = some r := h
   rw [hkk3] at h
   dsimp only at h
   clear hkk3
   refine aw_show (m := (memOf w0 Z0 [] [] [])) (S := (tab [(0, (str a0)), (19, (bool j2b19))])) ?_
   refine aw_cond rfl (fun hb4 => ?_) (fun hb4 => ?_)
   ·replace h := bif_t hb4 h
    refine aw_sr ?_
    refine al_as rfl rfl ?_
    refine al_as rfl rfl ?_
    refine al_as rfl rfl ?_
    refine al_nt ?_
    refine aw_ret ?_
    refine aq_then_ret ?_
    obtain rfl := Option.some.inj h
    exact fn_ret () [] [] rfl rfl rfl rfl (res3 rfl rfl rfl rfl) rfl rfl rfl (by decide)
   ·replace h := bif_f hb4 h
    refine aw_skip ?_
    refine aq_then ?_
    refine aw_seq ?_
    refine aw_sr ?_
    refine al_mv rfl rfl ?_
    obtain ⟨hc5, h⟩ := req_some h
    refine al_val (ov_strIdx hc5.1 hc5.2 Tryz.underlying9 rfl rfl rfl) ?_
    refine al_in rfl rfl rfl rfl ?_
    refine al_nt ?_
    refine aw_cond rfl (fun hb6 => ?_) (fun hb6 => ?_)
    ·replace h := bif_t hb6 h
     refine aw_sr ?_
     refine al_mv rfl rfl ?_
     obtain ⟨hc7, h⟩ := req_some h
     refine al_val (ov_strIdx hc7.1 hc7.2 Tryz.underlying9 rfl rfl rfl) ?_
     refine al_val (ov_convInt (by rw [Tryz.underlying5]; rfl) Tryz.underlying3 rfl rfl) ?_
     refine al_in rfl rfl rfl rfl ?_
     refine al_in rfl rfl rfl rfl ?_
     refine al_as rfl rfl ?_
     refine al_nt ?_
     refine aw_seq ?_
     refine aw_sr ?_
     refine al_mv rfl rfl ?_
     refine al_val (ov_strLen Tryz.underlying9 rfl rfl) ?_
     refine al_mv rfl rfl ?_
     refine al_in rfl rfl rfl rfl ?_
     refine al_nt ?_
     refine aw_cond rfl (fun hb8 => ?_) (fun hb8 => ?_)
     ·replace h := bif_t hb8 h
      refine aw_sr ?_
      refine al_as rfl rfl ?_
      refine al_as rfl rfl ?_
      refine al_as rfl rfl ?_
      refine al_nt ?_
      refine aw_ret ?_
      refine aq_then_ret ?_
      refine aq_then_ret ?_
      obtain rfl := Option.some.inj h
      exact fn_ret () [] [] rfl rfl rfl rfl (res3 rfl rfl rfl rfl) rfl rfl rfl (by decide)
     ·replace h := bif_f hb8 h
      refine aw_skip ?_
      refine aq_tr ?_
      refine al_mv rfl rfl ?_
      refine al_mv rfl rfl ?_
      obtain ⟨hc9, h⟩ := req_some h
      refine al_val (ov_strCut hc9.1 hc9.2.1 hc9.2.2 Tryz.underlying9 rfl rfl rfl rfl) ?_
      obtain ⟨r11, hc10, h⟩ := opt_some h
      refine al_call (vs := [(str (cut a0 (1 : Int) (wq ((wq ((1 : Int) + (wq (En.bAt a0 (0 : Int))))) - (128 : Int)))))]) (f_lumref_number_ok fu (cut a0 (1 : Int) (wq ((wq ((1 : Int) + (wq (En.bAt a0 (0 : Int))))) - (128 : Int)))) hc10) [] [] [] pre_nil rfl (by simp) (by decide) (.inl rfl) rfl Tryz.func92 rfl rfl rfl (fun _ => ?_)
      refine al_as rfl rfl ?_
      refine al_nt ?_
      refine aw_seq ?_
      obtain ⟨kk13, hkk13, h⟩ := lt_some h
      refine aw_seq_join (ι := Bool) (fun i => (memOf w0 Z0 [] [] [])) (fun i => (tab [(5, (iq (wq ((wq ((1 : Int) + (wq (En.bAt a0 (0 : Int))))) - (128 : Int))))), (6, (uq r11)), (43, (bool i))])) (fun i => kk13 i = some r) ?_ ?_
      ·rintro j12b43 h
       have h : kk13 j12b43 = some r := h
       rw [hkk13] at h
       dsimp only at h
       clear hkk13
       refine aw_show (m := (memOf w0 Z0 [] [] [])) (S := (tab [(5, (iq (wq ((wq ((1 : Int) + (wq (En.bAt a0 (0 : Int))))) - (128 : Int))))), (6, (uq r11)), (43, (bool j12b43))])) ?_
       refine aw_cond rfl (fun hb14 => ?_) (fun hb14 => ?_)
       ·replace h := bif_t hb14 h
        refine aw_sr ?_
        refine al_as rfl rfl ?_
        refine al_as rfl rfl ?_
        refine al_as rfl rfl ?_
        refine al_nt ?_
        refine aw_ret ?_
        refine aq_then_ret ?_
        refine aq_then_ret ?_
        obtain rfl := Option.some.inj h
        exact fn_ret () [] [] rfl rfl rfl rfl (res3 rfl rfl rfl rfl) rfl rfl rfl (by decide)
       ·replace h := bif_f hb14 h
        refine aw_skip ?_
        refine aq_tr ?_
        refine al_mv rfl rfl ?_
        refine al_val (ov_convInt (by rw [Tryz.underlying55]; rfl) Tryz.underlying3 rfl rfl) ?_
        refine al_mv rfl rfl ?_
        refine al_as rfl rfl ?_
        refine al_as rfl rfl ?_
        refine al_as rfl rfl ?_
        refine al_nt ?_
        refine aw_ret ?_
        refine aq_then_ret ?_
        obtain rfl := Option.some.inj h
        exact fn_ret () [] [] rfl rfl rfl rfl (res3 rfl rfl rfl rfl) rfl rfl rfl (by decide)
      ·clear hkk13
       refine aw_region ?_
       refine al_mv rfl rfl ?_
       refine al_mv rfl rfl ?_
       obtain ⟨hc15, h⟩ := req_some h
       refine al_val (ov_strCut hc15.1 hc15.2.1 hc15.2.2 Tryz.underlying9 rfl rfl rfl rfl) ?_
       obtain ⟨r17, hc16, h⟩ := opt_some h
       refine al_call (vs := [(str (cut a0 (1 : Int) (wq ((wq ((1 : Int) + (wq (En.bAt a0 (0 : Int))))) - (128 : Int))))), (str ([0] : List UInt8))]) (f_strings_HasPrefix_ok fu (cut a0 (1 : Int) (wq ((wq ((1 : Int) + (wq (En.bAt a0 (0 : Int))))) - (128 : Int)))) ([0] : List UInt8) hc16) [] [] [] pre_nil rfl (by simp) (by decide) (.inl rfl) rfl Tryz.func91 rfl rfl rfl (fun _ => ?_)
       refine al_mv rfl rfl ?_
       refine al_caseB 40 rfl (fun hb18 => ?_) (fun hb18 => ?_)
       ·replace h := bif_t hb18 h
        refine al_skip ?_
        refine al_skip ?_
        refine al_val (ov_pick_t rfl rfl rfl) ?_
        refine al_nil ?_
        exact aq_join true h (fun w a hm hs => norm hm hs [] [] [(5, (iq (wq ((wq ((1 : Int) + (wq (En.bAt a0 (0 : Int))))) - (128 : Int))))), (6, (uq r11)), (43, (bool true))] (by decide) ⟨rfl, rfl, rfl, trivial⟩)
       ·replace h := bif_f hb18 h
        refine al_mv rfl rfl ?_
        refine al_in rfl rfl rfl rfl ?_
        refine al_val (ov_pick_f rfl rfl rfl) ?_
        refine al_nil ?_
        exact aq_join (decide (r11 ≥ (9223372036854775808 : Int))) h (fun w a hm hs => norm hm hs [] [] [(5, (iq (wq ((wq ((1 : Int) + (wq (En.bAt a0 (0 : Int))))) - (128 : Int))))), (6, (uq r11)), (43, (bool (decide (r11 ≥ (9223372036854775808 : Int)))))] (by decide) ⟨rfl, rfl, rfl, trivial⟩)
    ·replace h := bif_f hb6 h
     refine aw_skip ?_
     refine aq_tr ?_
     refine al_mv rfl rfl ?_
     obtain ⟨hc19, h⟩ := req_some h
     refine al_val (ov_strIdx hc19.1 hc19.2 Tryz.underlying9 rfl rfl rfl) ?_
     refine al_val (ov_convInt (by rw [Tryz.underlying5]; rfl) Tryz.underlying3 rfl rfl) ?_
     refine al_in rfl rfl rfl rfl ?_
     refine al_as rfl rfl ?_
     refine al_nt ?_
     refine aw_seq ?_
     refine aw_sr ?_
     refine al_mv rfl rfl ?_
     refine al_val (ov_strLen Tryz.underlying9 rfl rfl) ?_
     refine al_mv rfl rfl ?_
     refine al_in rfl rfl rfl rfl ?_
     refine al_nt ?_
     refine aw_cond rfl (fun hb20 => ?_) (fun hb20 => ?_)
     ·replace h := bif_t hb20 h
      refine aw_sr ?_
      refine al_as rfl rfl ?_
      refine al_as rfl rfl ?_
      refine al_as rfl rfl ?_
      refine al_nt ?_
      refine aw_ret ?_
      refine aq_then_ret ?_
      obtain rfl := Option.some.inj h
      exact fn_ret () [] [] rfl rfl rfl rfl (res3 rfl rfl rfl rfl) rfl rfl rfl (by decide)
     ·replace h := bif_f hb20 h
      refine aw_skip ?_
      refine aq_tr ?_
      refine al_mv rfl rfl ?_
      refine al_mv rfl rfl ?_
      obtain ⟨hc21, h⟩ := req_some h
      refine al_val (ov_strCut hc21.1 hc21.2.1 hc21.2.2 Tryz.underlying9 rfl rfl rfl rfl) ?_
      obtain ⟨r23, hc22, h⟩ := opt_some h
      refine al_call (vs := [(str (cut a0 (1 : Int) (wq ((128 : Int) - (wq (En.bAt a0 (0 : Int)))))))]) (f_lumref_turned_ok fu (cut a0 (1 : Int) (wq ((128 : Int) - (wq (En.bAt a0 (0 : Int)))))) hc22) [] [] [] pre_nil rfl (by simp) (by decide) (.inl rfl) rfl Tryz.func53 rfl rfl rfl (fun _ => ?_)
      obtain ⟨r25, hc24, h⟩ := opt_some h
      refine al_call (vs := [(str r23)]) (f_lumref_number_ok fu r23 hc24) [] [] [] pre_nil rfl (by simp) (by decide) (.inl rfl) rfl Tryz.func92 rfl rfl rfl (fun _ => ?_)
      refine al_as rfl rfl ?_
      refine al_nt ?_
      refine aw_seq ?_
      obtain ⟨kk27, hkk27, h⟩ := lt_some h
      refine aw_seq_join (ι := Bool) (fun i => (memOf w0 Z0 [] [] [])) (fun i => (tab [(7, (iq (wq ((128 : Int) - (wq (En.bAt a0 (0 : Int))))))), (8, (uq r25)), (67, (bool i))])) (fun i => kk27 i = some r) ?_ ?_
      ·rintro j26b67 h
       have h : kk27 j26b67 = some r := h
       rw [hkk27] at h
       dsimp only at h
       clear hkk27
       refine aw_show (m := (memOf w0 Z0 [] [] [])) (S := (tab [(7, (iq (wq ((128 : Int) - (wq (En.bAt a0 (0 : Int))))))), (8, (uq r25)), (67, (bool j26b67))])) ?_
       refine aw_cond rfl (fun hb28 => ?_) (fun hb28 => ?_)
       ·replace h := bif_t hb28 h
        refine aw_sr ?_
        refine al_as rfl rfl ?_
        refine al_as rfl rfl ?_
        refine al_as rfl rfl ?_
        refine al_nt ?_
        refine aw_ret ?_
        refine aq_then_ret ?_
        obtain rfl := Option.some.inj h
        exact fn_ret () [] [] rfl rfl rfl rfl (res3 rfl rfl rfl rfl) rfl rfl rfl (by decide)
       ·replace h := bif_f hb28 h
        refine aw_skip ?_
        refine aq_tr ?_
        refine al_mv rfl rfl ?_
        refine al_val (ov_convInt (by rw [Tryz.underlying55]; rfl) Tryz.underlying3 rfl rfl) ?_
        refine al_in rfl rfl rfl rfl ?_
        refine al_mv rfl rfl ?_
        refine al_as rfl rfl ?_
        refine al_as rfl rfl ?_
        refine al_as rfl rfl ?_
        refine al_nt ?_
        refine aw_ret ?_
        obtain rfl := Option.some.inj h
        exact fn_ret () [] [] rfl rfl rfl rfl (res3 rfl rfl rfl rfl) rfl rfl rfl (by decide)
      ·clear hkk27
       refine aw_region ?_
       refine al_mv rfl rfl ?_
       refine al_mv rfl rfl ?_
       obtain ⟨hc29, h⟩ := req_some h
       refine al_val (ov_strCut hc29.1 hc29.2.1 hc29.2.2 Tryz.underlying9 rfl rfl rfl rfl) ?_
       obtain ⟨r31, hc30, h⟩ := opt_some h
       refine al_call (vs := [(str (cut a0 (1 : Int) (wq ((128 : Int) - (wq (En.bAt a0 (0 : Int))))))), (str ([255] : List UInt8))]) (f_strings_HasPrefix_ok fu (cut a0 (1 : Int) (wq ((128 : Int) - (wq (En.bAt a0 (0 : Int)))))) ([255] : List UInt8) hc30) [] [] [] pre_nil rfl (by simp) (by decide) (.inl rfl) rfl Tryz.func91 rfl rfl rfl (fun _ => ?_)
       refine al_mv rfl rfl ?_
       refine al_caseB 64 rfl (fun hb32 => ?_) (fun hb32 => ?_)
       ·replace h := bif_t hb32 h
        refine al_skip ?_
        refine al_skip ?_
        refine al_val (ov_pick_t rfl rfl rfl) ?_
        refine al_nil ?_
        exact aq_join true h (fun w a hm hs => norm hm hs [] [] [(7, (iq (wq ((128 : Int) - (wq (En.bAt a0 (0 : Int))))))), (8, (uq r25)), (67, (bool true))] (by decide) ⟨rfl, rfl, rfl, trivial⟩)
       ·replace h := bif_f hb32 h
        refine al_mv rfl rfl ?_
        refine al_in rfl rfl rfl rfl ?_
        refine al_val (ov_pick_f rfl rfl rfl) ?_
        refine al_nil ?_
        exact aq_join (decide (r25 ≥ (9223372036854775808 : Int))) h (fun w a hm hs => norm hm hs [] [] [(7, (iq (wq ((128 : Int) - (wq (En.bAt a0 (0 : Int))))))), (8, (uq r25)), (67, (bool (decide (r25 ≥ (9223372036854775808 : Int)))))] (by decide) ⟨rfl, rfl, rfl, trivial⟩)
  ·clear hkk3
   refine aw_region ?_
   refine al_mv rfl rfl ?_
   obtain ⟨hc33, h⟩ := req_some h
   refine al_val (ov_strIdx hc33.1 hc33.2 Tryz.underlying9 rfl rfl rfl) ?_
   refine al_in rfl rfl rfl rfl ?_
   refine al_mv rfl rfl ?_
   refine al_caseB 15 rfl (fun hb34 => ?_) (fun hb34 => ?_)
   ·replace h := bif_t hb34 h
    refine al_skip ?_
    refine al_skip ?_
    refine al_skip ?_
    refine al_val (ov_pick_t rfl rfl rfl) ?_
    refine al_nil ?_
    exact aq_join true h (fun w a hm hs => norm hm hs [] [] [(0, (str a0)), (19, (bool true))] (by decide) ⟨rfl, rfl, trivial⟩)
   ·replace h := bif_f hb34 h
    refine al_mv rfl rfl ?_
    obtain ⟨hc35, h⟩ := req_some h
    refine al_val (ov_strIdx hc35.1 hc35.2 Tryz.underlying9 rfl rfl rfl) ?_
    refine al_in rfl rfl rfl rfl ?_
    refine al_val (ov_pick_f rfl rfl rfl) ?_
    refine al_nil ?_
    exact aq_join (decide ((En.bAt a0 (0 : Int)) > (136 : Int))) h (fun w a hm hs => norm hm hs [] [] [(0, (str a0)), (19, (bool (decide ((En.bAt a0 (0 : Int)) > (136 : Int)))))] (by decide) ⟨rfl, rfl, trivial⟩)
def f_lumref_oldRead_L17 (r4 : ((List UInt8) × Int × Int)) (r8 : (Int × (List UInt8) × Int)) (r11 : (Int × (List UInt8) × Int)) (kk14 : ((List UInt8) → (List S_api_Item) → Option (S_api_Old × Bool))) (fu : Nat) : Nat → (List UInt8) → (List S_api_Item) → Int → Option (S_api_Old × Bool)
  | 0, _, _, _ => none
  | k16 + 1, l15s0, l15x4_2, l15i45 => (bif (decide (l15i45 < r11.1)) then (opt (f_lumref_GetText fu l15s0) fun (r21 : ((List UInt8) × Int × Int)) => (lt (fun (j22b61 : Bool) => (bif j22b61 then (some ((S_api_Old.mk r4.1 r8.1 l15x4_2), false)) else (req (0 ≤ r21.2.1 ∧ r21.2.1 < (l15s0.length : Int)) (req (0 ≤ (IntKind.i64.wrap (r21.2.1 + (1 : Int))) ∧ (IntKind.i64.wrap (r21.2.1 + (1 : Int))) ≤ (l15s0.length : Int)) (opt (f_lumref_numberAt fu (l15s0.drop ((IntKind.i64.wrap (r21.2.1 + (1 : Int)))).toNat) (1099511627776 : Int)) fun (r28 : (Int × (List UInt8) × Int)) => (bif (r28.2.2 != (0 : Int)) then (some ((S_api_Old.mk r4.1 r8.1 l15x4_2), false)) else (opt (f_lumref_GetInt fu r28.2.1) fun (r31 : (Int × Int × Int)) => (bif (r31.2.2 != (0 : Int)) then (some ((S_api_Old.mk r4.1 r8.1 l15x4_2), false)) else (req (0 ≤ r31.2.1 ∧ r31.2.1 ≤ (r28.2.1.length : Int)) (opt (f_lumref_numberAt fu (r28.2.1.drop (r31.2.1).toNat) (4096 : Int)) fun (r35 : (Int × (List UInt8) × Int)) => (lt (fun (j36b106 : Bool) => (bif j36b106 then (some ((S_api_Old.mk r4.1 r8.1 l15x4_2), false)) else (req (0 ≤ r35.1 ∧ r35.1 ≤ (r35.2.1.length : Int)) (req (0 ≤ r35.1 ∧ r35.1 ≤ (r35.2.1.length : Int)) (req (((l15x4_2.length + ([(S_api_Item.mk r21.1 (IntKind.i64.wrap (En.bAt l15s0 r21.2.1)) r28.1 r31.1 (r35.2.1.take (r35.1).toNat))]).length) * 56 : Nat) ≤ 140737488355328 ∧ l15x4_2.length + ([(S_api_Item.mk r21.1 (IntKind.i64.wrap (En.bAt l15s0 r21.2.1)) r28.1 r31.1 (r35.2.1.take (r35.1).toNat))]).length ≤ 9223372036854775807) (f_lumref_oldRead_L17 r4 r8 r11 kk14 fu k16 (r35.2.1.drop (r35.1).toNat) (l15x4_2 ++ ([(S_api_Item.mk r21.1 (IntKind.i64.wrap (En.bAt l15s0 r21.2.1)) r28.1 r31.1 (r35.2.1.take (r35.1).toNat))])) (IntKind.i64.wrap (l15i45 + (1 : Int))))))))) fun (kk37 : Bool → Option (S_api_Old × Bool)) => (bif (r35.2.2 != (0 : Int)) then (kk37 true) else (kk37 (decide ((r35.2.1.length : Int) < r35.1))))))))))))))) fun (kk23 : Bool → Option (S_api_Old × Bool)) => (bif (r21.2.2 != (0 : Int)) then (kk23 true) else (kk23 ((l15s0.length : Int) == r21.2.1))))) else (kk14 l15s0 l15x4_2))
def f_lumref_oldRead (fu : Nat) (a0 : (List UInt8)) : Option (S_api_Old × Bool) := (opt (f_lumref_GetText fu a0) fun (r4 : ((List UInt8) × Int × Int)) => (bif (r4.2.2 != (0 : Int)) then (some ((S_api_Old.mk ([] : List UInt8) (0 : Int) ([] : (List S_api_Item))), false)) else (req (0 ≤ r4.2.1 ∧ r4.2.1 ≤ (a0.length : Int)) (opt (f_lumref_numberAt fu (a0.drop (r4.2.1).toNat) (1099511627776 : Int)) fun (r8 : (Int × (List UInt8) × Int)) => (bif (r8.2.2 != (0 : Int)) then (some ((S_api_Old.mk r4.1 r8.1 ([] : (List S_api_Item))), false)) else (opt (f_lumref_numberAt fu r8.2.1 (100 : Int)) fun (r11 : (Int × (List UInt8) × Int)) => (bif (r11.2.2 != (0 : Int)) then (some ((S_api_Old.mk r4.1 r8.1 ([] : (List S_api_Item))), false)) else (lt (fun (j13s0 : (List UInt8)) (j13x4_2 : (List S_api_Item)) => (some ((S_api_Old.mk r4.1 r8.1 j13x4_2), (j13s0 == ([] : List UInt8))))) fun (kk14 : (List UInt8) → (List S_api_Item) → Option (S_api_Old × Bool)) => (f_lumref_oldRead_L17 r4 r8 r11 kk14 fu fu r11.2.1 ([] : List S_api_Item) (0 : Int))))))))))
set_option maxRecDepth 100000 in
set_option maxHeartbeats 2000000 in
set_option maxHeartbeats 2000000 in
theorem f_lumref_oldRead_ok (fu : Nat) (a0 : (List UInt8)) {r : (S_api_Old × Bool)} (h : f_lumref_oldRead fu a0 = some r) : FnOk Tryz.prog 28 [(str a0)] [] [] (fun (i : Value) => { val := (Value.tuple #[(ag [(str r.1.Name), (int .i64 r.1.Time), i]), (bool r.2)]), fz := [(fDat (tyList tyS_api_Item) [i] r.1.World)] }) := by
 unfold f_lumref_oldRead at h
 refine fn_enter Tryz.func28 rfl Tryz.ntmps28 rfl (fun w0 Z0 => ?_)
 refine aw_sr ?_
 refine al_alloc (zs := [(str ([] : List UInt8)), (iq (0 : Int)), nS]) (zeroOf_to to49) rfl rfl (fun g1 => ?_)
 refine al_as rfl rfl ?_
 refine al_nt ?_
 refine aw_sr ?_
 refine al_alloc (zs := [(str ([] : List UInt8)), (iq (0 : Int)), nS]) (zeroOf_to to49) rfl rfl (fun g2 => ?_)
 refine al_nt ?_
 refine aw_sr ?_
 refine al_mv rfl rfl ?_
 obtain ⟨r4, hc3, h⟩ := opt_some h
 refine al_call (vs := [(str a0)]) (f_lumref_GetText_ok fu a0 hc3) [] [] [0, 1] pre_nil rfl (by simp) (by decide) (.inl rfl) rfl Tryz.func63 rfl rfl rfl (fun _ => ?_)
 refine al_mv rfl rfl ?_
 refine al_ex rfl rfl rfl ?_
 refine al_ex rfl rfl rfl ?_
 refine al_ex rfl rfl rfl ?_
 refine al_as rfl rfl ?_
 refine al_as rfl rfl ?_
 refine al_as rfl rfl ?_
 refine al_nt ?_
 refine aw_seq ?_
 refine aw_sr ?_
 refine al_mv rfl rfl ?_
 refine al_in rfl rfl rfl rfl ?_
 refine al_nt ?_
 refine aw_cond rfl (fun hb5 => ?_) (fun hb5 => ?_)
 ·replace h := bif_t hb5 h
  refine aw_sr ?_
  refine al_val (ov_load (i := 0) (v := (ag [(str ([] : List UInt8)), (iq (0 : Int)), nS])) rfl rfl Tryz.underlying49 sz49 rfl rfl rfl rfl) ?_
  refine al_store (i := 1) (vs := [(str ([] : List UInt8)), (iq (0 : Int)), nS]) (cs' := [(str ([] : List UInt8)), (iq (0 : Int)), nS]) rfl rfl rfl sz49 (cv_rfl rfl) rfl (co_val rfl (co_val rfl (co_val rfl co_nil))) (Nat.le_of_ble_eq_true rfl) rfl rfl ?_
  refine al_as rfl rfl ?_
  refine al_nt ?_
  refine aw_ret ?_
  refine aq_then_ret ?_
  refine aq_nilD tyS_api_Item ?_
  obtain rfl := Option.some.inj h
  exact fn_ret nS [] [0] rfl rfl rfl rfl (resC rfl (resB (i := 1) rfl rfl Tryz.underlying49 sz49 rfl rfl rfl (resT rfl (resN))) rfl) rfl rfl rfl (by decide)
 ·replace h := bif_f hb5 h
  refine aw_skip ?_
  refine aq_then ?_
  refine aw_seq ?_
  obtain ⟨hc6, h⟩ := req_some h
  refine aw_region_open [⟨0, 20, Unit, fun _ => { val := (str r4.1) }⟩, ⟨1, 21, Unit, fun _ => { val := (str a0) }⟩, ⟨2, 22, Unit, fun _ => { val := (iq r4.2.1) }⟩, ⟨3, 23, Unit, fun _ => { val := (str (a0.drop (r4.2.1).toNat)) }⟩, ⟨4, 24, Unit, fun _ => { val := (pq g2) }⟩] (tab [(0, (str a0)), (2, (pq g1)), (4, (pq g2)), (5, (str r4.1)), (6, (iq r4.2.1))]) mixed (fun a hs => hs.tab _ (allT_mem ⟨rfl, rfl, rfl, rfl, rfl, trivial⟩)) ?_
  refine ta_show (m := (memOf w0 Z0 [] [(oBox g2 49 [(str ([] : List UInt8)), (iq (0 : Int)), nS]), (oBox g1 49 [(str ([] : List UInt8)), (iq (0 : Int)), nS])] [])) (S := (tab [(0, (str a0)), (2, (pq g1)), (4, (pq g2)), (5, (str r4.1)), (6, (iq r4.2.1))])) ?_
  refine ta_step 5 _ [0, 1, 2, 3, 4] [20, 21, 22, 23, 24] [0, 4] [] [⟨0, 20, Unit, fun _ => { val := (str r4.1) }⟩, ⟨4, 24, Unit, fun _ => { val := (pq g2) }⟩] [⟨1, 21, Unit, fun _ => { val := (str a0) }⟩, ⟨2, 22, Unit, fun _ => { val := (iq r4.2.1) }⟩, ⟨3, 23, Unit, fun _ => { val := (str (a0.drop (r4.2.1).toNat)) }⟩] rfl rfl rfl (by kernel_rfl) rfl rfl rfl ⟨⟨_, rfl, [], rfl, by
 intro X_ Y_ F_ K_ hK_
 refine al_show (m := Mem.plus (memOf w0 Z0 [] [(oBox g2 49 [(str ([] : List UInt8)), (iq (0 : Int)), nS]), (oBox g1 49 [(str ([] : List UInt8)), (iq (0 : Int)), nS])] []) X_ Y_) (S := over (tab [(0, (str a0)), (2, (pq g1)), (4, (pq g2)), (5, (str r4.1)), (6, (iq r4.2.1))]) F_) ?_
 refine al_mv rfl rfl ?_
 refine al_nil ?_
 exact fr_fin hK_ ()⟩, ⟨_, rfl, [], rfl, by
 intro X_ Y_ F_ K_ hK_
 refine al_show (m := Mem.plus (memOf w0 Z0 [] [(oBox g2 49 [(str ([] : List UInt8)), (iq (0 : Int)), nS]), (oBox g1 49 [(str ([] : List UInt8)), (iq (0 : Int)), nS])] []) X_ Y_) (S := over (tab [(0, (str a0)), (2, (pq g1)), (4, (pq g2)), (5, (str r4.1)), (6, (iq r4.2.1))]) F_) ?_
 refine al_mv rfl rfl ?_
 refine al_nil ?_
 exact fr_fin hK_ ()⟩, ⟨_, rfl, [], rfl, by
 intro X_ Y_ F_ K_ hK_
 refine al_show (m := Mem.plus (memOf w0 Z0 [] [(oBox g2 49 [(str ([] : List UInt8)), (iq (0 : Int)), nS]), (oBox g1 49 [(str ([] : List UInt8)), (iq (0 : Int)), nS])] []) X_ Y_) (S := over (tab [(0, (str a0)), (2, (pq g1)), (4, (pq g2)), (5, (str r4.1)), (6, (iq r4.2.1))]) F_) ?_
 refine al_mv rfl rfl ?_
 refine al_nil ?_
 exact fr_fin hK_ ()⟩, ⟨_, rfl, [1, 2], rfl, by
 intro _
 intro _
 intro X_ Y_ F_ K_ hK_
 refine al_show (m := Mem.plus (memOf w0 Z0 [] [(oBox g2 49 [(str ([] : List UInt8)), (iq (0 : Int)), nS]), (oBox g1 49 [(str ([] : List UInt8)), (iq (0 : Int)), nS])] []) X_ Y_) (S := over (put (put (tab [(0, (str a0)), (2, (pq g1)), (4, (pq g2)), (5, (str r4.1)), (6, (iq r4.2.1))]) 21 (str a0)) 22 (iq r4.2.1)) F_) ?_
 refine al_val (ov_strFrom hc6.1 hc6.2 Tryz.underlying9 rfl rfl rfl) ?_
 refine al_nil ?_
 exact fr_fin hK_ ()⟩, ⟨_, rfl, [0], rfl, by
 intro _
 intro X_ Y_ F_ K_ hK_
 refine al_show (m := Mem.plus (memOf w0 Z0 [] [(oBox g2 49 [(str ([] : List UInt8)), (iq (0 : Int)), nS]), (oBox g1 49 [(str ([] : List UInt8)), (iq (0 : Int)), nS])] []) X_ Y_) (S := over (put (tab [(0, (str a0)), (2, (pq g1)), (4, (pq g2)), (5, (str r4.1)), (6, (iq r4.2.1))]) 20 (str r4.1)) F_) ?_
 refine al_val (ov_fieldA (p := 0) rfl Tryz.underlying49 rfl sz9 rfl rfl rfl) ?_
 refine al_nil ?_
 exact fr_fin hK_ ()⟩, trivial⟩ ?_
  intro _
  intro _
  intro X_ Y_ F_ K_ hK_
  refine al_show (m := Mem.plus (memOf w0 Z0 [] [(oBox g2 49 [(str ([] : List UInt8)), (iq (0 : Int)), nS]), (oBox g1 49 [(str ([] : List UInt8)), (iq (0 : Int)), nS])] []) X_ Y_) (S := over (put (put (tab [(0, (str a0)), (2, (pq g1)), (4, (pq g2)), (5, (str r4.1)), (6, (iq r4.2.1))]) 20 (str r4.1)) 24 (pq g2)) F_) ?_
  refine al_store (i := 0) (vs := [(str r4.1)]) (cs' := [(str r4.1), (iq (0 : Int)), nS]) rfl rfl rfl sz9 (cv_rfl rfl) rfl (co_val rfl co_nil) (Nat.le_of_ble_eq_true rfl) rfl rfl ?_
  refine al_nil ?_
  refine aq_show (m := Mem.plus (memOf w0 Z0 [] [(oBox g2 49 [(str r4.1), (iq (0 : Int)), nS]), (oBox g1 49 [(str ([] : List UInt8)), (iq (0 : Int)), nS])] []) X_ Y_) ?_
  refine aq_next hK_ [0, 1] [] [(0, (str a0)), (2, (pq g1)), (4, (pq g2)), (6, (iq r4.2.1))] [21, 22, 23] [] rfl rfl (by decide) rfl ⟨rfl, rfl, rfl, rfl, trivial⟩ ⟨rfl, rfl, rfl, trivial⟩ ?_
  clear hK_ K_ F_ X_ Y_
  refine ta_show (m := (memOf w0 Z0 [] [(oBox g2 49 [(str r4.1), (iq (0 : Int)), nS]), (oBox g1 49 [(str ([] : List UInt8)), (iq (0 : Int)), nS])] [])) (S := (tab [(0, (str a0)), (2, (pq g1)), (4, (pq g2)), (6, (iq r4.2.1))])) ?_
  refine ta_step 6 _ [1, 2, 3] [21, 22, 23] [1, 2, 3] [] [⟨1, 21, Unit, fun _ => { val := (str a0) }⟩, ⟨2, 22, Unit, fun _ => { val := (iq r4.2.1) }⟩, ⟨3, 23, Unit, fun _ => { val := (str (a0.drop (r4.2.1).toNat)) }⟩] [] rfl rfl rfl (by kernel_rfl) rfl rfl rfl ⟨⟨_, rfl, [], rfl, by
 intro X_ Y_ F_ K_ hK_
 refine al_show (m := Mem.plus (memOf w0 Z0 [] [(oBox g2 49 [(str r4.1), (iq (0 : Int)), nS]), (oBox g1 49 [(str ([] : List UInt8)), (iq (0 : Int)), nS])] []) X_ Y_) (S := over (tab [(0, (str a0)), (2, (pq g1)), (4, (pq g2)), (6, (iq r4.2.1))]) F_) ?_
 refine al_mv rfl rfl ?_
 refine al_nil ?_
 exact fr_fin hK_ ()⟩, ⟨_, rfl, [], rfl, by
 intro X_ Y_ F_ K_ hK_
 refine al_show (m := Mem.plus (memOf w0 Z0 [] [(oBox g2 49 [(str r4.1), (iq (0 : Int)), nS]), (oBox g1 49 [(str ([] : List UInt8)), (iq (0 : Int)), nS])] []) X_ Y_) (S := over (tab [(0, (str a0)), (2, (pq g1)), (4, (pq g2)), (6, (iq r4.2.1))]) F_) ?_
 refine al_mv rfl rfl ?_
 refine al_nil ?_
 exact fr_fin hK_ ()⟩, ⟨_, rfl, [0, 1], rfl, by
 intro _
 intro _
 intro X_ Y_ F_ K_ hK_
 refine al_show (m := Mem.plus (memOf w0 Z0 [] [(oBox g2 49 [(str r4.1), (iq (0 : Int)), nS]), (oBox g1 49 [(str ([] : List UInt8)), (iq (0 : Int)), nS])] []) X_ Y_) (S := over (put (put (tab [(0, (str a0)), (2, (pq g1)), (4, (pq g2)), (6, (iq r4.2.1))]) 21 (str a0)) 22 (iq r4.2.1)) F_) ?_
 refine al_val (ov_strFrom hc6.1 hc6.2 Tryz.underlying9 rfl rfl rfl) ?_
 refine al_nil ?_
 exact fr_fin hK_ ()⟩, trivial⟩ ?_
  intro _
  intro _
  intro _
  intro X_ Y_ F_ K_ hK_
  refine al_show (m := Mem.plus (memOf w0 Z0 [] [(oBox g2 49 [(str r4.1), (iq (0 : Int)), nS]), (oBox g1 49 [(str ([] : List UInt8)), (iq (0 : Int)), nS])] []) X_ Y_) (S := over (put (put (put (tab [(0, (str a0)), (2, (pq g1)), (4, (pq g2)), (6, (iq r4.2.1))]) 21 (str a0)) 22 (iq r4.2.1)) 23 (str (a0.drop (r4.2.1).toNat))) F_) ?_
  refine al_as rfl rfl ?_
  refine al_nil ?_
  refine aq_show (m := Mem.plus (memOf w0 Z0 [] [(oBox g2 49 [(str r4.1), (iq (0 : Int)), nS]), (oBox g1 49 [(str ([] : List UInt8)), (iq (0 : Int)), nS])] []) X_ Y_) ?_
  refine aq_next hK_ [0, 1] [] [(0, (str (a0.drop (r4.2.1).toNat))), (2, (pq g1)), (4, (pq g2))] [] [] rfl rfl (by decide) rfl ⟨rfl, rfl, rfl, trivial⟩ trivial ?_
  clear hK_ K_ F_ X_ Y_
  refine ta_show (m := (memOf w0 Z0 [] [(oBox g2 49 [(str r4.1), (iq (0 : Int)), nS]), (oBox g1 49 [(str ([] : List UInt8)), (iq (0 : Int)), nS])] [])) (S := (tab [(0, (str (a0.drop (r4.2.1).toNat))), (2, (pq g1)), (4, (pq g2))])) ?_
  refine ta_end [] [] rfl rfl (by kernel_rfl) rfl trivial ?_
  refine aq_show (m := (memOf w0 Z0 [] [(oBox g2 49 [(str r4.1), (iq (0 : Int)), nS]), (oBox g1 49 [(str ([] : List UInt8)), (iq (0 : Int)), nS])] [])) (S := (tab [(0, (str (a0.drop (r4.2.1).toNat))), (2, (pq g1)), (4, (pq g2))])) ?_
  refine aq_tr ?_
  refine al_as rfl rfl ?_
  refine al_nt ?_
  refine aw_seq ?_
  refine aw_sr ?_
  refine al_mv rfl rfl ?_
  obtain ⟨r8, hc7, h⟩ := opt_some h
  refine al_call (vs := [(str (a0.drop (r4.2.1).toNat)), (uq (1099511627776 : Int))]) (f_lumref_numberAt_ok fu (a0.drop (r4.2.1).toNat) (1099511627776 : Int) hc7) [] [] [0, 1] pre_nil rfl (by simp) (by decide) (.inl rfl) rfl Tryz.func64 rfl rfl rfl (fun _ => ?_)
  refine al_mv rfl rfl ?_
  refine al_ex rfl rfl rfl ?_
  refine al_ex rfl rfl rfl ?_
  refine al_ex rfl rfl rfl ?_
  refine al_val (ov_fieldA (p := 1) rfl Tryz.underlying49 rfl sz3 rfl rfl rfl) ?_
  refine al_store (i := 0) (vs := [(iq r8.1)]) (cs' := [(str r4.1), (iq r8.1), nS]) rfl rfl rfl sz3 (cv_rfl rfl) rfl (co_val rfl co_nil) (Nat.le_of_ble_eq_true rfl) rfl rfl ?_
  refine al_as rfl rfl ?_
  refine al_as rfl rfl ?_
  refine al_nt ?_
  refine aw_sr ?_
  refine al_mv rfl rfl ?_
  refine al_in rfl rfl rfl rfl ?_
  refine al_nt ?_
  refine aw_cond rfl (fun hb9 => ?_) (fun hb9 => ?_)
  ·replace h := bif_t hb9 h
   refine aw_sr ?_
   refine al_val (ov_load (i := 0) (v := (ag [(str r4.1), (iq r8.1), nS])) rfl rfl Tryz.underlying49 sz49 rfl rfl rfl rfl) ?_
   refine al_store (i := 1) (vs := [(str r4.1), (iq r8.1), nS]) (cs' := [(str r4.1), (iq r8.1), nS]) rfl rfl rfl sz49 (cv_rfl rfl) rfl (co_val rfl (co_val rfl (co_val rfl co_nil))) (Nat.le_of_ble_eq_true rfl) rfl rfl ?_
   refine al_as rfl rfl ?_
   refine al_nt ?_
   refine aw_ret ?_
   refine aq_then_ret ?_
   refine aq_nilD tyS_api_Item ?_
   obtain rfl := Option.some.inj h
   exact fn_ret nS [] [0] rfl rfl rfl rfl (resC rfl (resB (i := 1) rfl rfl Tryz.underlying49 sz49 rfl rfl rfl (resT rfl (resN))) rfl) rfl rfl rfl (by decide)
  ·replace h := bif_f hb9 h
   refine aw_skip ?_
   refine aq_then ?_
   refine aw_seq ?_
   refine aw_sr ?_
   refine al_mv rfl rfl ?_
   obtain ⟨r11, hc10, h⟩ := opt_some h
   refine al_call (vs := [(str r8.2.1), (uq (100 : Int))]) (f_lumref_numberAt_ok fu r8.2.1 (100 : Int) hc10) [] [] [0, 1] pre_nil rfl (by simp) (by decide) (.inl rfl) rfl Tryz.func64 rfl rfl rfl (fun _ => ?_)
   refine al_mv rfl rfl ?_
   refine al_ex rfl rfl rfl ?_
   refine al_ex rfl rfl rfl ?_
   refine al_ex rfl rfl rfl ?_
   refine al_as rfl rfl ?_
   refine al_as rfl rfl ?_
   refine al_as rfl rfl ?_
   refine al_nt ?_
   refine aw_sr ?_
   refine al_mv rfl rfl ?_
   refine al_in rfl rfl rfl rfl ?_
   refine al_nt ?_
   refine aw_cond rfl (fun hb12 => ?_) (fun hb12 => ?_)
   ·replace h := bif_t hb12 h
    refine aw_sr ?_
    refine al_val (ov_load (i := 0) (v := (ag [(str r4.1), (iq r8.1), nS])) rfl rfl Tryz.underlying49 sz49 rfl rfl rfl rfl) ?_
    refine al_store (i := 1) (vs := [(str r4.1), (iq r8.1), nS]) (cs' := [(str r4.1), (iq r8.1), nS]) rfl rfl rfl sz49 (cv_rfl rfl) rfl (co_val rfl (co_val rfl (co_val rfl co_nil))) (Nat.le_of_ble_eq_true rfl) rfl rfl ?_
    refine al_as rfl rfl ?_
    refine al_nt ?_
    refine aw_ret ?_
    refine aq_then_ret ?_
    refine aq_nilD tyS_api_Item ?_
    obtain rfl := Option.some.inj h
    exact fn_ret nS [] [0] rfl rfl rfl rfl (resC rfl (resB (i := 1) rfl rfl Tryz.underlying49 sz49 rfl rfl rfl (resT rfl (resN))) rfl) rfl rfl rfl (by decide)
   ·replace h := bif_f hb12 h
    refine aw_skip ?_
    refine aq_then ?_
    obtain ⟨kk14, hkk14, h⟩ := lt_some h
    refine aw_seq_join (ι := (List UInt8) × Value × (List S_api_Item)) (fun i => (memOf w0 Z0 [] [(oBox g1 49 [(str ([] : List UInt8)), (iq (0 : Int)), nS]), (oRow i.2.1 57 tyS_api_Item i.2.2), (oBox g2 49 [(str r4.1), (iq r8.1), i.2.1])] [])) (fun i => (tab [(0, (str i.1)), (2, (pq g1)), (4, (pq g2))])) (fun i => kk14 i.1 i.2.2 = some r) ?_ ?_
    ·rintro ⟨j13s0, j13v4_2, j13x4_2⟩ h
     have h : kk14 j13s0 j13x4_2 = some r := h
     rw [hkk14] at h
     dsimp only at h
     clear hkk14
     refine aw_show (m := (memOf w0 Z0 [] [(oBox g1 49 [(str ([] : List UInt8)), (iq (0 : Int)), nS]), (oRow j13v4_2 57 tyS_api_Item j13x4_2), (oBox g2 49 [(str r4.1), (iq r8.1), j13v4_2])] [])) (S := (tab [(0, (str j13s0)), (2, (pq g1)), (4, (pq g2))])) ?_
     refine aw_sr ?_
     refine al_val (ov_load (i := 2) (v := (ag [(str r4.1), (iq r8.1), j13v4_2])) rfl rfl Tryz.underlying49 sz49 rfl rfl rfl rfl) ?_
     refine al_mv rfl rfl ?_
     refine al_val (ov_strCmp rfl rfl rfl rfl) ?_
     refine al_store (i := 0) (vs := [(str r4.1), (iq r8.1), j13v4_2]) (cs' := [(str r4.1), (iq r8.1), j13v4_2]) rfl rfl rfl sz49 (cv_rfl rfl) rfl (co_val rfl (co_val rfl (co_own 1 rfl co_nil))) (Nat.le_of_ble_eq_true rfl) rfl rfl ?_
     refine al_as rfl rfl ?_
     refine al_nt ?_
     refine aw_ret ?_
     refine aq_freeze 1 rfl rfl ?_
     obtain rfl := Option.some.inj h
     exact fn_ret j13v4_2 [] [0] rfl rfl rfl rfl (resC rfl (resB (i := 0) rfl rfl Tryz.underlying49 sz49 rfl rfl rfl (resT rfl (resN))) rfl) rfl rfl rfl (by decide)
    ·clear hkk14
     refine aw_sr ?_
     refine al_mv rfl rfl ?_
     refine al_mv rfl rfl ?_
     refine al_nt ?_
     refine aw_block ?_
     refine aw_nilR 57 tyS_api_Item ?_
     refine aw_state (aw_loop (ι := (List UInt8) × Value × (List S_api_Item) × Int) (fun i => (memOf w0 Z0 [] [(oBox g1 49 [(str ([] : List UInt8)), (iq (0 : Int)), nS]), (oRow i.2.1 57 tyS_api_Item i.2.2.1), (oBox g2 49 [(str r4.1), (iq r8.1), i.2.1])] [])) (fun i => (tab [(0, (str i.1)), (2, (pq g1)), (4, (pq g2)), (44, (iq r11.1)), (45, (iq i.2.2.2))])) (fun q i => f_lumref_oldRead_L17 r4 r8 r11 kk14 fu q i.1 i.2.2.1 i.2.2.2 = some r) ?_ fu (r11.2.1, nS, ([] : List S_api_Item), (0 : Int)) h) (fun w a hm hs => norm hm hs [2, 0, 1] [] [(0, (str r11.2.1)), (2, (pq g1)), (4, (pq g2)), (44, (iq r11.1)), (45, (iq (0 : Int)))] (by decide) ⟨rfl, rfl, rfl, rfl, rfl, trivial⟩)
     clear h
     rintro k16 ⟨l15s0, l15v4_2, l15x4_2, l15i45⟩ h
     have h : f_lumref_oldRead_L17 r4 r8 r11 kk14 fu k16 l15s0 l15x4_2 l15i45 = some r := h
     obtain _ | k16 := k16
     · rw [f_lumref_oldRead_L17] at h; cases h
     rw [f_lumref_oldRead_L17] at h
     refine aw_show (m := (memOf w0 Z0 [] [(oBox g1 49 [(str ([] : List UInt8)), (iq (0 : Int)), nS]), (oRow l15v4_2 57 tyS_api_Item l15x4_2), (oBox g2 49 [(str r4.1), (iq r8.1), l15v4_2])] [])) (S := (tab [(0, (str l15s0)), (2, (pq g1)), (4, (pq g2)), (44, (iq r11.1)), (45, (iq l15i45))])) ?_
     refine aw_sr ?_
     refine al_in rfl rfl rfl rfl ?_
     refine al_nt ?_
     refine aw_seq ?_
     refine aw_cond rfl (fun hb18 => ?_) (fun hb18 => ?_)
     ·replace h := bif_t hb18 h
      refine aw_skip ?_
      refine aq_then ?_
      refine aw_seq ?_
      refine aw_block ?_
      refine aw_sr ?_
      refine al_alloc (zs := [(str ([] : List UInt8)), (iq (0 : Int)), (iq (0 : Int)), (iq (0 : Int)), (str ([] : List UInt8))]) (zeroOf_to to57) rfl rfl (fun g19 => ?_)
      refine al_nt ?_
      refine aw_seq ?_
      refine aw_sr ?_
      refine al_mv rfl rfl ?_
      obtain ⟨r21, hc20, h⟩ := opt_some h
      refine al_call (vs := [(str l15s0)]) (f_lumref_GetText_ok fu l15s0 hc20) [] [] [0, 1, 2, 3] pre_nil rfl (by simp) (by decide) (.inl rfl) rfl Tryz.func63 rfl rfl rfl (fun _ => ?_)
      refine al_mv rfl rfl ?_
      refine al_ex rfl rfl rfl ?_
      refine al_ex rfl rfl rfl ?_
      refine al_ex rfl rfl rfl ?_
      refine al_val (ov_fieldA (p := 0) rfl Tryz.underlying57 rfl sz9 rfl rfl rfl) ?_
      refine al_store (i := 0) (vs := [(str r21.1)]) (cs' := [(str r21.1), (iq (0 : Int)), (iq (0 : Int)), (iq (0 : Int)), (str ([] : List UInt8))]) rfl rfl rfl sz9 (cv_rfl rfl) rfl (co_val rfl co_nil) (Nat.le_of_ble_eq_true rfl) rfl rfl ?_
      refine al_as rfl rfl ?_
      refine al_as rfl rfl ?_
      refine al_nt ?_
      obtain ⟨kk23, hkk23, h⟩ := lt_some h
      refine aw_seq_join (ι := Bool) (fun i => (memOf w0 Z0 [] [(oBox g1 49 [(str ([] : List UInt8)), (iq (0 : Int)), nS]), (oRow l15v4_2 57 tyS_api_Item l15x4_2), (oBox g2 49 [(str r4.1), (iq r8.1), l15v4_2]), (oBox g19 57 [(str r21.1), (iq (0 : Int)), (iq (0 : Int)), (iq (0 : Int)), (str ([] : List UInt8))])] [])) (fun i => (tab [(0, (str l15s0)), (2, (pq g1)), (4, (pq g2)), (6, (iq r21.2.1)), (9, (pq g19)), (44, (iq r11.1)), (45, (iq l15i45)), (61, (bool i))])) (fun i => kk23 i = some r) ?_ ?_
      ·rintro j22b61 h
       have h : kk23 j22b61 = some r := h
       rw [hkk23] at h
       dsimp only at h
       clear hkk23
       refine aw_show (m := (memOf w0 Z0 [] [(oBox g1 49 [(str ([] : List UInt8)), (iq (0 : Int)), nS]), (oRow l15v4_2 57 tyS_api_Item l15x4_2), (oBox g2 49 [(str r4.1), (iq r8.1), l15v4_2]), (oBox g19 57 [(str r21.1), (iq (0 : Int)), (iq (0 : Int)), (iq (0 : Int)), (str ([] : List UInt8))])] [])) (S := (tab [(0, (str l15s0)), (2, (pq g1)), (4, (pq g2)), (6, (iq r21.2.1)), (9, (pq g19)), (44, (iq r11.1)), (45, (iq l15i45)), (61, (bool j22b61))])) ?_
       refine aw_cond rfl (fun hb24 => ?_) (fun hb24 => ?_)
       ·replace h := bif_t hb24 h
        refine aw_sr ?_
        refine al_val (ov_load (i := 2) (v := (ag [(str r4.1), (iq r8.1), l15v4_2])) rfl rfl Tryz.underlying49 sz49 rfl rfl rfl rfl) ?_
        refine al_store (i := 0) (vs := [(str r4.1), (iq r8.1), l15v4_2]) (cs' := [(str r4.1), (iq r8.1), l15v4_2]) rfl rfl rfl sz49 (cv_rfl rfl) rfl (co_val rfl (co_val rfl (co_own 1 rfl co_nil))) (Nat.le_of_ble_eq_true rfl) rfl rfl ?_
        refine al_as rfl rfl ?_
        refine al_nt ?_
        refine aw_ret ?_
        refine aq_then_ret ?_
        refine aq_block_ret ?_
        refine aq_then_ret ?_
        refine aq_then_ret ?_
        refine aq_block_ret ?_
        refine aq_then_ret ?_
        refine aq_freeze 1 rfl rfl ?_
        obtain rfl := Option.some.inj h
        exact fn_ret l15v4_2 [] [0] rfl rfl rfl rfl (resC rfl (resB (i := 0) rfl rfl Tryz.underlying49 sz49 rfl rfl rfl (resT rfl (resN))) rfl) rfl rfl rfl (by decide)
       ·replace h := bif_f hb24 h
        refine aw_skip ?_
        refine aq_tr ?_
        refine al_mv rfl rfl ?_
        refine al_mv rfl rfl ?_
        obtain ⟨hc25, h⟩ := req_some h
        refine al_val (ov_strIdx hc25.1 hc25.2 Tryz.underlying9 rfl rfl rfl) ?_
        refine al_val (ov_convInt (by rw [Tryz.underlying5]; rfl) Tryz.underlying3 rfl rfl) ?_
        refine al_val (ov_fieldA (p := 1) rfl Tryz.underlying57 rfl sz3 rfl rfl rfl) ?_
        refine al_store (i := 3) (vs := [(iq (wq (En.bAt l15s0 r21.2.1)))]) (cs' := [(str r21.1), (iq (wq (En.bAt l15s0 r21.2.1))), (iq (0 : Int)), (iq (0 : Int)), (str ([] : List UInt8))]) rfl rfl rfl sz3 (cv_rfl rfl) rfl (co_val rfl co_nil) (Nat.le_of_ble_eq_true rfl) rfl rfl ?_
        refine al_nt ?_
        refine aw_seq ?_
        refine aw_sr ?_
        refine al_mv rfl rfl ?_
        refine al_mv rfl rfl ?_
        refine al_in rfl rfl rfl rfl ?_
        obtain ⟨hc26, h⟩ := req_some h
        refine al_val (ov_strFrom hc26.1 hc26.2 Tryz.underlying9 rfl rfl rfl) ?_
        obtain ⟨r28, hc27, h⟩ := opt_some h
        refine al_call (vs := [(str (l15s0.drop ((wq (r21.2.1 + (1 : Int)))).toNat)), (uq (1099511627776 : Int))]) (f_lumref_numberAt_ok fu (l15s0.drop ((wq (r21.2.1 + (1 : Int)))).toNat) (1099511627776 : Int) hc27) [] [] [0, 1, 2, 3] pre_nil rfl (by simp) (by decide) (.inl rfl) rfl Tryz.func64 rfl rfl rfl (fun _ => ?_)
        refine al_mv rfl rfl ?_
        refine al_ex rfl rfl rfl ?_
        refine al_ex rfl rfl rfl ?_
        refine al_ex rfl rfl rfl ?_
        refine al_val (ov_fieldA (p := 2) rfl Tryz.underlying57 rfl sz3 rfl rfl rfl) ?_
        refine al_store (i := 3) (vs := [(iq r28.1)]) (cs' := [(str r21.1), (iq (wq (En.bAt l15s0 r21.2.1))), (iq r28.1), (iq (0 : Int)), (str ([] : List UInt8))]) rfl rfl rfl sz3 (cv_rfl rfl) rfl (co_val rfl co_nil) (Nat.le_of_ble_eq_true rfl) rfl rfl ?_
        refine al_as rfl rfl ?_
        refine al_as rfl rfl ?_
        refine al_nt ?_
        refine aw_sr ?_
        refine al_mv rfl rfl ?_
        refine al_in rfl rfl rfl rfl ?_
        refine al_nt ?_
        refine aw_cond rfl (fun hb29 => ?_) (fun hb29 => ?_)
        ·replace h := bif_t hb29 h
         refine aw_sr ?_
         refine al_val (ov_load (i := 2) (v := (ag [(str r4.1), (iq r8.1), l15v4_2])) rfl rfl Tryz.underlying49 sz49 rfl rfl rfl rfl) ?_
         refine al_store (i := 0) (vs := [(str r4.1), (iq r8.1), l15v4_2]) (cs' := [(str r4.1), (iq r8.1), l15v4_2]) rfl rfl rfl sz49 (cv_rfl rfl) rfl (co_val rfl (co_val rfl (co_own 1 rfl co_nil))) (Nat.le_of_ble_eq_true rfl) rfl rfl ?_
         refine al_as rfl rfl ?_
         refine al_nt ?_
         refine aw_ret ?_
         refine aq_then_ret ?_
         refine aq_block_ret ?_
         refine aq_then_ret ?_
         refine aq_then_ret ?_
         refine aq_block_ret ?_
         refine aq_then_ret ?_
         refine aq_freeze 1 rfl rfl ?_
         obtain rfl := Option.some.inj h
         exact fn_ret l15v4_2 [] [0] rfl rfl rfl rfl (resC rfl (resB (i := 0) rfl rfl Tryz.underlying49 sz49 rfl rfl rfl (resT rfl (resN))) rfl) rfl rfl rfl (by decide)
        ·replace h := bif_f hb29 h
         refine aw_skip ?_
         refine aq_then ?_
         refine aw_seq ?_
         refine aw_sr ?_
         refine al_mv rfl rfl ?_
         obtain ⟨r31, hc30, h⟩ := opt_some h
         refine al_call (vs := [(str r28.2.1)]) (f_lumref_GetInt_ok fu r28.2.1 hc30) [] [] [0, 1, 2, 3] pre_nil rfl (by simp) (by decide) (.inl rfl) rfl Tryz.func65 rfl rfl rfl (fun _ => ?_)
         refine al_mv rfl rfl ?_
         refine al_ex rfl rfl rfl ?_
         refine al_ex rfl rfl rfl ?_
         refine al_ex rfl rfl rfl ?_
         refine al_val (ov_fieldA (p := 3) rfl Tryz.underlying57 rfl sz3 rfl rfl rfl) ?_
         refine al_store (i := 3) (vs := [(iq r31.1)]) (cs' := [(str r21.1), (iq (wq (En.bAt l15s0 r21.2.1))), (iq r28.1), (iq r31.1), (str ([] : List UInt8))]) rfl rfl rfl sz3 (cv_rfl rfl) rfl (co_val rfl co_nil) (Nat.le_of_ble_eq_true rfl) rfl rfl ?_
         refine al_as rfl rfl ?_
         refine al_as rfl rfl ?_
         refine al_nt ?_
         refine aw_sr ?_
         refine al_mv rfl rfl ?_
         refine al_in rfl rfl rfl rfl ?_
         refine al_nt ?_
         refine aw_cond rfl (fun hb32 => ?_) (fun hb32 => ?_)
         ·replace h := bif_t hb32 h
          refine aw_sr ?_
          refine al_val (ov_load (i := 2) (v := (ag [(str r4.1), (iq r8.1), l15v4_2])) rfl rfl Tryz.underlying49 sz49 rfl rfl rfl rfl) ?_
          refine al_store (i := 0) (vs := [(str r4.1), (iq r8.1), l15v4_2]) (cs' := [(str r4.1), (iq r8.1), l15v4_2]) rfl rfl rfl sz49 (cv_rfl rfl) rfl (co_val rfl (co_val rfl (co_own 1 rfl co_nil))) (Nat.le_of_ble_eq_true rfl) rfl rfl ?_
          refine al_as rfl rfl ?_
          refine al_nt ?_
          refine aw_ret ?_
          refine aq_then_ret ?_
          refine aq_block_ret ?_
          refine aq_then_ret ?_
          refine aq_then_ret ?_
          refine aq_block_ret ?_
          refine aq_then_ret ?_
          refine aq_freeze 1 rfl rfl ?_
          obtain rfl := Option.some.inj h
          exact fn_ret l15v4_2 [] [0] rfl rfl rfl rfl (resC rfl (resB (i := 0) rfl rfl Tryz.underlying49 sz49 rfl rfl rfl (resT rfl (resN))) rfl) rfl rfl rfl (by decide)
         ·replace h := bif_f hb32 h
          refine aw_skip ?_
          refine aq_tr ?_
          refine al_as rfl rfl ?_
          refine al_nt ?_
          refine aw_seq ?_
          refine aw_sr ?_
          refine al_mv rfl rfl ?_
          refine al_mv rfl rfl ?_
          obtain ⟨hc33, h⟩ := req_some h
          refine al_val (ov_strFrom hc33.1 hc33.2 Tryz.underlying9 rfl rfl rfl) ?_
          obtain ⟨r35, hc34, h⟩ := opt_some h
          refine al_call (vs := [(str (r28.2.1.drop (r31.2.1).toNat)), (uq (4096 : Int))]) (f_lumref_numberAt_ok fu (r28.2.1.drop (r31.2.1).toNat) (4096 : Int) hc34) [] [] [0, 1, 2, 3] pre_nil rfl (by simp) (by decide) (.inl rfl) rfl Tryz.func64 rfl rfl rfl (fun _ => ?_)
          refine al_mv rfl rfl ?_
          refine al_ex rfl rfl rfl ?_
          refine al_ex rfl rfl rfl ?_
          refine al_ex rfl rfl rfl ?_
          refine al_as rfl rfl ?_
          refine al_as rfl rfl ?_
          refine al_as rfl rfl ?_
          refine al_nt ?_
          obtain ⟨kk37, hkk37, h⟩ := lt_some h
          refine aw_seq_join (ι := Bool) (fun i => (memOf w0 Z0 [] [(oBox g1 49 [(str ([] : List UInt8)), (iq (0 : Int)), nS]), (oRow l15v4_2 57 tyS_api_Item l15x4_2), (oBox g2 49 [(str r4.1), (iq r8.1), l15v4_2]), (oBox g19 57 [(str r21.1), (iq (wq (En.bAt l15s0 r21.2.1))), (iq r28.1), (iq r31.1), (str ([] : List UInt8))])] [])) (fun i => (tab [(0, (str r35.2.1)), (2, (pq g1)), (4, (pq g2)), (9, (pq g19)), (10, (iq r35.1)), (44, (iq r11.1)), (45, (iq l15i45)), (106, (bool i))])) (fun i => kk37 i = some r) ?_ ?_
          ·rintro j36b106 h
           have h : kk37 j36b106 = some r := h
           rw [hkk37] at h
           dsimp only at h
           clear hkk37
           refine aw_show (m := (memOf w0 Z0 [] [(oBox g1 49 [(str ([] : List UInt8)), (iq (0 : Int)), nS]), (oRow l15v4_2 57 tyS_api_Item l15x4_2), (oBox g2 49 [(str r4.1), (iq r8.1), l15v4_2]), (oBox g19 57 [(str r21.1), (iq (wq (En.bAt l15s0 r21.2.1))), (iq r28.1), (iq r31.1), (str ([] : List UInt8))])] [])) (S := (tab [(0, (str r35.2.1)), (2, (pq g1)), (4, (pq g2)), (9, (pq g19)), (10, (iq r35.1)), (44, (iq r11.1)), (45, (iq l15i45)), (106, (bool j36b106))])) ?_
           refine aw_cond rfl (fun hb38 => ?_) (fun hb38 => ?_)
           ·replace h := bif_t hb38 h
            refine aw_sr ?_
            refine al_val (ov_load (i := 2) (v := (ag [(str r4.1), (iq r8.1), l15v4_2])) rfl rfl Tryz.underlying49 sz49 rfl rfl rfl rfl) ?_
            refine al_store (i := 0) (vs := [(str r4.1), (iq r8.1), l15v4_2]) (cs' := [(str r4.1), (iq r8.1), l15v4_2]) rfl rfl rfl sz49 (cv_rfl rfl) rfl (co_val rfl (co_val rfl (co_own 1 rfl co_nil))) (Nat.le_of_ble_eq_true rfl) rfl rfl ?_
            refine al_as rfl rfl ?_
            refine al_nt ?_
            refine aw_ret ?_
            refine aq_then_ret ?_
            refine aq_block_ret ?_
            refine aq_then_ret ?_
            refine aq_then_ret ?_
            refine aq_block_ret ?_
            refine aq_then_ret ?_
            refine aq_freeze 1 rfl rfl ?_
            obtain rfl := Option.some.inj h
            exact fn_ret l15v4_2 [] [0] rfl rfl rfl rfl (resC rfl (resB (i := 0) rfl rfl Tryz.underlying49 sz49 rfl rfl rfl (resT rfl (resN))) rfl) rfl rfl rfl (by decide)
           ·replace h := bif_f hb38 h
            refine aw_skip ?_
            refine aq_then ?_
            refine aw_seq ?_
            obtain ⟨hc39, h⟩ := req_some h
            obtain ⟨hc40, h⟩ := req_some h
            refine aw_region_open [⟨0, 108, Unit, fun _ => { val := (str r35.2.1) }⟩, ⟨1, 109, Unit, fun _ => { val := (iq r35.1) }⟩, ⟨2, 110, Unit, fun _ => { val := (str (r35.2.1.take (r35.1).toNat)) }⟩, ⟨3, 111, Unit, fun _ => { val := (str r35.2.1) }⟩, ⟨4, 112, Unit, fun _ => { val := (iq r35.1) }⟩, ⟨5, 113, Unit, fun _ => { val := (str (r35.2.1.drop (r35.1).toNat)) }⟩, ⟨6, 114, Unit, fun _ => { val := (ptr g19 4) }⟩] (tab [(0, (str r35.2.1)), (2, (pq g1)), (4, (pq g2)), (9, (pq g19)), (10, (iq r35.1)), (44, (iq r11.1)), (45, (iq l15i45))]) mixed (fun a hs => hs.tab _ (allT_mem ⟨rfl, rfl, rfl, rfl, rfl, rfl, rfl, trivial⟩)) ?_
            refine ta_show (m := (memOf w0 Z0 [] [(oBox g1 49 [(str ([] : List UInt8)), (iq (0 : Int)), nS]), (oRow l15v4_2 57 tyS_api_Item l15x4_2), (oBox g2 49 [(str r4.1), (iq r8.1), l15v4_2]), (oBox g19 57 [(str r21.1), (iq (wq (En.bAt l15s0 r21.2.1))), (iq r28.1), (iq r31.1), (str ([] : List UInt8))])] [])) (S := (tab [(0, (str r35.2.1)), (2, (pq g1)), (4, (pq g2)), (9, (pq g19)), (10, (iq r35.1)), (44, (iq r11.1)), (45, (iq l15i45))])) ?_
            refine ta_step 7 _ [0, 1, 2, 3, 4, 5, 6] [108, 109, 110, 111, 112, 113, 114] [0, 1, 2, 6] [] [⟨0, 108, Unit, fun _ => { val := (str r35.2.1) }⟩, ⟨1, 109, Unit, fun _ => { val := (iq r35.1) }⟩, ⟨2, 110, Unit, fun _ => { val := (str (r35.2.1.take (r35.1).toNat)) }⟩, ⟨6, 114, Unit, fun _ => { val := (ptr g19 4) }⟩] [⟨3, 111, Unit, fun _ => { val := (str r35.2.1) }⟩, ⟨4, 112, Unit, fun _ => { val := (iq r35.1) }⟩, ⟨5, 113, Unit, fun _ => { val := (str (r35.2.1.drop (r35.1).toNat)) }⟩] rfl rfl rfl (by kernel_rfl) rfl rfl rfl ⟨⟨_, rfl, [], rfl, by
 intro X_ Y_ F_ K_ hK_
 refine al_show (m := Mem.plus (memOf w0 Z0 [] [(oBox g1 49 [(str ([] : List UInt8)), (iq (0 : Int)), nS]), (oRow l15v4_2 57 tyS_api_Item l15x4_2), (oBox g2 49 [(str r4.1), (iq r8.1), l15v4_2]), (oBox g19 57 [(str r21.1), (iq (wq (En.bAt l15s0 r21.2.1))), (iq r28.1), (iq r31.1), (str ([] : List UInt8))])] []) X_ Y_) (S := over (tab [(0, (str r35.2.1)), (2, (pq g1)), (4, (pq g2)), (9, (pq g19)), (10, (iq r35.1)), (44, (iq r11.1)), (45, (iq l15i45))]) F_) ?_
 refine al_mv rfl rfl ?_
 refine al_nil ?_
 exact fr_fin hK_ ()⟩, ⟨_, rfl, [], rfl, by
 intro X_ Y_ F_ K_ hK_
 refine al_show (m := Mem.plus (memOf w0 Z0 [] [(oBox g1 49 [(str ([] : List UInt8)), (iq (0 : Int)), nS]), (oRow l15v4_2 57 tyS_api_Item l15x4_2), (oBox g2 49 [(str r4.1), (iq r8.1), l15v4_2]), (oBox g19 57 [(str r21.1), (iq (wq (En.bAt l15s0 r21.2.1))), (iq r28.1), (iq r31.1), (str ([] : List UInt8))])] []) X_ Y_) (S := over (tab [(0, (str r35.2.1)), (2, (pq g1)), (4, (pq g2)), (9, (pq g19)), (10, (iq r35.1)), (44, (iq r11.1)), (45, (iq l15i45))]) F_) ?_
 refine al_mv rfl rfl ?_
 refine al_nil ?_
 exact fr_fin hK_ ()⟩, ⟨_, rfl, [0, 1], rfl, by
 intro _
 intro _
 intro X_ Y_ F_ K_ hK_
 refine al_show (m := Mem.plus (memOf w0 Z0 [] [(oBox g1 49 [(str ([] : List UInt8)), (iq (0 : Int)), nS]), (oRow l15v4_2 57 tyS_api_Item l15x4_2), (oBox g2 49 [(str r4.1), (iq r8.1), l15v4_2]), (oBox g19 57 [(str r21.1), (iq (wq (En.bAt l15s0 r21.2.1))), (iq r28.1), (iq r31.1), (str ([] : List UInt8))])] []) X_ Y_) (S := over (put (put (tab [(0, (str r35.2.1)), (2, (pq g1)), (4, (pq g2)), (9, (pq g19)), (10, (iq r35.1)), (44, (iq r11.1)), (45, (iq l15i45))]) 108 (str r35.2.1)) 109 (iq r35.1)) F_) ?_
 refine al_val (ov_strTo hc39.1 hc39.2 Tryz.underlying9 rfl rfl rfl) ?_
 refine al_nil ?_
 exact fr_fin hK_ ()⟩, ⟨_, rfl, [], rfl, by
 intro X_ Y_ F_ K_ hK_
 refine al_show (m := Mem.plus (memOf w0 Z0 [] [(oBox g1 49 [(str ([] : List UInt8)), (iq (0 : Int)), nS]), (oRow l15v4_2 57 tyS_api_Item l15x4_2), (oBox g2 49 [(str r4.1), (iq r8.1), l15v4_2]), (oBox g19 57 [(str r21.1), (iq (wq (En.bAt l15s0 r21.2.1))), (iq r28.1), (iq r31.1), (str ([] : List UInt8))])] []) X_ Y_) (S := over (tab [(0, (str r35.2.1)), (2, (pq g1)), (4, (pq g2)), (9, (pq g19)), (10, (iq r35.1)), (44, (iq r11.1)), (45, (iq l15i45))]) F_) ?_
 refine al_mv rfl rfl ?_
 refine al_nil ?_
 exact fr_fin hK_ ()⟩, ⟨_, rfl, [], rfl, by
 intro X_ Y_ F_ K_ hK_
 refine al_show (m := Mem.plus (memOf w0 Z0 [] [(oBox g1 49 [(str ([] : List UInt8)), (iq (0 : Int)), nS]), (oRow l15v4_2 57 tyS_api_Item l15x4_2), (oBox g2 49 [(str r4.1), (iq r8.1), l15v4_2]), (oBox g19 57 [(str r21.1), (iq (wq (En.bAt l15s0 r21.2.1))), (iq r28.1), (iq r31.1), (str ([] : List UInt8))])] []) X_ Y_) (S := over (tab [(0, (str r35.2.1)), (2, (pq g1)), (4, (pq g2)), (9, (pq g19)), (10, (iq r35.1)), (44, (iq r11.1)), (45, (iq l15i45))]) F_) ?_
 refine al_mv rfl rfl ?_
 refine al_nil ?_
 exact fr_fin hK_ ()⟩, ⟨_, rfl, [3, 4], rfl, by
 intro _
 intro _
 intro X_ Y_ F_ K_ hK_
 refine al_show (m := Mem.plus (memOf w0 Z0 [] [(oBox g1 49 [(str ([] : List UInt8)), (iq (0 : Int)), nS]), (oRow l15v4_2 57 tyS_api_Item l15x4_2), (oBox g2 49 [(str r4.1), (iq r8.1), l15v4_2]), (oBox g19 57 [(str r21.1), (iq (wq (En.bAt l15s0 r21.2.1))), (iq r28.1), (iq r31.1), (str ([] : List UInt8))])] []) X_ Y_) (S := over (put (put (tab [(0, (str r35.2.1)), (2, (pq g1)), (4, (pq g2)), (9, (pq g19)), (10, (iq r35.1)), (44, (iq r11.1)), (45, (iq l15i45))]) 111 (str r35.2.1)) 112 (iq r35.1)) F_) ?_
 refine al_val (ov_strFrom hc40.1 hc40.2 Tryz.underlying9 rfl rfl rfl) ?_
 refine al_nil ?_
 exact fr_fin hK_ ()⟩, ⟨_, rfl, [0, 1, 2], rfl, by
 intro _
 intro _
 intro _
 intro X_ Y_ F_ K_ hK_
 refine al_show (m := Mem.plus (memOf w0 Z0 [] [(oBox g1 49 [(str ([] : List UInt8)), (iq (0 : Int)), nS]), (oRow l15v4_2 57 tyS_api_Item l15x4_2), (oBox g2 49 [(str r4.1), (iq r8.1), l15v4_2]), (oBox g19 57 [(str r21.1), (iq (wq (En.bAt l15s0 r21.2.1))), (iq r28.1), (iq r31.1), (str ([] : List UInt8))])] []) X_ Y_) (S := over (put (put (put (tab [(0, (str r35.2.1)), (2, (pq g1)), (4, (pq g2)), (9, (pq g19)), (10, (iq r35.1)), (44, (iq r11.1)), (45, (iq l15i45))]) 108 (str r35.2.1)) 109 (iq r35.1)) 110 (str (r35.2.1.take (r35.1).toNat))) F_) ?_
 refine al_val (ov_fieldA (p := 4) rfl Tryz.underlying57 rfl sz9 rfl rfl rfl) ?_
 refine al_nil ?_
 exact fr_fin hK_ ()⟩, trivial⟩ ?_
            intro _
            intro _
            intro _
            intro _
            intro X_ Y_ F_ K_ hK_
            refine al_show (m := Mem.plus (memOf w0 Z0 [] [(oBox g1 49 [(str ([] : List UInt8)), (iq (0 : Int)), nS]), (oRow l15v4_2 57 tyS_api_Item l15x4_2), (oBox g2 49 [(str r4.1), (iq r8.1), l15v4_2]), (oBox g19 57 [(str r21.1), (iq (wq (En.bAt l15s0 r21.2.1))), (iq r28.1), (iq r31.1), (str ([] : List UInt8))])] []) X_ Y_) (S := over (put (put (put (put (tab [(0, (str r35.2.1)), (2, (pq g1)), (4, (pq g2)), (9, (pq g19)), (10, (iq r35.1)), (44, (iq r11.1)), (45, (iq l15i45))]) 108 (str r35.2.1)) 109 (iq r35.1)) 110 (str (r35.2.1.take (r35.1).toNat))) 114 (ptr g19 4)) F_) ?_
            refine al_store (i := 3) (vs := [(str (r35.2.1.take (r35.1).toNat))]) (cs' := [(str r21.1), (iq (wq (En.bAt l15s0 r21.2.1))), (iq r28.1), (iq r31.1), (str (r35.2.1.take (r35.1).toNat))]) rfl rfl rfl sz9 (cv_rfl rfl) rfl (co_val rfl co_nil) (Nat.le_of_ble_eq_true rfl) rfl rfl ?_
            refine al_nil ?_
            refine aq_show (m := Mem.plus (memOf w0 Z0 [] [(oBox g1 49 [(str ([] : List UInt8)), (iq (0 : Int)), nS]), (oRow l15v4_2 57 tyS_api_Item l15x4_2), (oBox g2 49 [(str r4.1), (iq r8.1), l15v4_2]), (oBox g19 57 [(str r21.1), (iq (wq (En.bAt l15s0 r21.2.1))), (iq r28.1), (iq r31.1), (str (r35.2.1.take (r35.1).toNat))])] []) X_ Y_) ?_
            refine aq_next hK_ [0, 1, 2, 3] [] [(0, (str r35.2.1)), (2, (pq g1)), (4, (pq g2)), (9, (pq g19)), (10, (iq r35.1)), (44, (iq r11.1)), (45, (iq l15i45))] [111, 112, 113] [] rfl rfl (by decide) rfl ⟨rfl, rfl, rfl, rfl, rfl, rfl, rfl, trivial⟩ ⟨rfl, rfl, rfl, trivial⟩ ?_
            clear hK_ K_ F_ X_ Y_
            refine ta_show (m := (memOf w0 Z0 [] [(oBox g1 49 [(str ([] : List UInt8)), (iq (0 : Int)), nS]), (oRow l15v4_2 57 tyS_api_Item l15x4_2), (oBox g2 49 [(str r4.1), (iq r8.1), l15v4_2]), (oBox g19 57 [(str r21.1), (iq (wq (En.bAt l15s0 r21.2.1))), (iq r28.1), (iq r31.1), (str (r35.2.1.take (r35.1).toNat))])] [])) (S := (tab [(0, (str r35.2.1)), (2, (pq g1)), (4, (pq g2)), (9, (pq g19)), (10, (iq r35.1)), (44, (iq r11.1)), (45, (iq l15i45))])) ?_
            refine ta_step 8 _ [3, 4, 5] [111, 112, 113] [3, 4, 5] [] [⟨3, 111, Unit, fun _ => { val := (str r35.2.1) }⟩, ⟨4, 112, Unit, fun _ => { val := (iq r35.1) }⟩, ⟨5, 113, Unit, fun _ => { val := (str (r35.2.1.drop (r35.1).toNat)) }⟩] [] rfl rfl rfl (by kernel_rfl) rfl rfl rfl ⟨⟨_, rfl, [], rfl, by
 intro X_ Y_ F_ K_ hK_
 refine al_show (m := Mem.plus (memOf w0 Z0 [] [(oBox g1 49 [(str ([] : List UInt8)), (iq (0 : Int)), nS]), (oRow l15v4_2 57 tyS_api_Item l15x4_2), (oBox g2 49 [(str r4.1), (iq r8.1), l15v4_2]), (oBox g19 57 [(str r21.1), (iq (wq (En.bAt l15s0 r21.2.1))), (iq r28.1), (iq r31.1), (str (r35.2.1.take (r35.1).toNat))])] []) X_ Y_) (S := over (tab [(0, (str r35.2.1)), (2, (pq g1)), (4, (pq g2)), (9, (pq g19)), (10, (iq r35.1)), (44, (iq r11.1)), (45, (iq l15i45))]) F_) ?_
 refine al_mv rfl rfl ?_
 refine al_nil ?_
 exact fr_fin hK_ ()⟩, ⟨_, rfl, [], rfl, by
 intro X_ Y_ F_ K_ hK_
 refine al_show (m := Mem.plus (memOf w0 Z0 [] [(oBox g1 49 [(str ([] : List UInt8)), (iq (0 : Int)), nS]), (oRow l15v4_2 57 tyS_api_Item l15x4_2), (oBox g2 49 [(str r4.1), (iq r8.1), l15v4_2]), (oBox g19 57 [(str r21.1), (iq (wq (En.bAt l15s0 r21.2.1))), (iq r28.1), (iq r31.1), (str (r35.2.1.take (r35.1).toNat))])] []) X_ Y_) (S := over (tab [(0, (str r35.2.1)), (2, (pq g1)), (4, (pq g2)), (9, (pq g19)), (10, (iq r35.1)), (44, (iq r11.1)), (45, (iq l15i45))]) F_) ?_
 refine al_mv rfl rfl ?_
 refine al_nil ?_
 exact fr_fin hK_ ()⟩, ⟨_, rfl, [0, 1], rfl, by
 intro _
 intro _
 intro X_ Y_ F_ K_ hK_
 refine al_show (m := Mem.plus (memOf w0 Z0 [] [(oBox g1 49 [(str ([] : List UInt8)), (iq (0 : Int)), nS]), (oRow l15v4_2 57 tyS_api_Item l15x4_2), (oBox g2 49 [(str r4.1), (iq r8.1), l15v4_2]), (oBox g19 57 [(str r21.1), (iq (wq (En.bAt l15s0 r21.2.1))), (iq r28.1), (iq r31.1), (str (r35.2.1.take (r35.1).toNat))])] []) X_ Y_) (S := over (put (put (tab [(0, (str r35.2.1)), (2, (pq g1)), (4, (pq g2)), (9, (pq g19)), (10, (iq r35.1)), (44, (iq r11.1)), (45, (iq l15i45))]) 111 (str r35.2.1)) 112 (iq r35.1)) F_) ?_
 refine al_val (ov_strFrom hc40.1 hc40.2 Tryz.underlying9 rfl rfl rfl) ?_
 refine al_nil ?_
 exact fr_fin hK_ ()⟩, trivial⟩ ?_
            intro _
            intro _
            intro _
            intro X_ Y_ F_ K_ hK_
            refine al_show (m := Mem.plus (memOf w0 Z0 [] [(oBox g1 49 [(str ([] : List UInt8)), (iq (0 : Int)), nS]), (oRow l15v4_2 57 tyS_api_Item l15x4_2), (oBox g2 49 [(str r4.1), (iq r8.1), l15v4_2]), (oBox g19 57 [(str r21.1), (iq (wq (En.bAt l15s0 r21.2.1))), (iq r28.1), (iq r31.1), (str (r35.2.1.take (r35.1).toNat))])] []) X_ Y_) (S := over (put (put (put (tab [(0, (str r35.2.1)), (2, (pq g1)), (4, (pq g2)), (9, (pq g19)), (10, (iq r35.1)), (44, (iq r11.1)), (45, (iq l15i45))]) 111 (str r35.2.1)) 112 (iq r35.1)) 113 (str (r35.2.1.drop (r35.1).toNat))) F_) ?_
            refine al_as rfl rfl ?_
            refine al_nil ?_
            refine aq_show (m := Mem.plus (memOf w0 Z0 [] [(oBox g1 49 [(str ([] : List UInt8)), (iq (0 : Int)), nS]), (oRow l15v4_2 57 tyS_api_Item l15x4_2), (oBox g2 49 [(str r4.1), (iq r8.1), l15v4_2]), (oBox g19 57 [(str r21.1), (iq (wq (En.bAt l15s0 r21.2.1))), (iq r28.1), (iq r31.1), (str (r35.2.1.take (r35.1).toNat))])] []) X_ Y_) ?_
            refine aq_next hK_ [0, 1, 2, 3] [] [(0, (str (r35.2.1.drop (r35.1).toNat))), (2, (pq g1)), (4, (pq g2)), (9, (pq g19)), (44, (iq r11.1)), (45, (iq l15i45))] [] [] rfl rfl (by decide) rfl ⟨rfl, rfl, rfl, rfl, rfl, rfl, trivial⟩ trivial ?_
            clear hK_ K_ F_ X_ Y_
            refine ta_show (m := (memOf w0 Z0 [] [(oBox g1 49 [(str ([] : List UInt8)), (iq (0 : Int)), nS]), (oRow l15v4_2 57 tyS_api_Item l15x4_2), (oBox g2 49 [(str r4.1), (iq r8.1), l15v4_2]), (oBox g19 57 [(str r21.1), (iq (wq (En.bAt l15s0 r21.2.1))), (iq r28.1), (iq r31.1), (str (r35.2.1.take (r35.1).toNat))])] [])) (S := (tab [(0, (str (r35.2.1.drop (r35.1).toNat))), (2, (pq g1)), (4, (pq g2)), (9, (pq g19)), (44, (iq r11.1)), (45, (iq l15i45))])) ?_
            refine ta_end [] [] rfl rfl (by kernel_rfl) rfl trivial ?_
            refine aq_show (m := (memOf w0 Z0 [] [(oBox g1 49 [(str ([] : List UInt8)), (iq (0 : Int)), nS]), (oRow l15v4_2 57 tyS_api_Item l15x4_2), (oBox g2 49 [(str r4.1), (iq r8.1), l15v4_2]), (oBox g19 57 [(str r21.1), (iq (wq (En.bAt l15s0 r21.2.1))), (iq r28.1), (iq r31.1), (str (r35.2.1.take (r35.1).toNat))])] [])) (S := (tab [(0, (str (r35.2.1.drop (r35.1).toNat))), (2, (pq g1)), (4, (pq g2)), (9, (pq g19)), (44, (iq r11.1)), (45, (iq l15i45))])) ?_
            refine aq_then ?_
            refine aw_region ?_
            refine al_val (ov_fieldA (p := 2) rfl Tryz.underlying49 rfl sz34 rfl rfl rfl) ?_
            refine al_val (ov_load (i := 2) (v := l15v4_2) rfl rfl Tryz.underlying34 sz34 rfl rfl rfl rfl) ?_
            refine al_val (ov_load (i := 3) (v := (ag [(str r21.1), (iq (wq (En.bAt l15s0 r21.2.1))), (iq r28.1), (iq r31.1), (str (r35.2.1.take (r35.1).toNat))])) rfl rfl Tryz.underlying57 sz57 rfl rfl rfl rfl) ?_
            refine al_buildSlice (τ := tyS_api_Item) (e := 57) (k := 1) (sz := 0) (by_ := 0) (z := undef) (cs := [(str r21.1), (iq (wq (En.bAt l15s0 r21.2.1))), (iq r28.1), (iq r31.1), (str (r35.2.1.take (r35.1).toNat))]) (xs := [(S_api_Item.mk r21.1 (wq (En.bAt l15s0 r21.2.1)) r28.1 r31.1 (r35.2.1.take (r35.1).toNat))]) rfl (by decide) (fun w a hm hs => ⟨([(str r21.1), (iq (wq (En.bAt l15s0 r21.2.1))), (iq r28.1), (iq r31.1), (str (r35.2.1.take (r35.1).toNat))]).toArray, rfl, by simp only [List.map_toArray, List.map_cons, List.map_nil, hs.ev (x := .tmp 117) rfl]; exact run_bs [(ag [(str r21.1), (iq (wq (En.bAt l15s0 r21.2.1))), (iq r28.1), (iq r31.1), (str (r35.2.1.take (r35.1).toNat))])] [(str r21.1), (iq (wq (En.bAt l15s0 r21.2.1))), (iq r28.1), (iq r31.1), (str (r35.2.1.take (r35.1).toNat))] Tryz.underlying34 to57 rfl rfl (bs_cons (l := [(str r21.1), (iq (wq (En.bAt l15s0 r21.2.1))), (iq r28.1), (iq r31.1), (str (r35.2.1.take (r35.1).toNat))]) (cs := []) (cv_rfl rfl) rfl bs_nil) hm⟩) (fun hm => ⟨_, _, rfl, (fun _ => mkS_api_Item rfl) hm, rfl⟩) rfl (fun v41 => ?_)
            obtain ⟨hc42, h⟩ := req_some h
            refine al_append 2 hc42.1 hc42.2 rfl (src_own (i := 2) 0 rfl) rfl rfl Tryz.underlying34 to57 rfl rfl rfl (fun v43 => ?_)
            refine al_val (ov_fieldA (p := 2) rfl Tryz.underlying49 rfl sz34 rfl rfl rfl) ?_
            refine al_store (i := 3) (vs := [v43]) (cs' := [(str r4.1), (iq r8.1), v43]) rfl rfl rfl sz34 (cv_own 2 rfl) rfl (co_own 2 rfl co_nil) (Nat.le_of_ble_eq_true rfl) rfl rfl ?_
            refine al_nil ?_
            refine aq_block ?_
            refine aq_then ?_
            refine aw_region ?_
            refine al_in rfl rfl rfl rfl ?_
            refine al_mv rfl rfl ?_
            refine al_nil ?_
            exact aq_again k16 ((r35.2.1.drop (r35.1).toNat), v43, (l15x4_2 ++ ([(S_api_Item.mk r21.1 (wq (En.bAt l15s0 r21.2.1)) r28.1 r31.1 (r35.2.1.take (r35.1).toNat))])), (wq (l15i45 + (1 : Int)))) (Nat.lt_succ_self _) h (fun w a hm hs => norm hm hs [1, 2, 3] [] [(0, (str (r35.2.1.drop (r35.1).toNat))), (2, (pq g1)), (4, (pq g2)), (44, (iq r11.1)), (45, (iq (wq (l15i45 + (1 : Int)))))] (by decide) ⟨rfl, rfl, rfl, rfl, rfl, trivial⟩)
          ·clear hkk37
           refine aw_state (m' := (memOf w0 Z0 [] [(oBox g1 49 [(str ([] : List UInt8)), (iq (0 : Int)), nS]), (oRow l15v4_2 57 tyS_api_Item l15x4_2), (oBox g2 49 [(str r4.1), (iq r8.1), l15v4_2]), (oBox g19 57 [(str r21.1), (iq (wq (En.bAt l15s0 r21.2.1))), (iq r28.1), (iq r31.1), (str ([] : List UInt8))])] [])) (S' := (tab [(0, (str r35.2.1)), (2, (pq g1)), (4, (pq g2)), (7, (iq r35.2.2)), (9, (pq g19)), (10, (iq r35.1)), (44, (iq r11.1)), (45, (iq l15i45))])) ?_ (fun w a hm hs => norm hm hs [0, 1, 2, 3] [] [(0, (str r35.2.1)), (2, (pq g1)), (4, (pq g2)), (7, (iq r35.2.2)), (9, (pq g19)), (10, (iq r35.1)), (44, (iq r11.1)), (45, (iq l15i45))] (by decide) ⟨rfl, rfl, rfl, rfl, rfl, rfl, rfl, rfl, trivial⟩)
           refine aw_region ?_
           refine al_mv rfl rfl ?_
           refine al_in rfl rfl rfl rfl ?_
           refine al_mv rfl rfl ?_
           refine al_caseB 101 rfl (fun hb44 => ?_) (fun hb44 => ?_)
           ·replace h := bif_t hb44 h
            refine al_skip ?_
            refine al_skip ?_
            refine al_skip ?_
            refine al_skip ?_
            refine al_val (ov_pick_t rfl rfl rfl) ?_
            refine al_nil ?_
            exact aq_join true h (fun w a hm hs => norm hm hs [0, 1, 2, 3] [] [(0, (str r35.2.1)), (2, (pq g1)), (4, (pq g2)), (9, (pq g19)), (10, (iq r35.1)), (44, (iq r11.1)), (45, (iq l15i45)), (106, (bool true))] (by decide) ⟨rfl, rfl, rfl, rfl, rfl, rfl, rfl, rfl, trivial⟩)
           ·replace h := bif_f hb44 h
            refine al_mv rfl rfl ?_
            refine al_val (ov_strLen Tryz.underlying9 rfl rfl) ?_
            refine al_mv rfl rfl ?_
            refine al_in rfl rfl rfl rfl ?_
            refine al_val (ov_pick_f rfl rfl rfl) ?_
            refine al_nil ?_
            exact aq_join (decide ((r35.2.1.length : Int) < r35.1)) h (fun w a hm hs => norm hm hs [0, 1, 2, 3] [] [(0, (str r35.2.1)), (2, (pq g1)), (4, (pq g2)), (9, (pq g19)), (10, (iq r35.1)), (44, (iq r11.1)), (45, (iq l15i45)), (106, (bool (decide ((r35.2.1.length : Int) < r35.1))))] (by decide) ⟨rfl, rfl, rfl, rfl, rfl, rfl, rfl, rfl, trivial⟩)
      ·clear hkk23
       refine aw_region ?_
       refine al_mv rfl rfl ?_
       refine al_in rfl rfl rfl rfl ?_
       refine al_mv rfl rfl ?_
       refine al_caseB 56 rfl (fun hb45 => ?_) (fun hb45 => ?_)
       ·replace h := bif_t hb45 h
        refine al_skip ?_
        refine al_skip ?_
        refine al_skip ?_
        refine al_skip ?_
        refine al_val (ov_pick_t rfl rfl rfl) ?_
        refine al_nil ?_
        exact aq_join true h (fun w a hm hs => norm hm hs [1, 2, 3, 0] [] [(0, (str l15s0)), (2, (pq g1)), (4, (pq g2)), (6, (iq r21.2.1)), (9, (pq g19)), (44, (iq r11.1)), (45, (iq l15i45)), (61, (bool true))] (by decide) ⟨rfl, rfl, rfl, rfl, rfl, rfl, rfl, rfl, trivial⟩)
       ·replace h := bif_f hb45 h
        refine al_mv rfl rfl ?_
        refine al_val (ov_strLen Tryz.underlying9 rfl rfl) ?_
        refine al_mv rfl rfl ?_
        refine al_in rfl rfl rfl rfl ?_
        refine al_val (ov_pick_f rfl rfl rfl) ?_
        refine al_nil ?_
        exact aq_join ((l15s0.length : Int) == r21.2.1) h (fun w a hm hs => norm hm hs [1, 2, 3, 0] [] [(0, (str l15s0)), (2, (pq g1)), (4, (pq g2)), (6, (iq r21.2.1)), (9, (pq g19)), (44, (iq r11.1)), (45, (iq l15i45)), (61, (bool ((l15s0.length : Int) == r21.2.1)))] (by decide) ⟨rfl, rfl, rfl, rfl, rfl, rfl, rfl, rfl, trivial⟩)
     ·replace h := bif_f hb18 h
      refine aw_exit ?_
      refine aq_then_exit ?_
      refine aq_then_exit ?_
      refine aq_block_exit ?_
      exact aq_join (l15s0, l15v4_2, l15x4_2) h (fun w a hm hs => norm hm hs [0, 1, 2] [] [(0, (str l15s0)), (2, (pq g1)), (4, (pq g2))] (by decide) ⟨rfl, rfl, rfl, trivial⟩)
def f_lumref_OldRead_L14 (r2 : ((List (List UInt8)) × Int)) (kk5 : ((List S_api_Old) → Option ((List S_api_Old) × Int))) (fu : Nat) : Nat → (List S_api_Old) → Int → Option ((List S_api_Old) × Int)
  | 0, _, _ => none
  | k13 + 1, l12x6, l12i20 => (bif (decide (l12i20 < (r2.1.length : Int))) then (opt (at? r2.1 l12i20) fun (u16 : (List UInt8)) => (opt (f_lumref_oldRead fu u16) fun (r21 : (S_api_Old × Bool)) => (bif (!r21.2) then (some (([] : List S_api_Old), (4 : Int))) else (req (((l12x6.length + ([(S_api_Old.mk r21.1.Name r21.1.Time r21.1.World)]).length) * 48 : Nat) ≤ 140737488355328 ∧ l12x6.length + ([(S_api_Old.mk r21.1.Name r21.1.Time r21.1.World)]).length ≤ 9223372036854775807) (f_lumref_OldRead_L14 r2 kk5 fu k13 (l12x6 ++ ([(S_api_Old.mk r21.1.Name r21.1.Time r21.1.World)])) (IntKind.i64.wrap (l12i20 + (1 : Int)))))))) else (kk5 l12x6))
def f_lumref_OldRead (fu : Nat) (a0 : (List UInt8)) : Option ((List S_api_Old) × Int) := (opt (f_lumref_Scan fu a0) fun (r2 : ((List (List UInt8)) × Int)) => (lt (fun (j4x6 : (List S_api_Old)) => (opt (f_lumref_OldPack fu j4x6) fun (r7 : ((List UInt8) × Int)) => (lt (fun (j8b47 : Bool) => (bif j8b47 then (some (([] : List S_api_Old), (4 : Int))) else (some (j4x6, (0 : Int))))) fun (kk9 : Bool → Option ((List S_api_Old) × Int)) => (bif (r7.2 != (0 : Int)) then (kk9 true) else (kk9 (!(r7.1 == a0))))))) fun (kk5 : (List S_api_Old) → Option ((List S_api_Old) × Int)) => (f_lumref_OldRead_L14 r2 kk5 fu fu ([] : List S_api_Old) (0 : Int))))
set_option maxHeartbeats 2000000 in
set_option maxRecDepth 100000 in
theorem f_lumref_OldRead_ok (fu : Nat) (a0 : (List UInt8)) {r : ((List S_api_Old) × Int)} (h : f_lumref_OldRead fu a0 = some r) : FnOk Tryz.prog 8 [(str a0)] [uMax] [] (fun (i : Value) => { val := (Value.tuple #[i, (int .i64 r.2)]), own := [(oRow i 49 tyS_api_Old r.1)] }) := by
 unfold f_lumref_OldRead at h
 refine fn_enter Tryz.func8 rfl Tryz.ntmps8 rfl (fun w0 Z0 => ?_)
 refine aw_sr ?_
 refine al_as rfl rfl ?_
 refine al_as rfl rfl ?_
 refine al_nt ?_
 refine aw_sr ?_
 refine al_mv rfl rfl ?_
 obtain ⟨r2, hc1, h⟩ := opt_some h
 refine al_call (vs := [(str a0)]) (f_lumref_Scan_ok fu a0 hc1) [] [] [] pre_nil rfl (by simp) (by decide) (.inl rfl) rfl Tryz.func27 rfl rfl rfl (fun v3 => ?_)
 refine al_mv rfl rfl ?_
 refine al_ex rfl rfl rfl ?_
 refine al_ex rfl rfl rfl ?_
 refine al_as rfl rfl ?_
 refine al_as rfl rfl ?_
 refine al_nt ?_
 refine aw_sr ?_
 refine al_as rfl rfl ?_
 refine al_nt ?_
 obtain ⟨kk5, hkk5, h⟩ := lt_some h
 refine aw_seq_join (ι := Value × (List S_api_Old)) (fun i => (memOf w0 Z0 [] [(oRow i.1 49 tyS_api_Old i.2)] [uMax])) (fun i => (tab [(0, (str a0)), (6, i.1)])) (fun i => kk5 i.2 = some r) ?_ ?_
 ·rintro ⟨j4v6, j4x6⟩ h
  have h : kk5 j4x6 = some r := h
  rw [hkk5] at h
  dsimp only at h
  clear hkk5
  refine aw_show (m := (memOf w0 Z0 [] [(oRow j4v6 49 tyS_api_Old j4x6)] [uMax])) (S := (tab [(0, (str a0)), (6, j4v6)])) ?_
  refine aw_seq ?_
  refine aw_sr ?_
  refine al_mv rfl rfl ?_
  obtain ⟨r7, hc6, h⟩ := opt_some h
  refine al_call (vs := [j4v6]) (f_lumref_OldPack_ok fu j4v6 j4x6 hc6) [0] [] [0] (pre_own 0 rfl rfl (pre_fz 0 rfl pre_nil)) rfl (by simp) (by decide) (.inr flat_res0) rfl Tryz.func6 rfl rfl rfl (fun _ => ?_)
  refine al_mv rfl rfl ?_
  refine al_ex rfl rfl rfl ?_
  refine al_ex rfl rfl rfl ?_
  refine al_as rfl rfl ?_
  refine al_as rfl rfl ?_
  refine al_nt ?_
  obtain ⟨kk9, hkk9, h⟩ := lt_some h
  refine aw_seq_join (ι := Bool) (fun i => (memOf w0 Z0 [] [(oRow j4v6 49 tyS_api_Old j4x6)] [uMax])) (fun i => (tab [(6, j4v6), (47, (bool i))])) (fun i => kk9 i = some r) ?_ ?_
  ·rintro j8b47 h
   have h : kk9 j8b47 = some r := h
   rw [hkk9] at h
   dsimp only at h
   clear hkk9
   refine aw_show (m := (memOf w0 Z0 [] [(oRow j4v6 49 tyS_api_Old j4x6)] [uMax])) (S := (tab [(6, j4v6), (47, (bool j8b47))])) ?_
   refine aw_cond rfl (fun hb10 => ?_) (fun hb10 => ?_)
   ·replace h := bif_t hb10 h
    refine aw_sr ?_
    refine al_as rfl rfl ?_
    refine al_as rfl rfl ?_
    refine al_nt ?_
    refine aw_ret ?_
    refine aq_then_ret ?_
    refine aq_nilR 49 tyS_api_Old ?_
    obtain rfl := Option.some.inj h
    exact fn_ret nS [0] [] rfl rfl rfl rfl (res2 rfl rfl rfl) rfl rfl rfl (by decide)
   ·replace h := bif_f hb10 h
    refine aw_skip ?_
    refine aq_tr ?_
    refine al_mv rfl rfl ?_
    refine al_as rfl rfl ?_
    refine al_as rfl rfl ?_
    refine al_nt ?_
    refine aw_ret ?_
    obtain rfl := Option.some.inj h
    exact fn_ret j4v6 [0] [] rfl rfl rfl rfl (res2 rfl rfl rfl) rfl rfl rfl (by decide)
  ·clear hkk9
   refine aw_region ?_
   refine al_mv rfl rfl ?_
   refine al_in rfl rfl rfl rfl ?_
   refine al_mv rfl rfl ?_
   refine al_caseB 43 rfl (fun hb11 => ?_) (fun hb11 => ?_)
   ·replace h := bif_t hb11 h
    refine al_skip ?_
    refine al_skip ?_
    refine al_skip ?_
    refine al_val (ov_pick_t rfl rfl rfl) ?_
    refine al_nil ?_
    exact aq_join true h (fun w a hm hs => norm hm hs [0] [0] [(6, j4v6), (47, (bool true))] (by decide) ⟨rfl, rfl, trivial⟩)
   ·replace h := bif_f hb11 h
    refine al_mv rfl rfl ?_
    refine al_mv rfl rfl ?_
    refine al_val (ov_strCmp rfl rfl rfl rfl) ?_
    refine al_val (ov_pick_f rfl rfl rfl) ?_
    refine al_nil ?_
    exact aq_join (!(r7.1 == a0)) h (fun w a hm hs => norm hm hs [0] [0] [(6, j4v6), (47, (bool (!(r7.1 == a0))))] (by decide) ⟨rfl, rfl, trivial⟩)
 ·clear hkk5
  refine aw_sr ?_
  refine al_mv rfl rfl ?_
  refine al_val (ov_lenR 0 rfl rfl Tryz.underlying47 rfl) ?_
  refine al_mv rfl rfl ?_
  refine al_nt ?_
  refine aw_block ?_
  refine aw_nilR 49 tyS_api_Old ?_
  refine aw_state (aw_loop (ι := Value × (List S_api_Old) × Int) (fun i => (memOf w0 Z0 [] [(oRow i.1 49 tyS_api_Old i.2.1), (oRow v3 9 tyStr r2.1)] [uMax])) (fun i => (tab [(0, (str a0)), (6, i.1), (18, v3), (19, (iq (r2.1.length : Int))), (20, (iq i.2.2))])) (fun q i => f_lumref_OldRead_L14 r2 kk5 fu q i.2.1 i.2.2 = some r) ?_ fu (nS, ([] : List S_api_Old), (0 : Int)) h) (fun w a hm hs => norm hm hs [0, 1] [0] [(0, (str a0)), (6, nS), (18, v3), (19, (iq (r2.1.length : Int))), (20, (iq (0 : Int)))] (by decide) ⟨rfl, rfl, rfl, rfl, rfl, trivial⟩)
  clear h
  rintro k13 ⟨l12v6, l12x6, l12i20⟩ h
  have h : f_lumref_OldRead_L14 r2 kk5 fu k13 l12x6 l12i20 = some r := h
  obtain _ | k13 := k13
  · rw [f_lumref_OldRead_L14] at h; cases h
  rw [f_lumref_OldRead_L14] at h
  refine aw_show (m := (memOf w0 Z0 [] [(oRow l12v6 49 tyS_api_Old l12x6), (oRow v3 9 tyStr r2.1)] [uMax])) (S := (tab [(0, (str a0)), (6, l12v6), (18, v3), (19, (iq (r2.1.length : Int))), (20, (iq l12i20))])) ?_
  refine aw_sr ?_
  refine al_in rfl rfl rfl rfl ?_
  refine al_nt ?_
  refine aw_seq ?_
  refine aw_cond rfl (fun hb15 => ?_) (fun hb15 => ?_)
  ·replace h := bif_t hb15 h
   refine aw_skip ?_
   refine aq_then ?_
   refine aw_seq ?_
   refine aw_block ?_
   refine aw_sr ?_
   obtain ⟨u16, hu17, h⟩ := opt_some h
   refine al_idxR 1 (at_some hu17).1 (at_some hu17).2.1 rfl rfl rfl Tryz.underlying47 sz9 rfl (fun p18 hp19 => ?_)
   refine al_val (ov_loadR (ds := [(str u16)]) 1 rfl hp19 (at_some hu17).2.2 (fun h => h) rfl Tryz.underlying9 sz9 rfl rfl rfl) ?_
   refine al_as rfl rfl ?_
   refine al_nt ?_
   refine aw_sr ?_
   refine al_mv rfl rfl ?_
   obtain ⟨r21, hc20, h⟩ := opt_some h
   refine al_call (vs := [(str u16)]) (f_lumref_oldRead_ok fu u16 hc20) [] [] [0, 1] pre_nil rfl (by simp) (by decide) (.inl rfl) rfl Tryz.func28 rfl rfl rfl (fun v22 => ?_)
   refine al_mv rfl rfl ?_
   refine al_ex rfl rfl rfl ?_
   refine al_ex rfl rfl rfl ?_
   refine al_alloc (zs := [(str ([] : List UInt8)), (iq (0 : Int)), nS]) (zeroOf_to to49) rfl rfl (fun g23 => ?_)
   refine al_store (i := 0) (vs := [(str r21.1.Name), (iq r21.1.Time), v22]) (cs' := [(str r21.1.Name), (iq r21.1.Time), v22]) rfl rfl rfl sz49 (cv_rfl rfl) rfl (co_val rfl (co_val rfl (co_fz 0 rfl co_nil))) (Nat.le_of_ble_eq_true rfl) rfl rfl ?_
   refine al_as rfl rfl ?_
   refine al_nt ?_
   refine aw_seq ?_
   refine aw_sr ?_
   refine al_mv rfl rfl ?_
   refine al_val (ov_not rfl rfl) ?_
   refine al_nt ?_
   refine aw_cond rfl (fun hb24 => ?_) (fun hb24 => ?_)
   ·replace h := bif_t hb24 h
    refine aw_sr ?_
    refine al_as rfl rfl ?_
    refine al_as rfl rfl ?_
    refine al_nt ?_
    refine aw_ret ?_
    refine aq_then_ret ?_
    refine aq_block_ret ?_
    refine aq_then_ret ?_
    refine aq_then_ret ?_
    refine aq_block_ret ?_
    refine aq_then_ret ?_
    refine aq_nilR 49 tyS_api_Old ?_
    obtain rfl := Option.some.inj h
    exact fn_ret nS [0] [] rfl rfl rfl rfl (res2 rfl rfl rfl) rfl rfl rfl (by decide)
   ·replace h := bif_f hb24 h
    refine aw_skip ?_
    refine aq_then ?_
    refine aw_region ?_
    refine al_mv rfl rfl ?_
    refine al_val (ov_load (i := 0) (v := (ag [(str r21.1.Name), (iq r21.1.Time), v22])) rfl rfl Tryz.underlying49 sz49 rfl rfl rfl rfl) ?_
    refine al_buildSlice (τ := tyS_api_Old) (e := 49) (k := 1) (sz := 0) (by_ := 0) (z := undef) (cs := [(str r21.1.Name), (iq r21.1.Time), v22]) (xs := [(S_api_Old.mk r21.1.Name r21.1.Time r21.1.World)]) rfl (by decide) (fun w a hm hs => ⟨([(str r21.1.Name), (iq r21.1.Time), v22]).toArray, rfl, by simp only [List.map_toArray, List.map_cons, List.map_nil, hs.ev (x := .tmp 32) rfl]; exact run_bs [(ag [(str r21.1.Name), (iq r21.1.Time), v22])] [(str r21.1.Name), (iq r21.1.Time), v22] Tryz.underlying22 to49 rfl rfl (bs_cons (l := [(str r21.1.Name), (iq r21.1.Time), v22]) (cs := []) (cv_rfl rfl) rfl bs_nil) hm⟩) (fun hm => ⟨_, _, rfl, (fun hm => mknS_api_Old rfl (fz_at (i := 0) hm rfl)) hm, rfl⟩) rfl (fun v25 => ?_)
    obtain ⟨hc26, h⟩ := req_some h
    refine al_append 2 hc26.1 hc26.2 rfl (src_own (i := 2) 0 rfl) rfl rfl Tryz.underlying22 to49 rfl rfl rfl (fun v27 => ?_)
    refine al_as rfl rfl ?_
    refine al_nil ?_
    refine aq_block ?_
    refine aq_then ?_
    refine aw_region ?_
    refine al_in rfl rfl rfl rfl ?_
    refine al_mv rfl rfl ?_
    refine al_nil ?_
    exact aq_again k13 (v27, (l12x6 ++ ([(S_api_Old.mk r21.1.Name r21.1.Time r21.1.World)])), (wq (l12i20 + (1 : Int)))) (Nat.lt_succ_self _) h (fun w a hm hs => norm hm hs [2, 3] [1] [(0, (str a0)), (6, v27), (18, v3), (19, (iq (r2.1.length : Int))), (20, (iq (wq (l12i20 + (1 : Int)))))] (by decide) ⟨rfl, rfl, rfl, rfl, rfl, trivial⟩)
  ·replace h := bif_f hb15 h
   refine aw_exit ?_
   refine aq_then_exit ?_
   refine aq_then_exit ?_
   refine aq_block_exit ?_
   exact aq_join (l12v6, l12x6) h (fun w a hm hs => norm hm hs [0] [0] [(0, (str a0)), (6, l12v6)] (by decide) ⟨rfl, rfl, trivial⟩)
-- STUCK slices.EqualFunc[[]lumberroom/api.Old,[]lumberroom/api.Old,lumberroom/api.Old,lumberroom/api.Old]: lty ['func', [49, 49], [4], False]
def f_slices_Equal___api_Item_api_Item__L6 (a0 : (List S_api_Item)) (a1 : (List S_api_Item)) (kk3 : (Unit → Option Bool)) : Nat → Int → Option Bool
  | 0, _ => none
  | k5 + 1, l4i13 => (bif (decide (l4i13 < (a0.length : Int))) then (opt (at? a0 l4i13) fun (u8 : S_api_Item) => (opt (at? a1 l4i13) fun (u11 : S_api_Item) => (req (u8.Path.length ≤ 9223372036854775807) (req ((Lit.int .i64 u8.Kind).wf = true) (req ((Lit.int .i64 u8.Mode).wf = true) (req ((Lit.int .i64 u8.Time).wf = true) (req (u8.Bytes.length ≤ 9223372036854775807) (req (u11.Path.length ≤ 9223372036854775807) (req ((Lit.int .i64 u11.Kind).wf = true) (req ((Lit.int .i64 u11.Mode).wf = true) (req ((Lit.int .i64 u11.Time).wf = true) (req (u11.Bytes.length ≤ 9223372036854775807) (bif (!(u8 == u11)) then (some false) else (f_slices_Equal___api_Item_api_Item__L6 a0 a1 kk3 k5 (IntKind.i64.wrap (l4i13 + (1 : Int))))))))))))))))) else (kk3 ()))
def f_slices_Equal___api_Item_api_Item_ (fu : Nat) (a0 : (List S_api_Item)) (a1 : (List S_api_Item)) : Option Bool := (bif ((a0.length : Int) != (a1.length : Int)) then (some false) else (lt (fun (_ : Unit) => (some true)) fun (kk3 : Unit → Option Bool) => (f_slices_Equal___api_Item_api_Item__L6 a0 a1 kk3 fu (0 : Int))))
set_option maxHeartbeats 2000000 in
set_option maxRecDepth 100000 in
theorem f_slices_Equal___api_Item_api_Item__ok (fu : Nat) (v0_0 : Value) (a0 : (List S_api_Item)) (v1_0 : Value) (a1 : (List S_api_Item)) {r : Bool} (h : f_slices_Equal___api_Item_api_Item_ fu a0 a1 = some r) : FnOk Tryz.prog 31 [v0_0, v1_0] [(fDat (tyList tyS_api_Item) [v0_0] a0), (fDat (tyList tyS_api_Item) [v1_0] a1)] [] (fun (i : Unit) => { val := (bool r) }) := by
 unfold f_slices_Equal___api_Item_api_Item_ at h
 refine fn_enter Tryz.func31 rfl Tryz.ntmps31 rfl (fun w0 Z0 => ?_)
 refine aw_sr ?_
 refine al_as rfl rfl ?_
 refine al_nt ?_
 refine aw_seq ?_
 refine aw_sr ?_
 refine al_mv rfl rfl ?_
 refine al_val (ov_lenD 0 rfl rfl Tryz.underlying34 rfl) ?_
 refine al_mv rfl rfl ?_
 refine al_val (ov_lenD 1 rfl rfl Tryz.underlying34 rfl) ?_
 refine al_in rfl rfl rfl rfl ?_
 refine al_nt ?_
 refine aw_cond rfl (fun hb1 => ?_) (fun hb1 => ?_)
 ·replace h := bif_t hb1 h
  refine aw_sr ?_
  refine al_as rfl rfl ?_
  refine al_nt ?_
  refine aw_ret ?_
  refine aq_then_ret ?_
  obtain rfl := Option.some.inj h
  exact fn_ret () [] [] rfl rfl rfl rfl (res1 rfl rfl) rfl rfl rfl (by decide)
 ·replace h := bif_f hb1 h
  refine aw_skip ?_
  refine aq_then ?_
  obtain ⟨kk3, hkk3, h⟩ := lt_some h
  refine aw_seq_join (ι := Unit) (fun i => (memOf w0 Z0 [] [] [(fDat (tyList tyS_api_Item) [v0_0] a0), (fDat (tyList tyS_api_Item) [v1_0] a1)])) (fun i => (tab [])) (fun i => kk3 () = some r) ?_ ?_
  ·rintro _ h
   have h : kk3 () = some r := h
   rw [hkk3] at h
   dsimp only at h
   clear hkk3
   refine aw_show (m := (memOf w0 Z0 [] [] [(fDat (tyList tyS_api_Item) [v0_0] a0), (fDat (tyList tyS_api_Item) [v1_0] a1)])) (S := (tab [])) ?_
   refine aw_sr ?_
   refine al_as rfl rfl ?_
   refine al_nt ?_
   refine aw_ret ?_
   obtain rfl := Option.some.inj h
   exact fn_ret () [] [] rfl rfl rfl rfl (res1 rfl rfl) rfl rfl rfl (by decide)
  ·clear hkk3
   refine aw_sr ?_
   refine al_mv rfl rfl ?_
   refine al_val (ov_lenD 0 rfl rfl Tryz.underlying34 rfl) ?_
   refine al_mv rfl rfl ?_
   refine al_nt ?_
   refine aw_block ?_
   refine aw_state (aw_loop (ι := Int) (fun i => (memOf w0 Z0 [] [] [(fDat (tyList tyS_api_Item) [v0_0] a0), (fDat (tyList tyS_api_Item) [v1_0] a1)])) (fun i => (tab [(0, v0_0), (1, v1_0), (12, (iq (a0.length : Int))), (13, (iq i))])) (fun q i => f_slices_Equal___api_Item_api_Item__L6 a0 a1 kk3 q i = some r) ?_ fu (0 : Int) h) (fun w a hm hs => norm hm hs [] [0, 1] [(0, v0_0), (1, v1_0), (12, (iq (a0.length : Int))), (13, (iq (0 : Int)))] (by decide) ⟨rfl, rfl, rfl, rfl, trivial⟩)
   clear h
   rintro k5 l4i13 h
   have h : f_slices_Equal___api_Item_api_Item__L6 a0 a1 kk3 k5 l4i13 = some r := h
   obtain _ | k5 := k5
   · rw [f_slices_Equal___api_Item_api_Item__L6] at h; cases h
   rw [f_slices_Equal___api_Item_api_Item__L6] at h
   refine aw_show (m := (memOf w0 Z0 [] [] [(fDat (tyList tyS_api_Item) [v0_0] a0), (fDat (tyList tyS_api_Item) [v1_0] a1)])) (S := (tab [(0, v0_0), (1, v1_0), (12, (iq (a0.length : Int))), (13, (iq l4i13))])) ?_
   refine aw_sr ?_
   refine al_in rfl rfl rfl rfl ?_
   refine al_nt ?_
   refine aw_seq ?_
   refine aw_cond rfl (fun hb7 => ?_) (fun hb7 => ?_)
   ·replace h := bif_t hb7 h
    refine aw_skip ?_
    refine aq_then ?_
    refine aw_seq ?_
    refine aw_block ?_
    refine aw_sr ?_
    refine al_mv rfl rfl ?_
    refine al_as rfl rfl ?_
    refine al_nt ?_
    refine aw_seq ?_
    obtain ⟨u8, hu9, h⟩ := opt_some h
    obtain ⟨u11, hu12, h⟩ := opt_some h
    refine aw_region_draw 8 [(16, (fun u => fEq u v0_0)), (17, (fun u => fEq u (iq l4i13))), (18, (fun p10 => (fPtr tyS_api_Item p10 u8))), (19, (fun u => fEq u (ag [(str u8.Path), (iq u8.Kind), (iq u8.Mode), (iq u8.Time), (str u8.Bytes)]))), (20, (fun u => fEq u v1_0)), (21, (fun u => fEq u (iq l4i13))), (22, (fun p13 => (fPtr tyS_api_Item p13 u11))), (23, (fun u => fEq u (ag [(str u11.Path), (iq u11.Kind), (iq u11.Mode), (iq u11.Time), (str u11.Bytes)])))] (tab [(0, v0_0), (1, v1_0), (5, (iq l4i13)), (12, (iq (a0.length : Int))), (13, (iq l4i13))]) mixed (by kernel_rfl) rfl rfl rfl (fun a hs => hs.tab _ (allT_mem ⟨rfl, rfl, rfl, rfl, rfl, trivial⟩)) ⟨⟨rfl, ld_val (ov_move rfl rfl)⟩, ⟨rfl, ld_val (ov_move rfl rfl)⟩, ⟨rfl, ld_eq (j := 0) rfl rfl (ld_eq (j := 1) rfl rfl (ld_of (of_idxD 0 hu9 rfl rfl rfl Tryz.underlying34 sz57 rfl)))⟩, ⟨rfl, ld_fact (j := 2) rfl rfl (fun p10 => ld_val (ov_loadP (ds := [(str u8.Path), (iq u8.Kind), (iq u8.Mode), (iq u8.Time), (str u8.Bytes)]) 0 rfl encS_api_Item rfl Tryz.underlying57 sz57 rfl rfl rfl))⟩, ⟨rfl, ld_val (ov_move rfl rfl)⟩, ⟨rfl, ld_val (ov_move rfl rfl)⟩, ⟨rfl, ld_eq (j := 4) rfl rfl (ld_eq (j := 5) rfl rfl (ld_of (of_idxD 1 hu12 rfl rfl rfl Tryz.underlying34 sz57 rfl)))⟩, ⟨rfl, ld_fact (j := 6) rfl rfl (fun p13 => ld_val (ov_loadP (ds := [(str u11.Path), (iq u11.Kind), (iq u11.Mode), (iq u11.Time), (str u11.Bytes)]) 0 rfl encS_api_Item rfl Tryz.underlying57 sz57 rfl rfl rfl))⟩, trivial⟩ ?_
    refine tl_eq 3 rfl ?_
    refine tl_eq 7 rfl ?_
    refine tl_done ?_
    obtain ⟨hc14, h⟩ := req_some h
    obtain ⟨hc15, h⟩ := req_some h
    obtain ⟨hc16, h⟩ := req_some h
    obtain ⟨hc17, h⟩ := req_some h
    obtain ⟨hc18, h⟩ := req_some h
    obtain ⟨hc19, h⟩ := req_some h
    obtain ⟨hc20, h⟩ := req_some h
    obtain ⟨hc21, h⟩ := req_some h
    obtain ⟨hc22, h⟩ := req_some h
    obtain ⟨hc23, h⟩ := req_some h
    refine al_val (ov_neqA (cs := [(str u8.Path), (iq u8.Kind), (iq u8.Mode), (iq u8.Time), (str u8.Bytes)]) (ds := [(str u11.Path), (iq u11.Kind), (iq u11.Mode), (iq u11.Time), (str u11.Bytes)]) (ls := [9, 3, 3, 3, 9]) (p := (u8 == u11)) eg57 kt57 lv57 rfl rfl (by kernel_rfl) (by kernel_rfl) (fit_cons (fit_str Tryz.underlying9 hc14) (fit_cons (fit_int Tryz.underlying3 hc15) (fit_cons (fit_int Tryz.underlying3 hc16) (fit_cons (fit_int Tryz.underlying3 hc17) (fit_cons (fit_str Tryz.underlying9 hc18) fit_nil))))) (fit_cons (fit_str Tryz.underlying9 hc19) (fit_cons (fit_int Tryz.underlying3 hc20) (fit_cons (fit_int Tryz.underlying3 hc21) (fit_cons (fit_int Tryz.underlying3 hc22) (fit_cons (fit_str Tryz.underlying9 hc23) fit_nil))))) (injS_api_Item (x := u8) (y := u11)) rfl) ?_
    refine al_nt ?_
    refine aw_cond rfl (fun hb24 => ?_) (fun hb24 => ?_)
    ·replace h := bif_t hb24 h
     refine aw_sr ?_
     refine al_as rfl rfl ?_
     refine al_nt ?_
     refine aw_ret ?_
     refine aq_block_ret ?_
     refine aq_then_ret ?_
     refine aq_then_ret ?_
     refine aq_block_ret ?_
     refine aq_then_ret ?_
     obtain rfl := Option.some.inj h
     exact fn_ret () [] [] rfl rfl rfl rfl (res1 rfl rfl) rfl rfl rfl (by decide)
    ·replace h := bif_f hb24 h
     refine aw_skip ?_
     refine aq_block ?_
     refine aq_then ?_
     refine aw_region ?_
     refine al_in rfl rfl rfl rfl ?_
     refine al_mv rfl rfl ?_
     refine al_nil ?_
     exact aq_again k5 (wq (l4i13 + (1 : Int))) (Nat.lt_succ_self _) h (fun w a hm hs => norm hm hs [] [0, 1] [(0, v0_0), (1, v1_0), (12, (iq (a0.length : Int))), (13, (iq (wq (l4i13 + (1 : Int)))))] (by decide) ⟨rfl, rfl, rfl, rfl, trivial⟩)
   ·replace h := bif_f hb7 h
    refine aw_exit ?_
    refine aq_then_exit ?_
    refine aq_then_exit ?_
    refine aq_block_exit ?_
    exact aq_join () h (fun w a hm hs => norm hm hs [] [0, 1] [] (by decide) trivial)
def f_lumref_SameOlds_1 (fu : Nat) (a0 : S_api_Old) (a1 : S_api_Old) : Option Bool := (lt (fun (j3b4 : Bool) => (some j3b4)) fun (kk4 : Bool → Option Bool) => (bif (a0.Name == a1.Name) then (bif (a0.Time == a1.Time) then (opt (f_slices_Equal___api_Item_api_Item_ fu a0.World a1.World) fun (r8 : Bool) => (kk4 r8)) else (kk4 false)) else (kk4 false)))
set_option maxHeartbeats 2000000 in
set_option maxRecDepth 100000 in
theorem f_lumref_SameOlds_1_ok (fu : Nat) (v0_2 : Value) (a0 : S_api_Old) (v1_2 : Value) (a1 : S_api_Old) {r : Bool} (h : f_lumref_SameOlds_1 fu a0 a1 = some r) : FnOk Tryz.prog 30 [(ag [(str a0.Name), (int .i64 a0.Time), v0_2]), (ag [(str a1.Name), (int .i64 a1.Time), v1_2])] [(fDat (tyList tyS_api_Item) [v0_2] a0.World), (fDat (tyList tyS_api_Item) [v1_2] a1.World)] [] (fun (i : Unit) => { val := (bool r) }) := by
 unfold f_lumref_SameOlds_1 at h
 refine fn_enter Tryz.func30 rfl Tryz.ntmps30 rfl (fun w0 Z0 => ?_)
 refine aw_sr ?_
 refine al_box (vs := [(str a0.Name), (iq a0.Time), v0_2]) rfl (cv_rfl rfl) rfl (fun g1 => ?_)
 refine al_box (vs := [(str a1.Name), (iq a1.Time), v1_2]) rfl (cv_rfl rfl) rfl (fun g2 => ?_)
 refine al_as rfl rfl ?_
 refine al_nt ?_
 obtain ⟨kk4, hkk4, h⟩ := lt_some h
 refine aw_seq_join (ι := Bool) (fun i => (memOf w0 Z0 [] [] [(fDat (tyList tyS_api_Item) [v0_2] a0.World), (fDat (tyList tyS_api_Item) [v1_2] a1.World)])) (fun i => (tab [(4, (bool i))])) (fun i => kk4 i = some r) ?_ ?_
 ·rintro j3b4 h
  have h : kk4 j3b4 = some r := h
  rw [hkk4] at h
  dsimp only at h
  clear hkk4
  refine aw_show (m := (memOf w0 Z0 [] [] [(fDat (tyList tyS_api_Item) [v0_2] a0.World), (fDat (tyList tyS_api_Item) [v1_2] a1.World)])) (S := (tab [(4, (bool j3b4))])) ?_
  refine aw_ret ?_
  obtain rfl := Option.some.inj h
  exact fn_ret () [] [] rfl rfl rfl rfl (res1 rfl rfl) rfl rfl rfl (by decide)
 ·clear hkk4
  refine aw_region ?_
  refine al_val (ov_fieldA (p := 0) rfl Tryz.underlying49 rfl sz9 rfl rfl rfl) ?_
  refine al_val (ov_load (i := 1) (v := (str a0.Name)) rfl rfl Tryz.underlying9 sz9 rfl rfl rfl rfl) ?_
  refine al_val (ov_fieldA (p := 0) rfl Tryz.underlying49 rfl sz9 rfl rfl rfl) ?_
  refine al_val (ov_load (i := 0) (v := (str a1.Name)) rfl rfl Tryz.underlying9 sz9 rfl rfl rfl rfl) ?_
  refine al_val (ov_strCmp rfl rfl rfl rfl) ?_
  refine al_mv rfl rfl ?_
  refine al_caseB 10 rfl (fun hb5 => ?_) (fun hb5 => ?_)
  ·replace h := bif_t hb5 h
   refine al_val (ov_fieldA (p := 1) rfl Tryz.underlying49 rfl sz3 rfl rfl rfl) ?_
   refine al_val (ov_load (i := 1) (v := (iq a0.Time)) rfl rfl Tryz.underlying3 sz3 rfl rfl rfl rfl) ?_
   refine al_val (ov_fieldA (p := 1) rfl Tryz.underlying49 rfl sz3 rfl rfl rfl) ?_
   refine al_val (ov_load (i := 0) (v := (iq a1.Time)) rfl rfl Tryz.underlying3 sz3 rfl rfl rfl rfl) ?_
   refine al_in rfl rfl rfl rfl ?_
   refine al_val (ov_pick_t rfl rfl rfl) ?_
   refine al_mv rfl rfl ?_
   refine al_caseB 17 rfl (fun hb6 => ?_) (fun hb6 => ?_)
   ·replace h := bif_t hb6 h
    refine al_val (ov_fieldA (p := 2) rfl Tryz.underlying49 rfl sz34 rfl rfl rfl) ?_
    refine al_val (ov_load (i := 1) (v := v0_2) rfl rfl Tryz.underlying34 sz34 rfl rfl rfl rfl) ?_
    refine al_val (ov_fieldA (p := 2) rfl Tryz.underlying49 rfl sz34 rfl rfl rfl) ?_
    refine al_val (ov_load (i := 0) (v := v1_2) rfl rfl Tryz.underlying34 sz34 rfl rfl rfl rfl) ?_
    obtain ⟨r8, hc7, h⟩ := opt_some h
    refine al_call (vs := [v0_2, v1_2]) (f_slices_Equal___api_Item_api_Item__ok fu v0_2 a0.World v1_2 a1.World hc7) [] [] [0, 1] (pre_fz 0 rfl (pre_fz 1 rfl pre_nil)) rfl (by simp) (by decide) (.inl rfl) rfl Tryz.func31 rfl rfl rfl (fun _ => ?_)
    refine al_val (ov_pick_t rfl rfl rfl) ?_
    refine al_as rfl rfl ?_
    refine al_nil ?_
    exact aq_join r8 h (fun w a hm hs => norm hm hs [] [0, 1] [(4, (bool r8))] (by decide) ⟨rfl, trivial⟩)
   ·replace h := bif_f hb6 h
    refine al_skip ?_
    refine al_skip ?_
    refine al_skip ?_
    refine al_skip ?_
    refine al_skip ?_
    refine al_val (ov_pick_f rfl rfl rfl) ?_
    refine al_as rfl rfl ?_
    refine al_nil ?_
    exact aq_join false h (fun w a hm hs => norm hm hs [] [0, 1] [(4, (bool false))] (by decide) ⟨rfl, trivial⟩)
  ·replace h := bif_f hb5 h
   refine al_skip ?_
   refine al_skip ?_
   refine al_skip ?_
   refine al_skip ?_
   refine al_skip ?_
   refine al_val (ov_pick_f rfl rfl rfl) ?_
   refine al_mv rfl rfl ?_
   refine al_skip ?_
   refine al_skip ?_
   refine al_skip ?_
   refine al_skip ?_
   refine al_skip ?_
   refine al_val (ov_pick_f rfl rfl rfl) ?_
   refine al_as rfl rfl ?_
   refine al_nil ?_
   exact aq_join false h (fun w a hm hs => norm hm hs [] [0, 1] [(4, (bool false))] (by decide) ⟨rfl, trivial⟩)
def f_slices_EqualFunc___api_Old___api_Old_api_Old_api_Old__F30_L6 (a0 : (List S_api_Old)) (a1 : (List S_api_Old)) (kk3 : (Unit → Option Bool)) (fu : Nat) : Nat → Int → Option Bool
  | 0, _ => none
  | k5 + 1, l4i17 => (bif (decide (l4i17 < (a0.length : Int))) then (opt (at? a0 l4i17) fun (u8 : S_api_Old) => (opt (at? a1 l4i17) fun (u14 : S_api_Old) => (opt (f_lumref_SameOlds_1 fu u8 u14) fun (r21 : Bool) => (bif (!r21) then (some false) else (f_slices_EqualFunc___api_Old___api_Old_api_Old_api_Old__F30_L6 a0 a1 kk3 fu k5 (IntKind.i64.wrap (l4i17 + (1 : Int)))))))) else (kk3 ()))
def f_slices_EqualFunc___api_Old___api_Old_api_Old_api_Old__F30 (fu : Nat) (a0 : (List S_api_Old)) (a1 : (List S_api_Old)) : Option Bool := (bif ((a0.length : Int) != (a1.length : Int)) then (some false) else (lt (fun (_ : Unit) => (some true)) fun (kk3 : Unit → Option Bool) => (f_slices_EqualFunc___api_Old___api_Old_api_Old_api_Old__F30_L6 a0 a1 kk3 fu fu (0 : Int))))
set_option maxHeartbeats 2000000 in
set_option maxRecDepth 100000 in
theorem f_slices_EqualFunc___api_Old___api_Old_api_Old_api_Old__F30_ok (fu : Nat) (v0_0 : Value) (a0 : (List S_api_Old)) (v1_0 : Value) (a1 : (List S_api_Old)) {r : Bool} (h : f_slices_EqualFunc___api_Old___api_Old_api_Old_api_Old__F30 fu a0 a1 = some r) : FnOk Tryz.prog 29 [v0_0, v1_0, (Value.func (.func 30) #[] #[])] [(fDat (tyList tyS_api_Old) [v0_0] a0), (fDat (tyList tyS_api_Old) [v1_0] a1)] [] (fun (i : Unit) => { val := (bool r) }) := by
 unfold f_slices_EqualFunc___api_Old___api_Old_api_Old_api_Old__F30 at h
 refine fn_enter Tryz.func29 rfl Tryz.ntmps29 rfl (fun w0 Z0 => ?_)
 refine aw_sr ?_
 refine al_as rfl rfl ?_
 refine al_nt ?_
 refine aw_seq ?_
 refine aw_sr ?_
 refine al_mv rfl rfl ?_
 refine al_val (ov_lenD 0 rfl rfl Tryz.underlying22 rfl) ?_
 refine al_mv rfl rfl ?_
 refine al_val (ov_lenD 1 rfl rfl Tryz.underlying22 rfl) ?_
 refine al_in rfl rfl rfl rfl ?_
 refine al_nt ?_
 refine aw_cond rfl (fun hb1 => ?_) (fun hb1 => ?_)
 ·replace h := bif_t hb1 h
  refine aw_sr ?_
  refine al_as rfl rfl ?_
  refine al_nt ?_
  refine aw_ret ?_
  refine aq_then_ret ?_
  obtain rfl := Option.some.inj h
  exact fn_ret () [] [] rfl rfl rfl rfl (res1 rfl rfl) rfl rfl rfl (by decide)
 ·replace h := bif_f hb1 h
  refine aw_skip ?_
  refine aq_then ?_
  obtain ⟨kk3, hkk3, h⟩ := lt_some h
  refine aw_seq_join (ι := Unit) (fun i => (memOf w0 Z0 [] [] [(fDat (tyList tyS_api_Old) [v0_0] a0), (fDat (tyList tyS_api_Old) [v1_0] a1)])) (fun i => (tab [])) (fun i => kk3 () = some r) ?_ ?_
  ·rintro _ h
   have h : kk3 () = some r := h
   rw [hkk3] at h
   dsimp only at h
   clear hkk3
   refine aw_show (m := (memOf w0 Z0 [] [] [(fDat (tyList tyS_api_Old) [v0_0] a0), (fDat (tyList tyS_api_Old) [v1_0] a1)])) (S := (tab [])) ?_
   refine aw_sr ?_
   refine al_as rfl rfl ?_
   refine al_nt ?_
   refine aw_ret ?_
   obtain rfl := Option.some.inj h
   exact fn_ret () [] [] rfl rfl rfl rfl (res1 rfl rfl) rfl rfl rfl (by decide)
  ·clear hkk3
   refine aw_sr ?_
   refine al_mv rfl rfl ?_
   refine al_val (ov_lenD 0 rfl rfl Tryz.underlying22 rfl) ?_
   refine al_mv rfl rfl ?_
   refine al_nt ?_
   refine aw_block ?_
   refine aw_state (aw_loop (ι := Int) (fun i => (memOf w0 Z0 [] [] [(fDat (tyList tyS_api_Old) [v1_0] a1), (fDat (tyList tyS_api_Old) [v0_0] a0)])) (fun i => (tab [(1, v1_0), (2, (fq 30)), (15, v0_0), (16, (iq (a0.length : Int))), (17, (iq i))])) (fun q i => f_slices_EqualFunc___api_Old___api_Old_api_Old_api_Old__F30_L6 a0 a1 kk3 fu q i = some r) ?_ fu (0 : Int) h) (fun w a hm hs => norm hm hs [] [1, 0] [(1, v1_0), (2, (fq 30)), (15, v0_0), (16, (iq (a0.length : Int))), (17, (iq (0 : Int)))] (by decide) ⟨rfl, rfl, rfl, rfl, rfl, trivial⟩)
   clear h
   rintro k5 l4i17 h
   have h : f_slices_EqualFunc___api_Old___api_Old_api_Old_api_Old__F30_L6 a0 a1 kk3 fu k5 l4i17 = some r := h
   obtain _ | k5 := k5
   · rw [f_slices_EqualFunc___api_Old___api_Old_api_Old_api_Old__F30_L6] at h; cases h
   rw [f_slices_EqualFunc___api_Old___api_Old_api_Old_api_Old__F30_L6] at h
   refine aw_show (m := (memOf w0 Z0 [] [] [(fDat (tyList tyS_api_Old) [v1_0] a1), (fDat (tyList tyS_api_Old) [v0_0] a0)])) (S := (tab [(1, v1_0), (2, (fq 30)), (15, v0_0), (16, (iq (a0.length : Int))), (17, (iq l4i17))])) ?_
   refine aw_sr ?_
   refine al_in rfl rfl rfl rfl ?_
   refine al_nt ?_
   refine aw_seq ?_
   refine aw_cond rfl (fun hb7 => ?_) (fun hb7 => ?_)
   ·replace h := bif_t hb7 h
    refine aw_skip ?_
    refine aq_then ?_
    refine aw_seq ?_
    refine aw_block ?_
    refine aw_sr ?_
    refine al_mv rfl rfl ?_
    obtain ⟨u8, hu9, h⟩ := opt_some h
    refine al_idxD 1 hu9 rfl rfl rfl Tryz.underlying22 sz49 rfl (fun p10 => ?_)
    refine al_loadPA 0 rfl rfl Tryz.underlying49 sz49 rfl rfl (fun cs12 => ?_)
    refine al_use (ι := Value) 0 rfl (fun j => cs12 = [(str u8.Name), (iq u8.Time), j]) (fun j => [(fDat (tyList tyS_api_Item) [j] u8.World)]) encnS_api_Old (fun s11 hq => ?_)
    subst hq
    refine al_alloc (zs := [(str ([] : List UInt8)), (iq (0 : Int)), nS]) (zeroOf_to to49) rfl rfl (fun g13 => ?_)
    refine al_as rfl rfl ?_
    refine al_store (i := 0) (vs := [(str u8.Name), (iq u8.Time), s11]) (cs' := [(str u8.Name), (iq u8.Time), s11]) rfl rfl rfl sz49 (cv_rfl rfl) rfl (co_val rfl (co_val rfl (co_fz 0 rfl co_nil))) (Nat.le_of_ble_eq_true rfl) rfl rfl ?_
    refine al_nt ?_
    refine aw_sr ?_
    refine al_mv rfl rfl ?_
    refine al_mv rfl rfl ?_
    obtain ⟨u14, hu15, h⟩ := opt_some h
    refine al_idxD 3 hu15 rfl rfl rfl Tryz.underlying22 sz49 rfl (fun p16 => ?_)
    refine al_loadPA 0 rfl rfl Tryz.underlying49 sz49 rfl rfl (fun cs18 => ?_)
    refine al_use (ι := Value) 0 rfl (fun j => cs18 = [(str u14.Name), (iq u14.Time), j]) (fun j => [(fDat (tyList tyS_api_Item) [j] u14.World)]) encnS_api_Old (fun s17 hq => ?_)
    subst hq
    refine al_alloc (zs := [(str ([] : List UInt8)), (iq (0 : Int)), nS]) (zeroOf_to to49) rfl rfl (fun g19 => ?_)
    refine al_store (i := 0) (vs := [(str u14.Name), (iq u14.Time), s17]) (cs' := [(str u14.Name), (iq u14.Time), s17]) rfl rfl rfl sz49 (cv_rfl rfl) rfl (co_val rfl (co_val rfl (co_fz 0 rfl co_nil))) (Nat.le_of_ble_eq_true rfl) rfl rfl ?_
    refine al_nt ?_
    refine aw_sr ?_
    refine al_mv rfl rfl ?_
    refine al_val (ov_load (i := 1) (v := (ag [(str u8.Name), (iq u8.Time), s11])) rfl rfl Tryz.underlying49 sz49 rfl rfl rfl rfl) ?_
    refine al_val (ov_load (i := 0) (v := (ag [(str u14.Name), (iq u14.Time), s17])) rfl rfl Tryz.underlying49 sz49 rfl rfl rfl rfl) ?_
    obtain ⟨r21, hc20, h⟩ := opt_some h
    refine al_callF (vs := [(ag [(str u8.Name), (iq u8.Time), s11]), (ag [(str u14.Name), (iq u14.Time), s17])]) (caps := []) (f_lumref_SameOlds_1_ok fu s11 u8 s17 u14 hc20) rfl [] [] [0, 1] (pre_fz 3 rfl (pre_fz 0 rfl pre_nil)) rfl (by simp) (by decide) (.inl rfl) rfl rfl Tryz.func30 rfl rfl rfl (fun _ => ?_)
    refine al_val (ov_not rfl rfl) ?_
    refine al_nt ?_
    refine aw_cond rfl (fun hb22 => ?_) (fun hb22 => ?_)
    ·replace h := bif_t hb22 h
     refine aw_sr ?_
     refine al_as rfl rfl ?_
     refine al_nt ?_
     refine aw_ret ?_
     refine aq_block_ret ?_
     refine aq_then_ret ?_
     refine aq_then_ret ?_
     refine aq_block_ret ?_
     refine aq_then_ret ?_
     obtain rfl := Option.some.inj h
     exact fn_ret () [] [] rfl rfl rfl rfl (res1 rfl rfl) rfl rfl rfl (by decide)
    ·replace h := bif_f hb22 h
     refine aw_skip ?_
     refine aq_block ?_
     refine aq_then ?_
     refine aw_region ?_
     refine al_in rfl rfl rfl rfl ?_
     refine al_mv rfl rfl ?_
     refine al_nil ?_
     exact aq_again k5 (wq (l4i17 + (1 : Int))) (Nat.lt_succ_self _) h (fun w a hm hs => norm hm hs [] [6, 7] [(1, v1_0), (2, (fq 30)), (15, v0_0), (16, (iq (a0.length : Int))), (17, (iq (wq (l4i17 + (1 : Int)))))] (by decide) ⟨rfl, rfl, rfl, rfl, rfl, trivial⟩)
   ·replace h := bif_f hb7 h
    refine aw_exit ?_
    refine aq_then_exit ?_
    refine aq_then_exit ?_
    refine aq_block_exit ?_
    exact aq_join () h (fun w a hm hs => norm hm hs [] [1, 0] [] (by decide) trivial)
def f_lumref_SameOlds (fu : Nat) (a0 : (List S_api_Old)) (a1 : (List S_api_Old)) : Option Bool := (opt (f_slices_EqualFunc___api_Old___api_Old_api_Old_api_Old__F30 fu a0 a1) fun (r2 : Bool) => (some r2))
set_option maxRecDepth 100000 in
theorem f_lumref_SameOlds_ok (fu : Nat) (v0_0 : Value) (a0 : (List S_api_Old)) (v1_0 : Value) (a1 : (List S_api_Old)) {r : Bool} (h : f_lumref_SameOlds fu a0 a1 = some r) : FnOk Tryz.prog 9 [v0_0, v1_0] [(fDat (tyList tyS_api_Old) [v0_0] a0), (fDat (tyList tyS_api_Old) [v1_0] a1)] [] (fun (i : Unit) => { val := (bool r) }) := by
 unfold f_lumref_SameOlds at h
 refine fn_enter Tryz.func9 rfl Tryz.ntmps9 rfl (fun w0 Z0 => ?_)
 refine aw_sr ?_
 refine al_as rfl rfl ?_
 refine al_nt ?_
 refine aw_sr ?_
 refine al_mv rfl rfl ?_
 refine al_mv rfl rfl ?_
 obtain ⟨r2, hc1, h⟩ := opt_some h
 refine al_call (vs := [v0_0, v1_0, (fq 30)]) (f_slices_EqualFunc___api_Old___api_Old_api_Old_api_Old__F30_ok fu v0_0 a0 v1_0 a1 hc1) [] [] [] (pre_fz 0 rfl (pre_fz 1 rfl pre_nil)) rfl (by simp) (by decide) (.inl rfl) rfl Tryz.func29 rfl rfl rfl (fun _ => ?_)
 refine al_as rfl rfl ?_
 refine al_nt ?_
 refine aw_ret ?_
 obtain rfl := Option.some.inj h
 exact fn_ret () [] [] rfl rfl rfl rfl (res1 rfl rfl) rfl rfl rfl (by decide)
def f_lumlaw_MoveReads (fu : Nat) (a0 : (List S_api_Old)) (a1 : (List UInt8)) : Option Bool := (opt (f_move_Pack fu a0) fun (r2 : ((List UInt8) × Int)) => (opt (f_lumref_OldPack fu a0) fun (r4 : ((List UInt8) × Int)) => (opt (f_move_Read fu a1) fun (r6 : ((List S_api_Old) × Int)) => (opt (f_lumref_OldRead fu a1) fun (r9 : ((List S_api_Old) × Int)) => (lt (fun (j11b4 : Bool) => (some j11b4)) fun (kk12 : Bool → Option Bool) => (bif (r2.1 == r4.1) then (bif (r2.2 == r4.2) then (opt (f_lumref_SameOlds fu r6.1 r9.1) fun (r16 : Bool) => (bif r16 then (kk12 (r6.2 == r9.2)) else (kk12 false))) else (kk12 false)) else (kk12 false)))))))
set_option maxHeartbeats 2000000 in
set_option maxRecDepth 100000 in
theorem f_lumlaw_MoveReads_ok (fu : Nat) (v0_0 : Value) (a0 : (List S_api_Old)) (a1 : (List UInt8)) {r : Bool} (h : f_lumlaw_MoveReads fu a0 a1 = some r) : FnOk Tryz.prog 3 [v0_0, (str a1)] [(fDat (tyList tyS_api_Old) [v0_0] a0), uMax, uTabs] [] (fun (i : Unit) => { val := (bool r) }) := by
 unfold f_lumlaw_MoveReads at h
 refine fn_enter Tryz.func3 rfl Tryz.ntmps3 rfl (fun w0 Z0 => ?_)
 refine aw_sr ?_
 refine al_as rfl rfl ?_
 refine al_nt ?_
 refine aw_sr ?_
 refine al_mv rfl rfl ?_
 obtain ⟨r2, hc1, h⟩ := opt_some h
 refine al_call (vs := [v0_0]) (f_move_Pack_ok fu v0_0 a0 hc1) [] [] [] (pre_fz 0 rfl (pre_fz 1 rfl (pre_fz 2 rfl pre_nil))) rfl (by simp) (by decide) (.inl rfl) rfl Tryz.func5 rfl rfl rfl (fun _ => ?_)
 refine al_mv rfl rfl ?_
 refine al_ex rfl rfl rfl ?_
 refine al_ex rfl rfl rfl ?_
 refine al_as rfl rfl ?_
 refine al_as rfl rfl ?_
 refine al_nt ?_
 refine aw_sr ?_
 refine al_mv rfl rfl ?_
 obtain ⟨r4, hc3, h⟩ := opt_some h
 refine al_call (vs := [v0_0]) (f_lumref_OldPack_ok fu v0_0 a0 hc3) [] [] [] (pre_fz 0 rfl (pre_fz 1 rfl pre_nil)) rfl (by simp) (by decide) (.inl rfl) rfl Tryz.func6 rfl rfl rfl (fun _ => ?_)
 refine al_mv rfl rfl ?_
 refine al_ex rfl rfl rfl ?_
 refine al_ex rfl rfl rfl ?_
 refine al_as rfl rfl ?_
 refine al_as rfl rfl ?_
 refine al_nt ?_
 refine aw_sr ?_
 refine al_mv rfl rfl ?_
 obtain ⟨r6, hc5, h⟩ := opt_some h
 refine al_call (vs := [(str a1)]) (f_move_Read_ok fu a1 hc5) [] [] [] (pre_fz 1 rfl (pre_fz 2 rfl pre_nil)) rfl (by simp) (by decide) (.inl rfl) rfl Tryz.func7 rfl rfl rfl (fun v7 => ?_)
 refine al_mv rfl rfl ?_
 refine al_ex rfl rfl rfl ?_
 refine al_ex rfl rfl rfl ?_
 refine al_as rfl rfl ?_
 refine al_as rfl rfl ?_
 refine al_nt ?_
 refine aw_sr ?_
 refine al_mv rfl rfl ?_
 obtain ⟨r9, hc8, h⟩ := opt_some h
 refine al_call (vs := [(str a1)]) (f_lumref_OldRead_ok fu a1 hc8) [] [] [0] (pre_fz 1 rfl pre_nil) rfl (by simp) (by decide) (.inl rfl) rfl Tryz.func8 rfl rfl rfl (fun v10 => ?_)
 refine al_mv rfl rfl ?_
 refine al_ex rfl rfl rfl ?_
 refine al_ex rfl rfl rfl ?_
 refine al_as rfl rfl ?_
 refine al_as rfl rfl ?_
 refine al_nt ?_
 obtain ⟨kk12, hkk12, h⟩ := lt_some h
 refine aw_seq_join (ι := Bool) (fun i => (memOf w0 Z0 [] [] [(fDat (tyList tyS_api_Old) [v0_0] a0), uMax, uTabs])) (fun i => (tab [(4, (bool i))])) (fun i => kk12 i = some r) ?_ ?_
 ·rintro j11b4 h
  have h : kk12 j11b4 = some r := h
  rw [hkk12] at h
  dsimp only at h
  clear hkk12
  refine aw_show (m := (memOf w0 Z0 [] [] [(fDat (tyList tyS_api_Old) [v0_0] a0), uMax, uTabs])) (S := (tab [(4, (bool j11b4))])) ?_
  refine aw_ret ?_
  obtain rfl := Option.some.inj h
  exact fn_ret () [] [] rfl rfl rfl rfl (res1 rfl rfl) rfl rfl rfl (by decide)
 ·clear hkk12
  refine aw_region ?_
  refine al_mv rfl rfl ?_
  refine al_mv rfl rfl ?_
  refine al_val (ov_strCmp rfl rfl rfl rfl) ?_
  refine al_mv rfl rfl ?_
  refine al_caseB 36 rfl (fun hb13 => ?_) (fun hb13 => ?_)
  ·replace h := bif_t hb13 h
   refine al_mv rfl rfl ?_
   refine al_mv rfl rfl ?_
   refine al_in rfl rfl rfl rfl ?_
   refine al_val (ov_pick_t rfl rfl rfl) ?_
   refine al_mv rfl rfl ?_
   refine al_caseB 41 rfl (fun hb14 => ?_) (fun hb14 => ?_)
   ·replace h := bif_t hb14 h
    refine al_mv rfl rfl ?_
    refine al_mv rfl rfl ?_
    obtain ⟨r16, hc15, h⟩ := opt_some h
    refine al_call (vs := [v7, v10]) (f_lumref_SameOlds_ok fu v7 r6.1 v10 r9.1 hc15) [0, 1] [] [0, 1] (pre_own 1 rfl rfl (pre_own 0 rfl rfl pre_nil)) rfl (by simp) (by decide) (.inr flat_res0) rfl Tryz.func9 rfl rfl rfl (fun _ => ?_)
    refine al_val (ov_pick_t rfl rfl rfl) ?_
    refine al_mv rfl rfl ?_
    refine al_caseB 46 rfl (fun hb17 => ?_) (fun hb17 => ?_)
    ·replace h := bif_t hb17 h
     refine al_mv rfl rfl ?_
     refine al_mv rfl rfl ?_
     refine al_in rfl rfl rfl rfl ?_
     refine al_val (ov_pick_t rfl rfl rfl) ?_
     refine al_as rfl rfl ?_
     refine al_nil ?_
     exact aq_join (r6.2 == r9.2) h (fun w a hm hs => norm hm hs [] [0, 1, 2] [(4, (bool (r6.2 == r9.2)))] (by decide) ⟨rfl, trivial⟩)
    ·replace h := bif_f hb17 h
     refine al_skip ?_
     refine al_skip ?_
     refine al_skip ?_
     refine al_val (ov_pick_f rfl rfl rfl) ?_
     refine al_as rfl rfl ?_
     refine al_nil ?_
     exact aq_join false h (fun w a hm hs => norm hm hs [] [0, 1, 2] [(4, (bool false))] (by decide) ⟨rfl, trivial⟩)
   ·replace h := bif_f hb14 h
    refine al_skip ?_
    refine al_skip ?_
    refine al_skip ?_
    refine al_val (ov_pick_f rfl rfl rfl) ?_
    refine al_mv rfl rfl ?_
    refine al_skip ?_
    refine al_skip ?_
    refine al_skip ?_
    refine al_val (ov_pick_f rfl rfl rfl) ?_
    refine al_as rfl rfl ?_
    refine al_nil ?_
    exact aq_join false h (fun w a hm hs => norm hm hs [] [0, 1, 2] [(4, (bool false))] (by decide) ⟨rfl, trivial⟩)
  ·replace h := bif_f hb13 h
   refine al_skip ?_
   refine al_skip ?_
   refine al_skip ?_
   refine al_val (ov_pick_f rfl rfl rfl) ?_
   refine al_mv rfl rfl ?_
   refine al_skip ?_
   refine al_skip ?_
   refine al_skip ?_
   refine al_val (ov_pick_f rfl rfl rfl) ?_
   refine al_mv rfl rfl ?_
   refine al_skip ?_
   refine al_skip ?_
   refine al_skip ?_
   refine al_val (ov_pick_f rfl rfl rfl) ?_
   refine al_as rfl rfl ?_
   refine al_nil ?_
   exact aq_join false h (fun w a hm hs => norm hm hs [] [0, 1, 2] [(4, (bool false))] (by decide) ⟨rfl, trivial⟩)
end Go.Proofs.YtfhifdmbdkkgaaaGreatDoor
namespace Go.Proofs.YtfhifdmbdkkgaaaGreatDoor.Mix
def M : Nat := 18446744073709551616
def cF : Nat := 11400714819323198485
def cS : Nat := 13787848793156543929
theorem M_pow : M = 2 ^ 64 := by decide
def stp (x b : Nat) : Nat :=
  let z := (x ^^^ b) * cF % M
  let y := (z ^^^ z / 2 ^ 29) * cS % M
  y ^^^ y / 2 ^ 32
theorem div_lt' {z : Nat} (h : z < M) (k : Nat) : z / 2 ^ k < M := Nat.lt_of_le_of_lt (Nat.div_le_self _ _) h
theorem xltM {a b : Nat} (ha : a < M) (hb : b < M) : a ^^^ b < M := by rw [M_pow] at *; exact Nat.xor_lt_two_pow ha hb
theorem M_pos : 0 < M := by decide
theorem stp_lt (x b : Nat) : stp x b < M := by
  unfold stp; simp only
  exact xltM (Nat.mod_lt _ M_pos) (div_lt' (Nat.mod_lt _ M_pos) 32)
theorem prod_one (a b i : Nat) (h : b / 2 ^ i % 2 = 1) : (a * (b % 2 ^ i) % M + a * 2 ^ i % M) % M = a * (b % 2 ^ (i + 1)) % M := by
  rw [Nat.mod_pow_succ, h, Nat.mul_one, Nat.mul_add, ← Nat.add_mod]
theorem prod_zero (a b i : Nat) (h : b / 2 ^ i % 2 = 0) : a * (b % 2 ^ i) % M = a * (b % 2 ^ (i + 1)) % M := by
  rw [Nat.mod_pow_succ, h, Nat.mul_zero, Nat.add_zero]
def leN : List UInt8 → Nat
  | [] => 0
  | b :: l => b.toNat + 256 * leN l
theorem leN_zeros (l : List UInt8) (k : Nat) : leN (l ++ List.replicate k 0) = leN l := by
  induction l with
  | nil =>
    induction k with
    | zero => rfl
    | succ k ih => rw [List.nil_append] at ih ⊢; rw [List.replicate_succ]; show (0 : UInt8).toNat + 256 * leN (List.replicate k 0) = 0; rw [ih]; rfl
  | cons b l ih => show b.toNat + 256 * leN (l ++ _) = b.toNat + 256 * leN l; rw [ih]
theorem leN_lt : ∀ l : List UInt8, leN l < 256 ^ l.length
  | [] => by decide
  | b :: l => by
    have := leN_lt l
    have h := b.toNat_lt
    show b.toNat + 256 * leN l < 256 ^ (l.length + 1)
    rw [Nat.pow_succ]; omega
theorem leN_lt8 (l : List UInt8) (h : l.length ≤ 8) : leN l < M := Nat.lt_of_lt_of_le (leN_lt l) (by rw [show M = 256 ^ 8 from by decide]; exact Nat.pow_le_pow_right (by omega) h)
def chain (cut : Nat → Nat) : Nat → List UInt8 → Nat → Nat
  | 0, _, x => x
  | k + 1, s, x => if s = [] then x else chain cut k (s.drop 8) (cut (stp x (leN (s.take 8))))
def hash (cut : Nat → Nat) (s : List UInt8) : Nat := cut (stp (chain cut s.length s 0) s.length)
theorem chain_nil (cut : Nat → Nat) (k x : Nat) : chain cut k [] x = x := by cases k <;> simp [chain]
theorem chain_more (cut : Nat → Nat) : ∀ (k j : Nat) (s : List UInt8) (x : Nat), s.length ≤ k → s.length ≤ j → chain cut k s x = chain cut j s x
  | 0, j, s, x, h, _ => by
    have : s = [] := List.eq_nil_of_length_eq_zero (by omega)
    subst this; rw [chain_nil, chain_nil]
  | k + 1, 0, s, x, _, h => by
    have : s = [] := List.eq_nil_of_length_eq_zero (by omega)
    subst this; rw [chain_nil, chain_nil]
  | k + 1, j + 1, s, x, h1, h2 => by
    unfold chain
    split
    · rfl
    · rename_i hs
      have hp : 0 < s.length := List.length_pos_iff.2 hs
      exact chain_more cut k j _ _ (by rw [List.length_drop]; omega) (by rw [List.length_drop]; omega)
theorem chain_step (cut : Nat → Nat) {s : List UInt8} (hs : s ≠ []) (x : Nat) : chain cut s.length s x = chain cut (s.drop 8).length (s.drop 8) (cut (stp x (leN (s.take 8)))) := by
  have hp : 0 < s.length := List.length_pos_iff.2 hs
  obtain ⟨k, hk⟩ : ∃ k, s.length = k + 1 := ⟨s.length - 1, by omega⟩
  rw [hk]
  show (if s = [] then x else _) = _
  rw [if_neg hs]
  exact chain_more cut _ _ _ _ (by rw [List.length_drop]; omega) (Nat.le_refl _)
def pad (s : List UInt8) : List UInt8 := s ++ List.replicate ((8 - s.length % 8) % 8) 0
theorem pad_nil (s : List UInt8) : pad s = [] ↔ s = [] := by
  constructor
  · intro h; exact (List.append_eq_nil_iff.1 h).1
  · rintro rfl; rfl
theorem pad_take (s : List UInt8) (hs : s ≠ []) : leN ((pad s).take 8) = leN (s.take 8) ∧ 8 ≤ (pad s).length ∧ (pad s).drop 8 = pad (s.drop 8) := by
  have hp : 0 < s.length := List.length_pos_iff.2 hs
  unfold pad
  by_cases h : 8 ≤ s.length
  · refine ⟨by rw [List.take_append_of_le_length h], by rw [List.length_append]; omega, ?_⟩
    rw [List.drop_append_of_le_length h, List.length_drop, show (s.length - 8) % 8 = s.length % 8 by omega]
  · have e : (8 - s.length % 8) % 8 = 8 - s.length := by omega
    rw [e]
    have hl : (s ++ List.replicate (8 - s.length) (0 : UInt8)).length = 8 := by simp; omega
    refine ⟨?_, by omega, ?_⟩
    · rw [List.take_of_length_le (by omega), leN_zeros, List.take_of_length_le (by omega)]
    · rw [List.drop_of_length_le (by omega), List.drop_of_length_le (show s.length ≤ 8 by omega)]; rfl
end Go.Proofs.YtfhifdmbdkkgaaaGreatDoor.Mix
namespace Go.Proofs.YtfhifdmbdkkgaaaGreatDoor.Num
open Go.Lib
theorem beFrom_snoc : ∀ (l : List UInt8) (acc : Nat) (b : UInt8), beFrom acc (l ++ [b]) = beFrom acc l * 256 + b.toNat
  | [], _, _ => rfl
  | c :: l, acc, b => by show beFrom (acc * 256 + c.toNat) (l ++ [b]) = _; rw [beFrom_snoc l]; rfl
theorem beNat_snoc (l : List UInt8) (b : UInt8) : beNat (l ++ [b]) = beNat l * 256 + b.toNat := beFrom_snoc l 0 b
theorem beFrom_lt : ∀ (l : List UInt8) (acc : Nat), beFrom acc l < (acc + 1) * 256 ^ l.length
  | [], acc => by simp [beFrom]
  | c :: l, acc => by
    have h := beFrom_lt l (acc * 256 + c.toNat)
    have hc := c.toNat_lt
    have h2 : (acc * 256 + c.toNat + 1) * 256 ^ l.length ≤ ((acc + 1) * 256) * 256 ^ l.length := Nat.mul_le_mul_right _ (by omega)
    have h3 : ((acc + 1) * 256) * 256 ^ l.length = (acc + 1) * 256 ^ (c :: l).length := by rw [List.length_cons, Nat.pow_succ, Nat.mul_assoc, Nat.mul_comm 256]
    show beFrom (acc * 256 + c.toNat) l < _
    omega
theorem beNat_lt (l : List UInt8) : beNat l < 256 ^ l.length := by have := beFrom_lt l 0; simpa [beNat] using this
theorem beNat_lt' {l : List UInt8} {k : Nat} (h : l.length ≤ k) : beNat l < 256 ^ k := Nat.lt_of_lt_of_le (beNat_lt l) (Nat.pow_le_pow_right (by omega) h)
theorem beNat_take {l : List UInt8} {j : Nat} (h : j < l.length) : beNat (l.take (j + 1)) = beNat (l.take j) * 256 + l[j].toNat := by
  rw [← List.take_append_getElem h, beNat_snoc]
def digF : Nat → Nat → List UInt8
  | 0, _ => []
  | k + 1, n => if n = 0 then [] else digF k (n / 256) ++ [(n % 256).toUInt8]
theorem digF_nil : ∀ {k n : Nat}, n < 256 ^ k → (digF k n = [] ↔ n = 0)
  | 0, n, h => by simp [digF]; simpa using h
  | k + 1, n, h => by unfold digF; split <;> simp_all
theorem digF_len : ∀ (k n : Nat), (digF k n).length ≤ k
  | 0, n => by simp [digF]
  | k + 1, n => by
    unfold digF
    split
    · simp
    · have := digF_len k (n / 256); simp; omega
theorem be_succ (k n : Nat) : beBytes (k + 1) n = beBytes k (n / 256) ++ [(n % 256).toUInt8] := by unfold beBytes; rw [Lib.leBytes, List.reverse_cons]
theorem div_lt {k n : Nat} (h : n < 256 ^ (k + 1)) : n / 256 < 256 ^ k := by rw [Nat.pow_succ] at h; omega
theorem trim_be : ∀ {k n : Nat}, n < 256 ^ k → trimLeftB (beBytes k n) 0 = digF k n
  | 0, n, h => rfl
  | k + 1, n, h => by
    have ih := trim_be (div_lt h)
    have hn := digF_nil (div_lt h)
    unfold trimLeftB at ih ⊢
    rw [be_succ, List.dropWhile_append, ih]
    show _ = if n = 0 then [] else digF k (n / 256) ++ [(n % 256).toUInt8]
    by_cases h0 : n / 256 = 0
    · rw [hn.2 h0]
      by_cases h1 : n = 0
      · subst h1; rfl
      · have h2 : ((n % 256).toUInt8 == 0) = false := by
          rw [beq_eq_false_iff_ne]
          intro e
          have := congrArg UInt8.toNat e
          rw [toUInt8_mod] at this
          simp at this; omega
        rw [if_neg h1]; simp [h2]
    · have h3 : (digF k (n / 256)).isEmpty = false := by rw [List.isEmpty_eq_false_iff]; exact fun e => h0 (hn.1 e)
      rw [h3, if_neg (by simp), if_neg (by omega)]
end Go.Proofs.YtfhifdmbdkkgaaaGreatDoor.Num
namespace Go.Proofs.YtfhifdmbdkkgaaaGreatDoor
open Go.RowKit YtfhifdmbdkkgaaaGreatDoor.En
theorem at_nat {α : Type} (xs : List α) (k : Nat) : at? xs (k : Int) = xs[k]? := by unfold at?; rw [if_pos (Int.natCast_nonneg k)]; simp
theorem at_lt {α : Type} {xs : List α} {k : Nat} (h : k < xs.length) : at? xs (k : Int) = some xs[k] := by rw [at_nat, List.getElem?_eq_getElem h]
theorem at_of {α : Type} {xs : List α} {k : Nat} {x : α} (h : xs[k]? = some x) : at? xs (k : Int) = some x := by rw [at_nat, h]
theorem w64 {x : Int} (h0 : -9223372036854775808 ≤ x) (h1 : x ≤ 9223372036854775807) : IntKind.i64.wrap x = x := IntWalk.i64_in x (by omega)
theorem wsucc {k : Nat} (h : k < 9223372036854775807) : IntKind.i64.wrap ((k : Int) + 1) = ((k + 1 : Nat) : Int) := by rw [w64 (by omega) (by omega)]; omega
theorem dlt {a b : Int} (h : a < b) : decide (a < b) = true := decide_eq_true h
theorem dge {a b : Int} (h : b ≤ a) : decide (a < b) = false := decide_eq_false (by omega)
theorem cond_tt {α : Type} {b : Bool} {x y : α} (h : b = true) : (bif b then x else y) = x := by rw [h]; rfl
theorem cond_ff {α : Type} {b : Bool} {x y : α} (h : b = false) : (bif b then x else y) = y := by rw [h]; rfl
theorem cond_dec {α : Type} {p : Prop} [Decidable p] {x y : α} : (bif decide p then x else y) = if p then x else y := by by_cases h : p <;> simp [h]
theorem wfi64 {x : Int} (h : (Lit.int .i64 x).wf = true) : -9223372036854775808 ≤ x ∧ x ≤ 9223372036854775807 := by
  simpa [Lit.wf, IntKind.min, IntKind.max, IntKind.signed, IntKind.bits] using h
end Go.Proofs.YtfhifdmbdkkgaaaGreatDoor
namespace Go.Proofs.YtfhifdmbdkkgaaaGreatDoor
open Go.RowKit YtfhifdmbdkkgaaaGreatDoor.En
theorem shr_nat {x m : Nat} {j : Int} {k : IntKind} (hj : j = (m : Int)) (hm : m ≤ k.bits) : ((x : Int)).fdiv (2 ^ min j.toNat k.bits) = ((x / 2 ^ m : Nat) : Int) := by
  subst hj
  rw [Int.toNat_natCast, Nat.min_eq_left hm, Int.fdiv_eq_ediv_of_nonneg _ (by apply Int.le_of_lt; apply Int.pow_pos; decide)]
  simp
theorem shl_nat {x m : Nat} {j : Int} {k : IntKind} (hj : j = (m : Int)) (hm : m ≤ k.bits) : ((x : Int)) * 2 ^ min j.toNat k.bits = ((x * 2 ^ m : Nat) : Int) := by
  subst hj
  rw [Int.toNat_natCast, Nat.min_eq_left hm]
  simp
theorem u8w (x : Nat) : IntKind.u8.wrap (x : Int) = ((x % 256 : Nat) : Int) := by
  unfold IntKind.wrap
  simp [IntKind.signed, IntKind.bits]
theorem u8w_in {x : Nat} (h : x < 256) : IntKind.u8.wrap (x : Int) = (x : Int) := by rw [u8w, Nat.mod_eq_of_lt h]
end Go.Proofs.YtfhifdmbdkkgaaaGreatDoor
namespace Go.Proofs.YtfhifdmbdkkgaaaGreatDoor.PMoveReads
open Go.RowKit YtfhifdmbdkkgaaaGreatDoor.En YtfhifdmbdkkgaaaGreatDoor Num Mix
open Go.Lib hiding cut
set_option linter.unusedVariables false
set_option linter.unusedSimpArgs false
namespace MX
theorem wr (x : Nat) : IntKind.u64.wrap (x : Int) = ((x % M : Nat) : Int) := by
  unfold IntKind.wrap
  simp [IntKind.signed, IntKind.bits, M]
theorem wi {x : Nat} (h : x < M) : IntKind.u64.wrap (x : Int) = (x : Int) := by rw [wr, Nat.mod_eq_of_lt h]
theorem xo {a b : Nat} (ha : a < M) (hb : b < M) : bits .xor .u64 (a : Int) (b : Int) = ((a ^^^ b : Nat) : Int) := u64_xor_nat a b ha hb
theorem mF (n : Nat) : IntKind.u64.wrap ((n : Int) * (11400714819323198485 : Int)) = ((n * cF % M : Nat) : Int) := by
  rw [show (n : Int) * (11400714819323198485 : Int) = ((n * cF : Nat) : Int) from by rw [Int.natCast_mul]; rfl]
  exact wr _
theorem mS (n : Nat) : IntKind.u64.wrap ((n : Int) * (13787848793156543929 : Int)) = ((n * cS % M : Nat) : Int) := by
  rw [show (n : Int) * (13787848793156543929 : Int) = ((n * cS : Nat) : Int) from by rw [Int.natCast_mul]; rfl]
  exact wr _
theorem s29 (n : Nat) : ((n : Int)).fdiv (2 ^ min ((29 : Int)).toNat (IntKind.bits .u64)) = ((n / 2 ^ 29 : Nat) : Int) := shr_nat rfl (by decide)
theorem s32 (n : Nat) : ((n : Int)).fdiv (2 ^ min ((32 : Int)).toNat (IntKind.bits .u64)) = ((n / 2 ^ 32 : Nat) : Int) := shr_nat rfl (by decide)
theorem ml (n : Nat) : n % M < M := Nat.mod_lt _ M_pos
theorem mstep_ok (fu : Nat) {x b : Nat} (hx : x < M) (hb : b < M) : f_mix_Step fu (x : Int) (b : Int) = some ((stp x b : Nat) : Int) := by
  unfold f_mix_Step
  rw [xo hx hb, mF, s29, xo (ml _) (div_lt' (ml _) 29), mS, s32, xo (ml _) (div_lt' (ml _) 32)]
  rfl
theorem prod_go (a b : Nat) (ha : a < M) (hb : b < M) (kk : Int → Option Int) : ∀ (n i fu : Nat), i + n = 64 → n < fu →
    f_lumref_product_L5 (a : Int) (b : Int) kk fu ((a * (b % 2 ^ i) % M : Nat) : Int) (i : Int) = kk ((a * b % M : Nat) : Int)
  | 0, i, fu + 1, hi, _ => by
    obtain rfl : i = 64 := by omega
    rw [f_lumref_product_L5, cond_ff (dge (by omega)), Nat.mod_eq_of_lt (show b < 2 ^ 64 from hb)]
  | n + 1, i, fu + 1, hi, hf => by
    rw [f_lumref_product_L5, cond_tt (dlt (by omega)), lt_of, req_pos (by omega)]
    have hd : b / 2 ^ i < M := div_lt' hb i
    rw [shr_nat (m := i) (k := .u64) rfl (show i ≤ 64 by omega)]
    have hbit : bits .and .u64 ((b / 2 ^ i : Nat) : Int) 1 = ((b / 2 ^ i % 2 : Nat) : Int) := by
      have := u64_and_nat (b / 2 ^ i) 1 hd (by omega)
      rw [Nat.and_one_is_mod] at this
      exact this
    rw [hbit]
    have ih := prod_go a b ha hb kk n (i + 1) fu (by omega) (by omega)
    by_cases h1 : b / 2 ^ i % 2 = 1
    · rw [h1, cond_tt (by rfl), req_pos (by omega), shl_nat (m := i) (k := .u64) rfl (show i ≤ 64 by omega), wr, ← Int.natCast_add, wr, prod_one a b i h1, wsucc (by omega)]
      exact ih
    · have h0 : b / 2 ^ i % 2 = 0 := by omega
      rw [h0, cond_ff (by rfl), prod_zero a b i h0, wsucc (by omega)]
      exact ih
theorem prod_ok (fu : Nat) (hf : 65 ≤ fu) {a b : Nat} (ha : a < M) (hb : b < M) : f_lumref_product fu (a : Int) (b : Int) = some ((a * b % M : Nat) : Int) := by
  unfold f_lumref_product
  rw [lt_of]
  have h := prod_go a b ha hb (fun j => some j) 64 0 fu (by omega) (by omega)
  rw [show a * (b % 2 ^ 0) % M = 0 from by simp [Nat.mod_one]] at h
  exact h
theorem td29 (n : Nat) (h : n < M) : IntKind.u64.wrap (((n : Int)).tdiv (536870912 : Int)) = ((n / 2 ^ 29 : Nat) : Int) := by
  rw [show ((n : Int)).tdiv (536870912 : Int) = ((n / 2 ^ 29 : Nat) : Int) from rfl, wi (div_lt' h 29)]
theorem td32 (n : Nat) (h : n < M) : IntKind.u64.wrap (((n : Int)).tdiv (4294967296 : Int)) = ((n / 2 ^ 32 : Nat) : Int) := by
  rw [show ((n : Int)).tdiv (4294967296 : Int) = ((n / 2 ^ 32 : Nat) : Int) from rfl, wi (div_lt' h 32)]
theorem cF_lt : cF < M := by decide
theorem cS_lt : cS < M := by decide
theorem rstep_ok (fu : Nat) (hf : 65 ≤ fu) {x b : Nat} (hx : x < M) (hb : b < M) : f_lumref_Step fu (x : Int) (b : Int) = some ((stp x b : Nat) : Int) := by
  unfold f_lumref_Step
  rw [xo hx hb, show (11400714819323198485 : Int) = ((cF : Nat) : Int) from rfl, prod_ok fu hf (xltM hx hb) cF_lt, opt_of, td29 _ (ml _), xo (ml _) (div_lt' (ml _) 29)]
  rw [show (13787848793156543929 : Int) = ((cS : Nat) : Int) from rfl, prod_ok fu hf (xltM (ml _) (div_lt' (ml _) 29)) cS_lt, opt_of, td32 _ (ml _), xo (ml _) (div_lt' (ml _) 32)]
  rfl
theorem u64b (b : UInt8) : IntKind.u64.wrap (b.toNat : Int) = ((b.toNat : Nat) : Int) := wi (Nat.lt_trans b.toNat_lt (by decide))
theorem orb {a m : Nat} {b : UInt8} {j : Int} (hj : j = (m : Int)) (ha : a < 2 ^ m) (hm : m + 8 ≤ 64) : bits .or .u64 (a : Int) (IntKind.u64.wrap ((IntKind.u64.wrap (b.toNat : Int)) * 2 ^ min j.toNat (IntKind.bits .u64))) = ((a + b.toNat * 2 ^ m : Nat) : Int) := by
  have hb := b.toNat_lt
  have h1 : b.toNat * 2 ^ m < 2 ^ (8 + m) := by rw [Nat.pow_add]; exact Nat.mul_lt_mul_of_pos_right hb (Nat.pow_pos (by omega))
  have h2 : (2 : Nat) ^ (8 + m) ≤ 2 ^ 64 := Nat.pow_le_pow_right (by omega) (by omega)
  have h3 : (2 : Nat) ^ m ≤ 2 ^ 64 := Nat.pow_le_pow_right (by omega) (by omega)
  have hM : M = 2 ^ 64 := M_pow
  rw [u64b, shl_nat (m := m) (k := .u64) hj (show m ≤ 64 by omega), wi (by omega)]
  have := u64_or_nat a (b.toNat * 2 ^ m) (by show a < M; omega) (by show _ < M; omega)
  rw [this, Nat.mul_comm b.toNat, Nat.or_comm, ← Nat.two_pow_add_eq_or_of_lt ha, Nat.add_comm]
theorem le64_ok (fu : Nat) (l : List UInt8) (hl : l.length = 8) : f__binary_littleEndian__Uint64 fu () l = some ((leN l : Nat) : Int) := by
  match l, hl with
  | [b0, b1, b2, b3, b4, b5, b6, b7], _ =>
    have g0 := b0.toNat_lt
    have g1 := b1.toNat_lt
    have g2 := b2.toNat_lt
    have g3 := b3.toNat_lt
    have g4 := b4.toNat_lt
    have g5 := b5.toNat_lt
    have g6 := b6.toNat_lt
    have g7 := b7.toNat_lt
    unfold f__binary_littleEndian__Uint64
    rw [show at? [b0, b1, b2, b3, b4, b5, b6, b7] (7 : Int) = some b7 from rfl, opt_of, show at? [b0, b1, b2, b3, b4, b5, b6, b7] (0 : Int) = some b0 from rfl, opt_of, show at? [b0, b1, b2, b3, b4, b5, b6, b7] (1 : Int) = some b1 from rfl, opt_of,
      show at? [b0, b1, b2, b3, b4, b5, b6, b7] (2 : Int) = some b2 from rfl, opt_of, show at? [b0, b1, b2, b3, b4, b5, b6, b7] (3 : Int) = some b3 from rfl, opt_of, show at? [b0, b1, b2, b3, b4, b5, b6, b7] (4 : Int) = some b4 from rfl, opt_of,
      show at? [b0, b1, b2, b3, b4, b5, b6, b7] (5 : Int) = some b5 from rfl, opt_of, show at? [b0, b1, b2, b3, b4, b5, b6, b7] (6 : Int) = some b6 from rfl, opt_of, opt_of]
    rw [u64b b0, orb (j := 8) (m := 8) rfl (by omega) (by omega), orb (j := 16) (m := 16) rfl (by omega) (by omega), orb (j := 24) (m := 24) rfl (by omega) (by omega), orb (j := 32) (m := 32) rfl (by omega) (by omega), orb (j := 40) (m := 40) rfl (by omega) (by omega), orb (j := 48) (m := 48) rfl (by omega) (by omega), orb (j := 56) (m := 56) rfl (by omega) (by omega)]
    congr 2
    simp only [leN]
    omega
theorem lof {l : List UInt8} (h : l.length = 8) : lA8u8 (ofA8u8 l) = l := by
  match l, h with
  | [b0, b1, b2, b3, b4, b5, b6, b7], _ => rfl
def zer : A8u8 := (A8u8.mk (0 : UInt8) (0 : UInt8) (0 : UInt8) (0 : UInt8) (0 : UInt8) (0 : UInt8) (0 : UInt8) (0 : UInt8))
theorem lcp (s : List UInt8) : lA8u8 (cpA8u8 zer s) = s.take 8 ++ List.replicate (8 - (s.take 8).length) 0 := by
  unfold cpA8u8
  have h8 : (s.take 8).length ≤ 8 := by rw [List.length_take]; omega
  rw [show lA8u8 zer = List.replicate 8 0 from rfl, List.drop_replicate, lof (by rw [List.length_append, List.length_replicate]; omega)]
theorem lcp_len (s : List UInt8) : (lA8u8 (cpA8u8 zer s)).length = 8 := rfl
theorem dropmin (s : List UInt8) : s.drop (Nat.min s.length 8) = s.drop 8 := by
  rcases Nat.le_total s.length 8 with h | h
  · rw [show Nat.min s.length 8 = s.length from Nat.min_eq_left h, List.drop_length, List.drop_of_length_le h]
  · rw [show Nat.min s.length 8 = 8 from Nat.min_eq_right h]
theorem chain_lt {cut : Nat → Nat} (hc : ∀ y, y < M → cut y < M) : ∀ (k : Nat) (s : List UInt8) (x : Nat), x < M → chain cut k s x < M
  | 0, _, _, h => h
  | k + 1, s, x, h => by
    unfold chain
    split
    · exact h
    · exact chain_lt hc k _ _ (hc _ (stp_lt _ _))
theorem cut_lt (w : Nat) : ∀ y, y < M → y % 2 ^ w < M := fun y h => Nat.lt_of_le_of_lt (Nat.mod_le _ _) h
theorem hash_lt (w : Nat) (s : List UInt8) : hash (fun y => y % 2 ^ w) s < M := cut_lt w _ (stp_lt _ _)
theorem andm {r w : Nat} (hr : r < M) (hw : w ≤ 64) : bits .and .u64 (r : Int) ((2 ^ w - 1 : Nat) : Int) = ((r % 2 ^ w : Nat) : Int) := by
  have h3 : (2 : Nat) ^ w ≤ 2 ^ 64 := Nat.pow_le_pow_right (by omega) hw
  have h0 : (0 : Nat) < 2 ^ w := Nat.pow_pos (by omega)
  have hM : M = 2 ^ 64 := M_pow
  rw [u64_and_nat r (2 ^ w - 1) hr (by show _ < M; omega), Nat.and_two_pow_sub_one_eq_mod]
theorem msum_go (w : Nat) (hw : w ≤ 64) (kk : Int → Option Int) (fu : Nat) : ∀ (k : Nat) (s : List UInt8) (x : Nat), x < M → s.length < k →
    f_mix_sum_L7 ((2 ^ w - 1 : Nat) : Int) kk fu k s (x : Int) = kk ((chain (fun y => y % 2 ^ w) s.length s x : Nat) : Int)
  | k + 1, s, x, hx, hk => by
    rw [f_mix_sum_L7]
    by_cases hs : s = []
    · subst hs
      rw [cond_ff (by rfl), chain_nil]
    · have hmin : Nat.min s.length 8 ≤ s.length := Nat.min_le_left _ _
      have hp : 0 < s.length := List.length_pos_iff.2 hs
      have h8 : (s.take 8).length ≤ 8 := by rw [List.length_take]; omega
      rw [cond_tt (by simpa using hs), req_pos ⟨by omega, by omega⟩]
      have hb : f__binary_littleEndian__Uint64 fu () (lA8u8 (cpA8u8 zer s)) = some ((leN (s.take 8) : Nat) : Int) := by
        rw [le64_ok fu _ (lcp_len s), lcp, leN_zeros]
      unfold zer at hb
      rw [hb, opt_of, mstep_ok fu hx (leN_lt8 _ h8), opt_of, andm (stp_lt _ _) hw, Int.toNat_natCast, dropmin]
      rw [msum_go w hw kk fu k (s.drop 8) _ (cut_lt w _ (stp_lt _ _)) (by rw [List.length_drop]; omega), chain_step _ hs]
theorem msum_ok (w : Nat) (hw : w ≤ 64) (fu : Nat) (s : List UInt8) (hf : s.length < fu) (h63 : s.length ≤ 9223372036854775807) : f_mix_sum fu s ((2 ^ w - 1 : Nat) : Int) = some ((hash (fun y => y % 2 ^ w) s : Nat) : Int) := by
  unfold f_mix_sum
  rw [lt_of]
  rw [show (0 : Int) = ((0 : Nat) : Int) from rfl, msum_go w hw _ fu fu s 0 M_pos hf]
  rw [wi (by unfold M; omega), mstep_ok fu (chain_lt (cut_lt w) _ _ _ M_pos) (by unfold M; omega), opt_of, andm (stp_lt _ _) hw]
  rfl
theorem mSum_ok (fu : Nat) (s : List UInt8) (hf : s.length < fu) (h63 : s.length ≤ 9223372036854775807) : f_mix_Sum fu s = some ((hash (fun y => y % 2 ^ 64) s : Nat) : Int) := by
  unfold f_mix_Sum
  rw [show (18446744073709551615 : Int) = ((2 ^ 64 - 1 : Nat) : Int) from rfl, msum_ok 64 (by omega) fu s hf h63, opt_of]
def idOf (s : List UInt8) : A8u8 := ofA8u8 (beBytes 8 (hash (fun y => y % 2 ^ 64) s))
theorem be8_len (n : Nat) : (beBytes 8 n).length = 8 := beBytes_length 8 n
theorem cpbe (n : Nat) : cpA8u8 zer (beBytes 8 n) = ofA8u8 (beBytes 8 n) := by
  unfold cpA8u8
  rw [List.take_of_length_le (by rw [be8_len]; exact Nat.le_refl _), be8_len, show (lA8u8 zer).drop 8 = [] from rfl, List.append_nil]
theorem mID_ok (fu : Nat) (s : List UInt8) (hf : s.length < fu) (h63 : s.length ≤ 9223372036854775807) : f_mix_ID fu s = some (idOf s) := by
  unfold f_mix_ID
  rw [mSum_ok fu s hf h63, opt_of, req_pos ⟨by omega, by have := hash_lt 64 s; unfold M at this; omega⟩, Int.toNat_natCast]
  exact congrArg some (cpbe _)
theorem rcut_ok (fu : Nat) {y w : Nat} (hy : y < M) (hw : w ≤ 64) : f_lumref_Narrow_1 fu (y : Int) (w : Int) = some ((y % 2 ^ w : Nat) : Int) := by
  unfold f_lumref_Narrow_1
  by_cases h : w = 64
  · subst h
    rw [cond_tt (by rfl), Nat.mod_eq_of_lt (show y < 2 ^ 64 from hy)]
  · have h3 : (2 : Nat) ^ w ≤ 2 ^ 63 := Nat.pow_le_pow_right (by omega) (by omega)
    have h0 : (0 : Nat) < 2 ^ w := Nat.pow_pos (by omega)
    have e : IntKind.u64.wrap ((1 : Int) * 2 ^ min ((w : Int)).toNat (IntKind.bits .u64)) = ((2 ^ w : Nat) : Int) := by
      have := shl_nat (x := 1) (m := w) (j := (w : Int)) (k := .u64) rfl (show w ≤ 64 by omega)
      rw [show (1 : Int) * 2 ^ min ((w : Int)).toNat (IntKind.bits .u64) = ((1 * 2 ^ w : Nat) : Int) from this, wi (by unfold M; omega), Nat.one_mul]
    rw [cond_ff (by rw [beq_eq_false_iff_ne]; omega), req_pos (by omega), e, req_pos (by omega)]
    rfl
theorem bAtN {s : List UInt8} {j : Nat} (h : j < s.length) : En.bAt s (j : Int) = ((s[j].toNat : Nat) : Int) := by
  unfold En.bAt
  rw [Int.toNat_natCast, List.getD_eq_getElem?_getD, List.getElem?_eq_getElem h]; rfl
theorem blk_go (l : List UInt8) (hl : 8 ≤ l.length) (kk : Int → Option Int) : ∀ (n k : Nat), n ≤ 8 → n < k → f_lumref_Narrow_L27 l kk k ((leN ((l.take 8).drop n) : Nat) : Int) ((n : Int) - 1) = kk ((leN (l.take 8) : Nat) : Int)
  | 0, k + 1, _, _ => by
    rw [f_lumref_Narrow_L27, cond_ff (decide_eq_false (by omega))]; rfl
  | n + 1, k + 1, hn, hk => by
    have e : ((n + 1 : Nat) : Int) - 1 = (n : Int) := by omega
    have hlt : n < (l.take 8).length := by rw [List.length_take]; omega
    have hv : leN ((l.take 8).drop n) = 256 * leN ((l.take 8).drop (n + 1)) + l[n].toNat := by
      rw [List.drop_eq_getElem_cons hlt, List.getElem_take]
      show _ + _ = _
      omega
    have hlen : ((l.take 8).drop n).length ≤ 8 := by rw [List.length_drop, List.length_take]; omega
    have hM := leN_lt8 _ hlen
    rw [hv] at hM
    have hbl := l[n].toNat_lt
    rw [f_lumref_Narrow_L27, e, cond_tt (decide_eq_true (by omega)), req_pos ⟨by omega, by omega⟩, bAtN (by omega), wi (x := l[n].toNat) (by unfold M; omega)]
    rw [show (256 : Int) * ((leN ((l.take 8).drop (n + 1)) : Nat) : Int) = ((256 * leN ((l.take 8).drop (n + 1)) : Nat) : Int) from by omega, wi (by omega), ← Int.natCast_add, wi hM, ← hv]
    rw [w64 (by omega) (by omega)]
    exact blk_go l hl kk n k (by omega) (by omega)
theorem rsum_go (w : Nat) (hw : w ≤ 64) (kk : Int → Option Int) (fu : Nat) (hfu : 65 ≤ fu) : ∀ (k : Nat) (s : List UInt8) (x : Nat), x < M → s.length < k →
    f_lumref_Narrow_L13 (w : Int) kk fu k (x : Int) (pad s) = kk ((chain (fun y => y % 2 ^ w) s.length s x : Nat) : Int)
  | k + 1, s, x, hx, hk => by
    rw [f_lumref_Narrow_L13, lt_of]
    dsimp only
    by_cases hs : s = []
    · subst hs
      rw [cond_ff (by rfl), chain_nil]
    · obtain ⟨p1, p2, p3⟩ := pad_take s hs
      have hp : 0 < s.length := List.length_pos_iff.2 hs
      have h8 : (s.take 8).length ≤ 8 := by rw [List.length_take]; omega
      rw [cond_tt (by have := mt (pad_nil s).1 hs; simpa using this), lt_of, lt_of]
      dsimp only
      have hb := blk_go (pad s) p2 (fun j19i8 => (opt (f_lumref_Step fu (x : Int) j19i8) fun (r22 : Int) => (opt (f_lumref_Narrow_1 fu r22 (w : Int)) fun (r24 : Int) => (req (0 ≤ (8 : Int) ∧ (8 : Int) ≤ ((pad s).length : Int)) (f_lumref_Narrow_L13 (w : Int) kk fu k r24 ((pad s).drop ((8 : Int)).toNat)))))) 8 fu (by omega) (by omega)
      have h0 : leN (((pad s).take 8).drop 8) = 0 := by rw [List.drop_of_length_le (by rw [List.length_take]; omega)]; rfl
      rw [h0] at hb
      refine Eq.trans hb ?_
      rw [p1, rstep_ok fu hfu hx (leN_lt8 _ h8), opt_of, rcut_ok fu (stp_lt _ _) hw, opt_of, req_pos ⟨by omega, by omega⟩, show ((8 : Int)).toNat = 8 from rfl, p3]
      rw [rsum_go w hw kk fu hfu k (s.drop 8) _ (cut_lt w _ (stp_lt _ _)) (by rw [List.length_drop]; omega), chain_step _ hs]
theorem rep_zero : ∀ k : Nat, repeatL [0] k = List.replicate k 0
  | 0 => rfl
  | k + 1 => by show [0] ++ repeatL [0] k = _; rw [rep_zero k]; rfl
theorem repeat_ok (fu k : Nat) (hk : k ≤ 8) : f_strings_Repeat fu ([0] : List UInt8) (k : Int) = some (List.replicate k 0) := by
  unfold f_strings_Repeat
  rw [req_pos ⟨by omega, by omega, by rw [Int.toNat_natCast]; simp; omega⟩, Int.toNat_natCast, rep_zero]
theorem rnarrow_ok (w : Nat) (hw : w ≤ 64) (fu : Nat) (s : List UInt8) (hfu : 65 ≤ fu) (hf : s.length < fu) (hb : s.length ≤ 9223372036854775800) : f_lumref_Narrow fu (w : Int) s = some ((hash (fun y => y % 2 ^ w) s : Nat) : Int) := by
  unfold f_lumref_Narrow
  have e1 : (((s.length : Int)).tmod (8 : Int)) = ((s.length % 8 : Nat) : Int) := rfl
  have e2 : IntKind.i64.wrap ((8 : Int) - ((s.length % 8 : Nat) : Int)) = ((8 - s.length % 8 : Nat) : Int) := by rw [w64 (by omega) (by omega)]; omega
  have e3 : (((8 - s.length % 8 : Nat) : Int)).tmod (8 : Int) = (((8 - s.length % 8) % 8 : Nat) : Int) := rfl
  rw [e1, e2, e3, repeat_ok fu _ (by omega), opt_of, req_pos (by rw [List.length_replicate]; omega), lt_of]
  rw [show (s ++ List.replicate ((8 - s.length % 8) % 8) (0 : UInt8)) = pad s from rfl, show (0 : Int) = ((0 : Nat) : Int) from rfl, rsum_go w hw _ fu hfu fu s 0 M_pos hf]
  rw [wi (by unfold M; omega), rstep_ok fu hfu (chain_lt (cut_lt w) _ _ _ M_pos) (by unfold M; omega), opt_of, rcut_ok fu (stp_lt _ _) hw, opt_of]
  rfl
theorem p8 : 256 ^ 8 = 18446744073709551616 := by decide
theorem rdigits_ok : ∀ (k n fu : Nat), n < 256 ^ k → k ≤ 8 → k < fu → f_lumref_digits fu (n : Int) = some (digF k n)
  | 0, n, fu + 1, h, _, _ => by
    have : n = 0 := by simpa using h
    subst this; rfl
  | k + 1, n, fu + 1, h, h8, hf => by
    rw [f_lumref_digits]
    by_cases h0 : n = 0
    · subst h0; rfl
    have hn8 : n < 18446744073709551616 := by
      rw [← p8]; exact Nat.lt_of_lt_of_le h (Nat.pow_le_pow_right (by omega) h8)
    have e1 : ((n : Int)).tdiv 256 = ((n / 256 : Nat) : Int) := by rw [Int.tdiv_eq_ediv_of_nonneg (by omega)]; omega
    have e2 : ((n : Int)).tmod 256 = ((n % 256 : Nat) : Int) := by rw [Int.tmod_eq_emod_of_nonneg (by omega)]; omega
    have hl := digF_len k (n / 256)
    rw [cond_ff (by rw [beq_eq_false_iff_ne]; omega), e1, e2, wi (by unfold M; omega), rdigits_ok k (n / 256) fu (div_lt h) (by omega) (by omega), opt_of, u8w_in (by omega), req_pos ⟨by omega, by omega⟩, req_pos (by rw [List.length_singleton]; omega), Int.toNat_natCast]
    show _ = some (if n = 0 then [] else digF k (n / 256) ++ [(n % 256).toUInt8])
    rw [if_neg h0]
theorem drop_zeros : ∀ l : List UInt8, List.replicate (l.length - (trimLeftB l 0).length) 0 ++ trimLeftB l 0 = l
  | [] => rfl
  | b :: l => by
    unfold trimLeftB
    rw [List.dropWhile_cons]
    have ih := drop_zeros l
    unfold trimLeftB at ih
    have hle : (List.dropWhile (fun x => x == 0) l).length ≤ l.length := (List.dropWhile_sublist _).length_le
    by_cases h : b = 0
    · subst h
      rw [if_pos (by rfl), List.length_cons, show l.length + 1 - (List.dropWhile (fun x => x == 0) l).length = (l.length - (List.dropWhile (fun x => x == 0) l).length) + 1 by omega, List.replicate_succ, List.cons_append, ih]
    · rw [if_neg (by simpa using h)]
      simp
theorem wide_ok (fu n : Nat) (hn : n < M) (hf : 9 ≤ fu) : f_lumref_wide fu (n : Int) = some (beBytes 8 n) := by
  unfold f_lumref_wide
  have hn' : n < 256 ^ 8 := by rw [p8]; exact hn
  have hl := digF_len 8 n
  rw [rdigits_ok 8 n fu hn' (by omega) (by omega), opt_of]
  rw [show IntKind.i64.wrap ((8 : Int) - ((digF 8 n).length : Int)) = ((8 - (digF 8 n).length : Nat) : Int) from by rw [w64 (by omega) (by omega)]; omega, repeat_ok fu _ (by omega), opt_of, req_pos (by rw [List.length_replicate]; omega)]
  have h := drop_zeros (beBytes 8 n)
  rw [trim_be hn', be8_len] at h
  rw [h]
theorem rID_ok (fu : Nat) (s : List UInt8) (hfu : 65 ≤ fu) (hf : s.length < fu) (hb : s.length ≤ 9223372036854775800) : f_lumref_ID fu s = some (idOf s) := by
  unfold f_lumref_ID
  rw [show (64 : Int) = ((64 : Nat) : Int) from rfl, rnarrow_ok 64 (by omega) fu s hfu hf hb, opt_of, wide_ok fu _ (hash_lt 64 s) (by omega), opt_of, req_pos (by rw [be8_len]; omega), req_pos (by rw [be8_len]; omega)]
  rfl
end MX
end Go.Proofs.YtfhifdmbdkkgaaaGreatDoor.PMoveReads
namespace Go.Proofs.YtfhifdmbdkkgaaaGreatDoor.PPut
open Go.RowKit YtfhifdmbdkkgaaaGreatDoor.En YtfhifdmbdkkgaaaGreatDoor Num
open Go.Lib hiding cut
set_option linter.unusedVariables false
set_option linter.unusedSimpArgs false
theorem iw {n : Nat} (h : n ≤ 9223372036854775807) : IntKind.i64.wrap (n : Int) = (n : Int) := w64 (by omega) (by omega)
theorem uw {n : Nat} (h : n < 18446744073709551616) : IntKind.u64.wrap (n : Int) = (n : Int) := by
  unfold IntKind.wrap
  simp [IntKind.signed, IntKind.bits]
  omega
theorem bAt_lt {s : List UInt8} {j : Nat} (h : j < s.length) : En.bAt s (j : Int) = ((s[j].toNat : Nat) : Int) := by
  unfold En.bAt
  rw [Int.toNat_natCast, List.getD_eq_getElem?_getD, List.getElem?_eq_getElem h]; rfl
theorem p8 : 256 ^ 8 = 18446744073709551616 := by decide
theorem p7 : 256 ^ 7 = 72057594037927936 := by decide
theorem value_go (s : List UInt8) (hs : s.length ≤ 8) (kk : Int → Option Int) : ∀ (d j fu : Nat), s.length - j = d → j ≤ s.length → d < fu →
    f_num_value_L5 s kk fu ((beNat (s.take j) : Nat) : Int) (j : Int) = kk ((beNat s : Nat) : Int)
  | 0, j, fu + 1, hd, hj, _ => by
    rw [f_num_value_L5, cond_ff (dge (by omega)), List.take_of_length_le (by omega)]
  | d + 1, j, fu + 1, hd, hj, hf => by
    have hlt : j < s.length := by omega
    have hl : (s.take j).length ≤ 7 := by rw [List.length_take]; omega
    have h7 := beNat_lt' hl
    rw [p7] at h7
    have hb := s[j].toNat_lt
    rw [f_num_value_L5, cond_tt (dlt (by omega)), req_pos ⟨by omega, by omega⟩, bAt_lt hlt, uw (n := s[j].toNat) (by omega), wsucc (by omega)]
    have e1 : ((beNat (s.take j) : Nat) : Int) * 2 ^ min ((8 : Int)).toNat (IntKind.bits .u64) = ((beNat (s.take j) * 2 ^ 8 : Nat) : Int) := shl_nat (m := 8) rfl (by decide)
    rw [e1, uw (by omega), u64_or_nat _ _ (by omega) (by omega)]
    have e2 : beNat (s.take j) * 2 ^ 8 ||| s[j].toNat = beNat (s.take (j + 1)) := by
      rw [beNat_take hlt, Nat.mul_comm _ (2 ^ 8), ← Nat.two_pow_add_eq_or_of_lt (i := 8) (by omega)]
    rw [e2]
    exact value_go s hs kk d (j + 1) fu (by omega) (by omega) (by omega)
theorem value_ok (s : List UInt8) (hs : s.length ≤ 8) (fu : Nat) (hf : 9 ≤ fu) : f_num_value fu s = some ((beNat s : Nat) : Int) := by
  unfold f_num_value
  rw [lt_of]
  exact value_go s hs _ s.length 0 fu (by omega) (by omega) (by omega)
theorem number_ok : ∀ (k : Nat) (s : List UInt8) (fu : Nat), s.length = k → k ≤ 8 → k < fu → f_lumref_number fu s = some ((beNat s : Nat) : Int)
  | 0, s, fu + 1, hk, _, _ => by
    have : s = [] := List.eq_nil_of_length_eq_zero hk
    subst this; rfl
  | k + 1, s, fu + 1, hk, h8, hf => by
    have hne : s ≠ [] := by rintro rfl; simp at hk
    have e : IntKind.i64.wrap ((s.length : Int) - (1 : Int)) = (k : Int) := by rw [w64 (by omega) (by omega)]; omega
    have hlk : k < s.length := by omega
    have ht : (s.take k).length = k := by rw [List.length_take]; omega
    have h7 := beNat_lt' (l := s.take k) (k := 7) (by omega)
    rw [p7] at h7
    have hb := s[k].toNat_lt
    rw [f_lumref_number, cond_ff (beq_eq_false_iff_ne.2 hne), e, req_pos ⟨by omega, by omega⟩, Int.toNat_natCast, number_ok k (s.take k) fu ht (by omega) (by omega), opt_of, req_pos ⟨by omega, by omega⟩, bAt_lt hlk]
    have e1 : (256 : Int) * ((beNat (s.take k) : Nat) : Int) = ((256 * beNat (s.take k) : Nat) : Int) := by omega
    rw [e1, uw (by omega), uw (n := s[k].toNat) (by omega)]
    have e2 : ((256 * beNat (s.take k) : Nat) : Int) + ((s[k].toNat : Nat) : Int) = ((beNat s : Nat) : Int) := by
      have := beNat_take hlk
      rw [List.take_of_length_le (by omega : s.length ≤ k + 1)] at this
      omega
    rw [e2, uw]
    have := beNat_lt' (l := s) (k := 8) (by omega)
    rw [p8] at this; exact this
theorem digits_ok (n : Nat) (hn : n < 18446744073709551616) (fu : Nat) : f_num_digits fu (n : Int) = some (digF 8 n) := by
  unfold f_num_digits f_binary_BEAppendUint64_nil
  rw [req_pos ⟨by omega, by omega⟩, opt_of, Int.toNat_natCast]
  show (opt (req ((0 : UInt8).toNat < 128) (some (trimLeftB (beBytes 8 n) 0))) fun r5 => some r5) = _
  rw [req_pos (by decide), opt_of, trim_be (by rw [p8]; exact hn)]
theorem rdigits_ok : ∀ (k n fu : Nat), n < 256 ^ k → k ≤ 8 → k < fu → f_lumref_digits fu (n : Int) = some (digF k n)
  | 0, n, fu + 1, h, _, _ => by
    have : n = 0 := by simpa using h
    subst this; rfl
  | k + 1, n, fu + 1, h, h8, hf => by
    rw [f_lumref_digits]
    by_cases h0 : n = 0
    · subst h0; rfl
    have hn8 : n < 18446744073709551616 := by
      rw [← p8]; exact Nat.lt_of_lt_of_le h (Nat.pow_le_pow_right (by omega) h8)
    have e1 : ((n : Int)).tdiv 256 = ((n / 256 : Nat) : Int) := by rw [Int.tdiv_eq_ediv_of_nonneg (by omega)]; omega
    have e2 : ((n : Int)).tmod 256 = ((n % 256 : Nat) : Int) := by rw [Int.tmod_eq_emod_of_nonneg (by omega)]; omega
    have hl := digF_len k (n / 256)
    rw [cond_ff (by rw [beq_eq_false_iff_ne]; omega), e1, e2, uw (by omega), rdigits_ok k (n / 256) fu (div_lt h) (by omega) (by omega), opt_of, u8w_in (by omega), req_pos ⟨by omega, by omega⟩, req_pos (by rw [List.length_singleton]; omega), Int.toNat_natCast]
    show _ = some (if n = 0 then [] else digF k (n / 256) ++ [(n % 256).toUInt8])
    rw [if_neg h0]
def putV (n : Nat) : List UInt8 := UInt8.ofNat (digF 8 n).length :: digF 8 n
theorem put_tail (d : List UInt8) (hd : d.length ≤ 8) : (req (0 ≤ (IntKind.u8.wrap (d.length : Int)) ∧ (IntKind.u8.wrap (d.length : Int)) ≤ 255) (req (([(UInt8.ofNat ((IntKind.u8.wrap (d.length : Int))).toNat)]).length + d.length ≤ 9223372036854775807) (some (([(UInt8.ofNat ((IntKind.u8.wrap (d.length : Int))).toNat)]) ++ d)))) = some (UInt8.ofNat d.length :: d) := by
  rw [u8w_in (by omega), req_pos ⟨by omega, by omega⟩, req_pos (by rw [List.length_singleton]; omega), Int.toNat_natCast]; rfl
theorem put_ok (n : Nat) (hn : n < 18446744073709551616) (fu : Nat) : f_num_Put fu (n : Int) = some (putV n) := by
  unfold f_num_Put putV
  rw [digits_ok n hn, opt_of, put_tail _ (digF_len 8 n)]
theorem rput_ok (n : Nat) (hn : n < 18446744073709551616) (fu : Nat) (hf : 9 ≤ fu) : f_lumref_Put fu (n : Int) = some (putV n) := by
  unfold f_lumref_Put putV
  rw [rdigits_ok 8 n fu (by rw [p8]; exact hn) (by omega) (by omega), opt_of, put_tail _ (digF_len 8 n)]
def getV : List UInt8 → Int × Int × Int
  | [] => (0, 0, 3)
  | b :: t => if 8 < b.toNat then (0, 0, 4) else if t.length < b.toNat then (0, 0, 3) else if (t.take b.toNat).take 1 = [0] then (0, 0, 4) else ((beNat (t.take b.toNat) : Nat), (1 + b.toNat : Nat), 0)
theorem getV_cons (b : UInt8) (t : List UInt8) : getV (b :: t) = if 8 < b.toNat then (0, 0, 4) else if t.length < b.toNat then (0, 0, 3) else if (t.take b.toNat).take 1 = [0] then (0, 0, 4) else (((beNat (t.take b.toNat) : Nat) : Int), ((1 + b.toNat : Nat) : Int), (0 : Int)) := rfl
theorem cut_b (b : UInt8) (t : List UInt8) : cut (b :: t) 1 ((1 + b.toNat : Nat) : Int) = t.take b.toNat := by
  unfold cut
  rw [Int.toNat_natCast, Nat.add_comm]; rfl
theorem b0 (b : UInt8) (t : List UInt8) : En.bAt (b :: t) 0 = ((b.toNat : Nat) : Int) := rfl
theorem wb (b : UInt8) : IntKind.i64.wrap ((1 : Int) + ((b.toNat : Nat) : Int)) = ((1 + b.toNat : Nat) : Int) := by
  have := b.toNat_lt
  rw [w64 (by omega) (by omega)]; omega
theorem get_ok (s : List UInt8) (fu : Nat) (hf : 9 ≤ fu) : f_num_Get fu s = some (getV s) := by
  unfold f_num_Get
  cases s with
  | nil => rfl
  | cons b t =>
    have hb := b.toNat_lt
    have hlen : (((b :: t).length : Nat) : Int) = (t.length : Int) + 1 := by simp
    rw [cond_ff (by rfl), req_pos ⟨by omega, by omega⟩, b0, iw (n := b.toNat) (by omega), wb]
    rw [getV_cons]
    by_cases h1 : 8 < b.toNat
    · rw [cond_tt (decide_eq_true (by omega)), if_pos h1]
    rw [cond_ff (decide_eq_false (by omega)), if_neg h1]
    by_cases h2 : t.length < b.toNat
    · rw [cond_tt (dlt (by omega)), if_pos h2]
    rw [cond_ff (dge (by omega)), if_neg h2, lt_of]
    have tail : ∀ q : Bool, (bif q then (some ((0 : Int), (0 : Int), (4 : Int))) else (req (0 ≤ (1 : Int) ∧ (1 : Int) ≤ ((1 + b.toNat : Nat) : Int) ∧ ((1 + b.toNat : Nat) : Int) ≤ ((b :: t).length : Int)) (opt (f_num_value fu (cut (b :: t) (1 : Int) ((1 + b.toNat : Nat) : Int))) fun (r10 : Int) => (some (r10, ((1 + b.toNat : Nat) : Int), (0 : Int)))))) = some (bif q then ((0 : Int), (0 : Int), (4 : Int)) else (((beNat (t.take b.toNat) : Nat) : Int), ((1 + b.toNat : Nat) : Int), (0 : Int))) := by
      intro q
      cases q with
      | true => rfl
      | false =>
        rw [cond_ff rfl, req_pos ⟨by omega, by omega, by omega⟩, cut_b, value_ok _ (by rw [List.length_take]; omega) fu hf, opt_of]; rfl
    by_cases h3 : 0 < b.toNat
    · rw [cond_tt (decide_eq_true (by omega)), req_pos ⟨by omega, by omega⟩]
      refine (tail _).trans ?_
      congr 1
      cases t with
      | nil => exact absurd h3 (by simp at h2; omega)
      | cons c u =>
        have e : En.bAt (b :: c :: u) 1 = ((c.toNat : Nat) : Int) := rfl
        have e3 : ((c :: u).take b.toNat).take 1 = [c] := by
          obtain ⟨m, hm⟩ : ∃ m, b.toNat = m + 1 := ⟨b.toNat - 1, by omega⟩
          rw [hm]; rfl
        rw [e, e3]
        by_cases h4 : c = 0
        · subst h4; rfl
        · have h5 : c.toNat ≠ 0 := fun h => h4 (UInt8.toNat_inj.1 h)
          rw [cond_ff (by rw [beq_eq_false_iff_ne]; omega), if_neg (by simpa using h4)]
    · rw [cond_ff (decide_eq_false (by omega))]
      refine (tail _).trans ?_
      have h0 : b.toNat = 0 := by omega
      rw [h0, if_neg (by simp)]; rfl
theorem hp_ok (fu : Nat) (s : List UInt8) (c : UInt8) : f_strings_HasPrefix fu s [c] = some (decide (s.take 1 = [c])) := by
  unfold f_strings_HasPrefix f_stringslite_HasPrefix
  rw [lt_of]
  cases s with
  | nil => rfl
  | cons a t =>
    rw [cond_tt (decide_eq_true (by simp; omega)), req_pos ⟨by simp, by simp; omega⟩, opt_of]
    congr 1
    show (([a] : List UInt8) == [c]) = decide ([a] = [c])
    by_cases h : a = c
    · subst h; simp
    · simp [h]
theorem rget_ok (s : List UInt8) (fu : Nat) (hf : 9 ≤ fu) : f_lumref_Get fu s = some (getV s) := by
  unfold f_lumref_Get
  cases s with
  | nil => rfl
  | cons b t =>
    have hb := b.toNat_lt
    have hlen : (((b :: t).length : Nat) : Int) = (t.length : Int) + 1 := by simp
    rw [cond_ff (by rw [beq_eq_false_iff_ne]; omega), req_pos ⟨by omega, by omega⟩, b0]
    rw [getV_cons]
    by_cases h1 : 8 < b.toNat
    · rw [cond_tt (decide_eq_true (by omega)), if_pos h1]
    rw [cond_ff (decide_eq_false (by omega)), if_neg h1, req_pos ⟨by omega, by omega⟩, iw (n := b.toNat) (by omega), wb]
    by_cases h2 : t.length < b.toNat
    · rw [cond_tt (dlt (by omega)), if_pos h2]
    rw [cond_ff (dge (by omega)), if_neg h2, req_pos ⟨by omega, by omega, by omega⟩, cut_b, hp_ok, opt_of]
    by_cases h4 : (t.take b.toNat).take 1 = [0]
    · rw [if_pos h4, decide_eq_true h4]; rfl
    · rw [if_neg h4, decide_eq_false h4, cond_ff rfl, req_pos ⟨by omega, by omega, by omega⟩, number_ok _ _ fu rfl (by rw [List.length_take]; omega) (by rw [List.length_take]; omega), opt_of]
end Go.Proofs.YtfhifdmbdkkgaaaGreatDoor.PPut
namespace Go.Proofs.YtfhifdmbdkkgaaaGreatDoor.PMoveReads
open Go.RowKit YtfhifdmbdkkgaaaGreatDoor.En YtfhifdmbdkkgaaaGreatDoor Num Mix PPut
open Go.Lib hiding cut
set_option linter.unusedVariables false
set_option linter.unusedSimpArgs false
namespace JF
def IdF (F : List UInt8 → A8u8) : Prop := ∀ (fu : Nat) (s : List UInt8), 65 ≤ fu → s.length < fu → s.length ≤ 9223372036854775800 → f_mix_ID fu s = some (F s) ∧ f_lumref_ID fu s = some (F s)
theorem id_ex : ∃ F, IdF F := ⟨MX.idOf, fun fu s h1 h2 h3 => ⟨MX.mID_ok fu s h2 (by omega), MX.rID_ok fu s h1 h2 h3⟩⟩
theorem beFrom_ge : ∀ (l : List UInt8) (acc : Nat), acc ≤ beFrom acc l
  | [], acc => Nat.le_refl _
  | b :: l, acc => by
    have := beFrom_ge l (acc * 256 + b.toNat)
    show acc ≤ beFrom (acc * 256 + b.toNat) l
    omega
theorem be_pos {b : UInt8} {t : List UInt8} (h : b ≠ 0) : 0 < beNat (b :: t) := by
  have h1 := beFrom_ge t (0 * 256 + b.toNat)
  have h2 : b.toNat ≠ 0 := fun e => h (UInt8.toNat_inj.1 (by rw [e]; rfl))
  show 0 < beFrom (0 * 256 + b.toNat) t
  omega
theorem digF_be : ∀ (k : Nat) (d : List UInt8), d.length ≤ k → d.take 1 ≠ [0] → digF k (beNat d) = d
  | 0, d, hl, _ => by
    have : d = [] := List.eq_nil_of_length_eq_zero (by omega)
    subst this; rfl
  | k + 1, d, hl, hz => by
    by_cases hd : d = []
    · subst hd; rfl
    have hpos : 0 < beNat d := by
      match d, hd, hz with
      | b :: t, _, hz => exact be_pos (fun e => hz (by rw [e]; rfl))
    obtain ⟨d', b, rfl⟩ : ∃ d' b, d = d' ++ [b] := ⟨d.dropLast, d.getLast hd, (List.dropLast_concat_getLast hd).symm⟩
    have hb := b.toNat_lt
    rw [beNat_snoc] at hpos ⊢
    unfold digF
    rw [if_neg (by omega), show (beNat d' * 256 + b.toNat) / 256 = beNat d' by omega, show (beNat d' * 256 + b.toNat) % 256 = b.toNat by omega]
    have hl' : d'.length ≤ k := by rw [List.length_append, List.length_singleton] at hl; omega
    have hz' : d'.take 1 ≠ [0] := by
      intro e
      apply hz
      cases d' with
      | nil => cases e
      | cons c t =>
        show [c] = [0]
        exact e
    rw [digF_be k d' hl' hz']
    congr 1
    exact congrArg (fun x => [x]) UInt8.ofNat_toNat
theorem putV_len (n : Nat) : (putV n).length ≤ 9 ∧ 1 ≤ (putV n).length := by
  have := digF_len 8 n
  unfold putV
  rw [List.length_cons]
  omega
theorem getV_canon (s : List UInt8) (h : (getV s).2.2 = 0) : ∃ n k : Nat, getV s = ((n : Int), (k : Int), 0) ∧ k ≤ s.length ∧ s.take k = putV n ∧ n < 18446744073709551616 ∧ 1 ≤ k ∧ k ≤ 9 := by
  cases s with
  | nil => cases h
  | cons b t =>
    rw [getV_cons] at h ⊢
    split at h
    · cases h
    · split at h
      · cases h
      · split at h
        · cases h
        · rename_i h1 h2 h3
          rw [if_neg h1, if_neg h2, if_neg h3]
          have hl : (t.take b.toNat).length = b.toNat := by rw [List.length_take]; omega
          refine ⟨_, _, rfl, by rw [List.length_cons]; omega, ?_, ?_, by omega, by omega⟩
          · rw [Nat.add_comm, List.take_succ_cons]
            unfold putV
            rw [digF_be 8 _ (by omega) h3, hl, UInt8.ofNat_toNat]
          · have := beNat_lt' (l := t.take b.toNat) (k := 8) (by omega)
            rw [p8] at this; exact this
def frameV (F : List UInt8 → A8u8) (s : List UInt8) : List UInt8 := (putV s.length ++ s) ++ lA8u8 (F (putV s.length ++ s))
theorem l8 (x : A8u8) : (lA8u8 x).length = 8 := rfl
theorem frameV_len (F : List UInt8 → A8u8) (s : List UInt8) : (frameV F s).length = (putV s.length).length + s.length + 8 := by
  unfold frameV; rw [List.length_append, List.length_append, l8]
theorem frame_ok {F : List UInt8 → A8u8} (hF : IdF F) (fu : Nat) (hfu : 6000 ≤ fu) (s : List UInt8) (hs : s.length ≤ 4096) : f_journal_Frame fu s = some (frameV F s, 0) := by
  have hp := putV_len s.length
  unfold f_journal_Frame
  rw [cond_ff (decide_eq_false (by omega)), uw (n := s.length) (by omega), put_ok s.length (by omega) fu, opt_of, req_pos (by omega), (hF fu (putV s.length ++ s) (by omega) (by rw [List.length_append]; omega) (by rw [List.length_append]; omega)).1, opt_of, req_pos (by rw [List.length_append, l8]; omega)]
  rfl
theorem frame_large (fu : Nat) (s : List UInt8) (hs : 4096 < s.length) : f_journal_Frame fu s = some ([], 2) := by
  unfold f_journal_Frame
  rw [cond_tt (decide_eq_true (by omega))]
theorem rframe_ok {F : List UInt8 → A8u8} (hF : IdF F) (fu : Nat) (hfu : 6000 ≤ fu) (s : List UInt8) (hs : s.length ≤ 4096) : f_lumref_Frame fu s = some (frameV F s) := by
  have hp := putV_len s.length
  unfold f_lumref_Frame
  rw [uw (n := s.length) (by omega), rput_ok s.length (by omega) fu (by omega), opt_of, req_pos (by omega), (hF fu (putV s.length ++ s) (by omega) (by rw [List.length_append]; omega) (by rw [List.length_append]; omega)).2, opt_of, req_pos (by rw [List.length_append, l8]; omega)]
  rfl
theorem cut_nat (s : List UInt8) (a b : Nat) : cut s (a : Int) (b : Int) = (s.take b).drop a := by unfold cut; rw [Int.toNat_natCast, Int.toNat_natCast]
theorem lof {l : List UInt8} (h : l.length = 8) : lA8u8 (ofA8u8 l) = l := MX.lof h
theorem of_l (x : A8u8) : ofA8u8 (lA8u8 x) = x := rfl
theorem sum_eq (X : A8u8) (l : List UInt8) (h : l.length = 8) : (X == ofA8u8 l) = (l == lA8u8 X) := by
  rw [Bool.eq_iff_iff, beq_iff_eq, beq_iff_eq]
  constructor
  · rintro rfl; exact (lof h).symm
  · rintro rfl; exact (of_l X).symm
theorem take_split (s : List UInt8) (e : Nat) (f : List UInt8) (hf : f.length = 8) : (s.take (e + 8) == s.take e ++ f) = ((s.take (e + 8)).drop e == f) := by
  have h : s.take (e + 8) = s.take e ++ (s.take (e + 8)).drop e := by
    have := (List.take_append_drop e (s.take (e + 8))).symm
    rw [List.take_take, Nat.min_eq_left (by omega)] at this
    exact this
  rw [Bool.eq_iff_iff, beq_iff_eq, beq_iff_eq]
  constructor
  · intro h2; rw [h2, List.drop_append]
    by_cases hl : e ≤ s.length
    · rw [List.length_take, Nat.min_eq_left hl, List.drop_of_length_le (by rw [List.length_take]; omega), Nat.sub_self]; rfl
    · exfalso
      have := congrArg List.length h2
      rw [List.length_take, List.length_append, List.length_take] at this
      omega
  · intro h2; rw [h2] at h; exact h
theorem scan_ok {F : List UInt8 → A8u8} (hF : IdF F) (a : List UInt8) (ha : a.length ≤ 1048576) (fu : Nat) (hfu : 2000000 ≤ fu) : ∀ (d at_ : Nat) (out : List (List UInt8)) (k q : Nat), at_ ≤ a.length → a.length - at_ ≤ d → d < k → d + 6000 < q → out.length + (a.length - at_) ≤ 1048576 →
    ∃ (l : List (List UInt8)) (m : Nat), f_lumref_Scan q (a.drop at_) = some (l, (m : Int)) ∧ f_journal_Scan_L3 a fu k out (at_ : Int) = some (out ++ l, ((at_ + m : Nat) : Int)) ∧ l.length ≤ a.length - at_ ∧ m ≤ a.length - at_ ∧ ∀ t ∈ l, t.length ≤ 4096 := by
  intro d
  induction d with
  | zero =>
    intro at_ out k q h1 h2 h3 h4 h5
    obtain ⟨k, rfl⟩ : ∃ k', k = k' + 1 := ⟨k - 1, by omega⟩
    obtain ⟨q, rfl⟩ : ∃ q', q = q' + 1 := ⟨q - 1, by omega⟩
    have hn : a.drop at_ = [] := List.drop_of_length_le (by omega)
    refine ⟨[], 0, ?_, ?_, by simp, by omega, by simp⟩
    · rw [hn, f_lumref_Scan, rget_ok [] q (by omega), opt_of, lt_of]; rfl
    · rw [f_journal_Scan_L3, req_pos ⟨by omega, by omega⟩, Int.toNat_natCast, hn, get_ok [] fu (by omega), opt_of, lt_of]
      show some (out, (at_ : Int)) = _
      rw [List.append_nil]; rfl
  | succ d ih =>
    intro at_ out k q h1 h2 h3 h4 h5
    obtain ⟨k, rfl⟩ : ∃ k', k = k' + 1 := ⟨k - 1, by omega⟩
    obtain ⟨q, rfl⟩ : ∃ q', q = q' + 1 := ⟨q - 1, by omega⟩
    obtain ⟨s, hs⟩ : ∃ s, s = a.drop at_ := ⟨_, rfl⟩
    have hsl : s.length = a.length - at_ := by rw [hs, List.length_drop]
    have stop1 : ∀ X : Option (List (List UInt8) × Int), X = some (out, (at_ : Int)) → X = some (out ++ [], ((at_ + 0 : Nat) : Int)) := by
      intro X hX; rw [hX, List.append_nil, Nat.add_zero]
    rw [f_journal_Scan_L3, req_pos ⟨by omega, by omega⟩, Int.toNat_natCast, ← hs, get_ok s fu (by omega), opt_of, f_lumref_Scan, rget_ok s q (by omega), opt_of]
    by_cases he : (getV s).2.2 = 0
    · obtain ⟨n, j, hg, hj, hput, hn, hj1, hj9⟩ := getV_canon s he
      rw [hg]
      simp only [lt_of]
      have z0 : ((0 : Int) != 0) = false := rfl
      by_cases hbig : n > 4096
      · rw [cond_ff z0, decide_eq_true (show ((n : Nat) : Int) > 4096 by omega), cond_tt rfl, cond_ff z0, cond_tt rfl, cond_tt rfl]
        exact ⟨[], 0, rfl, stop1 _ rfl, by simp, by omega, by simp⟩
      · have ew : IntKind.i64.wrap (((j : Nat) : Int) + (IntKind.i64.wrap ((n : Nat) : Int))) = ((j + n : Nat) : Int) := by rw [iw (by omega), ← Int.natCast_add, iw (by omega)]
        have ew8 : IntKind.i64.wrap (((j + n : Nat) : Int) + (8 : Int)) = ((j + n + 8 : Nat) : Int) := by
          rw [show ((j + n : Nat) : Int) + (8 : Int) = ((j + n + 8 : Nat) : Int) from by omega, iw (by omega)]
        have el : IntKind.u64.wrap (IntKind.i64.wrap ((s.length : Int) - ((j : Nat) : Int))) = ((s.length - j : Nat) : Int) := by
          rw [show (s.length : Int) - ((j : Nat) : Int) = ((s.length - j : Nat) : Int) from by omega, iw (by omega), uw (by omega)]
        rw [ew, ew8, el]
        rw [cond_ff z0, decide_eq_false (show ¬ ((n : Nat) : Int) > 4096 by omega), cond_ff rfl, cond_ff z0, cond_ff rfl]
        by_cases hshort : s.length - j < n
        · rw [decide_eq_true (show ((s.length - j : Nat) : Int) < ((n : Nat) : Int) by omega), cond_tt rfl, decide_eq_true (show ((s.length : Nat) : Int) < ((j + n + 8 : Nat) : Int) by omega), cond_tt rfl, cond_tt rfl]
          exact ⟨[], 0, rfl, stop1 _ rfl, by simp, by omega, by simp⟩
        · rw [decide_eq_false (show ¬ ((s.length - j : Nat) : Int) < ((n : Nat) : Int) by omega), cond_ff rfl]
          obtain ⟨t, ht⟩ : ∃ t, t = (s.take (j + n)).drop j := ⟨_, rfl⟩
          have htl : t.length = n := by rw [ht, List.length_drop, List.length_take]; omega
          have hpt : putV t.length ++ t = s.take (j + n) := by
            rw [htl, ← hput, ht]
            have := List.take_append_drop j (s.take (j + n))
            rw [List.take_take, Nat.min_eq_left (by omega)] at this
            exact this
          have hfr : frameV F t = s.take (j + n) ++ lA8u8 (F (s.take (j + n))) := by unfold frameV; rw [hpt]
          have hfl : (frameV F t).length = j + n + 8 := by rw [hfr, List.length_append, l8, List.length_take]; omega
          rw [cut_nat, ← ht, req_pos ⟨by omega, by omega, by omega⟩, rframe_ok hF q (by omega) t (by omega), opt_of, hfl]
          by_cases hs8 : s.length < j + n + 8
          · rw [decide_eq_true (show ((s.length : Nat) : Int) < ((j + n + 8 : Nat) : Int) by omega), cond_tt rfl, cond_tt rfl, cond_tt rfl]
            exact ⟨[], 0, rfl, stop1 _ rfl, by simp, by omega, by simp⟩
          · have hcl : ((s.take (j + n + 8)).drop (j + n)).length = 8 := by rw [List.length_drop, List.length_take]; omega
            rw [decide_eq_false (show ¬ ((s.length : Nat) : Int) < ((j + n + 8 : Nat) : Int) by omega), cond_ff rfl, cond_ff rfl, cut_nat]
            rw [req_pos (by omega), req_pos (by omega), req_pos (by omega), req_pos (by omega), req_pos (by omega), req_pos (by omega), Int.toNat_natCast, Int.toNat_natCast]
            rw [(hF fu (s.take (j + n)) (by omega) (by rw [List.length_take]; omega) (by rw [List.length_take]; omega)).1, opt_of, sum_eq _ _ hcl]
            rw [hfr, take_split s (j + n) _ (l8 _)]
            cases hc : ((s.take (j + n + 8)).drop (j + n) == lA8u8 (F (s.take (j + n))))
            · rw [show (!false) = true from rfl, cond_tt rfl, cond_tt rfl]
              exact ⟨[], 0, rfl, stop1 _ rfl, by simp, by omega, by simp⟩
            · rw [show (!true) = false from rfl, cond_ff rfl, cond_ff rfl]
              rw [req_pos (by omega), req_pos ⟨by rw [List.length_singleton]; omega, by rw [List.length_singleton]; omega⟩]
              rw [← Int.natCast_add, iw (by omega)]
              obtain ⟨l, m, g1, g2, g3, g4, g5⟩ := ih (at_ + (j + n + 8)) (out ++ [t]) k q (by omega) (by omega) (by omega) (by omega) (by rw [List.length_append, List.length_singleton]; omega)
              have hdd : s.drop (j + n + 8) = a.drop (at_ + (j + n + 8)) := by rw [hs, List.drop_drop]
              rw [hdd, g1, opt_of]
              dsimp only
              rw [req_pos ⟨by rw [List.length_singleton]; omega, by rw [List.length_singleton]; omega⟩, g2]
              refine ⟨[t] ++ l, j + n + 8 + m, ?_, ?_, ?_, ?_, ?_⟩
              · rw [← Int.natCast_add, iw (by omega)]
              · rw [List.append_assoc, Nat.add_assoc]
              · rw [List.length_append, List.length_singleton]; omega
              · omega
              · intro t' ht'
                rcases List.mem_append.1 ht' with h | h
                · rw [List.mem_singleton.1 h]; omega
                · exact g5 t' h
    · have z1 : ((getV s).2.2 != 0) = true := by simpa using he
      simp only [lt_of]
      rw [cond_tt z1, cond_tt z1, cond_tt rfl, cond_tt rfl]
      exact ⟨[], 0, rfl, stop1 _ rfl, by simp, by omega, by simp⟩
theorem scans_ok {F : List UInt8 → A8u8} (hF : IdF F) (a : List UInt8) (ha : a.length ≤ 1048576) (fu : Nat) (hfu : 2000000 ≤ fu) : ∃ (l : List (List UInt8)) (m : Nat), f_lumref_Scan fu a = some (l, (m : Int)) ∧ f_journal_Scan fu a = some (l, (m : Int)) ∧ l.length ≤ a.length ∧ m ≤ a.length ∧ ∀ t ∈ l, t.length ≤ 4096 := by
  obtain ⟨l, m, h1, h2, h3, h4, h5⟩ := scan_ok hF a ha fu hfu a.length 0 [] fu fu (by omega) (by omega) (by omega) (by omega) (by simp; omega)
  rw [List.drop_zero] at h1
  refine ⟨l, m, h1, ?_, by omega, by omega, h5⟩
  unfold f_journal_Scan
  rw [Nat.zero_add] at h2
  exact h2
end JF
end Go.Proofs.YtfhifdmbdkkgaaaGreatDoor.PMoveReads
namespace Go.Proofs.YtfhifdmbdkkgaaaGreatDoor.PTreeText
open Go.RowKit YtfhifdmbdkkgaaaGreatDoor.En YtfhifdmbdkkgaaaGreatDoor
set_option linter.unusedVariables false
set_option linter.unusedSimpArgs false
theorem bAt_lt {s : List UInt8} {j : Nat} (h : j < s.length) : En.bAt s (j : Int) = ((s[j].toNat : Nat) : Int) := by
  unfold En.bAt
  rw [Int.toNat_natCast, List.getD_eq_getElem?_getD, List.getElem?_eq_getElem h]; rfl
theorem cut1 {s : List UInt8} {j : Nat} (h : j < s.length) : cut s (j : Int) ((j + 1 : Nat) : Int) = [s[j]] := by
  unfold cut
  rw [Int.toNat_natCast, Int.toNat_natCast, ← List.take_append_getElem h, List.drop_append_of_le_length (by rw [List.length_take]; omega), List.drop_of_length_le (by rw [List.length_take]; omega)]; rfl
theorem go (s : List UInt8) (hs : s.length ≤ 9223372036854775807) : ∀ (fu : Nat) (out : List UInt8) (j : Nat), out.length ≤ 1024 → 1025 - out.length < fu →
    ∃ r, (f_num_GetText_L5 s (fun _ => some (([] : List UInt8), (0 : Int), (3 : Int))) fu out (j : Int) = some r ∧ f_lumref_GetText_L3 s fu out (j : Int) = some r) ∧ r.1.length ≤ 1024 ∧ (r.2.2 = 0 → ∃ k : Nat, r.2.1 = (k : Int) ∧ k ≤ s.length) ∧ (r.2.2 ≠ 0 → r.1 = [])
  | 0, out, j, ho, hf => by omega
  | fu + 1, out, j, ho, hf => by
    rw [f_num_GetText_L5, f_lumref_GetText_L3, lt_of, lt_of]
    by_cases h1 : j < s.length
    · have hb := s[j].toNat_lt
      have w1 : IntKind.i64.wrap ((j : Int) + (1 : Int)) = ((j + 1 : Nat) : Int) := by rw [w64 (by omega) (by omega)]; omega
      have hp0 : 0 ≤ (j : Int) ∧ (j : Int) < (s.length : Int) := ⟨by omega, by omega⟩
      rw [cond_tt (dlt (by omega)), cond_ff (show decide ((j : Int) ≥ (s.length : Int)) = false from decide_eq_false (by omega))]
      simp only [req_pos hp0, bAt_lt h1, w1]
      -- what both do with one more byte
      have more : ∀ (x : UInt8) (one : Nat) (jj : Int), [x] = cut s (j : Int) ((j + 1 : Nat) : Int) → (one = 1 ∨ one = 2) → IntKind.i64.wrap (jj + (1 : Int)) = ((j + one : Nat) : Int) → IntKind.i64.wrap ((j : Int) + (one : Int)) = ((j + one : Nat) : Int) →
          ∃ r, ((bif (decide (((out ++ [x]).length : Int) > (1024 : Int))) then (some (([] : List UInt8), (0 : Int), (2 : Int))) else (f_num_GetText_L5 s (fun _ => some (([] : List UInt8), (0 : Int), (3 : Int))) fu (out ++ [x]) (IntKind.i64.wrap (jj + (1 : Int))))) = some r ∧
            (bif ((out.length : Int) == (1024 : Int)) then (some (([] : List UInt8), (0 : Int), (2 : Int))) else (req (0 ≤ (j : Int) ∧ (j : Int) ≤ ((j + 1 : Nat) : Int) ∧ ((j + 1 : Nat) : Int) ≤ (s.length : Int)) (req (out.length + (cut s (j : Int) ((j + 1 : Nat) : Int)).length ≤ 9223372036854775807) (f_lumref_GetText_L3 s fu (out ++ (cut s (j : Int) ((j + 1 : Nat) : Int))) (IntKind.i64.wrap ((j : Int) + (one : Int))))))) = some r) ∧ r.1.length ≤ 1024 ∧ (r.2.2 = 0 → ∃ k : Nat, r.2.1 = (k : Int) ∧ k ≤ s.length) ∧ (r.2.2 ≠ 0 → r.1 = []) := by
        intro x one jj hx hone e1 e2
        have hl : (out ++ [x]).length = out.length + 1 := by simp
        rw [← hx, e1, e2]
        by_cases h9 : out.length = 1024
        · rw [cond_tt (decide_eq_true (by omega)), cond_tt (by rw [h9]; rfl)]; exact ⟨_, ⟨rfl, rfl⟩, by first | exact ho | simp, fun h => by first | exact ⟨_, rfl, by omega⟩ | exact absurd h (by simp), fun h => by first | rfl | exact absurd rfl h⟩
        · rw [cond_ff (decide_eq_false (by omega)), cond_ff (by rw [beq_eq_false_iff_ne]; omega), req_pos ⟨by omega, by omega, by omega⟩, req_pos (by rw [List.length_singleton]; omega)]
          exact go s hs fu (out ++ [x]) (j + one) (by omega) (by omega)
      by_cases h2 : s[j] = 0
      · have hz : s[j].toNat = 0 := by rw [h2]; rfl
        have t0 : (((0 : Nat) : Int) == (0 : Int)) = true := rfl
        simp only [hz, cond_tt t0]
        by_cases h3 : j + 1 < s.length
        · have w2 : IntKind.i64.wrap (((j + 1 : Nat) : Int) + (1 : Int)) = ((j + 2 : Nat) : Int) := by rw [w64 (by omega) (by omega)]; omega
          have w3 : IntKind.i64.wrap ((j : Int) + (2 : Int)) = ((j + 2 : Nat) : Int) := by rw [w64 (by omega) (by omega)]; omega
          have hp1 : 0 ≤ ((j + 1 : Nat) : Int) ∧ ((j + 1 : Nat) : Int) < (s.length : Int) := ⟨by omega, by omega⟩
          have q1 : (((j + 1 : Nat) : Int) == (s.length : Int)) = false := by rw [beq_eq_false_iff_ne]; omega
          have q2 : decide (((j + 1 : Nat) : Int) ≥ (s.length : Int)) = false := decide_eq_false (by omega)
          simp only [cond_ff q1, q2, cond_ff (show (false : Bool) = false from rfl), req_pos hp1, bAt_lt h3, lt_of]
          by_cases h4 : s[j + 1].toNat = 0
          · simp only [h4, cond_tt t0, w2, w3]; exact ⟨_, ⟨rfl, rfl⟩, by first | exact ho | simp, fun h => by first | exact ⟨_, rfl, by omega⟩ | exact absurd h (by simp), fun h => by first | rfl | exact absurd rfl h⟩
          · have q3 : (((s[j + 1].toNat : Nat) : Int) == (0 : Int)) = false := by rw [beq_eq_false_iff_ne]; omega
            simp only [cond_ff q3]
            by_cases h5 : s[j + 1].toNat = 255
            · have q4 : (((255 : Nat) : Int) == (255 : Int)) = true := rfl
              have q5 : (((255 : Nat) : Int) != (255 : Int)) = false := rfl
              simp only [h5, cond_tt q4, cond_ff q5]
              rw [req_pos ⟨by omega, by omega⟩, req_pos ⟨by rw [List.length_singleton]; omega, by rw [List.length_singleton]; omega⟩]
              exact more 0 2 _ (by rw [cut1 h1, h2]) (.inr rfl) w2 w3
            · have q4 : (((s[j + 1].toNat : Nat) : Int) == (255 : Int)) = false := by rw [beq_eq_false_iff_ne]; omega
              have q5 : (((s[j + 1].toNat : Nat) : Int) != (255 : Int)) = true := by rw [bne_iff_ne]; omega
              simp only [cond_ff q4, cond_tt q5]; exact ⟨_, ⟨rfl, rfl⟩, by first | exact ho | simp, fun h => by first | exact ⟨_, rfl, by omega⟩ | exact absurd h (by simp), fun h => by first | rfl | exact absurd rfl h⟩
        · have q1 : (((j + 1 : Nat) : Int) == (s.length : Int)) = true := by rw [beq_iff_eq]; omega
          have q2 : decide (((j + 1 : Nat) : Int) ≥ (s.length : Int)) = true := decide_eq_true (by omega)
          simp only [cond_tt q1, q2]
          exact ⟨_, ⟨rfl, rfl⟩, by first | exact ho | simp, fun h => by first | exact ⟨_, rfl, by omega⟩ | exact absurd h (by simp), fun h => by first | rfl | exact absurd rfl h⟩
      · have hz : s[j].toNat ≠ 0 := fun h => h2 (UInt8.toNat_inj.1 h)
        have q0 : (((s[j].toNat : Nat) : Int) == (0 : Int)) = false := by rw [beq_eq_false_iff_ne]; omega
        simp only [cond_ff q0, cond_ff (show (false : Bool) = false from rfl), lt_of]
        rw [req_pos ⟨by omega, by omega⟩, req_pos ⟨by rw [List.length_singleton]; omega, by rw [List.length_singleton]; omega⟩]
        simp only [Int.toNat_natCast, UInt8.ofNat_toNat]
        have hm := more s[j] 1 _ (by rw [cut1 h1]) (.inl rfl) w1 w1
        rw [w1] at hm
        exact hm
    · rw [cond_ff (dge (by omega)), cond_tt (decide_eq_true (by omega))]
      exact ⟨_, ⟨rfl, rfl⟩, by first | exact ho | simp, fun h => by first | exact ⟨_, rfl, by omega⟩ | exact absurd h (by simp), fun h => by first | rfl | exact absurd rfl h⟩
theorem txt_ex (s : List UInt8) (hs : s.length ≤ 9223372036854775807) (fu : Nat) (hf : 1100 ≤ fu) : ∃ r, f_num_GetText fu s = some r ∧ f_lumref_GetText fu s = some r ∧ r.1.length ≤ 1024 ∧ (r.2.2 = 0 → ∃ k : Nat, r.2.1 = (k : Int) ∧ k ≤ s.length) ∧ (r.2.2 ≠ 0 → r.1 = []) := by
  obtain ⟨r, ⟨h1, h2⟩, h3, h4, h5⟩ := go s hs fu [] 0 (by simp) (by simp; omega)
  have e1 : f_num_GetText fu s = some r := by unfold f_num_GetText; rw [lt_of]; exact h1
  exact ⟨r, e1, h2, h3, h4, h5⟩
end Go.Proofs.YtfhifdmbdkkgaaaGreatDoor.PTreeText
namespace Go.Proofs.YtfhifdmbdkkgaaaGreatDoor.PMoveReads
open Go.RowKit YtfhifdmbdkkgaaaGreatDoor.En YtfhifdmbdkkgaaaGreatDoor
set_option linter.unusedVariables false
set_option linter.unusedSimpArgs false
namespace TX
theorem count_le (sub : List UInt8) : ∀ (k : Nat) (s : List UInt8), Lib.countFrom sub k s ≤ k
  | 0, _ => Nat.le_refl _
  | k + 1, s => by
    unfold Lib.countFrom
    split
    · omega
    · have := count_le sub k (s.drop ((Lib.index s sub).toNat + sub.length)); omega
theorem replaceK_len (old new : List UInt8) : ∀ (k : Nat) (s : List UInt8), (Lib.replaceK old new k s).length ≤ s.length + k * new.length
  | 0, s => by simp [Lib.replaceK]
  | k + 1, s => by
    unfold Lib.replaceK
    split
    · omega
    · have := replaceK_len old new k (s.drop ((Lib.index s old).toNat + old.length))
      rw [Nat.succ_mul]
      simp only [List.length_append, List.length_take, List.length_drop] at this ⊢
      omega
def txtV (s : List UInt8) : List UInt8 := Lib.replaceAll s [0] [0, 255] ++ [0, 0]
theorem rep_len (s : List UInt8) : (Lib.replaceAll s [0] [0, 255]).length ≤ s.length + (s.length + 1) * 2 := by
  have hc : Lib.count s [0] ≤ s.length + 1 := count_le _ _ _
  have h2 := replaceK_len [0] [0, 255] (Lib.replaceNum s [0] (-1)) s
  have h3 : Lib.replaceNum s [0] (-1) = Lib.count s [0] := by unfold Lib.replaceNum; rw [if_pos (.inl (by decide))]
  have h4 : Lib.replaceAll s [0] [0, 255] = Lib.replaceK [0] [0, 255] (Lib.replaceNum s [0] (-1)) s := by unfold Lib.replaceAll Lib.replace; rw [if_neg (by decide)]
  rw [h4]
  rw [h3] at h2 ⊢
  have h5 : ([0, 255] : List UInt8).length = 2 := rfl
  rw [h5] at h2
  omega
theorem txtV_len (s : List UInt8) : (txtV s).length ≤ 3 * s.length + 4 := by
  have := rep_len s
  unfold txtV
  rw [List.length_append]
  show _ + 2 ≤ _
  omega
theorem putT_ok (s : List UInt8) (h : s.length ≤ 1024) (fu : Nat) : f_num_PutText fu s = some (txtV s, 0) ∧ f_lumref_PutText fu s = some (txtV s, 0) := by
  have e : f_lumref_PutText fu s = f_num_PutText fu s := rfl
  have hc : Lib.count s [0] ≤ s.length + 1 := count_le _ _ _
  have hl := rep_len s
  have key : f_num_PutText fu s = some (txtV s, 0) := by
    unfold f_num_PutText f_strings_ReplaceAll
    rw [cond_ff (decide_eq_false (by omega)), req_pos ⟨by omega, by simp, by show s.length + Lib.count s [0] * 2 ≤ _; omega⟩, opt_of]
    rw [req_pos (by show _ + 2 ≤ _; omega)]
    rfl
  exact ⟨key, e.trans key⟩
end TX
end Go.Proofs.YtfhifdmbdkkgaaaGreatDoor.PMoveReads
namespace Go.Proofs.YtfhifdmbdkkgaaaGreatDoor.U8
open Go.Lib YtfhifdmbdkkgaaaGreatDoor.En
def C (x : Nat) : Prop := 128 ≤ x ∧ x ≤ 191
instance (x : Nat) : Decidable (C x) := by unfold C; infer_instance
def fin (low n c : Nat) : Nat × Nat := if c < low ∨ 1114111 < c ∨ (55296 ≤ c ∧ c < 57344) then (0, 0) else (c, n)
def refN (n b0 b1 b2 b3 : Nat) : Nat × Nat :=
  if b0 < 128 then (b0, 1)
  else if 194 ≤ b0 ∧ b0 < 224 then (if n < 2 then (0, 0) else if C b1 then fin 128 2 (64 * (b0 - 192) + b1 - 128) else (0, 0))
  else if 224 ≤ b0 ∧ b0 < 240 then (if n < 3 then (0, 0) else if C b1 then (if C b2 then fin 2048 3 (64 * (64 * (b0 - 224) + b1 - 128) + b2 - 128) else (0, 0)) else (0, 0))
  else if 240 ≤ b0 ∧ b0 < 245 then (if n < 4 then (0, 0) else if C b1 then (if C b2 then (if C b3 then fin 65536 4 (64 * (64 * (64 * (b0 - 240) + b1 - 128) + b2 - 128) + b3 - 128) else (0, 0)) else (0, 0)) else (0, 0))
  else (0, 0)
def Fits (d r : Nat × Nat) : Prop := (d = (65533, 1) ∧ r = (0, 0)) ∨ (d = r ∧ 1 ≤ r.2 ∧ ¬ (r.1 = 65533 ∧ r.2 = 1))
theorem fits_bad : Fits (65533, 1) (0, 0) := .inl ⟨rfl, rfl⟩
theorem fits_good {c c' n : Nat} (h : c = c') (hn : 2 ≤ n) : Fits (c, n) (c', n) := .inr ⟨by rw [h], by show 1 ≤ n; omega, fun h' => by have : n = 1 := h'.2; omega⟩
theorem refN_fits (n b0 b1 b2 b3 : Nat) (h0 : b0 < 256) (h1 : b1 < 256) (h2 : b2 < 256) (h3 : b3 < 256) : Fits (decodeN n b0 b1 b2 b3) (refN n b0 b1 b2 b3) := by
  unfold decodeN refN
  by_cases a0 : b0 < 128
  · rw [if_pos a0, if_pos a0]
    exact .inr ⟨rfl, Nat.le_refl _, fun h => by have : b0 = 65533 := h.1; omega⟩
  rw [if_neg a0, if_neg a0]
  by_cases a1 : b0 < 194
  · have e1 : ∀ r : Nat × Nat, (if b0 / 32 = 6 ∧ (1 < n ∧ b1 / 64 = 2) then (if b0 % 32 * 64 + b1 % 64 ≥ 128 then (b0 % 32 * 64 + b1 % 64, 2) else (65533, 1)) else r) = (if b0 / 32 = 6 ∧ (1 < n ∧ b1 / 64 = 2) then ((65533, 1) : Nat × Nat) else r) := fun r => by
      split
      · rw [if_neg (by omega)]
      · rfl
    rw [e1]
    rw [if_neg (c := 194 ≤ b0 ∧ b0 < 224) (by omega), if_neg (c := 224 ≤ b0 ∧ b0 < 240) (by omega), if_neg (c := 240 ≤ b0 ∧ b0 < 245) (by omega), if_neg (c := b0 / 16 = 14 ∧ _) (by omega), if_neg (c := b0 / 8 = 30 ∧ _) (by omega)]
    split <;> exact fits_bad
  by_cases a2 : b0 < 224
  · rw [if_pos (c := 194 ≤ b0 ∧ b0 < 224) (by omega), if_neg (c := b0 / 16 = 14 ∧ _) (by omega), if_neg (c := b0 / 8 = 30 ∧ _) (by omega)]
    by_cases c1 : n < 2
    · rw [if_pos c1, if_neg (by omega)]; exact fits_bad
    rw [if_neg c1]
    by_cases c2 : C b1
    · rw [if_pos c2]
      unfold C at c2
      rw [if_pos (by omega), if_pos (by omega)]
      unfold fin
      rw [if_neg (by omega)]
      exact fits_good (by omega) (by omega)
    · rw [if_neg c2]
      unfold C at c2
      rw [if_neg (by omega)]; exact fits_bad
  rw [if_neg (c := 194 ≤ b0 ∧ b0 < 224) (by omega), if_neg (c := b0 / 32 = 6 ∧ _) (by omega)]
  by_cases a3 : b0 < 240
  · rw [if_pos (c := 224 ≤ b0 ∧ b0 < 240) (by omega), if_neg (c := b0 / 8 = 30 ∧ _) (by omega)]
    by_cases c1 : n < 3
    · rw [if_pos c1, if_neg (by omega)]; exact fits_bad
    rw [if_neg c1]
    by_cases c2 : C b1
    · by_cases c3 : C b2
      · rw [if_pos c2, if_pos c3]
        unfold C at c2 c3
        rw [if_pos (by omega)]
        unfold fin
        by_cases c4 : b0 % 16 * 4096 + b1 % 64 * 64 + b2 % 64 ≥ 2048 ∧ (b0 % 16 * 4096 + b1 % 64 * 64 + b2 % 64 < 55296 ∨ (57344 ≤ b0 % 16 * 4096 + b1 % 64 * 64 + b2 % 64 ∧ b0 % 16 * 4096 + b1 % 64 * 64 + b2 % 64 ≤ 1114111))
        · rw [if_pos c4, if_neg (by omega)]
          exact fits_good (by omega) (by omega)
        · rw [if_neg c4, if_pos (by omega)]; exact fits_bad
      · rw [if_pos c2, if_neg c3]
        unfold C at c3
        rw [if_neg (by omega)]; exact fits_bad
    · rw [if_neg c2]
      unfold C at c2
      rw [if_neg (by omega)]; exact fits_bad
  rw [if_neg (c := 224 ≤ b0 ∧ b0 < 240) (by omega), if_neg (c := b0 / 16 = 14 ∧ _) (by omega)]
  by_cases a4 : b0 < 248
  · by_cases a5 : b0 < 245
    · rw [if_pos (c := 240 ≤ b0 ∧ b0 < 245) (by omega)]
      by_cases c1 : n < 4
      · rw [if_pos c1, if_neg (by omega)]; exact fits_bad
      rw [if_neg c1]
      by_cases c2 : C b1
      · by_cases c3 : C b2
        · by_cases c4 : C b3
          · rw [if_pos c2, if_pos c3, if_pos c4]
            unfold C at c2 c3 c4
            rw [if_pos (by omega)]
            unfold fin
            by_cases c5 : b0 % 8 * 262144 + b1 % 64 * 4096 + b2 % 64 * 64 + b3 % 64 ≥ 65536 ∧ (b0 % 8 * 262144 + b1 % 64 * 4096 + b2 % 64 * 64 + b3 % 64 < 55296 ∨ (57344 ≤ b0 % 8 * 262144 + b1 % 64 * 4096 + b2 % 64 * 64 + b3 % 64 ∧ b0 % 8 * 262144 + b1 % 64 * 4096 + b2 % 64 * 64 + b3 % 64 ≤ 1114111))
            · rw [if_pos c5, if_neg (by omega)]
              exact fits_good (by omega) (by omega)
            · rw [if_neg c5, if_pos (by omega)]; exact fits_bad
          · rw [if_pos c2, if_pos c3, if_neg c4]
            unfold C at c4
            rw [if_neg (by omega)]; exact fits_bad
        · rw [if_pos c2, if_neg c3]
          unfold C at c3
          rw [if_neg (by omega)]; exact fits_bad
      · rw [if_neg c2]
        unfold C at c2
        rw [if_neg (by omega)]; exact fits_bad
    · rw [if_neg (c := 240 ≤ b0 ∧ b0 < 245) (by omega)]
      split
      · split
        · omega
        · exact fits_bad
      · exact fits_bad
  · rw [if_neg (c := 240 ≤ b0 ∧ b0 < 245) (by omega), if_neg (c := b0 / 8 = 30 ∧ _) (by omega)]; exact fits_bad
def by_ (l : List UInt8) (k : Nat) : Nat := (l.getD k 0).toNat
theorem by_lt (l : List UInt8) (k : Nat) : by_ l k < 256 := (l.getD k 0).toNat_lt
def refC (l : List UInt8) : Nat × Nat := refN l.length (by_ l 0) (by_ l 1) (by_ l 2) (by_ l 3)
theorem refC_fits (l : List UInt8) : Fits (decodeL l) (refC l) := by
  rw [decodeL_N]; exact refN_fits _ _ _ _ _ (by_lt l 0) (by_lt l 1) (by_lt l 2) (by_lt l 3)
def R : Nat → List UInt8 → List Int
  | 0, _ => []
  | f + 1, l => if l = [] then [] else ((decodeL l).1 : Int) :: R f (l.drop (decodeL l).2)
theorem drop_lt {l : List UInt8} (h : l ≠ []) : (l.drop (decodeL l).2).length < l.length := by
  have h1 := decodeL_width l
  have h2 : 0 < l.length := List.length_pos_iff.2 h
  rw [List.length_drop]; omega
theorem R_fuel : ∀ (f g : Nat) (l : List UInt8), l.length ≤ f → l.length ≤ g → R f l = R g l
  | 0, 0, _, _, _ => rfl
  | 0, g + 1, l, hf, _ => by rw [List.eq_nil_of_length_eq_zero (show l.length = 0 by omega)]; simp [R]
  | f + 1, 0, l, _, hg => by rw [List.eq_nil_of_length_eq_zero (show l.length = 0 by omega)]; simp [R]
  | f + 1, g + 1, l, hf, hg => by
    rw [R, R]
    split
    · rfl
    · rename_i h
      have := drop_lt h
      rw [R_fuel f g _ (by omega) (by omega)]
theorem V_fuel : ∀ (f g : Nat) (l : List UInt8), l.length ≤ f → l.length ≤ g → validGoD f l = validGoD g l
  | 0, 0, _, _, _ => rfl
  | 0, g + 1, l, hf, _ => by rw [List.eq_nil_of_length_eq_zero (show l.length = 0 by omega)]; simp [validGoD]
  | f + 1, 0, l, _, hg => by rw [List.eq_nil_of_length_eq_zero (show l.length = 0 by omega)]; simp [validGoD]
  | f + 1, g + 1, l, hf, hg => by
    rw [validGoD, validGoD]
    split
    · rfl
    · rename_i h
      have := drop_lt h
      rw [V_fuel f g _ (by omega) (by omega)]
def rns (l : List UInt8) : List Int := R l.length l
theorem rns_nil : rns [] = [] := rfl
theorem rns_step {l : List UInt8} (h : l ≠ []) : rns l = ((decodeL l).1 : Int) :: rns (l.drop (decodeL l).2) := by
  have h1 := drop_lt h
  unfold rns
  obtain ⟨n, hn⟩ : ∃ n, l.length = n + 1 := ⟨l.length - 1, by have := List.length_pos_iff.2 h; omega⟩
  rw [hn, R, if_neg h, R_fuel n _ _ (by omega) (Nat.le_refl _)]
theorem V_nil : validD [] = true := rfl
theorem V_step {l : List UInt8} (h : l ≠ []) : validD l = if (decodeL l).1 = 65533 ∧ (decodeL l).2 = 1 then false else validD (l.drop (decodeL l).2) := by
  have h1 := drop_lt h
  unfold validD
  obtain ⟨n, hn⟩ : ∃ n, l.length = n + 1 := ⟨l.length - 1, by have := List.length_pos_iff.2 h; omega⟩
  rw [hn, validGoD, if_neg h, V_fuel n _ _ (by omega) (Nat.le_refl _)]
theorem rns_len : ∀ (n : Nat) (l : List UInt8), l.length ≤ n → (rns l).length ≤ l.length
  | 0, l, h => by rw [List.eq_nil_of_length_eq_zero (show l.length = 0 by omega)]; simp [rns_nil]
  | n + 1, l, h => by
    by_cases hl : l = []
    · rw [hl]; simp [rns_nil]
    · have h1 := drop_lt hl
      have := rns_len n (l.drop (decodeL l).2) (by omega)
      rw [rns_step hl, List.length_cons]; omega
theorem rns_pos {l : List UInt8} (h : l ≠ []) : rns l ≠ [] := by rw [rns_step h]; simp
theorem dec_drop (s : List UInt8) (p : Nat) : dec s p = decodeL (s.drop p) := (decodeL_drop ⟨s.toArray⟩ p).symm
def bad (c : Int) : Bool := decide (c = 47) || (decide (c < 32) || decide (c = 127))
def nameV (s : List UInt8) : Int := if s = [] ∨ s = [46] ∨ s = [46, 46] ∨ validD s = false then 8 else if (rns s).any bad then 8 else if 24 < (rns s).length then 2 else 0
end Go.Proofs.YtfhifdmbdkkgaaaGreatDoor.U8
namespace Go.Proofs.YtfhifdmbdkkgaaaGreatDoor.PTreeName
open Go.RowKit YtfhifdmbdkkgaaaGreatDoor.En YtfhifdmbdkkgaaaGreatDoor U8
open Go.Lib hiding cut
set_option linter.unusedVariables false
set_option linter.unusedSimpArgs false
theorem iw {n : Nat} (h : n ≤ 9223372036854775807) : IntKind.i64.wrap (n : Int) = (n : Int) := w64 (by omega) (by omega)
theorem ch_step (a : List UInt8) (n : Int) (kk : Int → Option (Int × Int)) (fuel i c : Nat) (b : UInt8) (hi : (cut a 1 n)[i]? = some b) (hc : c < 1000000000) (hi2 : i < 10) :
    f_lumref_char_L20 a n kk (fuel + 1) (c : Int) (i : Int) = if C b.toNat then f_lumref_char_L20 a n kk fuel ((64 * c + b.toNat - 128 : Nat) : Int) ((i + 1 : Nat) : Int) else some (0, 0) := by
  have hlt := (List.getElem?_eq_some_iff.1 hi).1
  have hb := b.toNat_lt
  rw [f_lumref_char_L20, cond_tt (dlt (by omega)), at_of hi, opt_of, lt_of, wsucc (by omega)]
  by_cases h1 : b.toNat < 128
  · rw [cond_tt (dlt (by omega)), if_neg (by unfold C; omega)]; rfl
  · rw [cond_ff (dge (by omega))]
    by_cases h2 : b.toNat > 191
    · rw [decide_eq_true (by omega), if_neg (by unfold C; omega)]; rfl
    · rw [decide_eq_false (by omega), if_pos (by unfold C; omega)]
      dsimp only
      rw [cond_ff rfl]
      have e : IntKind.i64.wrap ((IntKind.i64.wrap ((IntKind.i64.wrap ((64 : Int) * (c : Int))) + (IntKind.i64.wrap (b.toNat : Int)))) - (128 : Int)) = ((64 * c + b.toNat - 128 : Nat) : Int) := by
        rw [w64 (x := 64 * (c : Int)) (by omega) (by omega), iw (n := b.toNat) (by omega), w64 (x := 64 * (c : Int) + (b.toNat : Int)) (by omega) (by omega), w64 (by omega) (by omega)]; omega
      rw [e]
theorem ch_end (a : List UInt8) (n : Int) (kk : Int → Option (Int × Int)) (fuel i c : Nat) (hi : (cut a 1 n).length = i) : f_lumref_char_L20 a n kk (fuel + 1) (c : Int) (i : Int) = kk (c : Int) := by
  rw [f_lumref_char_L20, cond_ff (dge (by omega))]
theorem cut_at (a : List UInt8) (n j : Nat) (h : j + 1 < n) (hn : n ≤ a.length) : (cut a 1 (n : Int))[j]? = some (a.getD (j + 1) 0) := by
  unfold cut
  rw [show ((1 : Int)).toNat = 1 from rfl, Int.toNat_natCast, List.getElem?_drop, List.getElem?_take, if_pos (by omega), Nat.add_comm, List.getD_eq_getElem?_getD, List.getElem?_eq_getElem (by omega)]; rfl
theorem cut_len (a : List UInt8) (n : Nat) (h : 1 ≤ n) (hn : n ≤ a.length) : (cut a 1 (n : Int)).length = n - 1 := by
  unfold cut
  rw [show ((1 : Int)).toNat = 1 from rfl, Int.toNat_natCast, List.length_drop, List.length_take]; omega
def fin_k (low n : Nat) (c : Int) : Option (Int × Int) := (lt (fun (j9b84 : Bool) => (bif j9b84 then (some ((0 : Int), (0 : Int))) else (some (c, (n : Int))))) fun (kk10 : Bool → Option (Int × Int)) => (bif (decide (c < (low : Int))) then (kk10 true) else (bif (decide (c > (1114111 : Int))) then (kk10 true) else (bif (decide (c ≥ (55296 : Int))) then (kk10 (decide (c < (57344 : Int)))) else (kk10 false)))))
theorem fin_k_ok (low n c : Nat) : fin_k low n (c : Int) = some (((fin low n c).1 : Int), ((fin low n c).2 : Int)) := by
  unfold fin_k fin
  rw [lt_of]
  by_cases h1 : c < low
  · rw [cond_tt (dlt (by omega)), if_pos (.inl h1)]; rfl
  · rw [cond_ff (dge (by omega))]
    by_cases h2 : c > 1114111
    · rw [cond_tt (decide_eq_true (by omega)), if_pos (.inr (.inl h2))]; rfl
    · rw [cond_ff (decide_eq_false (by omega))]
      by_cases h3 : c ≥ 55296
      · rw [cond_tt (decide_eq_true (by omega))]
        by_cases h4 : c < 57344
        · rw [decide_eq_true (by omega), if_pos (by omega)]; rfl
        · rw [decide_eq_false (by omega), if_neg (by omega)]; rfl
      · rw [cond_ff (decide_eq_false (by omega)), if_neg (by omega)]; rfl
def kk5 (a : List UInt8) (fu : Nat) (c : Int) (n : Int) (low : Int) : Option (Int × Int) := (bif (decide ((a.length : Int) < n)) then (some ((0 : Int), (0 : Int))) else (lt (fun (j7i4 : Int) => (lt (fun (j9b84 : Bool) => (bif j9b84 then (some ((0 : Int), (0 : Int))) else (some (j7i4, n)))) fun (kk10 : Bool → Option (Int × Int)) => (bif (decide (j7i4 < low)) then (kk10 true) else (bif (decide (j7i4 > (1114111 : Int))) then (kk10 true) else (bif (decide (j7i4 ≥ (55296 : Int))) then (kk10 (decide (j7i4 < (57344 : Int)))) else (kk10 false)))))) fun (kk8 : Int → Option (Int × Int)) => (req (0 ≤ (1 : Int) ∧ (1 : Int) ≤ n ∧ n ≤ (a.length : Int)) (req ((cut a (1 : Int) n).length ≤ 9223372036854775807) (f_lumref_char_L20 a n kk8 fu c (0 : Int))))))
def out (r : Nat × Nat) : Int × Int := ((r.1 : Int), (r.2 : Int))
theorem out_if {p : Prop} [Decidable p] (x y : Nat × Nat) : some (out (if p then x else y)) = if p then some (out x) else some (out y) := by split <;> rfl
theorem kk5_2 (a : List UInt8) (hl : a.length ≤ 2000000) (fu c low : Nat) (hf : 10 ≤ fu) (hc : c < 1000) : kk5 a fu (c : Int) 2 (low : Int) = some (out (if a.length < 2 then (0, 0) else if C (by_ a 1) then fin low 2 (64 * c + by_ a 1 - 128) else (0, 0))) := by
  unfold kk5
  by_cases h : a.length < 2
  · rw [cond_tt (dlt (by omega)), if_pos h]; rfl
  · rw [cond_ff (dge (by omega)), if_neg h, lt_of, req_pos (by omega), req_pos (by rw [show (2 : Int) = ((2 : Nat) : Int) from rfl, cut_len a 2 (by omega) (by omega)]; omega)]
    obtain ⟨f, rfl⟩ : ∃ f, fu = f + 2 := ⟨fu - 2, by omega⟩
    refine (ch_step a 2 _ (f + 1) 0 c _ (cut_at a 2 0 (by omega) (by omega)) (by omega) (by omega)).trans ?_
    rw [out_if]
    show (if C (by_ a 1) then _ else _) = _
    by_cases h1 : C (by_ a 1)
    · rw [if_pos h1, if_pos h1]
      refine (ch_end a 2 _ f 1 _ (cut_len a 2 (by omega) (by omega))).trans ?_
      exact fin_k_ok low 2 _
    · rw [if_neg h1, if_neg h1]; rfl
theorem kk5_3 (a : List UInt8) (hl : a.length ≤ 2000000) (fu c low : Nat) (hf : 10 ≤ fu) (hc : c < 1000) : kk5 a fu (c : Int) 3 (low : Int) = some (out (if a.length < 3 then (0, 0) else if C (by_ a 1) then (if C (by_ a 2) then fin low 3 (64 * (64 * c + by_ a 1 - 128) + by_ a 2 - 128) else (0, 0)) else (0, 0))) := by
  have l1 := by_lt a 1
  have l2 := by_lt a 2
  unfold kk5
  by_cases h : a.length < 3
  · rw [cond_tt (dlt (by omega)), if_pos h]; rfl
  · rw [cond_ff (dge (by omega)), if_neg h, lt_of, req_pos (by omega), req_pos (by rw [show (3 : Int) = ((3 : Nat) : Int) from rfl, cut_len a 3 (by omega) (by omega)]; omega)]
    obtain ⟨f, rfl⟩ : ∃ f, fu = f + 3 := ⟨fu - 3, by omega⟩
    refine (ch_step a 3 _ (f + 2) 0 c _ (cut_at a 3 0 (by omega) (by omega)) (by omega) (by omega)).trans ?_
    rw [out_if]
    show (if C (by_ a 1) then _ else _) = _
    by_cases h1 : C (by_ a 1)
    · rw [if_pos h1, if_pos h1, out_if]
      refine (ch_step a 3 _ (f + 1) 1 (64 * c + by_ a 1 - 128) _ (cut_at a 3 1 (by omega) (by omega)) (by omega) (by omega)).trans ?_
      show (if C (by_ a 2) then _ else _) = _
      by_cases h2 : C (by_ a 2)
      · rw [if_pos h2, if_pos h2]
        refine (ch_end a 3 _ f 2 _ (cut_len a 3 (by omega) (by omega))).trans ?_
        exact fin_k_ok low 3 _
      · rw [if_neg h2, if_neg h2]; rfl
    · rw [if_neg h1, if_neg h1]; rfl
theorem kk5_4 (a : List UInt8) (hl : a.length ≤ 2000000) (fu c low : Nat) (hf : 10 ≤ fu) (hc : c < 1000) : kk5 a fu (c : Int) 4 (low : Int) = some (out (if a.length < 4 then (0, 0) else if C (by_ a 1) then (if C (by_ a 2) then (if C (by_ a 3) then fin low 4 (64 * (64 * (64 * c + by_ a 1 - 128) + by_ a 2 - 128) + by_ a 3 - 128) else (0, 0)) else (0, 0)) else (0, 0))) := by
  have l1 := by_lt a 1
  have l2 := by_lt a 2
  have l3 := by_lt a 3
  unfold kk5
  by_cases h : a.length < 4
  · rw [cond_tt (dlt (by omega)), if_pos h]; rfl
  · rw [cond_ff (dge (by omega)), if_neg h, lt_of, req_pos (by omega), req_pos (by rw [show (4 : Int) = ((4 : Nat) : Int) from rfl, cut_len a 4 (by omega) (by omega)]; omega)]
    obtain ⟨f, rfl⟩ : ∃ f, fu = f + 4 := ⟨fu - 4, by omega⟩
    refine (ch_step a 4 _ (f + 3) 0 c _ (cut_at a 4 0 (by omega) (by omega)) (by omega) (by omega)).trans ?_
    rw [out_if]
    show (if C (by_ a 1) then _ else _) = _
    by_cases h1 : C (by_ a 1)
    · rw [if_pos h1, if_pos h1, out_if]
      refine (ch_step a 4 _ (f + 2) 1 (64 * c + by_ a 1 - 128) _ (cut_at a 4 1 (by omega) (by omega)) (by omega) (by omega)).trans ?_
      show (if C (by_ a 2) then _ else _) = _
      by_cases h2 : C (by_ a 2)
      · rw [if_pos h2, if_pos h2, out_if]
        refine (ch_step a 4 _ (f + 1) 2 (64 * (64 * c + by_ a 1 - 128) + by_ a 2 - 128) _ (cut_at a 4 2 (by omega) (by omega)) (by omega) (by omega)).trans ?_
        show (if C (by_ a 3) then _ else _) = _
        by_cases h3 : C (by_ a 3)
        · rw [if_pos h3, if_pos h3]
          refine (ch_end a 4 _ f 3 _ (cut_len a 4 (by omega) (by omega))).trans ?_
          exact fin_k_ok low 4 _
        · rw [if_neg h3, if_neg h3]; rfl
      · rw [if_neg h2, if_neg h2]; rfl
    · rw [if_neg h1, if_neg h1]; rfl
theorem char_ok (a : List UInt8) (ha : a ≠ []) (hl : a.length ≤ 2000000) (fu : Nat) (hf : 10 ≤ fu) : f_lumref_char fu a = some (out (refC a)) := by
  have hpos := List.length_pos_iff.2 ha
  have l0 := by_lt a 0
  have e0 : IntKind.i64.wrap (En.bAt a 0) = ((by_ a 0 : Nat) : Int) := by
    rw [show En.bAt a 0 = ((by_ a 0 : Nat) : Int) from rfl, iw (by omega)]
  unfold f_lumref_char refC refN
  rw [cond_ff (by simpa using ha), req_pos (by omega), e0]
  by_cases h1 : by_ a 0 < 128
  · rw [cond_tt (dlt (by omega)), if_pos h1]; rfl
  · rw [cond_ff (dge (by omega)), if_neg h1, lt_of, lt_of]
    have e1 : by_ a 0 < 224 → 194 ≤ by_ a 0 → IntKind.i64.wrap (((by_ a 0 : Nat) : Int) - 192) = ((by_ a 0 - 192 : Nat) : Int) := fun _ _ => by rw [w64 (by omega) (by omega)]; omega
    have e2 : 224 ≤ by_ a 0 → IntKind.i64.wrap (((by_ a 0 : Nat) : Int) - 224) = ((by_ a 0 - 224 : Nat) : Int) := fun _ => by rw [w64 (by omega) (by omega)]; omega
    have e3 : 240 ≤ by_ a 0 → IntKind.i64.wrap (((by_ a 0 : Nat) : Int) - 240) = ((by_ a 0 - 240 : Nat) : Int) := fun _ => by rw [w64 (by omega) (by omega)]; omega
    have ff : ∀ m : Nat, ¬ by_ a 0 < m → decide (((by_ a 0 : Nat) : Int) < (m : Int)) = false := fun m h => decide_eq_false (by omega)
    have ft : ∀ m : Nat, by_ a 0 < m → decide (((by_ a 0 : Nat) : Int) < (m : Int)) = true := fun m h => decide_eq_true (by omega)
    by_cases h2 : 194 ≤ by_ a 0 ∧ by_ a 0 < 224
    · rw [cond_tt (decide_eq_true (show ((by_ a 0 : Nat) : Int) ≥ 194 by omega)), show decide (((by_ a 0 : Nat) : Int) < 224) = true from ft 224 h2.2, if_pos h2]
      dsimp only
      rw [cond_tt rfl, e1 h2.2 h2.1]
      exact kk5_2 a hl fu _ 128 hf (by omega)
    · rw [if_neg h2]
      by_cases h3 : 224 ≤ by_ a 0
      · rw [cond_tt (decide_eq_true (show ((by_ a 0 : Nat) : Int) ≥ 194 by omega)), show decide (((by_ a 0 : Nat) : Int) < 224) = false from ff 224 (by omega)]
        dsimp only
        rw [cond_ff rfl, lt_of]
        by_cases h4 : by_ a 0 < 240
        · rw [cond_tt (decide_eq_true (show ((by_ a 0 : Nat) : Int) ≥ 224 by omega)), show decide (((by_ a 0 : Nat) : Int) < 240) = true from ft 240 h4, if_pos ⟨h3, h4⟩]
          dsimp only
          rw [cond_tt rfl, e2 h3]
          exact kk5_3 a hl fu _ 2048 hf (by omega)
        · rw [cond_tt (decide_eq_true (show ((by_ a 0 : Nat) : Int) ≥ 224 by omega)), show decide (((by_ a 0 : Nat) : Int) < 240) = false from ff 240 h4, if_neg (c := 224 ≤ by_ a 0 ∧ by_ a 0 < 240) (by omega)]
          dsimp only
          rw [cond_ff rfl, lt_of, cond_tt (decide_eq_true (show ((by_ a 0 : Nat) : Int) ≥ 240 by omega))]
          by_cases h5 : by_ a 0 < 245
          · rw [show decide (((by_ a 0 : Nat) : Int) < 245) = true from ft 245 h5, if_pos ⟨by omega, h5⟩]
            dsimp only
            rw [cond_tt rfl, e3 (by omega)]
            exact kk5_4 a hl fu _ 65536 hf (by omega)
          · rw [show decide (((by_ a 0 : Nat) : Int) < 245) = false from ff 245 h5, if_neg (by omega)]
            dsimp only
            rw [cond_ff rfl]; rfl
      · rw [cond_ff (decide_eq_false (show ¬ ((by_ a 0 : Nat) : Int) ≥ 194 by omega)), if_neg (c := 224 ≤ by_ a 0 ∧ by_ a 0 < 240) (by omega), if_neg (c := 240 ≤ by_ a 0 ∧ by_ a 0 < 245) (by omega)]
        dsimp only
        rw [cond_ff rfl, lt_of, cond_ff (decide_eq_false (show ¬ ((by_ a 0 : Nat) : Int) ≥ 224 by omega))]
        dsimp only
        rw [cond_ff rfl, lt_of, cond_ff (decide_eq_false (show ¬ ((by_ a 0 : Nat) : Int) ≥ 240 by omega))]
        dsimp only
        rw [cond_ff rfl]; rfl
theorem chars_loop (fu : Nat) (hf : 10 ≤ fu) : ∀ (fuel : Nat) (s : List UInt8) (o : List Int), s.length < fuel → s.length ≤ 2000000 → o.length + s.length ≤ 2000000 →
    f_lumref_Chars_L5 (fun j => some (j, true)) fu fuel s o = some (if validD s then (o ++ rns s, true) else ([], false))
  | 0, s, _, h, _, _ => absurd h (Nat.not_lt_zero _)
  | fuel + 1, s, o, h, hl, ho => by
    rw [f_lumref_Chars_L5]
    by_cases h0 : s = []
    · subst h0
      rw [cond_ff (by rfl), V_nil, rns_nil, List.append_nil]; rfl
    · have hd := drop_lt h0
      have hle := decodeL_le s h0
      rw [cond_tt (by simpa using h0), char_ok s h0 hl fu hf, opt_of]
      rcases refC_fits s with ⟨h1, h2⟩ | ⟨h1, h2, h3⟩
      · have hv : validD s = false := by rw [V_step h0, h1]; exact if_pos ⟨rfl, rfl⟩
        rw [h2, hv]; rfl
      · rw [V_step h0, rns_step h0]
        rw [h1] at hd hle ⊢
        rw [if_neg h3]
        show (bif (((refC s).2 : Int) == 0) then _ else _) = _
        rw [cond_ff (by rw [beq_eq_false_iff_ne]; omega)]
        show req (((o.length + 1) * 8 : Nat) ≤ 140737488355328 ∧ o.length + 1 ≤ 9223372036854775807) (req (0 ≤ ((refC s).2 : Int) ∧ ((refC s).2 : Int) ≤ (s.length : Int)) (f_lumref_Chars_L5 _ fu fuel (s.drop ((refC s).2 : Int).toNat) (o ++ [((refC s).1 : Int)]))) = _
        have hsl := List.length_pos_iff.2 h0
        rw [req_pos (by omega), req_pos (by omega), Int.toNat_natCast, chars_loop fu hf fuel _ _ (by omega) (by omega) (by simp; omega), List.append_assoc]; rfl
theorem chars_ok (s : List UInt8) (hl : s.length ≤ 1048576) (fu : Nat) (hf : 1048600 ≤ fu) : f_lumref_Chars fu s = some (if validD s then (rns s, true) else ([], false)) := by
  unfold f_lumref_Chars
  rw [lt_of]
  exact chars_loop fu (by omega) fu s [] (by omega) (by omega) (by simp; omega)
theorem name_loop (r : List Int × Bool) (hl : r.1.length ≤ 2000000) (kk : Unit → Option Int) : ∀ (fuel k : Nat), k ≤ r.1.length → r.1.length - k < fuel → f_lumref_Name_L12 r kk fuel (k : Int) = if (r.1.drop k).any bad then some 8 else kk ()
  | 0, k, _, h => absurd h (Nat.not_lt_zero _)
  | fuel + 1, k, hk, hf => by
    rw [f_lumref_Name_L12]
    by_cases hlt : k < r.1.length
    · have key : ∀ b : Bool, b = bad r.1[k] → (bif b then (some (8 : Int)) else f_lumref_Name_L12 r kk fuel (IntKind.i64.wrap ((k : Int) + 1))) = if (r.1.drop k).any bad then some 8 else kk () := fun b hb => by
        rw [List.drop_eq_getElem_cons hlt, List.any_cons, ← hb]
        cases b with
        | true => rfl
        | false => rw [cond_ff rfl, wsucc (by omega), name_loop r hl kk fuel (k + 1) hlt (by omega), Bool.false_or]
      rw [cond_tt (dlt (by omega)), at_lt hlt, opt_of, lt_of]
      unfold bad at key
      generalize r.1[k] = c at key
      by_cases h1 : c = 47
      · rw [cond_tt (by rw [h1]; rfl)]; exact key true (by rw [decide_eq_true h1]; rfl)
      · rw [cond_ff (by rw [beq_eq_false_iff_ne]; exact h1)]
        by_cases h2 : c < 32
        · rw [cond_tt (decide_eq_true h2)]; exact key true (by rw [decide_eq_false h1, decide_eq_true h2]; rfl)
        · rw [cond_ff (decide_eq_false h2)]
          refine key _ ?_
          rw [decide_eq_false h1, decide_eq_false h2]
          by_cases h3 : c = 127
          · rw [h3]; rfl
          · rw [decide_eq_false h3, beq_eq_false_iff_ne.2 h3]; rfl
    · rw [cond_ff (dge (by omega)), List.drop_of_length_le (by omega)]; rfl
theorem name_ok (s : List UInt8) (hl : s.length ≤ 1048576) (fu : Nat) (hf : 1048600 ≤ fu) : f_lumref_Name fu s = some (nameV s) := by
  have hrl := rns_len s.length s (Nat.le_refl _)
  unfold f_lumref_Name nameV
  rw [chars_ok s hl fu hf, opt_of, lt_of]
  cases hv : validD s with
  | false => rw [if_neg (by simp), if_pos (by simp)]; rfl
  | true =>
    rw [if_pos rfl]
    dsimp only
    rw [cond_ff (show (!true) = false from rfl)]
    by_cases h0 : s = []
    · subst h0; rw [if_pos (.inl rfl)]; rfl
    · have := List.length_pos_iff.2 (rns_pos h0)
      rw [cond_ff (by rw [beq_eq_false_iff_ne]; omega)]
      by_cases h1 : s = [46]
      · subst h1; rw [if_pos (.inr (.inl rfl))]; rfl
      · rw [cond_ff (by rw [beq_eq_false_iff_ne]; exact h1)]
        by_cases h2 : s = [46, 46]
        · subst h2; rw [if_pos (.inr (.inr (.inl rfl)))]; rfl
        · rw [beq_eq_false_iff_ne.2 h2, if_neg (by simp [h0, h1, h2])]
          try dsimp only
          rw [cond_ff rfl, lt_of]
          have := name_loop (rns s, true) (by show (rns s).length ≤ _; omega) (fun _ => (bif (decide (((rns s).length : Int) > (24 : Int))) then (some (2 : Int)) else (some (0 : Int)))) fu 0 (by omega) (by show (rns s).length - 0 < fu; omega)
          refine Eq.trans this ?_
          rw [List.drop_zero]
          show (if (rns s).any bad = true then some 8 else _) = _
          split
          · rfl
          · by_cases h4 : 24 < (rns s).length
            · rw [cond_tt (decide_eq_true (by omega)), if_pos h4]
            · rw [cond_ff (decide_eq_false (by omega)), if_neg h4]
theorem check_loop (s : List UInt8) (hl : s.length ≤ 2000000) (kk : Int → Option Int) : ∀ (fuel p n : Nat), s.length - p < fuel → n ≤ p → p ≤ 4000000 → f_names_Check_L10 s kk fuel (n : Int) (p : Int) = if (rns (s.drop p)).any bad then some 8 else kk ((n + (rns (s.drop p)).length : Nat) : Int)
  | 0, p, n, h, _, _ => absurd h (Nat.not_lt_zero _)
  | fuel + 1, p, n, hf, hn, hp => by
    rw [f_names_Check_L10, Int.toNat_natCast]
    by_cases hlt : p < s.length
    · have hne : s.drop p ≠ [] := fun h => by have := congrArg List.length h; rw [List.length_drop] at this; simp at this; omega
      have hw := decodeL_width (s.drop p)
      have hle := decodeL_le (s.drop p) hne
      rw [List.length_drop] at hle
      have key : ∀ b : Bool, b = bad ((decodeL (s.drop p)).1 : Int) → (bif b then (some (8 : Int)) else f_names_Check_L10 s kk fuel (IntKind.i64.wrap ((n : Int) + 1)) ((p + (decodeL (s.drop p)).2 : Nat) : Int)) = if (rns (s.drop p)).any bad then some 8 else kk ((n + (rns (s.drop p)).length : Nat) : Int) := fun b hb => by
        rw [rns_step hne, List.any_cons, ← hb]
        cases b with
        | true => rfl
        | false =>
          rw [cond_ff rfl, wsucc (by omega), check_loop s hl kk fuel _ (n + 1) (by omega) (by omega) (by omega), Bool.false_or, List.drop_drop, List.length_cons]
          rw [show n + 1 + (rns (s.drop (p + (decodeL (s.drop p)).2))).length = n + ((rns (s.drop (p + (decodeL (s.drop p)).2))).length + 1) by omega]
      rw [cond_tt (decide_eq_true hlt), lt_of, dec_drop]
      unfold bad at key
      generalize (((decodeL (s.drop p)).1 : Nat) : Int) = c at key
      by_cases h1 : c = 47
      · rw [cond_tt (by rw [h1]; rfl)]; exact key true (by rw [decide_eq_true h1]; rfl)
      · rw [cond_ff (by rw [beq_eq_false_iff_ne]; exact h1)]
        by_cases h2 : c < 32
        · rw [cond_tt (decide_eq_true h2)]; exact key true (by rw [decide_eq_false h1, decide_eq_true h2]; rfl)
        · rw [cond_ff (decide_eq_false h2)]
          refine key _ ?_
          rw [decide_eq_false h1, decide_eq_false h2]
          by_cases h3 : c = 127
          · rw [h3]; rfl
          · rw [decide_eq_false h3, beq_eq_false_iff_ne.2 h3]; rfl
    · rw [cond_ff (decide_eq_false hlt), List.drop_of_length_le (by omega), rns_nil]; rfl
theorem check_ok (s : List UInt8) (hl : s.length ≤ 1048576) (fu : Nat) (hf : 1048600 ≤ fu) : f_names_Check fu s = some (nameV s) := by
  unfold f_names_Check nameV f_utf8_ValidString
  rw [lt_of]
  by_cases h0 : s = []
  · subst h0; rw [if_pos (.inl rfl)]; rfl
  · rw [cond_ff (by simpa using h0)]
    by_cases h1 : s = [46]
    · subst h1; rw [if_pos (.inr (.inl rfl))]; rfl
    · rw [cond_ff (by rw [beq_eq_false_iff_ne]; exact h1)]
      by_cases h2 : s = [46, 46]
      · subst h2; rw [if_pos (.inr (.inr (.inl rfl)))]; rfl
      · rw [cond_ff (by rw [beq_eq_false_iff_ne]; exact h2), req_pos (by omega), opt_of]
        cases hv : validD s with
        | false => rw [if_pos (by simp)]; rfl
        | true =>
          rw [if_neg (by simp [h0, h1, h2])]
          dsimp only
          rw [cond_ff (show (!true) = false from rfl), lt_of]
          have := check_loop s (by omega) (fun j4i3 => (bif (decide (j4i3 > (24 : Int))) then (some (2 : Int)) else (some (0 : Int)))) fu 0 0 (by omega) (by omega) (by omega)
          refine Eq.trans this ?_
          rw [List.drop_zero, Nat.zero_add]
          split
          · rfl
          · by_cases h4 : 24 < (rns s).length
            · rw [cond_tt (decide_eq_true (by omega)), if_pos h4]
            · rw [cond_ff (decide_eq_false (by omega)), if_neg h4]
end Go.Proofs.YtfhifdmbdkkgaaaGreatDoor.PTreeName
namespace Go.Proofs.YtfhifdmbdkkgaaaGreatDoor.PMoveReads
open Go.RowKit YtfhifdmbdkkgaaaGreatDoor.En YtfhifdmbdkkgaaaGreatDoor Num Mix PPut JF TX U8
open Go.Lib hiding cut
set_option linter.unusedVariables false
set_option linter.unusedSimpArgs false
theorem u8o {n : Nat} (h : n < 256) : (UInt8.ofNat n).toNat = n := by rw [UInt8.toNat_ofNat']; omega
theorem beNat_digF : ∀ (k n : Nat), n < 256 ^ k → beNat (digF k n) = n
  | 0, n, h => by
    rw [Nat.pow_zero] at h
    have : n = 0 := by omega
    subst this; rfl
  | k + 1, n, h => by
    unfold digF
    by_cases h0 : n = 0
    · rw [if_pos h0, h0]; rfl
    · rw [if_neg h0, beNat_snoc, beNat_digF k (n / 256) (div_lt h), u8o (by omega)]; omega
theorem digF_lead : ∀ (k n : Nat), n < 256 ^ k → (digF k n).take 1 ≠ [0]
  | 0, n, _ => by unfold digF; simp
  | k + 1, n, h => by
    unfold digF
    by_cases h0 : n = 0
    · rw [if_pos h0]; simp
    · rw [if_neg h0]
      by_cases h1 : digF k (n / 256) = []
      · rw [h1]
        have h2 := (digF_nil (div_lt h)).1 h1
        intro e
        have e2 : UInt8.ofNat (n % 256) = 0 := by simpa using e
        have e3 := congrArg UInt8.toNat e2
        rw [u8o (by omega)] at e3
        have e4 : (0 : UInt8).toNat = 0 := rfl
        omega
      · rw [List.take_append_of_le_length (by have := List.length_pos_iff.2 h1; omega)]
        exact digF_lead k (n / 256) (div_lt h)
theorem getV_put (n : Nat) (hn : n < 18446744073709551616) (rest : List UInt8) : getV (putV n ++ rest) = ((n : Int), ((putV n).length : Int), 0) := by
  have hl := digF_len 8 n
  have hp : n < 256 ^ 8 := by rw [p8]; exact hn
  have hb : (UInt8.ofNat (digF 8 n).length).toNat = (digF 8 n).length := u8o (by omega)
  unfold putV
  rw [List.cons_append, getV_cons, hb, if_neg (by omega), if_neg (by rw [List.length_append]; omega), List.take_left, if_neg (digF_lead 8 n hp), beNat_digF 8 n hp, List.length_cons, Nat.add_comm]
theorem refC_width (l : List UInt8) (h : 1 ≤ (refC l).2) : (refC l).2 ≤ 4 ∧ ∀ j, j < (refC l).2 → by_ l j = 0 → (refC l).1 = 0 := by
  unfold refC refN at h ⊢
  by_cases a0 : by_ l 0 < 128
  · rw [if_pos a0]
    refine ⟨by show 1 ≤ 4; omega, fun j hj hz => ?_⟩
    have hj' : j < 1 := hj
    have : j = 0 := by omega
    subst this; exact hz
  rw [if_neg a0] at h ⊢
  by_cases a1 : 194 ≤ by_ l 0 ∧ by_ l 0 < 224
  · rw [if_pos a1] at h ⊢
    by_cases c : l.length < 2
    · rw [if_pos c] at h; exact absurd h (by decide)
    rw [if_neg c] at h ⊢
    by_cases d1 : C (by_ l 1)
    · rw [if_pos d1] at h ⊢
      unfold fin at h ⊢
      split at h
      · exact absurd h (by decide)
      · rename_i g
        rw [if_neg g]
        refine ⟨by show 2 ≤ 4; omega, fun j hj hz => ?_⟩
        have hj' : j < 2 := hj
        unfold C at d1
        match j, hj', hz with
        | 0, _, hz => exact absurd hz (by omega)
        | 1, _, hz => exact absurd hz (by omega)
    · rw [if_neg d1] at h; exact absurd h (by decide)
  rw [if_neg a1] at h ⊢
  by_cases a2 : 224 ≤ by_ l 0 ∧ by_ l 0 < 240
  · rw [if_pos a2] at h ⊢
    by_cases c : l.length < 3
    · rw [if_pos c] at h; exact absurd h (by decide)
    rw [if_neg c] at h ⊢
    by_cases d1 : C (by_ l 1)
    · rw [if_pos d1] at h ⊢
      by_cases d2 : C (by_ l 2)
      · rw [if_pos d2] at h ⊢
        unfold fin at h ⊢
        split at h
        · exact absurd h (by decide)
        · rename_i g
          rw [if_neg g]
          refine ⟨by show 3 ≤ 4; omega, fun j hj hz => ?_⟩
          have hj' : j < 3 := hj
          unfold C at d1 d2
          match j, hj', hz with
          | 0, _, hz => exact absurd hz (by omega)
          | 1, _, hz => exact absurd hz (by omega)
          | 2, _, hz => exact absurd hz (by omega)
      · rw [if_neg d2] at h; exact absurd h (by decide)
    · rw [if_neg d1] at h; exact absurd h (by decide)
  rw [if_neg a2] at h ⊢
  by_cases a3 : 240 ≤ by_ l 0 ∧ by_ l 0 < 245
  · rw [if_pos a3] at h ⊢
    by_cases c : l.length < 4
    · rw [if_pos c] at h; exact absurd h (by decide)
    rw [if_neg c] at h ⊢
    by_cases d1 : C (by_ l 1)
    · rw [if_pos d1] at h ⊢
      by_cases d2 : C (by_ l 2)
      · rw [if_pos d2] at h ⊢
        by_cases d3 : C (by_ l 3)
        · rw [if_pos d3] at h ⊢
          unfold fin at h ⊢
          split at h
          · exact absurd h (by decide)
          · rename_i g
            rw [if_neg g]
            refine ⟨by show 4 ≤ 4; omega, fun j hj hz => ?_⟩
            have hj' : j < 4 := hj
            unfold C at d1 d2 d3
            match j, hj', hz with
            | 0, _, hz => exact absurd hz (by omega)
            | 1, _, hz => exact absurd hz (by omega)
            | 2, _, hz => exact absurd hz (by omega)
            | 3, _, hz => exact absurd hz (by omega)
        · rw [if_neg d3] at h; exact absurd h (by decide)
      · rw [if_neg d2] at h; exact absurd h (by decide)
    · rw [if_neg d1] at h; exact absurd h (by decide)
  rw [if_neg a3] at h; exact absurd h (by decide)
theorem by_get {l : List UInt8} {j : Nat} (h : j < l.length) : by_ l j = l[j].toNat := by
  unfold by_
  rw [List.getD_eq_getElem?_getD, List.getElem?_eq_getElem h]; rfl
theorem name_shape : ∀ (n : Nat) (s : List UInt8), s.length ≤ n → validD s = true → (rns s).any bad = false → s.length ≤ 4 * (rns s).length ∧ 0 ∉ s
  | 0, s, h, _, _ => by
    have : s = [] := List.eq_nil_of_length_eq_zero (by omega)
    subst this; exact ⟨by simp, by simp⟩
  | n + 1, s, h, hv, hb => by
    by_cases h0 : s = []
    · subst h0; exact ⟨by simp, by simp⟩
    have hd := drop_lt h0
    have hle := decodeL_le s h0
    have hw := decodeL_width s
    rw [V_step h0] at hv
    rw [rns_step h0, List.any_cons, Bool.or_eq_false_iff] at hb
    rw [rns_step h0, List.length_cons]
    by_cases hx : (decodeL s).1 = 65533 ∧ (decodeL s).2 = 1
    · rw [if_pos hx] at hv; exact absurd hv (by decide)
    rw [if_neg hx] at hv
    obtain ⟨i1, i2⟩ := name_shape n (s.drop (decodeL s).2) (by omega) hv hb.2
    have hc : decodeL s = refC s := by
      rcases refC_fits s with ⟨h1, h2⟩ | ⟨h1, h2, h3⟩
      · rw [h1] at hx; exact absurd ⟨rfl, rfl⟩ hx
      · exact h1
    rw [hc] at hb hle hw i1 i2 ⊢
    obtain ⟨w1, w2⟩ := refC_width s hw
    rw [List.length_drop] at i1
    refine ⟨by omega, fun hm => ?_⟩
    rw [← List.take_append_drop (refC s).2 s, List.mem_append] at hm
    rcases hm with hm | hm
    · obtain ⟨j, hj, hje⟩ := List.mem_iff_getElem.1 hm
      rw [List.length_take] at hj
      rw [List.getElem_take] at hje
      have hz : by_ s j = 0 := by rw [by_get (by omega), hje]; rfl
      have := w2 j (by omega) hz
      rw [this] at hb
      exact absurd hb.1 (by decide)
    · exact i2 hm
theorem name_good {s : List UInt8} (h : nameV s = 0) : s.length ≤ 96 ∧ 0 ∉ s := by
  unfold nameV at h
  split at h
  · exact absurd h (by decide)
  rename_i g1
  split at h
  · exact absurd h (by decide)
  rename_i g2
  split at h
  · exact absurd h (by decide)
  rename_i g3
  have hv : validD s = true := by
    cases hv : validD s with
    | true => rfl
    | false => exact absurd (.inr (.inr (.inr hv))) g1
  obtain ⟨h1, h2⟩ := name_shape s.length s (Nat.le_refl _) hv (by simpa using g2)
  exact ⟨by omega, h2⟩
theorem txtV_plain (s : List UInt8) (h : 0 ∉ s) : txtV s = s ++ [0, 0] := by
  have hc : Lib.count s [0] = 0 := by rw [Lib.count_one]; exact List.count_eq_zero.2 h
  unfold txtV Lib.replaceAll Lib.replace
  rw [if_neg (by decide), show Lib.replaceNum s [0] (-1) = 0 from by unfold Lib.replaceNum; rw [if_pos (.inl (by decide)), hc]]
  rfl
theorem bAt_get {l : List UInt8} {j : Nat} {b : UInt8} (h : l[j]? = some b) : En.bAt l (j : Int) = ((b.toNat : Nat) : Int) := by
  obtain ⟨h1, h2⟩ := List.getElem?_eq_some_iff.1 h
  rw [PPut.bAt_lt h1, h2]
theorem gtext_go (s rest t : List UInt8) (ht : t = s ++ [0, 0] ++ rest) (h : 0 ∉ s) (hs : s.length ≤ 1024) (hr : rest.length ≤ 100000000) (kk : Unit → Option ((List UInt8) × Int × Int)) : ∀ (d j fu : Nat), s.length - j = d → j ≤ s.length → d < fu →
    f_num_GetText_L5 t kk fu (s.take j) (j : Int) = some (s, ((s.length + 2 : Nat) : Int), 0)
  | _, _, 0, _, _, hf => absurd hf (Nat.not_lt_zero _)
  | 0, j, fu + 1, hd, hj, _ => by
    have hjl : j = s.length := by omega
    have hl : t.length = s.length + 2 + rest.length := by rw [ht]; simp only [List.length_append]; rfl
    have g0 : t[j]? = some 0 := by rw [ht, hjl, List.append_assoc, List.getElem?_append_right (Nat.le_refl _), Nat.sub_self]; rfl
    have g1 : t[j + 1]? = some 0 := by rw [ht, hjl, List.append_assoc, List.getElem?_append_right (by omega), show s.length + 1 - s.length = 1 by omega]; rfl
    have ew : IntKind.i64.wrap ((j : Int) + 1) = ((j + 1 : Nat) : Int) := wsucc (by omega)
    rw [f_num_GetText_L5, cond_tt (dlt (by omega)), lt_of, req_pos (by omega), bAt_get g0, ew, bAt_get g1]
    rw [cond_tt (show ((((0 : UInt8).toNat : Nat) : Int) == 0) = true from rfl), cond_ff (beq_eq_false_iff_ne.2 (by omega)), req_pos (by omega), cond_tt (show ((((0 : UInt8).toNat : Nat) : Int) == 0) = true from rfl), wsucc (by omega), List.take_of_length_le (by omega), hjl]
  | d + 1, j, fu + 1, hd, hj, hf => by
    have hlt : j < s.length := by omega
    have hl : t.length = s.length + 2 + rest.length := by rw [ht]; simp only [List.length_append]; rfl
    have g0 : t[j]? = some s[j] := by rw [ht, List.append_assoc, List.getElem?_append_left hlt, List.getElem?_eq_getElem hlt]
    have hne : s[j].toNat ≠ 0 := fun e => h (by
      have : s[j] = 0 := UInt8.toNat_inj.1 (by rw [e]; rfl)
      rw [← this]; exact List.getElem_mem hlt)
    have hb := s[j].toNat_lt
    have htk : s.take j ++ [s[j]] = s.take (j + 1) := List.take_append_getElem hlt
    rw [f_num_GetText_L5, cond_tt (dlt (by omega)), lt_of, req_pos (by omega), bAt_get g0, cond_ff (beq_eq_false_iff_ne.2 (by omega)), req_pos (by omega), req_pos (by omega), Int.toNat_natCast, UInt8.ofNat_toNat, htk, req_pos (by rw [List.length_take, List.length_singleton]; omega)]
    dsimp only
    rw [cond_ff (decide_eq_false (by rw [List.length_take]; omega)), wsucc (by omega)]
    exact gtext_go s rest t ht h hs hr kk d (j + 1) fu (by omega) (by omega) (by omega)
theorem gtext_ok (s rest : List UInt8) (h : 0 ∉ s) (hs : s.length ≤ 1024) (hr : rest.length ≤ 100000000) (fu : Nat) (hf : 1100 ≤ fu) : f_num_GetText fu (txtV s ++ rest) = some (s, ((s.length + 2 : Nat) : Int), 0) ∧ f_lumref_GetText fu (txtV s ++ rest) = some (s, ((s.length + 2 : Nat) : Int), 0) := by
  have hl : (txtV s ++ rest).length ≤ 9223372036854775807 := by
    have := txtV_len s
    rw [List.length_append]; omega
  obtain ⟨r, h1, h2, _⟩ := PTreeText.txt_ex (txtV s ++ rest) hl fu hf
  have key : f_num_GetText fu (txtV s ++ rest) = some (s, ((s.length + 2 : Nat) : Int), 0) := by
    unfold f_num_GetText
    rw [lt_of]
    exact gtext_go s rest _ (by rw [txtV_plain s h]) h hs hr _ _ 0 fu rfl (by omega) (by omega)
  refine ⟨key, ?_⟩
  rw [h2, ← h1, key]
end Go.Proofs.YtfhifdmbdkkgaaaGreatDoor.PMoveReads
namespace Go.Proofs.YtfhifdmbdkkgaaaGreatDoor.PPi
open Go.RowKit YtfhifdmbdkkgaaaGreatDoor.En YtfhifdmbdkkgaaaGreatDoor Num
open Go.Lib hiding cut
set_option linter.unusedVariables false
set_option linter.unusedSimpArgs false
theorem iw {n : Nat} (h : n ≤ 9223372036854775807) : IntKind.i64.wrap (n : Int) = (n : Int) := w64 (by omega) (by omega)
theorem uw {n : Nat} (h : n < 18446744073709551616) : IntKind.u64.wrap (n : Int) = (n : Int) := by
  unfold IntKind.wrap
  simp [IntKind.signed, IntKind.bits]
  omega
theorem bAt_lt {s : List UInt8} {j : Nat} (h : j < s.length) : En.bAt s (j : Int) = ((s[j].toNat : Nat) : Int) := by
  unfold En.bAt
  rw [Int.toNat_natCast, List.getD_eq_getElem?_getD, List.getElem?_eq_getElem h]; rfl
theorem p8 : 256 ^ 8 = 18446744073709551616 := by decide
theorem p7 : 256 ^ 7 = 72057594037927936 := by decide
theorem digits_ok (n : Nat) (hn : n < 18446744073709551616) (fu : Nat) : f_num_digits fu (n : Int) = some (digF 8 n) := by
  unfold f_num_digits f_binary_BEAppendUint64_nil
  rw [req_pos ⟨by omega, by omega⟩, opt_of, Int.toNat_natCast]
  show (opt (req ((0 : UInt8).toNat < 128) (some (trimLeftB (beBytes 8 n) 0))) fun r5 => some r5) = _
  rw [req_pos (by decide), opt_of, trim_be (by rw [p8]; exact hn)]
theorem rdigits_ok : ∀ (k n fu : Nat), n < 256 ^ k → k ≤ 8 → k < fu → f_lumref_digits fu (n : Int) = some (digF k n)
  | 0, n, fu + 1, h, _, _ => by
    have : n = 0 := by simpa using h
    subst this; rfl
  | k + 1, n, fu + 1, h, h8, hf => by
    rw [f_lumref_digits]
    by_cases h0 : n = 0
    · subst h0; rfl
    have hn8 : n < 18446744073709551616 := by
      rw [← p8]; exact Nat.lt_of_lt_of_le h (Nat.pow_le_pow_right (by omega) h8)
    have e1 : ((n : Int)).tdiv 256 = ((n / 256 : Nat) : Int) := by rw [Int.tdiv_eq_ediv_of_nonneg (by omega)]; omega
    have e2 : ((n : Int)).tmod 256 = ((n % 256 : Nat) : Int) := by rw [Int.tmod_eq_emod_of_nonneg (by omega)]; omega
    have hl := digF_len k (n / 256)
    rw [cond_ff (by rw [beq_eq_false_iff_ne]; omega), e1, e2, uw (by omega), rdigits_ok k (n / 256) fu (div_lt h) (by omega) (by omega), opt_of, u8w_in (by omega), req_pos ⟨by omega, by omega⟩, req_pos (by rw [List.length_singleton]; omega), Int.toNat_natCast]
    show _ = some (if n = 0 then [] else digF k (n / 256) ++ [(n % 256).toUInt8])
    rw [if_neg h0]
def inv (b : UInt8) : UInt8 := UInt8.ofNat (255 - b.toNat)
theorem inv_nat (b : UInt8) : (inv b).toNat = 255 - b.toNat := by
  have := b.toNat_lt
  unfold inv; rw [UInt8.toNat_ofNat']; omega
theorem mid_len (s : List UInt8) {j : Nat} (h : j < s.length) : ((s.take j).map inv).length = j := by rw [List.length_map, List.length_take]; omega
theorem mid_at (s : List UInt8) {j : Nat} (h : j < s.length) : ((s.take j).map inv ++ s.drop j)[j]? = some s[j] := by
  have hl := mid_len s h
  rw [List.getElem?_append_right (by omega), hl, Nat.sub_self, List.getElem?_drop, Nat.add_zero, List.getElem?_eq_getElem h]
theorem mid_set (s : List UInt8) {j : Nat} (h : j < s.length) : ((s.take j).map inv ++ s.drop j).set j (inv s[j]) = (s.take (j + 1)).map inv ++ s.drop (j + 1) := by
  have hl := mid_len s h
  rw [List.set_append_right _ _ (by omega), hl, Nat.sub_self, List.drop_eq_getElem_cons h, ← List.take_append_getElem h, List.set_cons_zero, List.map_append, List.append_assoc]
  rfl
theorem xor_inv (b : UInt8) : bits .xor .u8 (if IntKind.signed .u8 then -1 else IntKind.max .u8) (b.toNat : Int) = (((inv b).toNat : Nat) : Int) := by
  have h : ∀ k : Fin 256, bits .xor .u8 (if IntKind.signed .u8 then -1 else IntKind.max .u8) ((k.val : Nat) : Int) = ((255 - k.val : Nat) : Int) := by decide +kernel
  have := h ⟨b.toNat, b.toNat_lt⟩
  rw [inv_nat]; exact this
theorem sub_inv (b : UInt8) : IntKind.u8.wrap ((255 : Int) - (b.toNat : Int)) = (((inv b).toNat : Nat) : Int) := by
  have := b.toNat_lt
  rw [inv_nat, show (255 : Int) - (b.toNat : Int) = ((255 - b.toNat : Nat) : Int) by omega, u8w_in (by omega)]
theorem turn_go (s : List UInt8) (hs : s.length ≤ 9223372036854775806) (kk : List UInt8 → Option (List UInt8)) : ∀ (d j fu : Nat), s.length - j = d → j ≤ s.length → d < fu →
    f_num_turned_L7 s kk fu ((s.take j).map inv ++ s.drop j) (j : Int) = kk (s.map inv)
  | 0, j, fu + 1, hd, hj, _ => by
    rw [f_num_turned_L7, cond_ff (dge (by omega)), List.take_of_length_le (by omega), List.drop_of_length_le (by omega), List.append_nil]
  | d + 1, j, fu + 1, hd, hj, hf => by
    have hlt : j < s.length := by omega
    have := (inv s[j]).toNat_lt
    rw [f_num_turned_L7, cond_tt (dlt (by omega)), at_of (mid_at s hlt), opt_of, opt_of, xor_inv, req_pos ⟨by omega, by omega⟩, wsucc (by omega), Int.toNat_natCast, Int.toNat_natCast, UInt8.ofNat_toNat, mid_set s hlt]
    exact turn_go s hs kk d (j + 1) fu (by omega) (by omega) (by omega)
theorem turn_ok (s : List UInt8) (hs : s.length ≤ 8) (fu : Nat) (hf : 9 ≤ fu) : f_num_turned fu s = some (s.map inv) := by
  unfold f_num_turned
  rw [req_pos (by omega), lt_of]
  exact turn_go s (by omega) _ s.length 0 fu (by omega) (by omega) (by omega)
theorem rturn_go (s : List UInt8) (hs : s.length ≤ 9223372036854775806) (kk : List UInt8 → Option (List UInt8)) : ∀ (d j fu : Nat), s.length - j = d → j ≤ s.length → d < fu →
    f_lumref_turned_L7 s kk fu ((s.take j).map inv ++ s.drop j) (j : Int) = kk (s.map inv)
  | 0, j, fu + 1, hd, hj, _ => by
    rw [f_lumref_turned_L7, cond_ff (dge (by omega)), List.take_of_length_le (by omega), List.drop_of_length_le (by omega), List.append_nil]
  | d + 1, j, fu + 1, hd, hj, hf => by
    have hlt : j < s.length := by omega
    have := (inv s[j]).toNat_lt
    rw [f_lumref_turned_L7, cond_tt (dlt (by omega)), at_of (mid_at s hlt), opt_of, opt_of, sub_inv, req_pos ⟨by omega, by omega⟩, wsucc (by omega), Int.toNat_natCast, Int.toNat_natCast, UInt8.ofNat_toNat, mid_set s hlt]
    exact rturn_go s hs kk d (j + 1) fu (by omega) (by omega) (by omega)
theorem rturn_ok (s : List UInt8) (hs : s.length ≤ 8) (fu : Nat) (hf : 9 ≤ fu) : f_lumref_turned fu s = some (s.map inv) := by
  unfold f_lumref_turned
  rw [req_pos (by omega), lt_of]
  exact rturn_go s (by omega) _ s.length 0 fu (by omega) (by omega) (by omega)
theorem put_ok (n : Int) (h0 : -9223372036854775808 ≤ n) (h1 : n ≤ 9223372036854775807) (fu : Nat) (hf : 9 ≤ fu) : ∃ r, f_num_PutInt fu n = some r ∧ f_lumref_PutInt fu n = some r ∧ r.length ≤ 9 := by
  unfold f_num_PutInt f_lumref_PutInt
  by_cases hn : n < 0
  · obtain ⟨m, hm⟩ : ∃ m : Nat, IntKind.i64.wrap ((-1 : Int) - n) = m ∧ m < 9223372036854775808 := ⟨((-1 : Int) - n).toNat, by rw [w64 (by omega) (by omega)]; omega, by omega⟩
    have hl := digF_len 8 m
    rw [cond_tt (dlt hn), cond_tt (dlt hn), hm.1, uw (by omega), digits_ok m (by omega), rdigits_ok 8 m fu (by rw [p8]; omega) (by omega) (by omega)]
    simp only [opt_of]
    have e : IntKind.u8.wrap (IntKind.i64.wrap ((127 : Int) - ((digF 8 m).length : Int))) = ((127 - (digF 8 m).length : Nat) : Int) := by
      rw [w64 (by omega) (by omega), show (127 : Int) - ((digF 8 m).length : Int) = ((127 - (digF 8 m).length : Nat) : Int) by omega, u8w_in (by omega)]
    rw [e, req_pos ⟨by omega, by omega⟩, req_pos ⟨by omega, by omega⟩, turn_ok _ hl fu hf, rturn_ok _ hl fu hf]
    simp only [opt_of]
    rw [req_pos (by rw [List.length_singleton, List.length_map]; omega)]
    exact ⟨_, rfl, rfl, by simp only [List.length_append, List.length_singleton, List.length_map]; omega⟩
  · obtain ⟨m, rfl⟩ : ∃ m : Nat, n = m := ⟨n.toNat, by omega⟩
    have hl := digF_len 8 m
    rw [cond_ff (dge (by omega)), cond_ff (dge (by omega)), uw (by omega), digits_ok m (by omega), rdigits_ok 8 m fu (by rw [p8]; omega) (by omega) (by omega)]
    simp only [opt_of]
    have e : IntKind.u8.wrap (IntKind.i64.wrap ((128 : Int) + ((digF 8 m).length : Int))) = ((128 + (digF 8 m).length : Nat) : Int) := by
      rw [w64 (by omega) (by omega), show (128 : Int) + ((digF 8 m).length : Int) = ((128 + (digF 8 m).length : Nat) : Int) by omega, u8w_in (by omega)]
    rw [e, req_pos ⟨by omega, by omega⟩, req_pos (by rw [List.length_singleton]; omega)]
    exact ⟨_, rfl, rfl, by simp only [List.length_append, List.length_singleton, List.length_map]; omega⟩
end Go.Proofs.YtfhifdmbdkkgaaaGreatDoor.PPi
