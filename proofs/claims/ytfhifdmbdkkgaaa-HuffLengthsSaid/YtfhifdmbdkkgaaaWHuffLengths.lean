/- Walks by program. No condition. -/
import Derived.Test.YtfhifdmbdkkgaaaEn25
import Derived.Test.YtfhifdmbdkkgaaaChecked
import Derived.Test.YtfhifdmbdkkgaaaEn26
import Derived.Test.YtfhifdmbdkkgaaaEn25
import Derived.Test.YtfhifdmbdkkgaaaWHuffLengths_b
namespace Go.Proofs.Ytfhifdmbdkkgaaa
open Go.RowKit Ytfhifdmbdkkgaaa.En
set_option linter.unusedVariables false
set_option linter.unusedSimpArgs false
open Go.Value (int bool)
def f_lumref_Lengths (fu : Nat) (a0 : (List Int)) : Option ((List Int) × Int) := (lt (fun (j1b19 : Bool) => (bif j1b19 then (some (([] : List Int), (1 : Int))) else (lt (fun (j4x4 : (List S_lumref_bunch)) => (req (0 ≤ (a0.length : Int) ∧ 8 * (a0.length : Int) ≤ 281474976710656 ∧ (a0.length : Int) ≤ 9223372036854775807) (lt (fun (j8x7 : (List Int)) => (lt (fun (j10x7 : (List Int)) => (some (j10x7, (0 : Int)))) fun (kk11 : (List Int) → Option ((List Int) × Int)) => (f_lumref_Lengths_L14 a0 kk11 fu fu j4x4 j8x7))) fun (kk9 : (List Int) → Option ((List Int) × Int)) => (bif ((j4x4.length : Int) == (1 : Int)) then (opt (at? j4x4 (0 : Int)) fun (u59 : S_lumref_bunch) => (opt (at? u59.signs (0 : Int)) fun (u66 : Int) => (opt (at? (List.replicate ((a0.length : Int)).toNat 0) u66) fun (u69 : Int) => (kk9 ((List.replicate ((a0.length : Int)).toNat 0).set (u66).toNat (1 : Int)))))) else (kk9 (List.replicate ((a0.length : Int)).toNat 0)))))) fun (kk5 : (List S_lumref_bunch) → Option ((List Int) × Int)) => (f_lumref_Lengths_L75 a0 kk5 fu ([] : List S_lumref_bunch) (0 : Int))))) fun (kk2 : Bool → Option ((List Int) × Int)) => (bif ((a0.length : Int) == (0 : Int)) then (kk2 true) else (kk2 (decide ((a0.length : Int) > (256 : Int))))))
set_option maxRecDepth 100000 in
set_option maxHeartbeats 2000000 in
theorem f_lumref_Lengths_ok (fu : Nat) (v0_0 : Value) (a0 : (List Int)) {r : ((List Int) × Int)} (h : f_lumref_Lengths fu a0 = some r) : FnOk Try.prog 12 [v0_0] [(fDat (tyList (tyInt .i64)) [v0_0] a0)] [] (fun (i : Value) => { val := (Value.tuple #[i, (int .i64 r.2)]), own := [(oRow i 3 (tyInt .i64) r.1)] }) := by
 unfold f_lumref_Lengths at h
 refine fn_enter Try.func12 rfl Try.ntmps12 rfl (fun w0 Z0 => ?_)
 refine aw_sr ?_
 refine al_as rfl rfl ?_
 refine al_as rfl rfl ?_
 refine al_nt ?_
 refine aw_seq ?_
 obtain ⟨kk2, hkk2, h⟩ := lt_some h
 refine aw_seq_join (ι := Bool) (fun i => (memOf w0 Z0 [] [] [(fDat (tyList (tyInt .i64)) [v0_0] a0)])) (fun i => (tab [(0, v0_0), (19, (bool i))])) (fun i => kk2 i = some r) ?_ ?_
 ·rintro j1b19 h
  have h : kk2 j1b19 = some r := h
  rw [hkk2] at h
  dsimp only at h
  clear hkk2
  refine aw_show (m := (memOf w0 Z0 [] [] [(fDat (tyList (tyInt .i64)) [v0_0] a0)])) (S := (tab [(0, v0_0), (19, (bool j1b19))])) ?_
  refine aw_cond rfl (fun hb3 => ?_) (fun hb3 => ?_)
  ·replace h := bif_t hb3 h
   refine aw_sr ?_
   refine al_as rfl rfl ?_
   refine al_as rfl rfl ?_
   refine al_nt ?_
   refine aw_ret ?_
   refine aq_then_ret ?_
   refine aq_nilR 3 (tyInt .i64) ?_
   obtain rfl := Option.some.inj h
   exact fn_ret (Value.slice none 0 0) [0] [] rfl rfl rfl rfl (res2 rfl rfl rfl) rfl rfl rfl (by decide)
  ·replace h := bif_f hb3 h
   refine aw_skip ?_
   refine aq_tr ?_
   refine al_as rfl rfl ?_
   refine al_nt ?_
   obtain ⟨kk5, hkk5, h⟩ := lt_some h
   refine aw_seq_join (ι := Value × (List S_lumref_bunch)) (fun i => (memOf w0 Z0 [] [(oRow i.1 133 tyS_lumref_bunch i.2)] [(fDat (tyList (tyInt .i64)) [v0_0] a0)])) (fun i => (tab [(0, v0_0), (4, i.1)])) (fun i => kk5 i.2 = some r) ?_ ?_
   ·rintro ⟨j4v4, j4x4⟩ h
    have h : kk5 j4x4 = some r := h
    rw [hkk5] at h
    dsimp only at h
    clear hkk5
    refine aw_show (m := (memOf w0 Z0 [] [(oRow j4v4 133 tyS_lumref_bunch j4x4)] [(fDat (tyList (tyInt .i64)) [v0_0] a0)])) (S := (tab [(0, v0_0), (4, j4v4)])) ?_
    refine aw_sr ?_
    refine al_mv rfl rfl ?_
    refine al_val (ov_lenD 0 rfl rfl Try.underlying22 rfl) ?_
    obtain ⟨hc6, h⟩ := req_some h
    refine al_make (τ := (tyInt .i64)) (x0 := 0) hc6.1 hc6.2.1 hc6.2.2 rfl rfl Try.underlying22 to3 (fun _ _ => rfl) rfl rfl (fun v7 => ?_)
    refine al_as rfl rfl ?_
    refine al_nt ?_
    obtain ⟨kk9, hkk9, h⟩ := lt_some h
    refine aw_seq_join (ι := (List Int)) (fun i => (memOf w0 Z0 [] [(oRow j4v4 133 tyS_lumref_bunch j4x4), (oRow v7 3 (tyInt .i64) i)] [(fDat (tyList (tyInt .i64)) [v0_0] a0)])) (fun i => (tab [(0, v0_0), (4, j4v4), (7, v7)])) (fun i => kk9 i = some r) ?_ ?_
    ·rintro j8x7 h
     have h : kk9 j8x7 = some r := h
     rw [hkk9] at h
     dsimp only at h
     clear hkk9
     refine aw_show (m := (memOf w0 Z0 [] [(oRow j4v4 133 tyS_lumref_bunch j4x4), (oRow v7 3 (tyInt .i64) j8x7)] [(fDat (tyList (tyInt .i64)) [v0_0] a0)])) (S := (tab [(0, v0_0), (4, j4v4), (7, v7)])) ?_
     obtain ⟨kk11, hkk11, h⟩ := lt_some h
     refine aw_seq_join (ι := (List Int)) (fun i => (memOf w0 Z0 [] [(oRow v7 3 (tyInt .i64) i)] [(fDat (tyList (tyInt .i64)) [v0_0] a0)])) (fun i => (tab [(7, v7)])) (fun i => kk11 i = some r) ?_ ?_
     ·rintro j10x7 h
      have h : kk11 j10x7 = some r := h
      rw [hkk11] at h
      dsimp only at h
      clear hkk11
      refine aw_show (m := (memOf w0 Z0 [] [(oRow v7 3 (tyInt .i64) j10x7)] [(fDat (tyList (tyInt .i64)) [v0_0] a0)])) (S := (tab [(7, v7)])) ?_
      refine aw_sr ?_
      refine al_mv rfl rfl ?_
      refine al_as rfl rfl ?_
      refine al_as rfl rfl ?_
      refine al_nt ?_
      refine aw_ret ?_
      obtain rfl := Option.some.inj h
      exact fn_ret v7 [0] [] rfl rfl rfl rfl (res2 rfl rfl rfl) rfl rfl rfl (by decide)
     ·clear hkk11
      refine aw_block ?_
      refine aw_state (aw_loop (ι := Value × (List S_lumref_bunch) × (List Int)) (fun i => (memOf w0 Z0 [] [(oRow i.1 133 tyS_lumref_bunch i.2.1), (oRow v7 3 (tyInt .i64) i.2.2)] [(fDat (tyList (tyInt .i64)) [v0_0] a0)])) (fun i => (tab [(0, v0_0), (4, i.1), (7, v7)])) (fun q i => f_lumref_Lengths_L14 a0 kk11 fu q i.2.1 i.2.2 = some r) ?_ fu (j4v4, j4x4, j8x7) h) (fun w a hm hs => norm hm hs [0, 1] [0] [(0, v0_0), (4, j4v4), (7, v7)] (by decide) ⟨rfl, rfl, rfl, trivial⟩)
      clear h
      rintro k13 ⟨l12v4, l12x4, l12x7⟩ h
      have h : f_lumref_Lengths_L14 a0 kk11 fu k13 l12x4 l12x7 = some r := h
      obtain _ | k13 := k13
      · rw [f_lumref_Lengths_L14] at h; cases h
      rw [f_lumref_Lengths_L14] at h
      refine aw_show (m := (memOf w0 Z0 [] [(oRow l12v4 133 tyS_lumref_bunch l12x4), (oRow v7 3 (tyInt .i64) l12x7)] [(fDat (tyList (tyInt .i64)) [v0_0] a0)])) (S := (tab [(0, v0_0), (4, l12v4), (7, v7)])) ?_
      obtain ⟨kk15, hkk15, h⟩ := lt_some h
      refine aw_body_join (ι := Value × (List S_lumref_bunch) × (List Int)) (fun i => (memOf w0 Z0 [] [(oRow i.1 133 tyS_lumref_bunch i.2.1), (oRow v7 3 (tyInt .i64) i.2.2)] [(fDat (tyList (tyInt .i64)) [v0_0] a0)])) (fun i => (tab [(0, v0_0), (4, i.1), (7, v7)])) (fun i => kk15 i.2.1 i.2.2 = some r) (fun i h => aq_again k13 i (Nat.lt_succ_self _) (by rw [hkk15] at h; exact h) (fun w a hm hs => ⟨hm, hs⟩)) ?_
      clear hkk15
      refine aw_seq ?_
      refine aw_sr ?_
      refine al_mv rfl rfl ?_
      refine al_val (ov_lenR 0 rfl rfl Try.underlying131 rfl) ?_
      refine al_in rfl rfl rfl rfl ?_
      refine al_nt ?_
      refine aw_cond rfl (fun hb16 => ?_) (fun hb16 => ?_)
      ·replace h := bif_t hb16 h
       refine aw_skip ?_
       refine aq_then ?_
       refine aw_block ?_
       refine aw_sr ?_
       refine al_alloc (zs := [(int .i64 (0 : Int)), (Value.slice none 0 0)]) (zeroOf_to to133) rfl rfl (fun g17 => ?_)
       refine al_alloc (zs := [(int .i64 (0 : Int)), (Value.slice none 0 0)]) (zeroOf_to to133) rfl rfl (fun g18 => ?_)
       refine al_nt ?_
       refine aw_sr ?_
       refine al_mv rfl rfl ?_
       refine al_freeze 2 rfl rfl ?_
       obtain ⟨r20, hc19, h⟩ := opt_some h
       refine al_call (vs := [l12v4]) (f_lumref_least_ok fu l12v4 l12x4 hc19) [] [] [0, 1, 2] (pre_fz 0 rfl pre_nil) rfl (by simp) (by decide) (.inl rfl) rfl Try.func66 rfl rfl rfl (fun ⟨v21, v22⟩ => ?_)
       refine al_mv rfl rfl ?_
       refine al_ex rfl rfl rfl ?_
       refine al_ex rfl rfl rfl ?_
       refine al_store (i := 2) (vs := [(int .i64 r20.1.weight), v21]) (cs' := [(int .i64 r20.1.weight), v21]) rfl rfl rfl sz133 (cv_rfl rfl) rfl (co_val rfl (co_fz 0 rfl co_nil)) (Nat.le_of_ble_eq_true rfl) rfl rfl ?_
       refine al_as rfl rfl ?_
       refine al_nt ?_
       refine aw_sr ?_
       refine al_mv rfl rfl ?_
       refine al_freeze 0 rfl rfl ?_
       obtain ⟨r24, hc23, h⟩ := opt_some h
       refine al_call (vs := [v22]) (f_lumref_least_ok fu v22 r20.2 hc23) [] [] [0, 1, 2] (pre_fz 0 rfl pre_nil) rfl (by simp) (by decide) (.inl rfl) rfl Try.func66 rfl rfl rfl (fun ⟨v25, v26⟩ => ?_)
       refine al_mv rfl rfl ?_
       refine al_ex rfl rfl rfl ?_
       refine al_ex rfl rfl rfl ?_
       refine al_store (i := 1) (vs := [(int .i64 r24.1.weight), v25]) (cs' := [(int .i64 r24.1.weight), v25]) rfl rfl rfl sz133 (cv_rfl rfl) rfl (co_val rfl (co_fz 0 rfl co_nil)) (Nat.le_of_ble_eq_true rfl) rfl rfl ?_
       refine al_as rfl rfl ?_
       refine al_nt ?_
       refine aw_sr ?_
       refine al_val (ov_fieldA (p := 0) rfl Try.underlying133 rfl sz3 rfl rfl rfl) ?_
       refine al_val (ov_load (i := 2) (v := (int .i64 r20.1.weight)) rfl rfl Try.underlying3 sz3 rfl rfl rfl rfl) ?_
       refine al_val (ov_fieldA (p := 0) rfl Try.underlying133 rfl sz3 rfl rfl rfl) ?_
       refine al_val (ov_load (i := 1) (v := (int .i64 r24.1.weight)) rfl rfl Try.underlying3 sz3 rfl rfl rfl rfl) ?_
       refine al_in rfl rfl rfl rfl ?_
       refine al_val (ov_build (cells := ([(int .i64 (IntKind.i64.wrap (r20.1.weight + r24.1.weight))), (Value.slice none 0 0)]).toArray) (cs := [(int .i64 (IntKind.i64.wrap (r20.1.weight + r24.1.weight))), (Value.slice none 0 0)]) rfl (fun w a hm hs => by simp only [List.map_toArray, List.map_cons, List.map_nil, List.toList_toArray, hs.ev (x := .tmp 74) rfl]; kernel_rfl)) ?_
       refine al_alloc (zs := [(int .i64 (0 : Int)), (Value.slice none 0 0)]) (zeroOf_to to133) rfl rfl (fun g27 => ?_)
       refine al_store (i := 0) (vs := [(int .i64 (IntKind.i64.wrap (r20.1.weight + r24.1.weight))), (Value.slice none 0 0)]) (cs' := [(int .i64 (IntKind.i64.wrap (r20.1.weight + r24.1.weight))), (Value.slice none 0 0)]) rfl rfl rfl sz133 (cv_rfl rfl) rfl (co_val rfl (co_val rfl co_nil)) (Nat.le_of_ble_eq_true rfl) rfl rfl ?_
       refine al_nt ?_
       obtain ⟨kk29, hkk29, h⟩ := lt_some h
       refine aw_seq_join (ι := (List Int) × Value × (List Int)) (fun i => (memOf w0 Z0 [] [(oRow v26 133 tyS_lumref_bunch r24.2), (oRow v7 3 (tyInt .i64) i.1), (oRow i.2.1 3 (tyInt .i64) i.2.2), (oBox g27 133 [(int .i64 (IntKind.i64.wrap (r20.1.weight + r24.1.weight))), i.2.1])] [(fDat (tyList (tyInt .i64)) [v0_0] a0), (fDat (tyList (tyInt .i64)) [v25] r24.1.signs), (fDat (tyList tyS_lumref_bunch) [v22] r20.2), (fDat (tyList (tyInt .i64)) [v21] r20.1.signs), (fDat (tyList tyS_lumref_bunch) [l12v4] l12x4)])) (fun i => (tab [(0, v0_0), (4, v26), (7, v7), (10, (ptr g27 0))])) (fun i => kk29 i.1 i.2.2 = some r) ?_ ?_
       ·rintro ⟨j28x7, j28v10_1, j28x10_1⟩ h
        have h : kk29 j28x7 j28x10_1 = some r := h
        rw [hkk29] at h
        dsimp only at h
        clear hkk29
        refine aw_show (m := (memOf w0 Z0 [] [(oRow v26 133 tyS_lumref_bunch r24.2), (oRow v7 3 (tyInt .i64) j28x7), (oRow j28v10_1 3 (tyInt .i64) j28x10_1), (oBox g27 133 [(int .i64 (IntKind.i64.wrap (r20.1.weight + r24.1.weight))), j28v10_1])] [(fDat (tyList (tyInt .i64)) [v0_0] a0), (fDat (tyList (tyInt .i64)) [v25] r24.1.signs), (fDat (tyList tyS_lumref_bunch) [v22] r20.2), (fDat (tyList (tyInt .i64)) [v21] r20.1.signs), (fDat (tyList tyS_lumref_bunch) [l12v4] l12x4)])) (S := (tab [(0, v0_0), (4, v26), (7, v7), (10, (ptr g27 0))])) ?_
        refine aw_region ?_
        refine al_mv rfl rfl ?_
        refine al_val (ov_load (i := 3) (v := (ag [(int .i64 (IntKind.i64.wrap (r20.1.weight + r24.1.weight))), j28v10_1])) rfl rfl Try.underlying133 sz133 rfl rfl rfl rfl) ?_
        refine al_freeze 2 rfl rfl ?_
        refine al_buildSlice (τ := tyS_lumref_bunch) (e := 133) (k := 1) (sz := 0) (by_ := 0) (z := undef) (cs := [(int .i64 (IntKind.i64.wrap (r20.1.weight + r24.1.weight))), j28v10_1]) (xs := [(S_lumref_bunch.mk (IntKind.i64.wrap (r20.1.weight + r24.1.weight)) j28x10_1)]) rfl (by decide) (fun w a hm hs => ⟨([(int .i64 (IntKind.i64.wrap (r20.1.weight + r24.1.weight))), j28v10_1]).toArray, rfl, by simp only [List.map_toArray, List.map_cons, List.map_nil, hs.ev (x := .tmp 105) rfl]; exact run_bs [(ag [(int .i64 (IntKind.i64.wrap (r20.1.weight + r24.1.weight))), j28v10_1])] [(int .i64 (IntKind.i64.wrap (r20.1.weight + r24.1.weight))), j28v10_1] Try.underlying131 to133 rfl rfl (bs_cons (l := [(int .i64 (IntKind.i64.wrap (r20.1.weight + r24.1.weight))), j28v10_1]) (cs := []) (cv_rfl rfl) rfl bs_nil) hm⟩) (fun hm => ⟨_, _, rfl, (fun hm => mknS_lumref_bunch rfl (fz_at (i := 0) hm rfl)) hm, rfl⟩) rfl (fun v30 => ?_)
        obtain ⟨hc31, h⟩ := req_some h
        refine al_append 1 hc31.1 hc31.2 rfl (src_own (i := 1) 0 rfl) rfl rfl Try.underlying131 to133 rfl rfl rfl (fun v32 => ?_)
        refine al_as rfl rfl ?_
        refine al_nil ?_
        refine aq_block ?_
        exact aq_join (v32, (r24.2 ++ ([(S_lumref_bunch.mk (IntKind.i64.wrap (r20.1.weight + r24.1.weight)) j28x10_1)])), j28x7) h (fun w a hm hs => norm hm hs [1, 2] [1] [(0, v0_0), (4, v32), (7, v7)] (by decide) ⟨rfl, rfl, rfl, trivial⟩)
       ·clear hkk29
        refine aw_sr ?_
        refine al_mv rfl rfl ?_
        refine al_val (ov_lenD 4 rfl rfl Try.underlying22 rfl) ?_
        refine al_mv rfl rfl ?_
        refine al_nt ?_
        refine aw_block ?_
        refine aw_nilR 3 (tyInt .i64) ?_
        refine aw_state (aw_loop (ι := (List Int) × Value × (List Int) × Int) (fun i => (memOf w0 Z0 [] [(oRow v26 133 tyS_lumref_bunch r24.2), (oRow v7 3 (tyInt .i64) i.1), (oBox g17 133 [(int .i64 r20.1.weight), v21]), (oBox g18 133 [(int .i64 r24.1.weight), v25]), (oRow i.2.1 3 (tyInt .i64) i.2.2.1), (oBox g27 133 [(int .i64 (IntKind.i64.wrap (r20.1.weight + r24.1.weight))), i.2.1])] [(fDat (tyList (tyInt .i64)) [v0_0] a0), (fDat (tyList (tyInt .i64)) [v21] r20.1.signs), (fDat (tyList (tyInt .i64)) [v25] r24.1.signs), (fDat (tyList tyS_lumref_bunch) [v22] r20.2), (fDat (tyList tyS_lumref_bunch) [l12v4] l12x4)])) (fun i => (tab [(0, v0_0), (4, v26), (7, v7), (8, (ptr g17 0)), (9, (ptr g18 0)), (10, (ptr g27 0)), (77, (int .i64 (a0.length : Int))), (78, (int .i64 i.2.2.2))])) (fun q i => f_lumref_Lengths_L35 a0 r20 r24 kk29 fu q i.1 i.2.2.1 i.2.2.2 = some r) ?_ fu (l12x7, (Value.slice none 0 0), ([] : List Int), (0 : Int)) h) (fun w a hm hs => norm hm hs [2, 5, 4, 3, 0, 1] [4, 2, 0, 1, 3] [(0, v0_0), (4, v26), (7, v7), (8, (ptr g17 0)), (9, (ptr g18 0)), (10, (ptr g27 0)), (77, (int .i64 (a0.length : Int))), (78, (int .i64 (0 : Int)))] (by decide) ⟨rfl, rfl, rfl, rfl, rfl, rfl, rfl, rfl, trivial⟩)
        clear h
        rintro k34 ⟨l33x7, l33v10_1, l33x10_1, l33i78⟩ h
        have h : f_lumref_Lengths_L35 a0 r20 r24 kk29 fu k34 l33x7 l33x10_1 l33i78 = some r := h
        obtain _ | k34 := k34
        · rw [f_lumref_Lengths_L35] at h; cases h
        rw [f_lumref_Lengths_L35] at h
        refine aw_show (m := (memOf w0 Z0 [] [(oRow v26 133 tyS_lumref_bunch r24.2), (oRow v7 3 (tyInt .i64) l33x7), (oBox g17 133 [(int .i64 r20.1.weight), v21]), (oBox g18 133 [(int .i64 r24.1.weight), v25]), (oRow l33v10_1 3 (tyInt .i64) l33x10_1), (oBox g27 133 [(int .i64 (IntKind.i64.wrap (r20.1.weight + r24.1.weight))), l33v10_1])] [(fDat (tyList (tyInt .i64)) [v0_0] a0), (fDat (tyList (tyInt .i64)) [v21] r20.1.signs), (fDat (tyList (tyInt .i64)) [v25] r24.1.signs), (fDat (tyList tyS_lumref_bunch) [v22] r20.2), (fDat (tyList tyS_lumref_bunch) [l12v4] l12x4)])) (S := (tab [(0, v0_0), (4, v26), (7, v7), (8, (ptr g17 0)), (9, (ptr g18 0)), (10, (ptr g27 0)), (77, (int .i64 (a0.length : Int))), (78, (int .i64 l33i78))])) ?_
        refine aw_sr ?_
        refine al_in rfl rfl rfl rfl ?_
        refine al_nt ?_
        refine aw_seq ?_
        refine aw_cond rfl (fun hb36 => ?_) (fun hb36 => ?_)
        ·replace h := bif_t hb36 h
         refine aw_skip ?_
         refine aq_then ?_
         obtain ⟨kk38, hkk38, h⟩ := lt_some h
         refine aw_seq_join (ι := (List Int) × Value × (List Int)) (fun i => (memOf w0 Z0 [] [(oRow v26 133 tyS_lumref_bunch r24.2), (oRow v7 3 (tyInt .i64) i.1), (oBox g17 133 [(int .i64 r20.1.weight), v21]), (oBox g18 133 [(int .i64 r24.1.weight), v25]), (oRow i.2.1 3 (tyInt .i64) i.2.2), (oBox g27 133 [(int .i64 (IntKind.i64.wrap (r20.1.weight + r24.1.weight))), i.2.1])] [(fDat (tyList (tyInt .i64)) [v0_0] a0), (fDat (tyList (tyInt .i64)) [v21] r20.1.signs), (fDat (tyList (tyInt .i64)) [v25] r24.1.signs), (fDat (tyList tyS_lumref_bunch) [v22] r20.2), (fDat (tyList tyS_lumref_bunch) [l12v4] l12x4)])) (fun i => (tab [(0, v0_0), (4, v26), (7, v7), (8, (ptr g17 0)), (9, (ptr g18 0)), (10, (ptr g27 0)), (77, (int .i64 (a0.length : Int))), (78, (int .i64 l33i78))])) (fun i => kk38 i.1 i.2.2 = some r) ?_ ?_
         ·rintro ⟨j37x7, j37v10_1, j37x10_1⟩ h
          have h : kk38 j37x7 j37x10_1 = some r := h
          rw [hkk38] at h
          dsimp only at h
          clear hkk38
          refine aw_show (m := (memOf w0 Z0 [] [(oRow v26 133 tyS_lumref_bunch r24.2), (oRow v7 3 (tyInt .i64) j37x7), (oBox g17 133 [(int .i64 r20.1.weight), v21]), (oBox g18 133 [(int .i64 r24.1.weight), v25]), (oRow j37v10_1 3 (tyInt .i64) j37x10_1), (oBox g27 133 [(int .i64 (IntKind.i64.wrap (r20.1.weight + r24.1.weight))), j37v10_1])] [(fDat (tyList (tyInt .i64)) [v0_0] a0), (fDat (tyList (tyInt .i64)) [v21] r20.1.signs), (fDat (tyList (tyInt .i64)) [v25] r24.1.signs), (fDat (tyList tyS_lumref_bunch) [v22] r20.2), (fDat (tyList tyS_lumref_bunch) [l12v4] l12x4)])) (S := (tab [(0, v0_0), (4, v26), (7, v7), (8, (ptr g17 0)), (9, (ptr g18 0)), (10, (ptr g27 0)), (77, (int .i64 (a0.length : Int))), (78, (int .i64 l33i78))])) ?_
          refine aw_region ?_
          refine al_in rfl rfl rfl rfl ?_
          refine al_mv rfl rfl ?_
          refine al_nil ?_
          exact aq_again k34 (j37x7, j37v10_1, j37x10_1, (IntKind.i64.wrap (l33i78 + (1 : Int)))) (Nat.lt_succ_self _) h (fun w a hm hs => norm hm hs [0, 1, 2, 3, 4, 5] [0, 1, 2, 3, 4] [(0, v0_0), (4, v26), (7, v7), (8, (ptr g17 0)), (9, (ptr g18 0)), (10, (ptr g27 0)), (77, (int .i64 (a0.length : Int))), (78, (int .i64 (IntKind.i64.wrap (l33i78 + (1 : Int)))))] (by decide) ⟨rfl, rfl, rfl, rfl, rfl, rfl, rfl, rfl, trivial⟩)
         ·clear hkk38
          refine aw_block ?_
          refine aw_sr ?_
          refine al_mv rfl rfl ?_
          refine al_as rfl rfl ?_
          refine al_nt ?_
          obtain ⟨kk40, hkk40, h⟩ := lt_some h
          refine aw_seq_join (ι := Bool) (fun i => (memOf w0 Z0 [] [(oRow v26 133 tyS_lumref_bunch r24.2), (oRow v7 3 (tyInt .i64) l33x7), (oBox g17 133 [(int .i64 r20.1.weight), v21]), (oBox g18 133 [(int .i64 r24.1.weight), v25]), (oRow l33v10_1 3 (tyInt .i64) l33x10_1), (oBox g27 133 [(int .i64 (IntKind.i64.wrap (r20.1.weight + r24.1.weight))), l33v10_1])] [(fDat (tyList (tyInt .i64)) [v0_0] a0), (fDat (tyList (tyInt .i64)) [v21] r20.1.signs), (fDat (tyList (tyInt .i64)) [v25] r24.1.signs), (fDat (tyList tyS_lumref_bunch) [v22] r20.2), (fDat (tyList tyS_lumref_bunch) [l12v4] l12x4)])) (fun i => (tab [(0, v0_0), (4, v26), (7, v7), (8, (ptr g17 0)), (9, (ptr g18 0)), (10, (ptr g27 0)), (11, (int .i64 l33i78)), (77, (int .i64 (a0.length : Int))), (78, (int .i64 l33i78)), (90, (bool i))])) (fun i => kk40 i = some r) ?_ ?_
          ·rintro j39b90 h
           have h : kk40 j39b90 = some r := h
           rw [hkk40] at h
           dsimp only at h
           clear hkk40
           refine aw_show (m := (memOf w0 Z0 [] [(oRow v26 133 tyS_lumref_bunch r24.2), (oRow v7 3 (tyInt .i64) l33x7), (oBox g17 133 [(int .i64 r20.1.weight), v21]), (oBox g18 133 [(int .i64 r24.1.weight), v25]), (oRow l33v10_1 3 (tyInt .i64) l33x10_1), (oBox g27 133 [(int .i64 (IntKind.i64.wrap (r20.1.weight + r24.1.weight))), l33v10_1])] [(fDat (tyList (tyInt .i64)) [v0_0] a0), (fDat (tyList (tyInt .i64)) [v21] r20.1.signs), (fDat (tyList (tyInt .i64)) [v25] r24.1.signs), (fDat (tyList tyS_lumref_bunch) [v22] r20.2), (fDat (tyList tyS_lumref_bunch) [l12v4] l12x4)])) (S := (tab [(0, v0_0), (4, v26), (7, v7), (8, (ptr g17 0)), (9, (ptr g18 0)), (10, (ptr g27 0)), (11, (int .i64 l33i78)), (77, (int .i64 (a0.length : Int))), (78, (int .i64 l33i78)), (90, (bool j39b90))])) ?_
           refine aw_cond rfl (fun hb41 => ?_) (fun hb41 => ?_)
           ·replace h := bif_t hb41 h
            refine aw_sr ?_
            refine al_val (ov_fieldA (p := 1) rfl Try.underlying133 rfl sz22 rfl rfl rfl) ?_
            refine al_val (ov_load (i := 5) (v := l33v10_1) rfl rfl Try.underlying22 sz22 rfl rfl rfl rfl) ?_
            refine al_mv rfl rfl ?_
            refine al_buildSlice (τ := (tyInt .i64)) (e := 3) (k := 1) (sz := 0) (by_ := 0) (z := undef) (cs := [(int .i64 l33i78)]) (xs := [l33i78]) rfl (by decide) (fun w a hm hs => ⟨([(int .i64 l33i78)]).toArray, rfl, by simp only [List.map_toArray, List.map_cons, List.map_nil, hs.ev (x := .tmp 93) rfl]; exact run_bs [(int .i64 l33i78)] [(int .i64 l33i78)] Try.underlying22 to3 rfl rfl (bs_cons (l := [(int .i64 l33i78)]) (cs := []) (cv_rfl rfl) rfl bs_nil) hm⟩) (fun hm => ⟨_, _, rfl, (fun _ => rfl) hm, rfl⟩) rfl (fun v42 => ?_)
            obtain ⟨hc43, h⟩ := req_some h
            refine al_append 5 hc43.1 hc43.2 rfl (src_own (i := 5) 0 rfl) rfl rfl Try.underlying22 to3 rfl rfl rfl (fun v44 => ?_)
            refine al_val (ov_fieldA (p := 1) rfl Try.underlying133 rfl sz22 rfl rfl rfl) ?_
            refine al_store (i := 6) (vs := [v44]) (cs' := [(int .i64 (IntKind.i64.wrap (r20.1.weight + r24.1.weight))), v44]) rfl rfl rfl sz22 (cv_own 5 rfl) rfl (co_own 5 rfl co_nil) (Nat.le_of_ble_eq_true rfl) rfl rfl ?_
            refine al_nt ?_
            refine aw_region ?_
            refine al_mv rfl rfl ?_
            refine al_mv rfl rfl ?_
            obtain ⟨u45, hu46, h⟩ := opt_some h
            refine al_idxR 2 (at_some hu46).1 (at_some hu46).2.1 rfl rfl rfl Try.underlying22 sz3 rfl (fun p47 hp48 => ?_)
            refine al_val (ov_loadR (ds := [(int .i64 u45)]) 2 rfl hp48 (at_some hu46).2.2 (fun h => h) rfl Try.underlying3 sz3 rfl rfl rfl) ?_
            refine al_in rfl rfl rfl rfl ?_
            obtain ⟨u49, hu50, h⟩ := opt_some h
            refine al_idxR 2 (at_some hu50).1 (at_some hu50).2.1 rfl rfl rfl Try.underlying22 sz3 rfl (fun p51 hp52 => ?_)
            refine al_storeR (k := (l33i78).toNat) (x := (IntKind.i64.wrap (u45 + (1 : Int)))) (vs := [(int .i64 (IntKind.i64.wrap (u45 + (1 : Int))))]) 2 rfl hp52 (idx_lt hu50) rfl rfl (cv_rfl rfl) (fun _ => rfl) sz3 rfl ?_
            refine al_nil ?_
            refine aq_block ?_
            exact aq_join ((l33x7.set (l33i78).toNat (IntKind.i64.wrap (u45 + (1 : Int)))), v44, (l33x10_1 ++ ([l33i78]))) h (fun w a hm hs => norm hm hs [1, 2, 3, 4, 5, 6] [0, 1, 2, 3, 4] [(0, v0_0), (4, v26), (7, v7), (8, (ptr g17 0)), (9, (ptr g18 0)), (10, (ptr g27 0)), (77, (int .i64 (a0.length : Int))), (78, (int .i64 l33i78))] (by decide) ⟨rfl, rfl, rfl, rfl, rfl, rfl, rfl, rfl, trivial⟩)
           ·replace h := bif_f hb41 h
            refine aw_skip ?_
            refine aq_block ?_
            exact aq_join (l33x7, l33v10_1, l33x10_1) h (fun w a hm hs => norm hm hs [0, 1, 2, 3, 4, 5] [0, 1, 2, 3, 4] [(0, v0_0), (4, v26), (7, v7), (8, (ptr g17 0)), (9, (ptr g18 0)), (10, (ptr g27 0)), (77, (int .i64 (a0.length : Int))), (78, (int .i64 l33i78))] (by decide) ⟨rfl, rfl, rfl, rfl, rfl, rfl, rfl, rfl, trivial⟩)
          ·clear hkk40
           refine aw_region ?_
           refine al_val (ov_fieldA (p := 1) rfl Try.underlying133 rfl sz22 rfl rfl rfl) ?_
           refine al_val (ov_load (i := 2) (v := v21) rfl rfl Try.underlying22 sz22 rfl rfl rfl rfl) ?_
           refine al_mv rfl rfl ?_
           obtain ⟨r54, hc53, h⟩ := opt_some h
           refine al_call (vs := [v21, (int .i64 l33i78)]) (f_lumref_has_ok fu v21 r20.1.signs l33i78 hc53) [] [] [0, 1, 2, 3, 4, 5] (pre_fz 1 rfl pre_nil) rfl (by simp) (by decide) (.inl rfl) rfl Try.func67 rfl rfl rfl (fun _ => ?_)
           refine al_mv rfl rfl ?_
           refine al_caseB 85 rfl (fun hb55 => ?_) (fun hb55 => ?_)
           ·replace h := bif_t hb55 h
            refine al_skip ?_
            refine al_skip ?_
            refine al_skip ?_
            refine al_skip ?_
            refine al_val (ov_pick_t rfl rfl rfl) ?_
            refine al_nil ?_
            exact aq_join true h (fun w a hm hs => norm hm hs [0, 1, 2, 3, 4, 5] [0, 1, 2, 3, 4] [(0, v0_0), (4, v26), (7, v7), (8, (ptr g17 0)), (9, (ptr g18 0)), (10, (ptr g27 0)), (11, (int .i64 l33i78)), (77, (int .i64 (a0.length : Int))), (78, (int .i64 l33i78)), (90, (bool true))] (by decide) ⟨rfl, rfl, rfl, rfl, rfl, rfl, rfl, rfl, rfl, rfl, trivial⟩)
           ·replace h := bif_f hb55 h
            refine al_val (ov_fieldA (p := 1) rfl Try.underlying133 rfl sz22 rfl rfl rfl) ?_
            refine al_val (ov_load (i := 3) (v := v25) rfl rfl Try.underlying22 sz22 rfl rfl rfl rfl) ?_
            refine al_mv rfl rfl ?_
            obtain ⟨r57, hc56, h⟩ := opt_some h
            refine al_call (vs := [v25, (int .i64 l33i78)]) (f_lumref_has_ok fu v25 r24.1.signs l33i78 hc56) [] [] [0, 1, 2, 3, 4, 5] (pre_fz 2 rfl pre_nil) rfl (by simp) (by decide) (.inl rfl) rfl Try.func67 rfl rfl rfl (fun _ => ?_)
            refine al_val (ov_pick_f rfl rfl rfl) ?_
            refine al_nil ?_
            exact aq_join r57 h (fun w a hm hs => norm hm hs [0, 1, 2, 3, 4, 5] [0, 1, 2, 3, 4] [(0, v0_0), (4, v26), (7, v7), (8, (ptr g17 0)), (9, (ptr g18 0)), (10, (ptr g27 0)), (11, (int .i64 l33i78)), (77, (int .i64 (a0.length : Int))), (78, (int .i64 l33i78)), (90, (bool r57))] (by decide) ⟨rfl, rfl, rfl, rfl, rfl, rfl, rfl, rfl, rfl, rfl, trivial⟩)
        ·replace h := bif_f hb36 h
         refine aw_exit ?_
         refine aq_then_exit ?_
         refine aq_then_exit ?_
         refine aq_block_exit ?_
         exact aq_join (l33x7, l33v10_1, l33x10_1) h (fun w a hm hs => norm hm hs [0, 1, 4, 5] [0, 2, 3, 1, 4] [(0, v0_0), (4, v26), (7, v7), (10, (ptr g27 0))] (by decide) ⟨rfl, rfl, rfl, rfl, trivial⟩)
      ·replace h := bif_f hb16 h
       refine aw_exit ?_
       refine aq_then_exit ?_
       refine aq_then_exit ?_
       refine aq_block_exit ?_
       exact aq_join l12x7 h (fun w a hm hs => norm hm hs [1] [0] [(7, v7)] (by decide) ⟨rfl, trivial⟩)
    ·clear hkk9
     refine aw_sr ?_
     refine al_mv rfl rfl ?_
     refine al_val (ov_lenR 1 rfl rfl Try.underlying131 rfl) ?_
     refine al_in rfl rfl rfl rfl ?_
     refine al_nt ?_
     refine aw_cond rfl (fun hb58 => ?_) (fun hb58 => ?_)
     ·replace h := bif_t hb58 h
      refine aw_region ?_
      refine al_mv rfl rfl ?_
      refine al_mv rfl rfl ?_
      obtain ⟨u59, hu60, h⟩ := opt_some h
      refine al_idxR 1 (at_some hu60).1 (at_some hu60).2.1 rfl rfl rfl Try.underlying131 sz133 rfl (fun p61 hp62 => ?_)
      refine al_fieldR hp62 rfl Try.underlying133 rfl sz22 rfl rfl (fun p63 hp64 => ?_)
      refine al_loadF1 1 rfl hp64 (at_some hu60).2.2 subS_lumref_bunch_1 rfl Try.underlying22 sz22 rfl rfl rfl (fun s65 => ?_)
      obtain ⟨u66, hu67, h⟩ := opt_some h
      refine al_idxD 0 hu67 rfl rfl rfl Try.underlying22 sz3 rfl (fun p68 => ?_)
      refine al_val (ov_loadP (ds := [(int .i64 u66)]) 0 rfl (fun h => h) rfl Try.underlying3 sz3 rfl rfl rfl) ?_
      obtain ⟨u69, hu70, h⟩ := opt_some h
      refine al_idxR 0 (at_some hu70).1 (at_some hu70).2.1 rfl rfl rfl Try.underlying22 sz3 rfl (fun p71 hp72 => ?_)
      refine al_storeR (k := (u66).toNat) (x := (1 : Int)) (vs := [(int .i64 (1 : Int))]) 0 rfl hp72 (idx_lt hu70) rfl rfl (cv_rfl rfl) (fun _ => rfl) sz3 rfl ?_
      refine al_nil ?_
      exact aq_join ((List.replicate ((a0.length : Int)).toNat 0).set (u66).toNat (1 : Int)) h (fun w a hm hs => norm hm hs [1, 0] [2] [(0, v0_0), (4, j4v4), (7, v7)] (by decide) ⟨rfl, rfl, rfl, trivial⟩)
     ·replace h := bif_f hb58 h
      refine aw_skip ?_
      exact aq_join (List.replicate ((a0.length : Int)).toNat 0) h (fun w a hm hs => norm hm hs [1, 0] [0] [(0, v0_0), (4, j4v4), (7, v7)] (by decide) ⟨rfl, rfl, rfl, trivial⟩)
   ·clear hkk5
    refine aw_sr ?_
    refine al_mv rfl rfl ?_
    refine al_val (ov_lenD 0 rfl rfl Try.underlying22 rfl) ?_
    refine al_mv rfl rfl ?_
    refine al_nt ?_
    refine aw_block ?_
    refine aw_nilR 133 tyS_lumref_bunch ?_
    refine aw_state (aw_loop (ι := Value × (List S_lumref_bunch) × Int) (fun i => (memOf w0 Z0 [] [(oRow i.1 133 tyS_lumref_bunch i.2.1)] [(fDat (tyList (tyInt .i64)) [v0_0] a0)])) (fun i => (tab [(0, v0_0), (4, i.1), (20, v0_0), (21, (int .i64 (a0.length : Int))), (22, (int .i64 i.2.2))])) (fun q i => f_lumref_Lengths_L75 a0 kk5 q i.2.1 i.2.2 = some r) ?_ fu ((Value.slice none 0 0), ([] : List S_lumref_bunch), (0 : Int)) h) (fun w a hm hs => norm hm hs [0] [0] [(0, v0_0), (4, (Value.slice none 0 0)), (20, v0_0), (21, (int .i64 (a0.length : Int))), (22, (int .i64 (0 : Int)))] (by decide) ⟨rfl, rfl, rfl, rfl, rfl, trivial⟩)
    clear h
    rintro k74 ⟨l73v4, l73x4, l73i22⟩ h
    have h : f_lumref_Lengths_L75 a0 kk5 k74 l73x4 l73i22 = some r := h
    obtain _ | k74 := k74
    · rw [f_lumref_Lengths_L75] at h; cases h
    rw [f_lumref_Lengths_L75] at h
    refine aw_show (m := (memOf w0 Z0 [] [(oRow l73v4 133 tyS_lumref_bunch l73x4)] [(fDat (tyList (tyInt .i64)) [v0_0] a0)])) (S := (tab [(0, v0_0), (4, l73v4), (20, v0_0), (21, (int .i64 (a0.length : Int))), (22, (int .i64 l73i22))])) ?_
    refine aw_sr ?_
    refine al_in rfl rfl rfl rfl ?_
    refine al_nt ?_
    refine aw_seq ?_
    refine aw_cond rfl (fun hb76 => ?_) (fun hb76 => ?_)
    ·replace h := bif_t hb76 h
     refine aw_skip ?_
     refine aq_then ?_
     obtain ⟨kk78, hkk78, h⟩ := lt_some h
     refine aw_seq_join (ι := Value × (List S_lumref_bunch)) (fun i => (memOf w0 Z0 [] [(oRow i.1 133 tyS_lumref_bunch i.2)] [(fDat (tyList (tyInt .i64)) [v0_0] a0)])) (fun i => (tab [(0, v0_0), (4, i.1), (20, v0_0), (21, (int .i64 (a0.length : Int))), (22, (int .i64 l73i22))])) (fun i => kk78 i.2 = some r) ?_ ?_
     ·rintro ⟨j77v4, j77x4⟩ h
      have h : kk78 j77x4 = some r := h
      rw [hkk78] at h
      dsimp only at h
      clear hkk78
      refine aw_show (m := (memOf w0 Z0 [] [(oRow j77v4 133 tyS_lumref_bunch j77x4)] [(fDat (tyList (tyInt .i64)) [v0_0] a0)])) (S := (tab [(0, v0_0), (4, j77v4), (20, v0_0), (21, (int .i64 (a0.length : Int))), (22, (int .i64 l73i22))])) ?_
      refine aw_region ?_
      refine al_in rfl rfl rfl rfl ?_
      refine al_mv rfl rfl ?_
      refine al_nil ?_
      exact aq_again k74 (j77v4, j77x4, (IntKind.i64.wrap (l73i22 + (1 : Int)))) (Nat.lt_succ_self _) h (fun w a hm hs => norm hm hs [0] [0] [(0, v0_0), (4, j77v4), (20, v0_0), (21, (int .i64 (a0.length : Int))), (22, (int .i64 (IntKind.i64.wrap (l73i22 + (1 : Int)))))] (by decide) ⟨rfl, rfl, rfl, rfl, rfl, trivial⟩)
     ·clear hkk78
      refine aw_block ?_
      refine aw_sr ?_
      refine al_mv rfl rfl ?_
      obtain ⟨u79, hu80, h⟩ := opt_some h
      refine al_idxD 0 hu80 rfl rfl rfl Try.underlying22 sz3 rfl (fun p81 => ?_)
      refine al_val (ov_loadP (ds := [(int .i64 u79)]) 0 rfl (fun h => h) rfl Try.underlying3 sz3 rfl rfl rfl) ?_
      refine al_as rfl rfl ?_
      refine al_as rfl rfl ?_
      refine al_nt ?_
      refine aw_seq ?_
      obtain ⟨kk83, hkk83, h⟩ := lt_some h
      refine aw_seq_join (ι := Bool) (fun i => (memOf w0 Z0 [] [(oRow l73v4 133 tyS_lumref_bunch l73x4)] [(fDat (tyList (tyInt .i64)) [v0_0] a0), (fPtr (tyInt .i64) p81 u79)])) (fun i => (tab [(0, v0_0), (4, l73v4), (5, (int .i64 l73i22)), (6, (int .i64 u79)), (20, v0_0), (21, (int .i64 (a0.length : Int))), (22, (int .i64 l73i22)), (32, (bool i))])) (fun i => kk83 i = some r) ?_ ?_
      ·rintro j82b32 h
       have h : kk83 j82b32 = some r := h
       rw [hkk83] at h
       dsimp only at h
       clear hkk83
       refine aw_show (m := (memOf w0 Z0 [] [(oRow l73v4 133 tyS_lumref_bunch l73x4)] [(fDat (tyList (tyInt .i64)) [v0_0] a0), (fPtr (tyInt .i64) p81 u79)])) (S := (tab [(0, v0_0), (4, l73v4), (5, (int .i64 l73i22)), (6, (int .i64 u79)), (20, v0_0), (21, (int .i64 (a0.length : Int))), (22, (int .i64 l73i22)), (32, (bool j82b32))])) ?_
       refine aw_cond rfl (fun hb84 => ?_) (fun hb84 => ?_)
       ·replace h := bif_t hb84 h
        refine aw_sr ?_
        refine al_as rfl rfl ?_
        refine al_as rfl rfl ?_
        refine al_nt ?_
        refine aw_ret ?_
        refine aq_then_ret ?_
        refine aq_block_ret ?_
        refine aq_then_ret ?_
        refine aq_then_ret ?_
        refine aq_block_ret ?_
        refine aq_then_ret ?_
        refine aq_nilR 3 (tyInt .i64) ?_
        obtain rfl := Option.some.inj h
        exact fn_ret (Value.slice none 0 0) [0] [] rfl rfl rfl rfl (res2 rfl rfl rfl) rfl rfl rfl (by decide)
       ·replace h := bif_f hb84 h
        refine aw_skip ?_
        refine aq_tr ?_
        refine al_mv rfl rfl ?_
        refine al_in rfl rfl rfl rfl ?_
        refine al_nt ?_
        refine aw_cond rfl (fun hb85 => ?_) (fun hb85 => ?_)
        ·replace h := bif_t hb85 h
         refine aw_region ?_
         refine al_mv rfl rfl ?_
         refine al_mv rfl rfl ?_
         refine al_mv rfl rfl ?_
         refine al_buildSlice (τ := (tyInt .i64)) (e := 3) (k := 1) (sz := 0) (by_ := 0) (z := undef) (cs := [(int .i64 l73i22)]) (xs := [l73i22]) rfl (by decide) (fun w a hm hs => ⟨([(int .i64 l73i22)]).toArray, rfl, by simp only [List.map_toArray, List.map_cons, List.map_nil, hs.ev (x := .tmp 37) rfl]; exact run_bs [(int .i64 l73i22)] [(int .i64 l73i22)] Try.underlying22 to3 rfl rfl (bs_cons (l := [(int .i64 l73i22)]) (cs := []) (cv_rfl rfl) rfl bs_nil) hm⟩) (fun hm => ⟨_, _, rfl, (fun _ => rfl) hm, rfl⟩) rfl (fun v86 => ?_)
         refine al_val (ov_build (cells := ([(int .i64 u79), v86]).toArray) (cs := [(int .i64 u79), v86]) rfl (fun w a hm hs => by simp only [List.map_toArray, List.map_cons, List.map_nil, List.toList_toArray, hs.ev (x := .tmp 36) rfl, hs.ev (x := .tmp 38) rfl]; obtain ⟨A0, l0, c0, e0⟩ := sl_own 0 rfl hm; rw [e0]; kernel_rfl)) ?_
         refine al_freeze 0 rfl rfl ?_
         refine al_buildSlice (τ := tyS_lumref_bunch) (e := 133) (k := 1) (sz := 0) (by_ := 0) (z := undef) (cs := [(int .i64 u79), v86]) (xs := [(S_lumref_bunch.mk u79 ([l73i22]))]) rfl (by decide) (fun w a hm hs => ⟨([(int .i64 u79), v86]).toArray, rfl, by simp only [List.map_toArray, List.map_cons, List.map_nil, hs.ev (x := .tmp 39) rfl]; exact run_bs [(ag [(int .i64 u79), v86])] [(int .i64 u79), v86] Try.underlying131 to133 rfl rfl (bs_cons (l := [(int .i64 u79), v86]) (cs := []) (cv_rfl rfl) rfl bs_nil) hm⟩) (fun hm => ⟨_, _, rfl, (fun hm => mknS_lumref_bunch rfl (fz_at (i := 0) hm rfl)) hm, rfl⟩) rfl (fun v87 => ?_)
         obtain ⟨hc88, h⟩ := req_some h
         refine al_append 1 hc88.1 hc88.2 rfl (src_own (i := 1) 0 rfl) rfl rfl Try.underlying131 to133 rfl rfl rfl (fun v89 => ?_)
         refine al_as rfl rfl ?_
         refine al_nil ?_
         refine aq_block ?_
         exact aq_join (v89, (l73x4 ++ ([(S_lumref_bunch.mk u79 ([l73i22]))]))) h (fun w a hm hs => norm hm hs [1] [1] [(0, v0_0), (4, v89), (20, v0_0), (21, (int .i64 (a0.length : Int))), (22, (int .i64 l73i22))] (by decide) ⟨rfl, rfl, rfl, rfl, rfl, trivial⟩)
        ·replace h := bif_f hb85 h
         refine aw_skip ?_
         refine aq_block ?_
         exact aq_join (l73v4, l73x4) h (fun w a hm hs => norm hm hs [0] [0] [(0, v0_0), (4, l73v4), (20, v0_0), (21, (int .i64 (a0.length : Int))), (22, (int .i64 l73i22))] (by decide) ⟨rfl, rfl, rfl, rfl, rfl, trivial⟩)
      ·clear hkk83
       refine aw_region ?_
       refine al_mv rfl rfl ?_
       refine al_in rfl rfl rfl rfl ?_
       refine al_mv rfl rfl ?_
       refine al_caseB 29 rfl (fun hb90 => ?_) (fun hb90 => ?_)
       ·replace h := bif_t hb90 h
        refine al_skip ?_
        refine al_skip ?_
        refine al_val (ov_pick_t rfl rfl rfl) ?_
        refine al_nil ?_
        exact aq_join true h (fun w a hm hs => norm hm hs [0] [1, 0] [(0, v0_0), (4, l73v4), (5, (int .i64 l73i22)), (6, (int .i64 u79)), (20, v0_0), (21, (int .i64 (a0.length : Int))), (22, (int .i64 l73i22)), (32, (bool true))] (by decide) ⟨rfl, rfl, rfl, rfl, rfl, rfl, rfl, rfl, trivial⟩)
       ·replace h := bif_f hb90 h
        refine al_mv rfl rfl ?_
        refine al_in rfl rfl rfl rfl ?_
        refine al_val (ov_pick_f rfl rfl rfl) ?_
        refine al_nil ?_
        exact aq_join (decide (u79 > (1048576 : Int))) h (fun w a hm hs => norm hm hs [0] [1, 0] [(0, v0_0), (4, l73v4), (5, (int .i64 l73i22)), (6, (int .i64 u79)), (20, v0_0), (21, (int .i64 (a0.length : Int))), (22, (int .i64 l73i22)), (32, (bool (decide (u79 > (1048576 : Int)))))] (by decide) ⟨rfl, rfl, rfl, rfl, rfl, rfl, rfl, rfl, trivial⟩)
    ·replace h := bif_f hb76 h
     refine aw_exit ?_
     refine aq_then_exit ?_
     refine aq_then_exit ?_
     refine aq_block_exit ?_
     exact aq_join (l73v4, l73x4) h (fun w a hm hs => norm hm hs [0] [0] [(0, v0_0), (4, l73v4)] (by decide) ⟨rfl, rfl, trivial⟩)
 ·clear hkk2
  refine aw_region ?_
  refine al_mv rfl rfl ?_
  refine al_val (ov_lenD 0 rfl rfl Try.underlying22 rfl) ?_
  refine al_in rfl rfl rfl rfl ?_
  refine al_mv rfl rfl ?_
  refine al_caseB 15 rfl (fun hb91 => ?_) (fun hb91 => ?_)
  ·replace h := bif_t hb91 h
   refine al_skip ?_
   refine al_skip ?_
   refine al_skip ?_
   refine al_val (ov_pick_t rfl rfl rfl) ?_
   refine al_nil ?_
   exact aq_join true h (fun w a hm hs => norm hm hs [] [0] [(0, v0_0), (19, (bool true))] (by decide) ⟨rfl, rfl, trivial⟩)
  ·replace h := bif_f hb91 h
   refine al_mv rfl rfl ?_
   refine al_val (ov_lenD 0 rfl rfl Try.underlying22 rfl) ?_
   refine al_in rfl rfl rfl rfl ?_
   refine al_val (ov_pick_f rfl rfl rfl) ?_
   refine al_nil ?_
   exact aq_join (decide ((a0.length : Int) > (256 : Int))) h (fun w a hm hs => norm hm hs [] [0] [(0, v0_0), (19, (bool (decide ((a0.length : Int) > (256 : Int)))))] (by decide) ⟨rfl, rfl, trivial⟩)
def f_slices_Equal___int_int__L6 (a0 : (List Int)) (a1 : (List Int)) (kk3 : (Unit → Option Bool)) : Nat → Int → Option Bool
  | 0, _ => none
  | k5 + 1, l4i13 => (bif (decide (l4i13 < (a0.length : Int))) then (opt (at? a0 l4i13) fun (u8 : Int) => (opt (at? a1 l4i13) fun (u11 : Int) => (bif (u8 != u11) then (some false) else (f_slices_Equal___int_int__L6 a0 a1 kk3 k5 (IntKind.i64.wrap (l4i13 + (1 : Int))))))) else (kk3 ()))
def f_slices_Equal___int_int_ (fu : Nat) (a0 : (List Int)) (a1 : (List Int)) : Option Bool := (bif ((a0.length : Int) != (a1.length : Int)) then (some false) else (lt (fun (_ : Unit) => (some true)) fun (kk3 : Unit → Option Bool) => (f_slices_Equal___int_int__L6 a0 a1 kk3 fu (0 : Int))))
set_option maxRecDepth 100000 in
theorem f_slices_Equal___int_int__ok (fu : Nat) (v0_0 : Value) (a0 : (List Int)) (v1_0 : Value) (a1 : (List Int)) {r : Bool} (h : f_slices_Equal___int_int_ fu a0 a1 = some r) : FnOk Try.prog 13 [v0_0, v1_0] [(fDat (tyList (tyInt .i64)) [v0_0] a0), (fDat (tyList (tyInt .i64)) [v1_0] a1)] [] (fun (i : Unit) => { val := (bool r) }) := by
 unfold f_slices_Equal___int_int_ at h
 refine fn_enter Try.func13 rfl Try.ntmps13 rfl (fun w0 Z0 => ?_)
 refine aw_sr ?_
 refine al_as rfl rfl ?_
 refine al_nt ?_
 refine aw_seq ?_
 refine aw_sr ?_
 refine al_mv rfl rfl ?_
 refine al_val (ov_lenD 0 rfl rfl Try.underlying22 rfl) ?_
 refine al_mv rfl rfl ?_
 refine al_val (ov_lenD 1 rfl rfl Try.underlying22 rfl) ?_
 refine al_in rfl rfl rfl rfl ?_
 refine al_nt ?_
 refine aw_cond rfl (fun hb1 => ?_) (fun hb1 => ?_)
 ·replace h := bif_t hb1 h
  refine aw_sr ?_
  refine al_as rfl rfl ?_
  refine al_nt ?_
  refine aw_ret ?_
  refine aq_then_ret ?_
  obtain rfl := Option.some.inj h
  exact fn_ret () [] [] rfl rfl rfl rfl (res1 rfl rfl) rfl rfl rfl (by decide)
 ·replace h := bif_f hb1 h
  refine aw_skip ?_
  refine aq_then ?_
  obtain ⟨kk3, hkk3, h⟩ := lt_some h
  refine aw_seq_join (ι := Unit) (fun i => (memOf w0 Z0 [] [] [(fDat (tyList (tyInt .i64)) [v0_0] a0), (fDat (tyList (tyInt .i64)) [v1_0] a1)])) (fun i => (tab [])) (fun i => kk3 () = some r) ?_ ?_
  ·rintro _ h
   have h : kk3 () = some r := h
   rw [hkk3] at h
   dsimp only at h
   clear hkk3
   refine aw_show (m := (memOf w0 Z0 [] [] [(fDat (tyList (tyInt .i64)) [v0_0] a0), (fDat (tyList (tyInt .i64)) [v1_0] a1)])) (S := (tab [])) ?_
   refine aw_sr ?_
   refine al_as rfl rfl ?_
   refine al_nt ?_
   refine aw_ret ?_
   obtain rfl := Option.some.inj h
   exact fn_ret () [] [] rfl rfl rfl rfl (res1 rfl rfl) rfl rfl rfl (by decide)
  ·clear hkk3
   refine aw_sr ?_
   refine al_mv rfl rfl ?_
   refine al_val (ov_lenD 0 rfl rfl Try.underlying22 rfl) ?_
   refine al_mv rfl rfl ?_
   refine al_nt ?_
   refine aw_block ?_
   refine aw_state (aw_loop (ι := Int) (fun i => (memOf w0 Z0 [] [] [(fDat (tyList (tyInt .i64)) [v0_0] a0), (fDat (tyList (tyInt .i64)) [v1_0] a1)])) (fun i => (tab [(0, v0_0), (1, v1_0), (12, (int .i64 (a0.length : Int))), (13, (int .i64 i))])) (fun q i => f_slices_Equal___int_int__L6 a0 a1 kk3 q i = some r) ?_ fu (0 : Int) h) (fun w a hm hs => norm hm hs [] [0, 1] [(0, v0_0), (1, v1_0), (12, (int .i64 (a0.length : Int))), (13, (int .i64 (0 : Int)))] (by decide) ⟨rfl, rfl, rfl, rfl, trivial⟩)
   clear h
   rintro k5 l4i13 h
   have h : f_slices_Equal___int_int__L6 a0 a1 kk3 k5 l4i13 = some r := h
   obtain _ | k5 := k5
   · rw [f_slices_Equal___int_int__L6] at h; cases h
   rw [f_slices_Equal___int_int__L6] at h
   refine aw_show (m := (memOf w0 Z0 [] [] [(fDat (tyList (tyInt .i64)) [v0_0] a0), (fDat (tyList (tyInt .i64)) [v1_0] a1)])) (S := (tab [(0, v0_0), (1, v1_0), (12, (int .i64 (a0.length : Int))), (13, (int .i64 l4i13))])) ?_
   refine aw_sr ?_
   refine al_in rfl rfl rfl rfl ?_
   refine al_nt ?_
   refine aw_seq ?_
   refine aw_cond rfl (fun hb7 => ?_) (fun hb7 => ?_)
   ·replace h := bif_t hb7 h
    refine aw_skip ?_
    refine aq_then ?_
    refine aw_seq ?_
    refine aw_block ?_
    refine aw_sr ?_
    refine al_mv rfl rfl ?_
    refine al_as rfl rfl ?_
    refine al_nt ?_
    refine aw_seq ?_
    obtain ⟨u8, hu9, h⟩ := opt_some h
    obtain ⟨u11, hu12, h⟩ := opt_some h
    refine aw_region_draw 8 [(16, (fun u => fEq u v0_0)), (17, (fun u => fEq u (int .i64 l4i13))), (18, (fun p10 => (fPtr (tyInt .i64) p10 u8))), (19, (fun u => fEq u (int .i64 u8))), (20, (fun u => fEq u v1_0)), (21, (fun u => fEq u (int .i64 l4i13))), (22, (fun p13 => (fPtr (tyInt .i64) p13 u11))), (23, (fun u => fEq u (int .i64 u11)))] (tab [(0, v0_0), (1, v1_0), (5, (int .i64 l4i13)), (12, (int .i64 (a0.length : Int))), (13, (int .i64 l4i13))]) mixed (by kernel_rfl) rfl rfl rfl (fun a hs => hs.tab _ (allT_mem ⟨rfl, rfl, rfl, rfl, rfl, trivial⟩)) ⟨⟨rfl, ld_val (ov_move rfl rfl)⟩, ⟨rfl, ld_val (ov_move rfl rfl)⟩, ⟨rfl, ld_eq (j := 0) rfl rfl (ld_eq (j := 1) rfl rfl (ld_of (of_idxD 0 hu9 rfl rfl rfl Try.underlying22 sz3 rfl)))⟩, ⟨rfl, ld_fact (j := 2) rfl rfl (fun p10 => ld_val (ov_loadP (ds := [(int .i64 u8)]) 0 rfl (fun h => h) rfl Try.underlying3 sz3 rfl rfl rfl))⟩, ⟨rfl, ld_val (ov_move rfl rfl)⟩, ⟨rfl, ld_val (ov_move rfl rfl)⟩, ⟨rfl, ld_eq (j := 4) rfl rfl (ld_eq (j := 5) rfl rfl (ld_of (of_idxD 1 hu12 rfl rfl rfl Try.underlying22 sz3 rfl)))⟩, ⟨rfl, ld_fact (j := 6) rfl rfl (fun p13 => ld_val (ov_loadP (ds := [(int .i64 u11)]) 0 rfl (fun h => h) rfl Try.underlying3 sz3 rfl rfl rfl))⟩, trivial⟩ ?_
    refine tl_eq 3 rfl ?_
    refine tl_eq 7 rfl ?_
    refine tl_done ?_
    refine al_in rfl rfl rfl rfl ?_
    refine al_nt ?_
    refine aw_cond rfl (fun hb14 => ?_) (fun hb14 => ?_)
    ·replace h := bif_t hb14 h
     refine aw_sr ?_
     refine al_as rfl rfl ?_
     refine al_nt ?_
     refine aw_ret ?_
     refine aq_block_ret ?_
     refine aq_then_ret ?_
     refine aq_then_ret ?_
     refine aq_block_ret ?_
     refine aq_then_ret ?_
     obtain rfl := Option.some.inj h
     exact fn_ret () [] [] rfl rfl rfl rfl (res1 rfl rfl) rfl rfl rfl (by decide)
    ·replace h := bif_f hb14 h
     refine aw_skip ?_
     refine aq_block ?_
     refine aq_then ?_
     refine aw_region ?_
     refine al_in rfl rfl rfl rfl ?_
     refine al_mv rfl rfl ?_
     refine al_nil ?_
     exact aq_again k5 (IntKind.i64.wrap (l4i13 + (1 : Int))) (Nat.lt_succ_self _) h (fun w a hm hs => norm hm hs [] [0, 1] [(0, v0_0), (1, v1_0), (12, (int .i64 (a0.length : Int))), (13, (int .i64 (IntKind.i64.wrap (l4i13 + (1 : Int)))))] (by decide) ⟨rfl, rfl, rfl, rfl, trivial⟩)
   ·replace h := bif_f hb7 h
    refine aw_exit ?_
    refine aq_then_exit ?_
    refine aq_then_exit ?_
    refine aq_block_exit ?_
    exact aq_join () h (fun w a hm hs => norm hm hs [] [0, 1] [] (by decide) trivial)
def f_lumlaw_HuffLengths (fu : Nat) (a0 : (List Int)) : Option Bool := (opt (f_huff_Lengths fu a0) fun (r2 : ((List Int) × Int)) => (opt (f_lumref_Lengths fu a0) fun (r5 : ((List Int) × Int)) => (lt (fun (j7b2 : Bool) => (some j7b2)) fun (kk8 : Bool → Option Bool) => (opt (f_slices_Equal___int_int_ fu r2.1 r5.1) fun (r10 : Bool) => (bif r10 then (kk8 (r2.2 == r5.2)) else (kk8 false))))))
set_option maxRecDepth 100000 in
theorem f_lumlaw_HuffLengths_ok (fu : Nat) (v0_0 : Value) (a0 : (List Int)) {r : Bool} (h : f_lumlaw_HuffLengths fu a0 = some r) : FnOk Try.prog 3 [v0_0] [(fDat (tyList (tyInt .i64)) [v0_0] a0)] [] (fun (i : Unit) => { val := (bool r) }) := by
 unfold f_lumlaw_HuffLengths at h
 refine fn_enter Try.func3 rfl Try.ntmps3 rfl (fun w0 Z0 => ?_)
 refine aw_sr ?_
 refine al_as rfl rfl ?_
 refine al_nt ?_
 refine aw_sr ?_
 refine al_mv rfl rfl ?_
 obtain ⟨r2, hc1, h⟩ := opt_some h
 refine al_call (vs := [v0_0]) (f_huff_Lengths_ok fu v0_0 a0 hc1) [] [] [] (pre_fz 0 rfl pre_nil) rfl (by simp) (by decide) (.inl rfl) rfl Try.func11 rfl rfl rfl (fun v3 => ?_)
 refine al_mv rfl rfl ?_
 refine al_ex rfl rfl rfl ?_
 refine al_ex rfl rfl rfl ?_
 refine al_as rfl rfl ?_
 refine al_as rfl rfl ?_
 refine al_nt ?_
 refine aw_sr ?_
 refine al_mv rfl rfl ?_
 obtain ⟨r5, hc4, h⟩ := opt_some h
 refine al_call (vs := [v0_0]) (f_lumref_Lengths_ok fu v0_0 a0 hc4) [] [] [0] (pre_fz 0 rfl pre_nil) rfl (by simp) (by decide) (.inl rfl) rfl Try.func12 rfl rfl rfl (fun v6 => ?_)
 refine al_mv rfl rfl ?_
 refine al_ex rfl rfl rfl ?_
 refine al_ex rfl rfl rfl ?_
 refine al_as rfl rfl ?_
 refine al_as rfl rfl ?_
 refine al_nt ?_
 obtain ⟨kk8, hkk8, h⟩ := lt_some h
 refine aw_seq_join (ι := Bool) (fun i => (memOf w0 Z0 [] [] [(fDat (tyList (tyInt .i64)) [v0_0] a0)])) (fun i => (tab [(2, (bool i))])) (fun i => kk8 i = some r) ?_ ?_
 ·rintro j7b2 h
  have h : kk8 j7b2 = some r := h
  rw [hkk8] at h
  dsimp only at h
  clear hkk8
  refine aw_show (m := (memOf w0 Z0 [] [] [(fDat (tyList (tyInt .i64)) [v0_0] a0)])) (S := (tab [(2, (bool j7b2))])) ?_
  refine aw_ret ?_
  obtain rfl := Option.some.inj h
  exact fn_ret () [] [] rfl rfl rfl rfl (res1 rfl rfl) rfl rfl rfl (by decide)
 ·clear hkk8
  refine aw_region ?_
  refine al_mv rfl rfl ?_
  refine al_mv rfl rfl ?_
  obtain ⟨r10, hc9, h⟩ := opt_some h
  refine al_call (vs := [v3, v6]) (f_slices_Equal___int_int__ok fu v3 r2.1 v6 r5.1 hc9) [0, 1] [] [0, 1] (pre_own 1 rfl rfl (pre_own 0 rfl rfl pre_nil)) rfl (by simp) (by decide) (.inr flat_res0) rfl Try.func13 rfl rfl rfl (fun _ => ?_)
  refine al_mv rfl rfl ?_
  refine al_caseB 20 rfl (fun hb11 => ?_) (fun hb11 => ?_)
  ·replace h := bif_t hb11 h
   refine al_mv rfl rfl ?_
   refine al_mv rfl rfl ?_
   refine al_in rfl rfl rfl rfl ?_
   refine al_val (ov_pick_t rfl rfl rfl) ?_
   refine al_as rfl rfl ?_
   refine al_nil ?_
   exact aq_join (r2.2 == r5.2) h (fun w a hm hs => norm hm hs [] [0] [(2, (bool (r2.2 == r5.2)))] (by decide) ⟨rfl, trivial⟩)
  ·replace h := bif_f hb11 h
   refine al_skip ?_
   refine al_skip ?_
   refine al_skip ?_
   refine al_val (ov_pick_f rfl rfl rfl) ?_
   refine al_as rfl rfl ?_
   refine al_nil ?_
   exact aq_join false h (fun w a hm hs => norm hm hs [] [0] [(2, (bool false))] (by decide) ⟨rfl, trivial⟩)
end Go.Proofs.Ytfhifdmbdkkgaaa
