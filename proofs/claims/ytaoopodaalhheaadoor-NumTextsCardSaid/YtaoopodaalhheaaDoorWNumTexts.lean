/- Walks by program. No condition. -/
import Derived.Test.YtaoopodaalhheaaDoorEn16
import Derived.Test.YtaoopodaalhheaaDoorChecked
import Derived.Test.YtaoopodaalhheaaDoorEnM
namespace Go.Proofs.YtaoopodaalhheaaDoor
open Go.RowKit YtaoopodaalhheaaDoor.En
set_option linter.unusedVariables false
set_option linter.unusedSimpArgs false
theorem sz5 : szOf Tryd.prog 5 = some 1 := by kernel_rfl
theorem to5 : tyOf Tryd.prog 5 = some (1, 1, some (Value.int .u8 (0 : Int))) := by kernel_rfl
theorem mixed : Tryd.prog.follows .mixedOrders = true := by kernel_rfl
def f_num_PutText (fu : Nat) (a0 : (List UInt8)) : Option ((List UInt8) × Int) := (bif (decide ((a0.length : Int) > (1024 : Int))) then (some (([] : List UInt8), (2 : Int))) else (opt (f_strings_ReplaceAll fu a0 ([0] : List UInt8) ([0, 255] : List UInt8)) fun (r3 : (List UInt8)) => (req (r3.length + ([0, 0] : List UInt8).length ≤ 9223372036854775807) (some ((r3 ++ ([0, 0] : List UInt8)), (0 : Int))))))
set_option maxRecDepth 100000 in
theorem f_num_PutText_ok (fu : Nat) (a0 : (List UInt8)) {r : ((List UInt8) × Int)} (h : f_num_PutText fu a0 = some r) : FnOk Tryd.prog 24 [(str a0)] [uMax] [] (fun (i : Unit) => { val := (Value.tuple #[(str r.1), (Value.int .i64 r.2)]) }) := by
  unfold f_num_PutText at h
  refine fn_enter Tryd.func24 rfl Tryd.ntmps24 rfl (fun w0 Z0 => ?_)
  refine aw_seq ?_
  refine aw_region ?_
  refine al_val (ov_assign rfl rfl) ?_
  refine al_val (ov_assign rfl rfl) ?_
  refine al_nil ?_
  refine aq_then ?_
  refine aw_seq ?_
  refine aw_seq ?_
  refine aw_region ?_
  refine al_val (ov_move rfl rfl) ?_
  refine al_val (ov_strLen Tryd.underlying9 rfl rfl) ?_
  refine al_val (ov_int rfl rfl rfl rfl) ?_
  refine al_nil ?_
  refine aq_then ?_
  refine aw_cond rfl (fun hb1 => ?_) (fun hb1 => ?_)
  · replace h := bif_t hb1 h
    refine aw_seq ?_
    refine aw_region ?_
    refine al_val (ov_assign rfl rfl) ?_
    refine al_val (ov_assign rfl rfl) ?_
    refine al_nil ?_
    refine aq_then ?_
    refine aw_ret ?_
    refine aq_then_ret ?_
    obtain rfl := Option.some.inj h
    exact fn_ret () [] [] rfl rfl rfl rfl (res2 rfl rfl rfl) rfl rfl rfl (by decide)
  · replace h := bif_f hb1 h
    refine aw_skip ?_
    refine aq_then ?_
    refine aw_seq ?_
    refine aw_region ?_
    refine al_val (ov_move rfl rfl) ?_
    obtain ⟨r3, hc2, h⟩ := opt_some h
    refine al_call (vs := [(str a0), (str ([0] : List UInt8)), (str ([0, 255] : List UInt8))]) (f_strings_ReplaceAll_ok fu a0 ([0] : List UInt8) ([0, 255] : List UInt8) hc2) [] [] [] (pre_fz 0 rfl pre_nil) rfl (by simp) (by decide) (.inl rfl) rfl Tryd.func52 rfl rfl rfl (fun _ => ?_)
    obtain ⟨hc4, h⟩ := req_some h
    refine al_val (ov_strAdd hc4 rfl rfl rfl) ?_
    refine al_val (ov_assign rfl rfl) ?_
    refine al_val (ov_assign rfl rfl) ?_
    refine al_nil ?_
    refine aq_then ?_
    refine aw_ret ?_
    obtain rfl := Option.some.inj h
    exact fn_ret () [] [] rfl rfl rfl rfl (res2 rfl rfl rfl) rfl rfl rfl (by decide)
def f_lumref_PutText (fu : Nat) (a0 : (List UInt8)) : Option ((List UInt8) × Int) := (bif (decide ((a0.length : Int) > (1024 : Int))) then (some (([] : List UInt8), (2 : Int))) else (opt (f_strings_ReplaceAll fu a0 ([0] : List UInt8) ([0, 255] : List UInt8)) fun (r3 : (List UInt8)) => (req (r3.length + ([0, 0] : List UInt8).length ≤ 9223372036854775807) (some ((r3 ++ ([0, 0] : List UInt8)), (0 : Int))))))
set_option maxRecDepth 100000 in
theorem f_lumref_PutText_ok (fu : Nat) (a0 : (List UInt8)) {r : ((List UInt8) × Int)} (h : f_lumref_PutText fu a0 = some r) : FnOk Tryd.prog 25 [(str a0)] [uMax] [] (fun (i : Unit) => { val := (Value.tuple #[(str r.1), (Value.int .i64 r.2)]) }) := by
  unfold f_lumref_PutText at h
  refine fn_enter Tryd.func25 rfl Tryd.ntmps25 rfl (fun w0 Z0 => ?_)
  refine aw_seq ?_
  refine aw_region ?_
  refine al_val (ov_assign rfl rfl) ?_
  refine al_val (ov_assign rfl rfl) ?_
  refine al_nil ?_
  refine aq_then ?_
  refine aw_seq ?_
  refine aw_seq ?_
  refine aw_region ?_
  refine al_val (ov_move rfl rfl) ?_
  refine al_val (ov_strLen Tryd.underlying9 rfl rfl) ?_
  refine al_val (ov_int rfl rfl rfl rfl) ?_
  refine al_nil ?_
  refine aq_then ?_
  refine aw_cond rfl (fun hb1 => ?_) (fun hb1 => ?_)
  · replace h := bif_t hb1 h
    refine aw_seq ?_
    refine aw_region ?_
    refine al_val (ov_assign rfl rfl) ?_
    refine al_val (ov_assign rfl rfl) ?_
    refine al_nil ?_
    refine aq_then ?_
    refine aw_ret ?_
    refine aq_then_ret ?_
    obtain rfl := Option.some.inj h
    exact fn_ret () [] [] rfl rfl rfl rfl (res2 rfl rfl rfl) rfl rfl rfl (by decide)
  · replace h := bif_f hb1 h
    refine aw_skip ?_
    refine aq_then ?_
    refine aw_seq ?_
    refine aw_region ?_
    refine al_val (ov_move rfl rfl) ?_
    obtain ⟨r3, hc2, h⟩ := opt_some h
    refine al_call (vs := [(str a0), (str ([0] : List UInt8)), (str ([0, 255] : List UInt8))]) (f_strings_ReplaceAll_ok fu a0 ([0] : List UInt8) ([0, 255] : List UInt8) hc2) [] [] [] (pre_fz 0 rfl pre_nil) rfl (by simp) (by decide) (.inl rfl) rfl Tryd.func52 rfl rfl rfl (fun _ => ?_)
    obtain ⟨hc4, h⟩ := req_some h
    refine al_val (ov_strAdd hc4 rfl rfl rfl) ?_
    refine al_val (ov_assign rfl rfl) ?_
    refine al_val (ov_assign rfl rfl) ?_
    refine al_nil ?_
    refine aq_then ?_
    refine aw_ret ?_
    obtain rfl := Option.some.inj h
    exact fn_ret () [] [] rfl rfl rfl rfl (res2 rfl rfl rfl) rfl rfl rfl (by decide)
def f_num_GetText_L5 (a0 : (List UInt8)) (kk2 : (Unit → Option ((List UInt8) × Int × Int))) : Nat → (List UInt8) → Int → Option ((List UInt8) × Int × Int)
  | 0, _, _ => none
  | k4 + 1, l3x5, l3i6 => (bif (decide (l3i6 < (a0.length : Int))) then (lt (fun (j7x5 : (List UInt8)) (j7i6 : Int) => (bif (decide ((j7x5.length : Int) > (1024 : Int))) then (some (([] : List UInt8), (0 : Int), (2 : Int))) else (f_num_GetText_L5 a0 kk2 k4 j7x5 (IntKind.i64.wrap (j7i6 + (1 : Int)))))) fun (kk8 : (List UInt8) → Int → Option ((List UInt8) × Int × Int)) => (req (0 ≤ l3i6 ∧ l3i6 < (a0.length : Int)) (bif ((En.bAt a0 l3i6) == (0 : Int)) then (bif ((IntKind.i64.wrap (l3i6 + (1 : Int))) == (a0.length : Int)) then (kk2 ()) else (req (0 ≤ (IntKind.i64.wrap (l3i6 + (1 : Int))) ∧ (IntKind.i64.wrap (l3i6 + (1 : Int))) < (a0.length : Int)) (bif ((En.bAt a0 (IntKind.i64.wrap (l3i6 + (1 : Int)))) == (0 : Int)) then (some (l3x5, (IntKind.i64.wrap ((IntKind.i64.wrap (l3i6 + (1 : Int))) + (1 : Int))), (0 : Int))) else (bif ((En.bAt a0 (IntKind.i64.wrap (l3i6 + (1 : Int)))) == (255 : Int)) then (req (0 ≤ (0 : Int) ∧ (0 : Int) ≤ 255) (req (((l3x5.length + ([(UInt8.ofNat ((0 : Int)).toNat)]).length) * 1 : Nat) ≤ 140737488355328 ∧ l3x5.length + ([(UInt8.ofNat ((0 : Int)).toNat)]).length ≤ 9223372036854775807) (kk8 (l3x5 ++ ([(UInt8.ofNat ((0 : Int)).toNat)])) (IntKind.i64.wrap (l3i6 + (1 : Int)))))) else (some (([] : List UInt8), (0 : Int), (4 : Int))))))) else (req (0 ≤ l3i6 ∧ l3i6 < (a0.length : Int)) (req (0 ≤ (En.bAt a0 l3i6) ∧ (En.bAt a0 l3i6) ≤ 255) (req (((l3x5.length + ([(UInt8.ofNat ((En.bAt a0 l3i6)).toNat)]).length) * 1 : Nat) ≤ 140737488355328 ∧ l3x5.length + ([(UInt8.ofNat ((En.bAt a0 l3i6)).toNat)]).length ≤ 9223372036854775807) (kk8 (l3x5 ++ ([(UInt8.ofNat ((En.bAt a0 l3i6)).toNat)])) l3i6))))))) else (kk2 ()))
def f_num_GetText (fu : Nat) (a0 : (List UInt8)) : Option ((List UInt8) × Int × Int) := (lt (fun (_ : Unit) => (some (([] : List UInt8), (0 : Int), (3 : Int)))) fun (kk2 : Unit → Option ((List UInt8) × Int × Int)) => (f_num_GetText_L5 a0 kk2 fu ([] : List UInt8) (0 : Int)))
set_option maxRecDepth 100000 in
theorem f_num_GetText_ok (fu : Nat) (a0 : (List UInt8)) {r : ((List UInt8) × Int × Int)} (h : f_num_GetText fu a0 = some r) : FnOk Tryd.prog 26 [(str a0)] [] [] (fun (i : Unit) => { val := (Value.tuple #[(str r.1), (Value.int .i64 r.2.1), (Value.int .i64 r.2.2)]) }) := by
  unfold f_num_GetText at h
  refine fn_enter Tryd.func26 rfl Tryd.ntmps26 rfl (fun w0 Z0 => ?_)
  refine aw_seq ?_
  refine aw_region ?_
  refine al_val (ov_assign rfl rfl) ?_
  refine al_val (ov_assign rfl rfl) ?_
  refine al_val (ov_assign rfl rfl) ?_
  refine al_nil ?_
  refine aq_then ?_
  refine aw_seq ?_
  refine aw_region ?_
  refine al_val (ov_assign rfl rfl) ?_
  refine al_nil ?_
  refine aq_then ?_
  obtain ⟨kk2, hkk2, h⟩ := lt_some h
  refine aw_seq_join (ι := Unit) (fun i => (memOf w0 Z0 [] [] [])) (fun i => (tab [])) (fun i => kk2 () = some r) ?_ ?_
  · rintro _ h
    have h : kk2 () = some r := h
    rw [hkk2] at h
    dsimp only at h
    clear hkk2
    refine aw_show (m := (memOf w0 Z0 [] [] [])) (S := (tab [])) ?_
    refine aw_seq ?_
    refine aw_region ?_
    refine al_val (ov_assign rfl rfl) ?_
    refine al_val (ov_assign rfl rfl) ?_
    refine al_val (ov_assign rfl rfl) ?_
    refine al_nil ?_
    refine aq_then ?_
    refine aw_ret ?_
    obtain rfl := Option.some.inj h
    exact fn_ret () [] [] rfl rfl rfl rfl (res3 rfl rfl rfl rfl) rfl rfl rfl (by decide)
  · clear hkk2
    refine aw_seq ?_
    refine aw_region ?_
    refine al_val (ov_assign rfl rfl) ?_
    refine al_nil ?_
    refine aq_then ?_
    refine aw_block ?_
    refine aw_nilR 5 tyU8 ?_
    refine aw_state (aw_loop (ι := Value × (List UInt8) × Int) (fun i => (memOf w0 Z0 [] [(oRow i.1 5 tyU8 i.2.1)] [])) (fun i => (tab [(0, (str a0)), (5, i.1), (6, (Value.int .i64 i.2.2))])) (fun q i => f_num_GetText_L5 a0 kk2 q i.2.1 i.2.2 = some r) ?_ fu ((Value.slice none 0 0), ([] : List UInt8), (0 : Int)) h) (fun w a hm hs => norm hm hs [0] [] [(0, (str a0)), (5, (Value.slice none 0 0)), (6, (Value.int .i64 (0 : Int)))] (by decide) ⟨rfl, rfl, rfl, trivial⟩)
    clear h
    rintro k4 ⟨l3v5, l3x5, l3i6⟩ h
    have h : f_num_GetText_L5 a0 kk2 k4 l3x5 l3i6 = some r := h
    obtain _ | k4 := k4
    · rw [f_num_GetText_L5] at h; cases h
    rw [f_num_GetText_L5] at h
    refine aw_show (m := (memOf w0 Z0 [] [(oRow l3v5 5 tyU8 l3x5)] [])) (S := (tab [(0, (str a0)), (5, l3v5), (6, (Value.int .i64 l3i6))])) ?_
    refine aw_seq ?_
    refine aw_seq ?_
    refine aw_region ?_
    refine al_val (ov_move rfl rfl) ?_
    refine al_val (ov_move rfl rfl) ?_
    refine al_val (ov_strLen Tryd.underlying9 rfl rfl) ?_
    refine al_val (ov_int rfl rfl rfl rfl) ?_
    refine al_nil ?_
    refine aq_then ?_
    refine aw_cond rfl (fun hb6 => ?_) (fun hb6 => ?_)
    · replace h := bif_t hb6 h
      refine aw_skip ?_
      refine aq_then ?_
      refine aw_seq ?_
      refine aw_block ?_
      obtain ⟨kk8, hkk8, h⟩ := lt_some h
      refine aw_seq_join (ι := Value × (List UInt8) × Int) (fun i => (memOf w0 Z0 [] [(oRow i.1 5 tyU8 i.2.1)] [])) (fun i => (tab [(0, (str a0)), (5, i.1), (6, (Value.int .i64 i.2.2))])) (fun i => kk8 i.2.1 i.2.2 = some r) ?_ ?_
      · rintro ⟨j7v5, j7x5, j7i6⟩ h
        have h : kk8 j7x5 j7i6 = some r := h
        rw [hkk8] at h
        dsimp only at h
        clear hkk8
        refine aw_show (m := (memOf w0 Z0 [] [(oRow j7v5 5 tyU8 j7x5)] [])) (S := (tab [(0, (str a0)), (5, j7v5), (6, (Value.int .i64 j7i6))])) ?_
        refine aw_seq ?_
        refine aw_region ?_
        refine al_val (ov_move rfl rfl) ?_
        refine al_val (ov_lenR 0 rfl rfl Tryd.underlying70 rfl) ?_
        refine al_val (ov_int rfl rfl rfl rfl) ?_
        refine al_nil ?_
        refine aq_then ?_
        refine aw_cond rfl (fun hb9 => ?_) (fun hb9 => ?_)
        · replace h := bif_t hb9 h
          refine aw_seq ?_
          refine aw_region ?_
          refine al_val (ov_assign rfl rfl) ?_
          refine al_val (ov_assign rfl rfl) ?_
          refine al_val (ov_assign rfl rfl) ?_
          refine al_nil ?_
          refine aq_then ?_
          refine aw_ret ?_
          refine aq_block_ret ?_
          refine aq_then_ret ?_
          refine aq_then_ret ?_
          refine aq_block_ret ?_
          refine aq_then_ret ?_
          obtain rfl := Option.some.inj h
          exact fn_ret () [] [] rfl rfl rfl rfl (res3 rfl rfl rfl rfl) rfl rfl rfl (by decide)
        · replace h := bif_f hb9 h
          refine aw_skip ?_
          refine aq_block ?_
          refine aq_then ?_
          refine aw_region ?_
          refine al_val (ov_move rfl rfl) ?_
          refine al_val (ov_int rfl rfl rfl rfl) ?_
          refine al_val (ov_assign rfl rfl) ?_
          refine al_nil ?_
          exact aq_again k4 (j7v5, j7x5, (IntKind.i64.wrap (j7i6 + (1 : Int)))) (Nat.lt_succ_self _) h (fun w a hm hs => norm hm hs [0] [] [(0, (str a0)), (5, j7v5), (6, (Value.int .i64 (IntKind.i64.wrap (j7i6 + (1 : Int)))))] (by decide) ⟨rfl, rfl, rfl, trivial⟩)
      · clear hkk8
        refine aw_seq ?_
        refine aw_region ?_
        refine al_val (ov_move rfl rfl) ?_
        refine al_val (ov_move rfl rfl) ?_
        obtain ⟨hc10, h⟩ := req_some h
        refine al_val (ov_strIdx hc10.1 hc10.2 Tryd.underlying9 rfl rfl rfl) ?_
        refine al_val (ov_int rfl rfl rfl rfl) ?_
        refine al_nil ?_
        refine aq_then ?_
        refine aw_cond rfl (fun hb11 => ?_) (fun hb11 => ?_)
        · replace h := bif_t hb11 h
          refine aw_seq ?_
          refine aw_seq ?_
          refine aw_region ?_
          refine al_val (ov_move rfl rfl) ?_
          refine al_val (ov_int rfl rfl rfl rfl) ?_
          refine al_val (ov_assign rfl rfl) ?_
          refine al_nil ?_
          refine aq_then ?_
          refine aw_seq ?_
          refine aw_region ?_
          refine al_val (ov_move rfl rfl) ?_
          refine al_val (ov_move rfl rfl) ?_
          refine al_val (ov_strLen Tryd.underlying9 rfl rfl) ?_
          refine al_val (ov_int rfl rfl rfl rfl) ?_
          refine al_nil ?_
          refine aq_then ?_
          refine aw_cond rfl (fun hb12 => ?_) (fun hb12 => ?_)
          · replace h := bif_t hb12 h
            refine aw_exit ?_
            refine aq_then_exit ?_
            refine aq_then_exit ?_
            refine aq_block_other rfl ?_
            refine aq_then_exit ?_
            refine aq_then_exit ?_
            refine aq_block_exit ?_
            exact aq_join () h (fun w a hm hs => norm hm hs [] [] [] (by decide) trivial)
          · replace h := bif_f hb12 h
            refine aw_skip ?_
            refine aq_then ?_
            refine aw_seq ?_
            refine aw_seq ?_
            refine aw_region ?_
            refine al_val (ov_move rfl rfl) ?_
            refine al_val (ov_move rfl rfl) ?_
            obtain ⟨hc13, h⟩ := req_some h
            refine al_val (ov_strIdx hc13.1 hc13.2 Tryd.underlying9 rfl rfl rfl) ?_
            refine al_nil ?_
            refine aq_then ?_
            refine aw_block ?_
            refine aw_seq ?_
            refine aw_region ?_
            refine al_val (ov_int rfl rfl rfl rfl) ?_
            refine al_val (ov_assign rfl rfl) ?_
            refine al_nil ?_
            refine aq_then ?_
            refine aw_cond rfl (fun hb14 => ?_) (fun hb14 => ?_)
            · replace h := bif_t hb14 h
              refine aw_seq ?_
              refine aw_region ?_
              refine al_val (ov_move rfl rfl) ?_
              refine al_val (ov_toStrR 0 rfl rfl Tryd.underlying70 Tryd.underlying5 Tryd.underlying9 rfl) ?_
              refine al_val (ov_move rfl rfl) ?_
              refine al_val (ov_int rfl rfl rfl rfl) ?_
              refine al_val (ov_assign rfl rfl) ?_
              refine al_val (ov_assign rfl rfl) ?_
              refine al_val (ov_assign rfl rfl) ?_
              refine al_nil ?_
              refine aq_then ?_
              refine aw_ret ?_
              refine aq_block_ret ?_
              refine aq_then_ret ?_
              refine aq_then_ret ?_
              refine aq_block_ret ?_
              refine aq_then_ret ?_
              refine aq_then_ret ?_
              refine aq_block_ret ?_
              refine aq_then_ret ?_
              obtain rfl := Option.some.inj h
              exact fn_ret () [] [] rfl rfl rfl rfl (res3 rfl rfl rfl rfl) rfl rfl rfl (by decide)
            · replace h := bif_f hb14 h
              refine aw_seq ?_
              refine aw_region ?_
              refine al_val (ov_int rfl rfl rfl rfl) ?_
              refine al_val (ov_assign rfl rfl) ?_
              refine al_nil ?_
              refine aq_then ?_
              refine aw_cond rfl (fun hb15 => ?_) (fun hb15 => ?_)
              · replace h := bif_t hb15 h
                refine aw_skip ?_
                refine aq_block ?_
                refine aq_then ?_
                refine aw_region ?_
                refine al_val (ov_move rfl rfl) ?_
                obtain ⟨hc17, h⟩ := req_some h
                refine al_buildSlice (τ := tyU8) (e := 5) (k := 1) (sz := 0) (by_ := 0) (z := undef) (cs := [(Value.int .u8 (0 : Int))]) (xs := [(UInt8.ofNat ((0 : Int)).toNat)]) rfl (by decide) (fun w a hm hs => ⟨([(Value.int .u8 (0 : Int))]).toArray, rfl, by simp only [List.map_toArray, List.map_cons, List.map_nil, hs.ev (x := .const (Value.int .u8 (0 : Int))) rfl]; exact run_bs [(Value.int .u8 (0 : Int))] [(Value.int .u8 (0 : Int))] Tryd.underlying70 to5 rfl rfl (bs_cons (l := [(Value.int .u8 (0 : Int))]) (cs := []) (cv_rfl rfl) rfl bs_nil) hm⟩) (fun hm => ⟨_, _, rfl, (fun _ => u8_rep hc17) hm, rfl⟩) rfl (fun v16 => ?_)
                obtain ⟨hc18, h⟩ := req_some h
                refine al_append 1 hc18.1 hc18.2 rfl (src_own (i := 1) 0 rfl) rfl rfl Tryd.underlying70 to5 rfl rfl rfl (fun v19 => ?_)
                refine al_val (ov_assign rfl rfl) ?_
                refine al_nil ?_
                exact aq_join (v19, (l3x5 ++ ([(UInt8.ofNat ((0 : Int)).toNat)])), (IntKind.i64.wrap (l3i6 + (1 : Int)))) h (fun w a hm hs => norm hm hs [1] [] [(0, (str a0)), (5, v19), (6, (Value.int .i64 (IntKind.i64.wrap (l3i6 + (1 : Int)))))] (by decide) ⟨rfl, rfl, rfl, trivial⟩)
              · replace h := bif_f hb15 h
                refine aw_seq ?_
                refine aw_region ?_
                refine al_val (ov_assign rfl rfl) ?_
                refine al_val (ov_assign rfl rfl) ?_
                refine al_val (ov_assign rfl rfl) ?_
                refine al_nil ?_
                refine aq_then ?_
                refine aw_ret ?_
                refine aq_block_ret ?_
                refine aq_then_ret ?_
                refine aq_then_ret ?_
                refine aq_block_ret ?_
                refine aq_then_ret ?_
                refine aq_then_ret ?_
                refine aq_block_ret ?_
                refine aq_then_ret ?_
                obtain rfl := Option.some.inj h
                exact fn_ret () [] [] rfl rfl rfl rfl (res3 rfl rfl rfl rfl) rfl rfl rfl (by decide)
        · replace h := bif_f hb11 h
          refine aw_region ?_
          refine al_val (ov_move rfl rfl) ?_
          refine al_val (ov_move rfl rfl) ?_
          refine al_val (ov_move rfl rfl) ?_
          obtain ⟨hc20, h⟩ := req_some h
          refine al_val (ov_strIdx hc20.1 hc20.2 Tryd.underlying9 rfl rfl rfl) ?_
          obtain ⟨hc22, h⟩ := req_some h
          refine al_buildSlice (τ := tyU8) (e := 5) (k := 1) (sz := 0) (by_ := 0) (z := undef) (cs := [(Value.int .u8 (En.bAt a0 l3i6))]) (xs := [(UInt8.ofNat ((En.bAt a0 l3i6)).toNat)]) rfl (by decide) (fun w a hm hs => ⟨([(Value.int .u8 (En.bAt a0 l3i6))]).toArray, rfl, by simp only [List.map_toArray, List.map_cons, List.map_nil, hs.ev (x := .tmp 40) rfl]; exact run_bs [(Value.int .u8 (En.bAt a0 l3i6))] [(Value.int .u8 (En.bAt a0 l3i6))] Tryd.underlying70 to5 rfl rfl (bs_cons (l := [(Value.int .u8 (En.bAt a0 l3i6))]) (cs := []) (cv_rfl rfl) rfl bs_nil) hm⟩) (fun hm => ⟨_, _, rfl, (fun _ => u8_rep hc22) hm, rfl⟩) rfl (fun v21 => ?_)
          obtain ⟨hc23, h⟩ := req_some h
          refine al_append 1 hc23.1 hc23.2 rfl (src_own (i := 1) 0 rfl) rfl rfl Tryd.underlying70 to5 rfl rfl rfl (fun v24 => ?_)
          refine al_val (ov_assign rfl rfl) ?_
          refine al_nil ?_
          exact aq_join (v24, (l3x5 ++ ([(UInt8.ofNat ((En.bAt a0 l3i6)).toNat)])), l3i6) h (fun w a hm hs => norm hm hs [1] [] [(0, (str a0)), (5, v24), (6, (Value.int .i64 l3i6))] (by decide) ⟨rfl, rfl, rfl, trivial⟩)
    · replace h := bif_f hb6 h
      refine aw_exit ?_
      refine aq_then_exit ?_
      refine aq_then_exit ?_
      refine aq_block_exit ?_
      exact aq_join () h (fun w a hm hs => norm hm hs [] [] [] (by decide) trivial)
def f_lumref_GetText_L3 (a0 : (List UInt8)) : Nat → (List UInt8) → Int → Option ((List UInt8) × Int × Int)
  | 0, _, _ => none
  | k2 + 1, l1s5, l1i6 => (lt (fun (j4b24 : Bool) => (bif j4b24 then (some (([] : List UInt8), (0 : Int), (3 : Int))) else (lt (fun (j7i7 : Int) => (bif ((l1s5.length : Int) == (1024 : Int)) then (some (([] : List UInt8), (0 : Int), (2 : Int))) else (req (0 ≤ l1i6 ∧ l1i6 ≤ (IntKind.i64.wrap (l1i6 + (1 : Int))) ∧ (IntKind.i64.wrap (l1i6 + (1 : Int))) ≤ (a0.length : Int)) (req (l1s5.length + (cut a0 l1i6 (IntKind.i64.wrap (l1i6 + (1 : Int)))).length ≤ 9223372036854775807) (f_lumref_GetText_L3 a0 k2 (l1s5 ++ (cut a0 l1i6 (IntKind.i64.wrap (l1i6 + (1 : Int))))) (IntKind.i64.wrap (l1i6 + j7i7))))))) fun (kk8 : Int → Option ((List UInt8) × Int × Int)) => (req (0 ≤ l1i6 ∧ l1i6 < (a0.length : Int)) (bif ((En.bAt a0 l1i6) == (0 : Int)) then (req (0 ≤ (IntKind.i64.wrap (l1i6 + (1 : Int))) ∧ (IntKind.i64.wrap (l1i6 + (1 : Int))) < (a0.length : Int)) (bif ((En.bAt a0 (IntKind.i64.wrap (l1i6 + (1 : Int)))) == (0 : Int)) then (some (l1s5, (IntKind.i64.wrap (l1i6 + (2 : Int))), (0 : Int))) else (req (0 ≤ (IntKind.i64.wrap (l1i6 + (1 : Int))) ∧ (IntKind.i64.wrap (l1i6 + (1 : Int))) < (a0.length : Int)) (bif ((En.bAt a0 (IntKind.i64.wrap (l1i6 + (1 : Int)))) != (255 : Int)) then (some (([] : List UInt8), (0 : Int), (4 : Int))) else (kk8 (2 : Int)))))) else (kk8 (1 : Int))))))) fun (kk5 : Bool → Option ((List UInt8) × Int × Int)) => (bif (decide (l1i6 ≥ (a0.length : Int))) then (kk5 true) else (req (0 ≤ l1i6 ∧ l1i6 < (a0.length : Int)) (bif ((En.bAt a0 l1i6) == (0 : Int)) then (kk5 (decide ((IntKind.i64.wrap (l1i6 + (1 : Int))) ≥ (a0.length : Int)))) else (kk5 false)))))
def f_lumref_GetText (fu : Nat) (a0 : (List UInt8)) : Option ((List UInt8) × Int × Int) := (f_lumref_GetText_L3 a0 fu ([] : List UInt8) (0 : Int))
set_option maxRecDepth 100000 in
theorem f_lumref_GetText_ok (fu : Nat) (a0 : (List UInt8)) {r : ((List UInt8) × Int × Int)} (h : f_lumref_GetText fu a0 = some r) : FnOk Tryd.prog 27 [(str a0)] [] [] (fun (i : Unit) => { val := (Value.tuple #[(str r.1), (Value.int .i64 r.2.1), (Value.int .i64 r.2.2)]) }) := by
  unfold f_lumref_GetText at h
  refine fn_enter Tryd.func27 rfl Tryd.ntmps27 rfl (fun w0 Z0 => ?_)
  refine aw_seq ?_
  refine aw_region ?_
  refine al_val (ov_assign rfl rfl) ?_
  refine al_val (ov_assign rfl rfl) ?_
  refine al_val (ov_assign rfl rfl) ?_
  refine al_nil ?_
  refine aq_then ?_
  refine aw_seq ?_
  refine aw_region ?_
  refine al_val (ov_assign rfl rfl) ?_
  refine al_val (ov_assign rfl rfl) ?_
  refine al_nil ?_
  refine aq_then ?_
  refine aw_block ?_
  refine aw_state (aw_loop (ι := (List UInt8) × Int) (fun i => (memOf w0 Z0 [] [] [])) (fun i => (tab [(0, (str a0)), (5, (str i.1)), (6, (Value.int .i64 i.2))])) (fun q i => f_lumref_GetText_L3 a0 q i.1 i.2 = some r) ?_ fu (([] : List UInt8), (0 : Int)) h) (fun w a hm hs => norm hm hs [] [] [(0, (str a0)), (5, (str ([] : List UInt8))), (6, (Value.int .i64 (0 : Int)))] (by decide) ⟨rfl, rfl, rfl, trivial⟩)
  clear h
  rintro k2 ⟨l1s5, l1i6⟩ h
  have h : f_lumref_GetText_L3 a0 k2 l1s5 l1i6 = some r := h
  obtain _ | k2 := k2
  · rw [f_lumref_GetText_L3] at h; cases h
  rw [f_lumref_GetText_L3] at h
  refine aw_show (m := (memOf w0 Z0 [] [] [])) (S := (tab [(0, (str a0)), (5, (str l1s5)), (6, (Value.int .i64 l1i6))])) ?_
  refine aw_block ?_
  refine aw_seq ?_
  obtain ⟨kk5, hkk5, h⟩ := lt_some h
  refine aw_seq_join (ι := Bool) (fun i => (memOf w0 Z0 [] [] [])) (fun i => (tab [(0, (str a0)), (5, (str l1s5)), (6, (Value.int .i64 l1i6)), (24, (Value.bool i))])) (fun i => kk5 i = some r) ?_ ?_
  · rintro j4b24 h
    have h : kk5 j4b24 = some r := h
    rw [hkk5] at h
    dsimp only at h
    clear hkk5
    refine aw_show (m := (memOf w0 Z0 [] [] [])) (S := (tab [(0, (str a0)), (5, (str l1s5)), (6, (Value.int .i64 l1i6)), (24, (Value.bool j4b24))])) ?_
    refine aw_cond rfl (fun hb6 => ?_) (fun hb6 => ?_)
    · replace h := bif_t hb6 h
      refine aw_seq ?_
      refine aw_region ?_
      refine al_val (ov_assign rfl rfl) ?_
      refine al_val (ov_assign rfl rfl) ?_
      refine al_val (ov_assign rfl rfl) ?_
      refine al_nil ?_
      refine aq_then ?_
      refine aw_ret ?_
      refine aq_then_ret ?_
      refine aq_block_ret ?_
      refine aq_then_ret ?_
      refine aq_block_ret ?_
      obtain rfl := Option.some.inj h
      exact fn_ret () [] [] rfl rfl rfl rfl (res3 rfl rfl rfl rfl) rfl rfl rfl (by decide)
    · replace h := bif_f hb6 h
      refine aw_skip ?_
      refine aq_then ?_
      refine aw_seq ?_
      refine aw_region ?_
      refine al_val (ov_assign rfl rfl) ?_
      refine al_nil ?_
      refine aq_then ?_
      obtain ⟨kk8, hkk8, h⟩ := lt_some h
      refine aw_seq_join (ι := Int) (fun i => (memOf w0 Z0 [] [] [])) (fun i => (tab [(0, (str a0)), (5, (str l1s5)), (6, (Value.int .i64 l1i6)), (7, (Value.int .i64 i))])) (fun i => kk8 i = some r) ?_ ?_
      · rintro j7i7 h
        have h : kk8 j7i7 = some r := h
        rw [hkk8] at h
        dsimp only at h
        clear hkk8
        refine aw_show (m := (memOf w0 Z0 [] [] [])) (S := (tab [(0, (str a0)), (5, (str l1s5)), (6, (Value.int .i64 l1i6)), (7, (Value.int .i64 j7i7))])) ?_
        refine aw_seq ?_
        refine aw_seq ?_
        refine aw_region ?_
        refine al_val (ov_move rfl rfl) ?_
        refine al_val (ov_strLen Tryd.underlying9 rfl rfl) ?_
        refine al_val (ov_int rfl rfl rfl rfl) ?_
        refine al_nil ?_
        refine aq_then ?_
        refine aw_cond rfl (fun hb9 => ?_) (fun hb9 => ?_)
        · replace h := bif_t hb9 h
          refine aw_seq ?_
          refine aw_region ?_
          refine al_val (ov_assign rfl rfl) ?_
          refine al_val (ov_assign rfl rfl) ?_
          refine al_val (ov_assign rfl rfl) ?_
          refine al_nil ?_
          refine aq_then ?_
          refine aw_ret ?_
          refine aq_then_ret ?_
          refine aq_block_ret ?_
          refine aq_then_ret ?_
          refine aq_block_ret ?_
          obtain rfl := Option.some.inj h
          exact fn_ret () [] [] rfl rfl rfl rfl (res3 rfl rfl rfl rfl) rfl rfl rfl (by decide)
        · replace h := bif_f hb9 h
          refine aw_skip ?_
          refine aq_then ?_
          refine aw_seq ?_
          refine aw_region ?_
          refine al_val (ov_move rfl rfl) ?_
          refine al_val (ov_move rfl rfl) ?_
          refine al_val (ov_move rfl rfl) ?_
          refine al_val (ov_move rfl rfl) ?_
          refine al_val (ov_int rfl rfl rfl rfl) ?_
          obtain ⟨hc10, h⟩ := req_some h
          refine al_val (ov_strCut hc10.1 hc10.2.1 hc10.2.2 Tryd.underlying9 rfl rfl rfl rfl) ?_
          obtain ⟨hc11, h⟩ := req_some h
          refine al_val (ov_strAdd hc11 rfl rfl rfl) ?_
          refine al_val (ov_assign rfl rfl) ?_
          refine al_nil ?_
          refine aq_then ?_
          refine aw_region ?_
          refine al_val (ov_move rfl rfl) ?_
          refine al_val (ov_move rfl rfl) ?_
          refine al_val (ov_int rfl rfl rfl rfl) ?_
          refine al_val (ov_assign rfl rfl) ?_
          refine al_nil ?_
          refine aq_block ?_
          exact aq_again k2 ((l1s5 ++ (cut a0 l1i6 (IntKind.i64.wrap (l1i6 + (1 : Int))))), (IntKind.i64.wrap (l1i6 + j7i7))) (Nat.lt_succ_self _) h (fun w a hm hs => norm hm hs [] [] [(0, (str a0)), (5, (str (l1s5 ++ (cut a0 l1i6 (IntKind.i64.wrap (l1i6 + (1 : Int))))))), (6, (Value.int .i64 (IntKind.i64.wrap (l1i6 + j7i7))))] (by decide) ⟨rfl, rfl, rfl, trivial⟩)
      · clear hkk8
        refine aw_seq ?_
        refine aw_region ?_
        refine al_val (ov_move rfl rfl) ?_
        refine al_val (ov_move rfl rfl) ?_
        obtain ⟨hc12, h⟩ := req_some h
        refine al_val (ov_strIdx hc12.1 hc12.2 Tryd.underlying9 rfl rfl rfl) ?_
        refine al_val (ov_int rfl rfl rfl rfl) ?_
        refine al_nil ?_
        refine aq_then ?_
        refine aw_cond rfl (fun hb13 => ?_) (fun hb13 => ?_)
        · replace h := bif_t hb13 h
          refine aw_seq ?_
          refine aw_seq ?_
          refine aw_region ?_
          refine al_val (ov_move rfl rfl) ?_
          refine al_val (ov_move rfl rfl) ?_
          refine al_val (ov_int rfl rfl rfl rfl) ?_
          obtain ⟨hc14, h⟩ := req_some h
          refine al_val (ov_strIdx hc14.1 hc14.2 Tryd.underlying9 rfl rfl rfl) ?_
          refine al_val (ov_int rfl rfl rfl rfl) ?_
          refine al_nil ?_
          refine aq_then ?_
          refine aw_cond rfl (fun hb15 => ?_) (fun hb15 => ?_)
          · replace h := bif_t hb15 h
            refine aw_seq ?_
            refine aw_region ?_
            refine al_val (ov_move rfl rfl) ?_
            refine al_val (ov_move rfl rfl) ?_
            refine al_val (ov_int rfl rfl rfl rfl) ?_
            refine al_val (ov_assign rfl rfl) ?_
            refine al_val (ov_assign rfl rfl) ?_
            refine al_val (ov_assign rfl rfl) ?_
            refine al_nil ?_
            refine aq_then ?_
            refine aw_ret ?_
            refine aq_then_ret ?_
            refine aq_then_ret ?_
            refine aq_block_ret ?_
            refine aq_then_ret ?_
            refine aq_block_ret ?_
            obtain rfl := Option.some.inj h
            exact fn_ret () [] [] rfl rfl rfl rfl (res3 rfl rfl rfl rfl) rfl rfl rfl (by decide)
          · replace h := bif_f hb15 h
            refine aw_skip ?_
            refine aq_then ?_
            refine aw_seq ?_
            refine aw_seq ?_
            refine aw_region ?_
            refine al_val (ov_move rfl rfl) ?_
            refine al_val (ov_move rfl rfl) ?_
            refine al_val (ov_int rfl rfl rfl rfl) ?_
            obtain ⟨hc16, h⟩ := req_some h
            refine al_val (ov_strIdx hc16.1 hc16.2 Tryd.underlying9 rfl rfl rfl) ?_
            refine al_val (ov_int rfl rfl rfl rfl) ?_
            refine al_nil ?_
            refine aq_then ?_
            refine aw_cond rfl (fun hb17 => ?_) (fun hb17 => ?_)
            · replace h := bif_t hb17 h
              refine aw_seq ?_
              refine aw_region ?_
              refine al_val (ov_assign rfl rfl) ?_
              refine al_val (ov_assign rfl rfl) ?_
              refine al_val (ov_assign rfl rfl) ?_
              refine al_nil ?_
              refine aq_then ?_
              refine aw_ret ?_
              refine aq_then_ret ?_
              refine aq_then_ret ?_
              refine aq_block_ret ?_
              refine aq_then_ret ?_
              refine aq_block_ret ?_
              obtain rfl := Option.some.inj h
              exact fn_ret () [] [] rfl rfl rfl rfl (res3 rfl rfl rfl rfl) rfl rfl rfl (by decide)
            · replace h := bif_f hb17 h
              refine aw_skip ?_
              refine aq_then ?_
              refine aw_region ?_
              refine al_val (ov_assign rfl rfl) ?_
              refine al_nil ?_
              exact aq_join (2 : Int) h (fun w a hm hs => norm hm hs [] [] [(0, (str a0)), (5, (str l1s5)), (6, (Value.int .i64 l1i6)), (7, (Value.int .i64 (2 : Int)))] (by decide) ⟨rfl, rfl, rfl, rfl, trivial⟩)
        · replace h := bif_f hb13 h
          refine aw_skip ?_
          exact aq_join (1 : Int) h (fun w a hm hs => norm hm hs [] [] [(0, (str a0)), (5, (str l1s5)), (6, (Value.int .i64 l1i6)), (7, (Value.int .i64 (1 : Int)))] (by decide) ⟨rfl, rfl, rfl, rfl, trivial⟩)
  · clear hkk5
    refine aw_region ?_
    refine al_val (ov_move rfl rfl) ?_
    refine al_val (ov_move rfl rfl) ?_
    refine al_val (ov_strLen Tryd.underlying9 rfl rfl) ?_
    refine al_val (ov_int rfl rfl rfl rfl) ?_
    refine al_val (ov_move rfl rfl) ?_
    refine al_caseB 12 rfl (fun hb18 => ?_) (fun hb18 => ?_)
    · replace h := bif_t hb18 h
      refine al_skip ?_
      refine al_skip ?_
      refine al_skip ?_
      refine al_skip ?_
      refine al_skip ?_
      refine al_skip ?_
      refine al_skip ?_
      refine al_skip ?_
      refine al_skip ?_
      refine al_skip ?_
      refine al_skip ?_
      refine al_val (ov_pick_t rfl rfl rfl) ?_
      refine al_nil ?_
      exact aq_join true h (fun w a hm hs => norm hm hs [] [] [(0, (str a0)), (5, (str l1s5)), (6, (Value.int .i64 l1i6)), (24, (Value.bool true))] (by decide) ⟨rfl, rfl, rfl, rfl, trivial⟩)
    · replace h := bif_f hb18 h
      refine al_val (ov_move rfl rfl) ?_
      refine al_val (ov_move rfl rfl) ?_
      obtain ⟨hc19, h⟩ := req_some h
      refine al_val (ov_strIdx hc19.1 hc19.2 Tryd.underlying9 rfl rfl rfl) ?_
      refine al_val (ov_int rfl rfl rfl rfl) ?_
      refine al_val (ov_move rfl rfl) ?_
      refine al_caseB 17 rfl (fun hb20 => ?_) (fun hb20 => ?_)
      · replace h := bif_t hb20 h
        refine al_val (ov_move rfl rfl) ?_
        refine al_val (ov_int rfl rfl rfl rfl) ?_
        refine al_val (ov_move rfl rfl) ?_
        refine al_val (ov_strLen Tryd.underlying9 rfl rfl) ?_
        refine al_val (ov_int rfl rfl rfl rfl) ?_
        refine al_val (ov_pick_t rfl rfl rfl) ?_
        refine al_val (ov_pick_f rfl rfl rfl) ?_
        refine al_nil ?_
        exact aq_join (decide ((IntKind.i64.wrap (l1i6 + (1 : Int))) ≥ (a0.length : Int))) h (fun w a hm hs => norm hm hs [] [] [(0, (str a0)), (5, (str l1s5)), (6, (Value.int .i64 l1i6)), (24, (Value.bool (decide ((IntKind.i64.wrap (l1i6 + (1 : Int))) ≥ (a0.length : Int)))))] (by decide) ⟨rfl, rfl, rfl, rfl, trivial⟩)
      · replace h := bif_f hb20 h
        refine al_skip ?_
        refine al_skip ?_
        refine al_skip ?_
        refine al_skip ?_
        refine al_skip ?_
        refine al_val (ov_pick_f rfl rfl rfl) ?_
        refine al_val (ov_pick_f rfl rfl rfl) ?_
        refine al_nil ?_
        exact aq_join false h (fun w a hm hs => norm hm hs [] [] [(0, (str a0)), (5, (str l1s5)), (6, (Value.int .i64 l1i6)), (24, (Value.bool false))] (by decide) ⟨rfl, rfl, rfl, rfl, trivial⟩)
def f_lumlaw_NumTexts (fu : Nat) (a0 : (List UInt8)) (a1 : (List UInt8)) : Option Bool := (opt (f_num_PutText fu a0) fun (r2 : ((List UInt8) × Int)) => (opt (f_lumref_PutText fu a0) fun (r4 : ((List UInt8) × Int)) => (opt (f_num_GetText fu a1) fun (r6 : ((List UInt8) × Int × Int)) => (opt (f_lumref_GetText fu a1) fun (r8 : ((List UInt8) × Int × Int)) => (lt (fun (j9b4 : Bool) => (some j9b4)) fun (kk10 : Bool → Option Bool) => (bif (r2.1 == r4.1) then (bif (r2.2 == r4.2) then (bif (r6.1 == r8.1) then (bif (r6.2.1 == r8.2.1) then (kk10 (r6.2.2 == r8.2.2)) else (kk10 false)) else (kk10 false)) else (kk10 false)) else (kk10 false)))))))
set_option maxRecDepth 100000 in
theorem f_lumlaw_NumTexts_ok (fu : Nat) (a0 : (List UInt8)) (a1 : (List UInt8)) {r : Bool} (h : f_lumlaw_NumTexts fu a0 a1 = some r) : FnOk Tryd.prog 6 [(str a0), (str a1)] [uMax] [] (fun (i : Unit) => { val := (Value.bool r) }) := by
  unfold f_lumlaw_NumTexts at h
  refine fn_enter Tryd.func6 rfl Tryd.ntmps6 rfl (fun w0 Z0 => ?_)
  refine aw_seq ?_
  refine aw_region ?_
  refine al_val (ov_assign rfl rfl) ?_
  refine al_nil ?_
  refine aq_then ?_
  refine aw_seq ?_
  refine aw_region ?_
  refine al_val (ov_move rfl rfl) ?_
  obtain ⟨r2, hc1, h⟩ := opt_some h
  refine al_call (vs := [(str a0)]) (f_num_PutText_ok fu a0 hc1) [] [] [] (pre_fz 0 rfl pre_nil) rfl (by simp) (by decide) (.inl rfl) rfl Tryd.func24 rfl rfl rfl (fun _ => ?_)
  refine al_val (ov_move rfl rfl) ?_
  refine al_val (ov_extract rfl rfl rfl) ?_
  refine al_val (ov_extract rfl rfl rfl) ?_
  refine al_val (ov_assign rfl rfl) ?_
  refine al_val (ov_assign rfl rfl) ?_
  refine al_nil ?_
  refine aq_then ?_
  refine aw_seq ?_
  refine aw_region ?_
  refine al_val (ov_move rfl rfl) ?_
  obtain ⟨r4, hc3, h⟩ := opt_some h
  refine al_call (vs := [(str a0)]) (f_lumref_PutText_ok fu a0 hc3) [] [] [] (pre_fz 0 rfl pre_nil) rfl (by simp) (by decide) (.inl rfl) rfl Tryd.func25 rfl rfl rfl (fun _ => ?_)
  refine al_val (ov_move rfl rfl) ?_
  refine al_val (ov_extract rfl rfl rfl) ?_
  refine al_val (ov_extract rfl rfl rfl) ?_
  refine al_val (ov_assign rfl rfl) ?_
  refine al_val (ov_assign rfl rfl) ?_
  refine al_nil ?_
  refine aq_then ?_
  refine aw_seq ?_
  refine aw_region ?_
  refine al_val (ov_move rfl rfl) ?_
  obtain ⟨r6, hc5, h⟩ := opt_some h
  refine al_call (vs := [(str a1)]) (f_num_GetText_ok fu a1 hc5) [] [] [] pre_nil rfl (by simp) (by decide) (.inl rfl) rfl Tryd.func26 rfl rfl rfl (fun _ => ?_)
  refine al_val (ov_move rfl rfl) ?_
  refine al_val (ov_extract rfl rfl rfl) ?_
  refine al_val (ov_extract rfl rfl rfl) ?_
  refine al_val (ov_extract rfl rfl rfl) ?_
  refine al_val (ov_assign rfl rfl) ?_
  refine al_val (ov_assign rfl rfl) ?_
  refine al_val (ov_assign rfl rfl) ?_
  refine al_nil ?_
  refine aq_then ?_
  refine aw_seq ?_
  refine aw_region ?_
  refine al_val (ov_move rfl rfl) ?_
  obtain ⟨r8, hc7, h⟩ := opt_some h
  refine al_call (vs := [(str a1)]) (f_lumref_GetText_ok fu a1 hc7) [] [] [] pre_nil rfl (by simp) (by decide) (.inl rfl) rfl Tryd.func27 rfl rfl rfl (fun _ => ?_)
  refine al_val (ov_move rfl rfl) ?_
  refine al_val (ov_extract rfl rfl rfl) ?_
  refine al_val (ov_extract rfl rfl rfl) ?_
  refine al_val (ov_extract rfl rfl rfl) ?_
  refine al_val (ov_assign rfl rfl) ?_
  refine al_val (ov_assign rfl rfl) ?_
  refine al_val (ov_assign rfl rfl) ?_
  refine al_nil ?_
  refine aq_then ?_
  obtain ⟨kk10, hkk10, h⟩ := lt_some h
  refine aw_seq_join (ι := Bool) (fun i => (memOf w0 Z0 [] [] [uMax])) (fun i => (tab [(4, (Value.bool i))])) (fun i => kk10 i = some r) ?_ ?_
  · rintro j9b4 h
    have h : kk10 j9b4 = some r := h
    rw [hkk10] at h
    dsimp only at h
    clear hkk10
    refine aw_show (m := (memOf w0 Z0 [] [] [uMax])) (S := (tab [(4, (Value.bool j9b4))])) ?_
    refine aw_ret ?_
    obtain rfl := Option.some.inj h
    exact fn_ret () [] [] rfl rfl rfl rfl (res1 rfl rfl) rfl rfl rfl (by decide)
  · clear hkk10
    refine aw_region ?_
    refine al_val (ov_move rfl rfl) ?_
    refine al_val (ov_move rfl rfl) ?_
    refine al_val (ov_strCmp rfl rfl rfl rfl) ?_
    refine al_val (ov_move rfl rfl) ?_
    refine al_caseB 40 rfl (fun hb11 => ?_) (fun hb11 => ?_)
    · replace h := bif_t hb11 h
      refine al_val (ov_move rfl rfl) ?_
      refine al_val (ov_move rfl rfl) ?_
      refine al_val (ov_int rfl rfl rfl rfl) ?_
      refine al_val (ov_pick_t rfl rfl rfl) ?_
      refine al_val (ov_move rfl rfl) ?_
      refine al_caseB 45 rfl (fun hb12 => ?_) (fun hb12 => ?_)
      · replace h := bif_t hb12 h
        refine al_val (ov_move rfl rfl) ?_
        refine al_val (ov_move rfl rfl) ?_
        refine al_val (ov_strCmp rfl rfl rfl rfl) ?_
        refine al_val (ov_pick_t rfl rfl rfl) ?_
        refine al_val (ov_move rfl rfl) ?_
        refine al_caseB 50 rfl (fun hb13 => ?_) (fun hb13 => ?_)
        · replace h := bif_t hb13 h
          refine al_val (ov_move rfl rfl) ?_
          refine al_val (ov_move rfl rfl) ?_
          refine al_val (ov_int rfl rfl rfl rfl) ?_
          refine al_val (ov_pick_t rfl rfl rfl) ?_
          refine al_val (ov_move rfl rfl) ?_
          refine al_caseB 55 rfl (fun hb14 => ?_) (fun hb14 => ?_)
          · replace h := bif_t hb14 h
            refine al_val (ov_move rfl rfl) ?_
            refine al_val (ov_move rfl rfl) ?_
            refine al_val (ov_int rfl rfl rfl rfl) ?_
            refine al_val (ov_pick_t rfl rfl rfl) ?_
            refine al_val (ov_assign rfl rfl) ?_
            refine al_nil ?_
            exact aq_join (r6.2.2 == r8.2.2) h (fun w a hm hs => norm hm hs [] [0] [(4, (Value.bool (r6.2.2 == r8.2.2)))] (by decide) ⟨rfl, trivial⟩)
          · replace h := bif_f hb14 h
            refine al_skip ?_
            refine al_skip ?_
            refine al_skip ?_
            refine al_val (ov_pick_f rfl rfl rfl) ?_
            refine al_val (ov_assign rfl rfl) ?_
            refine al_nil ?_
            exact aq_join false h (fun w a hm hs => norm hm hs [] [0] [(4, (Value.bool false))] (by decide) ⟨rfl, trivial⟩)
        · replace h := bif_f hb13 h
          refine al_skip ?_
          refine al_skip ?_
          refine al_skip ?_
          refine al_val (ov_pick_f rfl rfl rfl) ?_
          refine al_val (ov_move rfl rfl) ?_
          refine al_skip ?_
          refine al_skip ?_
          refine al_skip ?_
          refine al_val (ov_pick_f rfl rfl rfl) ?_
          refine al_val (ov_assign rfl rfl) ?_
          refine al_nil ?_
          exact aq_join false h (fun w a hm hs => norm hm hs [] [0] [(4, (Value.bool false))] (by decide) ⟨rfl, trivial⟩)
      · replace h := bif_f hb12 h
        refine al_skip ?_
        refine al_skip ?_
        refine al_skip ?_
        refine al_val (ov_pick_f rfl rfl rfl) ?_
        refine al_val (ov_move rfl rfl) ?_
        refine al_skip ?_
        refine al_skip ?_
        refine al_skip ?_
        refine al_val (ov_pick_f rfl rfl rfl) ?_
        refine al_val (ov_move rfl rfl) ?_
        refine al_skip ?_
        refine al_skip ?_
        refine al_skip ?_
        refine al_val (ov_pick_f rfl rfl rfl) ?_
        refine al_val (ov_assign rfl rfl) ?_
        refine al_nil ?_
        exact aq_join false h (fun w a hm hs => norm hm hs [] [0] [(4, (Value.bool false))] (by decide) ⟨rfl, trivial⟩)
    · replace h := bif_f hb11 h
      refine al_skip ?_
      refine al_skip ?_
      refine al_skip ?_
      refine al_val (ov_pick_f rfl rfl rfl) ?_
      refine al_val (ov_move rfl rfl) ?_
      refine al_skip ?_
      refine al_skip ?_
      refine al_skip ?_
      refine al_val (ov_pick_f rfl rfl rfl) ?_
      refine al_val (ov_move rfl rfl) ?_
      refine al_skip ?_
      refine al_skip ?_
      refine al_skip ?_
      refine al_val (ov_pick_f rfl rfl rfl) ?_
      refine al_val (ov_move rfl rfl) ?_
      refine al_skip ?_
      refine al_skip ?_
      refine al_skip ?_
      refine al_val (ov_pick_f rfl rfl rfl) ?_
      refine al_val (ov_assign rfl rfl) ?_
      refine al_nil ?_
      exact aq_join false h (fun w a hm hs => norm hm hs [] [0] [(4, (Value.bool false))] (by decide) ⟨rfl, trivial⟩)
end Go.Proofs.YtaoopodaalhheaaDoor
